/-
  What is proved: fairNone: the row. Conditions: none.
-/
import Derived.Test.YtaiialpdlobioaaGreatDoorYFN1
namespace Go.Proofs.YtaiialpdlobioaaGreatDoor
open Go.Sy Go.RowKit Go.ChangeShapes Go.WideShapes

theorem factF_inPlace : (Rows.fairNoneRow.inPlace == Tryz.prog.inPlace 4) = true := by kernel_rfl
theorem factF_unfollowed : (Rows.fairNoneRow.unfollowed == Tryz.prog.unfollowed 4) = true := by kernel_rfl
theorem factF_recurses : (Rows.fairNoneRow.recurses == Tryz.prog.recurses 4) = true := by kernel_rfl
theorem factF_named : (Rows.fairNoneRow.named == Tryz.prog.varsNamed 4) = true := by kernel_rfl
theorem factsF_all : joinedFacts Tryz.prog 4 Tryz.f4 Rows.fairNoneSpec Rows.fairNoneRow = true := by
  unfold joinedFacts
  rw [factF_inPlace, factF_unfollowed, factF_recurses, factF_named]
  kernel_rfl
theorem fairNone_holds : Rows.FairNoneSaid :=
  OpenClaim.holds_of_wide 4 Tryz.f4 rfl rfl rfl rfl rfl rfl rfl ⟨rfl, rfl, rfl, rfl, rfl⟩ rfl rfl rfl rfl rfl (by kernel_rfl) Tryz.func4 factsF_all
    (of_decide_eq_true (by kernel_rfl)) (by unfold Func.isWrapper; rw [if_neg (by decide +kernel)]; exact ⟨rfl, rfl⟩)
    (fun os started H enc _ => fairNone_lifted os started H enc)
end Go.Proofs.YtaiialpdlobioaaGreatDoor
