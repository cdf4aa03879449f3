/-
  What is proved: worldsNone: the row. Conditions: none.
-/
import Derived.Test.YtaiialpdlobioaaGreatDoorYWN1
namespace Go.Proofs.YtaiialpdlobioaaGreatDoor
open Go.Sy Go.RowKit Go.ChangeShapes Go.WideShapes

theorem fact_inPlace : (Rows.worldsNoneRow.inPlace == Tryz.prog.inPlace 3) = true := by kernel_rfl
theorem fact_unfollowed : (Rows.worldsNoneRow.unfollowed == Tryz.prog.unfollowed 3) = true := by kernel_rfl
theorem fact_recurses : (Rows.worldsNoneRow.recurses == Tryz.prog.recurses 3) = true := by kernel_rfl
theorem fact_named : (Rows.worldsNoneRow.named == Tryz.prog.varsNamed 3) = true := by kernel_rfl
theorem facts_all : joinedFacts Tryz.prog 3 Tryz.f3 Rows.worldsNoneSpec Rows.worldsNoneRow = true := by
  unfold joinedFacts
  rw [fact_inPlace, fact_unfollowed, fact_recurses, fact_named]
  kernel_rfl
theorem worldsNone_holds : Rows.WorldsNoneSaid :=
  OpenClaim.holds_of_wide 3 Tryz.f3 rfl rfl rfl rfl rfl rfl rfl ⟨rfl, rfl, rfl, rfl, rfl⟩ rfl rfl rfl rfl rfl (by kernel_rfl) Tryz.func3 facts_all
    (of_decide_eq_true (by kernel_rfl)) (by unfold Func.isWrapper; rw [if_neg (by decide +kernel)]; exact ⟨rfl, rfl⟩)
    (fun os started H enc _ => worldsNone_lifted os started H enc)
end Go.Proofs.YtaiialpdlobioaaGreatDoor
