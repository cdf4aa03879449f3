/-
  What is proved: deskNone: the row. Conditions: none.
-/
import Derived.Test.YtaiialpdlobioaaGreatDoorYQN1
import Derived.Test.YtaiialpdlobioaaGreatDoorYQNf
namespace Go.Proofs.YtaiialpdlobioaaGreatDoor
open Go.Sy Go.RowKit Go.ChangeShapes Go.WideShapes

theorem deskNone_holds : Rows.DeskNoneSaid :=
  OpenClaim.holds_of_wide 5 Tryz.f5 rfl rfl rfl rfl rfl rfl rfl ⟨rfl, rfl, rfl, rfl, rfl⟩ rfl rfl rfl rfl rfl (by kernel_rfl) Tryz.func5 facts_all
    (of_decide_eq_true (by kernel_rfl)) (by unfold Func.isWrapper; rw [if_neg (by decide +kernel)]; exact ⟨rfl, rfl⟩)
    (fun os started H enc _ => deskNone_lifted os started H enc)
end Go.Proofs.YtaiialpdlobioaaGreatDoor
