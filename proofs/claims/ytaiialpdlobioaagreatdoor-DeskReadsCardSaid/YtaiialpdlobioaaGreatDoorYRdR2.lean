/-
  What is proved: deskReads: the row. Conditions: none.
-/
import Derived.Test.YtaiialpdlobioaaGreatDoorYRdR1
import Derived.Test.YtaiialpdlobioaaGreatDoorYRdRf
namespace Go.Proofs.YtaiialpdlobioaaGreatDoor
open Go.Sy Go.RowKit Go.ChangeShapes Go.WideShapes

theorem deskReads_holds : Rows.DeskReadsSaid :=
  OpenClaim.holds_of_wide 6 Tryz.f6 rfl rfl rfl rfl rfl rfl rfl ⟨rfl, rfl, rfl, rfl, rfl⟩ rfl rfl rfl rfl rfl (by kernel_rfl) Tryz.func6 facts_all
    (of_decide_eq_true (by kernel_rfl)) (by unfold Func.isWrapper; rw [if_neg (by decide +kernel)]; exact ⟨rfl, rfl⟩)
    (fun os started H enc _ => deskReads_lifted os started H enc)
end Go.Proofs.YtaiialpdlobioaaGreatDoor
