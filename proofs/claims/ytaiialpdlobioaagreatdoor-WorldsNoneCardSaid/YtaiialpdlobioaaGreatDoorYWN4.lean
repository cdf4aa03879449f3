/-
  What is proved: worldsNone: the card. Conditions: none.
-/
import Derived.Test.YtaiialpdlobioaaGreatDoorYWN2
import Derived.Test.YtaiialpdlobioaaGreatDoorYWN3
namespace Go.Proofs.YtaiialpdlobioaaGreatDoor
open Go.Sy Go.RowKit Go.ChangeShapes Go.WideShapes

theorem card_wf : Rows.worldsNoneRow.wfByText (OpenSpec.ofChange Rows.worldsNoneSpec) = true := by kernel_rfl
theorem card_main : Tryz.pinned.checked.prog.mainIs = some (Rows.worldsNoneCard.stood.harness.1, Rows.worldsNoneCard.stood.harness.2.toList) := by kernel_rfl
theorem card_looks : true = Tryz.pinned.checked.prog.looks [] := by kernel_rfl
set_option maxRecDepth 100000 in
theorem worldsNone_card : Rows.WorldsNoneCardSaid :=
  Claim7.holds_tied_plain_at .later [] [.data, .data, .data, .data] true Rows.worldsNoneCard.stood.harness true
    worldsNone_holds (fun _ h => by cases h) card_wf (fun _ h => by cases h) worldsNone_row_tie rfl ⟨rfl, rfl⟩ card_main rfl
    (fun f fn hf hfn => by
      obtain rfl : f = 3 := (Option.some.inj ((show Tryz.prog.funcNamed Rows.worldsNoneRow.func = some 3 by kernel_rfl).symm.trans hf)).symm
      obtain rfl : fn = Tryz.f3 := (Option.some.inj (Tryz.func3.symm.trans hfn)).symm
      refine ⟨card_looks, fun j t ht => ?_⟩
      have hpar : Tryz.f3.params = #[26, 3] := by kernel_rfl
      rw [hpar] at ht
      have hm : t ∈ [26, 3] := by
        rw [show (#[26, 3] : Array TypeId)[j]? = ([26, 3] : List TypeId)[j]? from by simp] at ht
        exact List.mem_of_getElem? ht
      simp only [List.mem_cons, List.not_mem_nil, or_false] at hm
      rcases hm with rfl | rfl
      · exact (show Tryz.prog.wantsStandIn 26 = false by kernel_rfl)
      · exact (show Tryz.prog.wantsStandIn 3 = false by kernel_rfl))
    card_goes
end Go.Proofs.YtaiialpdlobioaaGreatDoor
