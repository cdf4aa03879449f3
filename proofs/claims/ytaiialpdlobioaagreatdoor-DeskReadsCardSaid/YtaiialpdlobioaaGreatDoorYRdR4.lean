/-
  What is proved: deskReads: the card. Conditions: none.
-/
import Derived.Test.YtaiialpdlobioaaGreatDoorYRdR2
import Derived.Test.YtaiialpdlobioaaGreatDoorYRdR3
namespace Go.Proofs.YtaiialpdlobioaaGreatDoor
open Go.Sy Go.RowKit Go.ChangeShapes Go.WideShapes

theorem card_wf : Rows.deskReadsRow.wfByText (OpenSpec.ofChange Rows.deskReadsSpec) = true := by kernel_rfl
theorem card_main : Tryz.pinned.checked.prog.mainIs = some (Rows.deskReadsCard.stood.harness.1, Rows.deskReadsCard.stood.harness.2.toList) := by kernel_rfl
theorem card_looks : true = Tryz.pinned.checked.prog.looks [] := by kernel_rfl
set_option maxRecDepth 100000 in
theorem deskReads_card : Rows.DeskReadsCardSaid :=
  Claim7.holds_tied_plain_at .later [] [.data, .data, .data, .data, .sentinel, .sentinel, .data, .pinned] true Rows.deskReadsCard.stood.harness true
    deskReads_holds (fun _ h => by cases h) card_wf (fun _ h => by cases h) deskReads_row_tie rfl ⟨rfl, rfl⟩ card_main rfl
    (fun f fn hf hfn => by
      obtain rfl : f = 6 := (Option.some.inj ((show Tryz.prog.funcNamed Rows.deskReadsRow.func = some 6 by kernel_rfl).symm.trans hf)).symm
      obtain rfl : fn = Tryz.f6 := (Option.some.inj (Tryz.func6.symm.trans hfn)).symm
      refine ⟨card_looks, fun j t ht => ?_⟩
      have hpar : Tryz.f6.params = #[9, 26] := by kernel_rfl
      rw [hpar] at ht
      have hm : t ∈ [9, 26] := by
        rw [show (#[9, 26] : Array TypeId)[j]? = ([9, 26] : List TypeId)[j]? from by simp] at ht
        exact List.mem_of_getElem? ht
      simp only [List.mem_cons, List.not_mem_nil, or_false] at hm
      rcases hm with rfl | rfl
      · exact (show Tryz.prog.wantsStandIn 9 = false by kernel_rfl)
      · exact (show Tryz.prog.wantsStandIn 26 = false by kernel_rfl))
    card_goes
end Go.Proofs.YtaiialpdlobioaaGreatDoor
