/-
  What is proved: fairNone: the card. Conditions: none.
-/
import Derived.Test.YtaiialpdlobioaaGreatDoorYFN2
import Derived.Test.YtaiialpdlobioaaGreatDoorYFN3
namespace Go.Proofs.YtaiialpdlobioaaGreatDoor
open Go.Sy Go.RowKit Go.ChangeShapes Go.WideShapes

theorem cardF_wf : Rows.fairNoneRow.wfByText (OpenSpec.ofChange Rows.fairNoneSpec) = true := by kernel_rfl
theorem cardF_main : Tryz.pinned.checked.prog.mainIs = some (Rows.fairNoneCard.stood.harness.1, Rows.fairNoneCard.stood.harness.2.toList) := by kernel_rfl
theorem cardF_looks : true = Tryz.pinned.checked.prog.looks [] := by kernel_rfl
set_option maxRecDepth 100000 in
theorem fairNone_card : Rows.FairNoneCardSaid :=
  Claim7.holds_tied_plain_at .later [] [.data, .data, .data, .data] true Rows.fairNoneCard.stood.harness true
    fairNone_holds (fun _ h => by cases h) cardF_wf (fun _ h => by cases h) fairNone_row_tie rfl ⟨rfl, rfl⟩ cardF_main rfl
    (fun f fn hf hfn => by
      obtain rfl : f = 4 := (Option.some.inj ((show Tryz.prog.funcNamed Rows.fairNoneRow.func = some 4 by kernel_rfl).symm.trans hf)).symm
      obtain rfl : fn = Tryz.f4 := (Option.some.inj (Tryz.func4.symm.trans hfn)).symm
      refine ⟨cardF_looks, fun j t ht => ?_⟩
      have hpar : Tryz.f4.params = #[5, 3, 3] := by kernel_rfl
      rw [hpar] at ht
      have hm : t ∈ [5, 3, 3] := by
        rw [show (#[5, 3, 3] : Array TypeId)[j]? = ([5, 3, 3] : List TypeId)[j]? from by simp] at ht
        exact List.mem_of_getElem? ht
      simp only [List.mem_cons, List.not_mem_nil, or_false] at hm
      rcases hm with rfl | rfl | rfl
      · exact (show Tryz.prog.wantsStandIn 5 = false by kernel_rfl)
      · exact (show Tryz.prog.wantsStandIn 3 = false by kernel_rfl)
      · exact (show Tryz.prog.wantsStandIn 3 = false by kernel_rfl))
    cardF_goes
end Go.Proofs.YtaiialpdlobioaaGreatDoor
