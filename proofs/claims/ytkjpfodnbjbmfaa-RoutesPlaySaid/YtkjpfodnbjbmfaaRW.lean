/-
  What is proved: RoutesPlay: its row. Conditions: none.
-/
import Derived.Test.YtkjpfodnbjbmfaaRV
import Derived.Test.YtkjpfodnbjbmfaaRP
namespace Go.Proofs.Ytkjpfodnbjbmfaa
open Go.Sy Go.RowKit Go.ChangeShapes Go.WideShapes

theorem routesPlay_lifted (os : Os) (started : os.Started) (H : Type) (enc : TypeId × Value → H) :
    ReturnsInHanded {} Try.checked os 5 .any (Rows.routesPlaySpec.pre6 enc Try.prog Try.f5 Rows.routesPlayRow.domain Rows.routesPlayRow.apart) (Rows.routesPlaySpec.post enc Try.prog Try.f5 Rows.routesPlayRow.apart Rows.routesPlayRow.fresh Rows.routesPlayRow.handsOn Rows.routesPlayRow.again) := by
  refine returnsInHanded_of_change (C := Try.checked) Try.own started (by kernel_rfl) Try.func5 (ChangeSpec.witness6 (enc := enc) (C := Try.checked) false ⟨#[], #[.slice none 0 0], []⟩ 8 (by kernel_rfl) (by kernel_rfl) (by kernel_rfl) (by kernel_rfl)) ?_
  intro W base args ds gs before hval hW hcnd _
  obtain ⟨p, q, hA, hV, _, _, _⟩ := id hW
  obtain ⟨rfl, _⟩ := trodVars_none hV
  have hpar : Try.f5.params = #[35] := by kernel_rfl
  rw [hpar] at hA hval
  obtain ⟨v0, d0, rfl, rfl, fuel0, hf0⟩ := trodAll_one hA
  obtain ⟨A, n, c, rfl⟩ := okWide_slice (P := Try.prog) (t := 35) (e := 41) (by kernel_rfl) (hval 0 _ _ rfl rfl)
  obtain ⟨A', n', c', l, hl, hln, _, _, hr, hg⟩ := list_of_sees (F := 0 + 1 + 1) (t := 35) (el := 41) (enc := encR) (G := fun x => 0 ≤ x.k ∧ x.k < 256) rfl rfl (by decide) encR_len (fun _ => rfl) (fun vs hl h => actR_dec hl h) (sees_of_trod Try.tbs_ok.tab 3 fuel0 _ _ _ hf0)
  cases hl
  refine (routesPlay A l n c hln.symm hg W Hp.emp (hp W) (Hp.emp_le _) (Hp.le_refl _) (Hp.emp_dis _) trivial (fun X hX => ?_)).mono fun e W' ⟨_, _, he, _, _, _, hext, _⟩ => ?_
  · rw [List.mem_singleton.1 hX]
    exact hr
  · exact ⟨.bool true, he, post_true Try.laidOut (by kernel_rfl) rfl (rt := 4) (by kernel_rfl) (by kernel_rfl) hW hext.below rfl rfl rfl⟩
theorem routesPlay_holds : Rows.RoutesPlaySaid :=
  OpenClaim.holds_of_wide 5 Try.f5 rfl rfl rfl rfl rfl rfl rfl ⟨rfl, rfl, rfl, rfl, rfl⟩ rfl rfl rfl rfl rfl (by kernel_rfl) Try.func5 (by kernel_rfl)
    (of_decide_eq_true (by kernel_rfl)) (by unfold Func.isWrapper; rw [if_neg (by decide +kernel)]; exact ⟨rfl, rfl⟩)
    (fun os started H enc _ => routesPlay_lifted os started H enc)
end Go.Proofs.Ytkjpfodnbjbmfaa
