/-
  What is proved: RoutesOnce: its row. Conditions: none.
-/
import Derived.Test.YtkjpfodnbjbmfaaRM
import Derived.Test.YtkjpfodnbjbmfaaRZ
namespace Go.Proofs.Ytkjpfodnbjbmfaa
open Go.Sy Go.RowKit Go.ChangeShapes Go.WideShapes

theorem actR_dec {w : World} {F : Nat} {vs : List Value} (hl : vs.length = 4) (h : Sees Try.tab w (F + 1 + 1) 41 vs) : ∃ x : ActR, vs = encR x ∧ 0 ≤ x.k ∧ x.k < 256 := by
  obtain ⟨n0, e0, w0⟩ := leaf_int (F := F) (d := 1) (k := .u8) (u := 5) rfl rfl h 0 (by decide)
  obtain ⟨n1, e1, _⟩ := leaf_int (F := F) (d := 1) (k := .i64) (u := 3) rfl rfl h 1 (by decide)
  obtain ⟨n2, e2, _⟩ := leaf_int (F := F) (d := 1) (k := .i64) (u := 3) rfl rfl h 2 (by decide)
  obtain ⟨n3, e3, _⟩ := leaf_int (F := F) (d := 1) (k := .i64) (u := 3) rfl rfl h 3 (by decide)
  exact ⟨⟨n0, n1, n2, n3⟩, eq_of_at hl (And.intro e0 (And.intro e1 (And.intro e2 (And.intro e3 trivial)))), wf_u8 w0⟩
theorem routesOnce_lifted (os : Os) (started : os.Started) (H : Type) (enc : TypeId × Value → H) :
    ReturnsInHanded {} Try.checked os 7 .any (Rows.routesOnceSpec.pre6 enc Try.prog Try.f7 Rows.routesOnceRow.domain Rows.routesOnceRow.apart) (Rows.routesOnceSpec.post enc Try.prog Try.f7 Rows.routesOnceRow.apart Rows.routesOnceRow.fresh Rows.routesOnceRow.handsOn Rows.routesOnceRow.again) := by
  refine returnsInHanded_of_change (C := Try.checked) Try.own started (by kernel_rfl) Try.func7 (ChangeSpec.witness6 (enc := enc) (C := Try.checked) false ⟨#[], #[.slice none 0 0, .agg #[.int .i64 0, .int .i64 0, .int .i64 0]], []⟩ 8 (by kernel_rfl) (by kernel_rfl) (by kernel_rfl) (by kernel_rfl)) ?_
  intro W base args ds gs before hval hW hcnd _
  obtain ⟨p, q, hA, hV, _, _, _⟩ := id hW
  obtain ⟨rfl, _⟩ := trodVars_none hV
  have hpar : Try.f7.params = #[35, 47] := by kernel_rfl
  rw [hpar] at hA hval
  obtain ⟨v0, v1, d0, d1, p0, p1, rfl, rfl, _, ⟨fuel0, hf0⟩, ⟨fuel1, hf1⟩⟩ := trodAll_two hA
  obtain ⟨A, n, c, rfl⟩ := okWide_slice (P := Try.prog) (t := 35) (e := 41) (by kernel_rfl) (hval 0 _ _ rfl rfl)
  obtain ⟨A', n', c', l, hl, hln, _, _, hr, hg⟩ := list_of_sees (F := 0 + 1 + 1) (t := 35) (el := 41) (enc := encR) (G := fun x => 0 ≤ x.k ∧ x.k < 256) rfl rfl (by decide) encR_len (fun _ => rfl) (fun vs hl h => actR_dec hl h) (sees_of_trod Try.tbs_ok.tab 3 fuel0 _ _ _ hf0)
  cases hl
  subst hln
  have hv1 := hval 1 _ _ rfl rfl
  simp only [Value.okWide] at hv1
  obtain ⟨cs, rfl, hsz, _⟩ := hv1
  have hl : cs.toList.length = 3 := by rw [Array.length_toList, hsz]; kernel_rfl
  have ha := arr_ints (n := 3) (e := 3) (q := .i64) (by kernel_rfl) (by kernel_rfl) (by kernel_rfl) (by kernel_rfl) hf1 hl
  obtain ⟨m0, e0⟩ := ha 0 (by decide)
  obtain ⟨m1, e1⟩ := ha 1 (by decide)
  obtain ⟨m2, e2⟩ := ha 2 (by decide)
  obtain rfl : cs = #[.int .i64 m0, .int .i64 m1, .int .i64 m2] := Array.ext' (eq_of_at hl (And.intro e0 (And.intro e1 (And.intro e2 trivial))))
  refine (routesOnce A l c m0 m1 m2 hg W Hp.emp (hp W) (Hp.emp_le _) (Hp.le_refl _) (Hp.emp_dis _) trivial (fun X hX => ?_)).mono fun e W' ⟨_, _, he, _, _, _, hext, _⟩ => ?_
  · rw [List.mem_singleton.1 hX]
    exact hr
  · exact ⟨.bool true, he, post_true Try.laidOut (by kernel_rfl) rfl (rt := 4) (by kernel_rfl) (by kernel_rfl) hW hext.below rfl rfl rfl⟩
theorem routesOnce_holds : Rows.RoutesOnceSaid :=
  OpenClaim.holds_of_wide 7 Try.f7 rfl rfl rfl rfl rfl rfl rfl ⟨rfl, rfl, rfl, rfl, rfl⟩ rfl rfl rfl rfl rfl (by kernel_rfl) Try.func7 (by kernel_rfl)
    (of_decide_eq_true (by kernel_rfl)) (by unfold Func.isWrapper; rw [if_neg (by decide +kernel)]; exact ⟨rfl, rfl⟩)
    (fun os started H enc _ => routesOnce_lifted os started H enc)
end Go.Proofs.Ytkjpfodnbjbmfaa
