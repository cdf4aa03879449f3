/-
  What is proved: RoutesApart: its row. Conditions: none.
-/
import Derived.Test.YtkjpfodnbjbmfaaRQ
import Derived.Test.YtkjpfodnbjbmfaaRZ
namespace Go.Proofs.Ytkjpfodnbjbmfaa
open Go.Sy Go.RowKit Go.ChangeShapes Go.WideShapes

theorem u8_dec {w : World} {F : Nat} {vs : List Value} (hl : vs.length = 1) (h : Sees Try.tab w (F + 1) 5 vs) : ∃ x : Int, vs = enc8 x ∧ 0 ≤ x ∧ x < 256 := by
  obtain ⟨n0, e0, w0⟩ := leaf_int (F := F) (d := 0) (k := .u8) (u := 5) rfl rfl h 0 (by decide)
  exact ⟨n0, eq_of_at hl (And.intro e0 trivial), wf_u8 w0⟩
theorem routesApart_lifted (os : Os) (started : os.Started) (H : Type) (enc : TypeId × Value → H) :
    ReturnsInHanded {} Try.checked os 4 .any (Rows.routesApartSpec.pre6 enc Try.prog Try.f4 Rows.routesApartRow.domain Rows.routesApartRow.apart) (Rows.routesApartSpec.post enc Try.prog Try.f4 Rows.routesApartRow.apart Rows.routesApartRow.fresh Rows.routesApartRow.handsOn Rows.routesApartRow.again) := by
  refine returnsInHanded_of_change (C := Try.checked) Try.own started (by kernel_rfl) Try.func4 (ChangeSpec.witness6 (enc := enc) (C := Try.checked) false ⟨#[], #[.slice none 0 0, .agg #[.int .i64 0, .int .i64 0], .agg #[.int .i64 0, .int .i64 0]], []⟩ 8 (by kernel_rfl) (by kernel_rfl) (by kernel_rfl) (by kernel_rfl)) ?_
  intro W base args ds gs before hval hW hcnd _
  obtain ⟨p, q, hA, hV, _, _, _⟩ := id hW
  obtain ⟨rfl, _⟩ := trodVars_none hV
  have hpar : Try.f4.params = #[31, 32, 32] := by kernel_rfl
  rw [hpar] at hA hval
  obtain ⟨v0, v1, v2, d0, d1, d2, p0, p1, p2, rfl, rfl, _, ⟨fuel0, hf0⟩, ⟨fuel1, hf1⟩, ⟨fuel2, hf2⟩⟩ := trodAll_three hA
  obtain ⟨A, n, c, rfl⟩ := okWide_slice (P := Try.prog) (t := 31) (e := 5) (by kernel_rfl) (hval 0 _ _ rfl rfl)
  obtain ⟨A', n', c', l, hl, hln, _, _, hr, hg⟩ := list_of_sees (F := 0 + 1) (t := 31) (el := 5) (enc := enc8) (G := fun x => 0 ≤ x ∧ x < 256) rfl rfl (by decide) (fun _ => rfl) (fun _ => rfl) (fun vs hl h => u8_dec hl h) (sees_of_trod Try.tbs_ok.tab 2 fuel0 _ _ _ hf0)
  cases hl
  have hv1 := hval 1 _ _ rfl rfl
  simp only [Value.okWide] at hv1
  obtain ⟨cs1, rfl, hsz1, _⟩ := hv1
  have hl1 : cs1.toList.length = 2 := by rw [Array.length_toList, hsz1]; kernel_rfl
  have ha1 := arr_ints (n := 2) (e := 3) (q := .i64) (by kernel_rfl) (by kernel_rfl) (by kernel_rfl) (by kernel_rfl) hf1 hl1
  obtain ⟨m0, e10⟩ := ha1 0 (by decide)
  obtain ⟨m1, e11⟩ := ha1 1 (by decide)
  obtain rfl : cs1 = #[.int .i64 m0, .int .i64 m1] := Array.ext' (eq_of_at hl1 (And.intro e10 (And.intro e11 trivial)))
  have hv2 := hval 2 _ _ rfl rfl
  simp only [Value.okWide] at hv2
  obtain ⟨cs2, rfl, hsz2, _⟩ := hv2
  have hl2 : cs2.toList.length = 2 := by rw [Array.length_toList, hsz2]; kernel_rfl
  have ha2 := arr_ints (n := 2) (e := 3) (q := .i64) (by kernel_rfl) (by kernel_rfl) (by kernel_rfl) (by kernel_rfl) hf2 hl2
  obtain ⟨m2, e20⟩ := ha2 0 (by decide)
  obtain ⟨m3, e21⟩ := ha2 1 (by decide)
  obtain rfl : cs2 = #[.int .i64 m2, .int .i64 m3] := Array.ext' (eq_of_at hl2 (And.intro e20 (And.intro e21 trivial)))
  refine (routesApart A l n c m0 m1 m2 m3 hln.symm hg W Hp.emp (hp W) (Hp.emp_le _) (Hp.le_refl _) (Hp.emp_dis _) trivial (fun X hX => ?_)).mono fun e W' ⟨_, _, he, _, _, _, hext, _⟩ => ?_
  · rw [List.mem_singleton.1 hX]
    exact hr
  · exact ⟨.bool true, he, post_true Try.laidOut (by kernel_rfl) rfl (rt := 4) (by kernel_rfl) (by kernel_rfl) hW hext.below rfl rfl rfl⟩
theorem routesApart_holds : Rows.RoutesApartSaid :=
  OpenClaim.holds_of_wide 4 Try.f4 rfl rfl rfl rfl rfl rfl rfl ⟨rfl, rfl, rfl, rfl, rfl⟩ rfl rfl rfl rfl rfl (by kernel_rfl) Try.func4 (by kernel_rfl)
    (of_decide_eq_true (by kernel_rfl)) (by unfold Func.isWrapper; rw [if_neg (by decide +kernel)]; exact ⟨rfl, rfl⟩)
    (fun os started H enc _ => routesApart_lifted os started H enc)
end Go.Proofs.Ytkjpfodnbjbmfaa
