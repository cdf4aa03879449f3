/-
  What is proved: RoutesFull: its row. Conditions: none.
-/
import Derived.Test.YtkjpfodnbjbmfaaRL
import Derived.Test.YtkjpfodnbjbmfaaRZ
namespace Go.Proofs.Ytkjpfodnbjbmfaa
open Go.Sy Go.RowKit Go.ChangeShapes Go.WideShapes

theorem wf_i32 {n : Int} (h : (Lit.int .i32 n).wf = true) : -2147483648 ≤ n ∧ n ≤ 2147483647 := by
  simp only [Lit.wf, Bool.and_eq_true, decide_eq_true_eq] at h
  have h3 : IntKind.i32.min = -2147483648 := rfl
  have h4 : IntKind.i32.max = 2147483647 := rfl
  omega
theorem routesFull_lifted (os : Os) (started : os.Started) (H : Type) (enc : TypeId × Value → H) :
    ReturnsInHanded {} Try.checked os 3 .any (Rows.routesFullSpec.pre6 enc Try.prog Try.f3 Rows.routesFullRow.domain Rows.routesFullRow.apart) (Rows.routesFullSpec.post enc Try.prog Try.f3 Rows.routesFullRow.apart Rows.routesFullRow.fresh Rows.routesFullRow.handsOn Rows.routesFullRow.again) := by
  refine returnsInHanded_of_change (C := Try.checked) Try.own started (by kernel_rfl) Try.func3 (ChangeSpec.witness6 (enc := enc) (C := Try.checked) false ⟨#[], #[.int .i32 0, .int .u8 0], []⟩ 8 (by kernel_rfl) (by kernel_rfl) (by kernel_rfl) (by kernel_rfl)) ?_
  intro W base args ds gs before hval hW hcnd _
  obtain ⟨p, q, hA, hV, _, _, _⟩ := id hW
  obtain ⟨rfl, _⟩ := trodVars_none hV
  have hpar : Try.f3.params = #[21, 5] := by kernel_rfl
  rw [hpar] at hA hval
  obtain ⟨v0, v1, d0, d1, p0, p1, rfl, rfl, _, ⟨fuel0, hf0⟩, ⟨fuel1, hf1⟩⟩ := trodAll_two hA
  obtain ⟨m0, rfl, _, _, w0⟩ := open_int (P := Try.prog) (t := 21) (k := .i32) (by kernel_rfl) (hval 0 _ _ rfl rfl) ⟨fuel0, hf0⟩
  obtain ⟨m1, rfl, _, _, w1⟩ := open_int (P := Try.prog) (t := 5) (k := .u8) (by kernel_rfl) (hval 1 _ _ rfl rfl) ⟨fuel1, hf1⟩
  have h1 := wf_u8 w1
  obtain ⟨og, rfl⟩ : ∃ k : Nat, m1 = k := ⟨m1.toNat, by omega⟩
  refine (routesFull m0 og (wf_i32 w0) (by omega) W Hp.emp (hp W) (Hp.emp_le _) (Hp.le_refl _) (Hp.emp_dis _) trivial (fun X hX => by cases hX)).mono fun e W' ⟨_, _, he, _, _, _, hext, _⟩ => ?_
  exact ⟨.bool true, he, post_true Try.laidOut (by kernel_rfl) rfl (rt := 4) (by kernel_rfl) (by kernel_rfl) hW hext.below rfl rfl rfl⟩
theorem routesFull_holds : Rows.RoutesFullSaid :=
  OpenClaim.holds_of_wide 3 Try.f3 rfl rfl rfl rfl rfl rfl rfl ⟨rfl, rfl, rfl, rfl, rfl⟩ rfl rfl rfl rfl rfl (by kernel_rfl) Try.func3 (by kernel_rfl)
    (of_decide_eq_true (by kernel_rfl)) (by unfold Func.isWrapper; rw [if_neg (by decide +kernel)]; exact ⟨rfl, rfl⟩)
    (fun os started H enc _ => routesFull_lifted os started H enc)
end Go.Proofs.Ytkjpfodnbjbmfaa
