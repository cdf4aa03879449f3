/-
  What is proved: RoutesNone: its row. Conditions: none.
-/
import Derived.Test.YtkjpfodnbjbmfaaRI
import Derived.Test.YtkjpfodnbjbmfaaRZ
namespace Go.Proofs.Ytkjpfodnbjbmfaa
open Go.Sy Go.RowKit Go.ChangeShapes Go.WideShapes

theorem routesNone_lifted (os : Os) (started : os.Started) (H : Type) (enc : TypeId × Value → H) :
    ReturnsInHanded {} Try.checked os 6 .any (Rows.routesNoneSpec.pre6 enc Try.prog Try.f6 Rows.routesNoneRow.domain Rows.routesNoneRow.apart) (Rows.routesNoneSpec.post enc Try.prog Try.f6 Rows.routesNoneRow.apart Rows.routesNoneRow.fresh Rows.routesNoneRow.handsOn Rows.routesNoneRow.again) := by
  refine returnsInHanded_of_change (C := Try.checked) Try.own started (by kernel_rfl) Try.func6 (ChangeSpec.witness6 (enc := enc) (C := Try.checked) false ⟨#[], #[.int .i64 0, .int .i64 0, .int .i64 0], []⟩ 8 (by kernel_rfl) (by kernel_rfl) (by kernel_rfl) (by kernel_rfl)) ?_
  intro W base args ds gs before hval hW hcnd _
  obtain ⟨p, q, hA, hV, _, _, _⟩ := id hW
  obtain ⟨rfl, _⟩ := trodVars_none hV
  have hpar : Try.f6.params = #[3, 3, 3] := by kernel_rfl
  rw [hpar] at hA hval
  obtain ⟨v0, v1, v2, d0, d1, d2, p0, p1, p2, rfl, rfl, _, ⟨fuel0, hf0⟩, ⟨fuel1, hf1⟩, ⟨fuel2, hf2⟩⟩ := trodAll_three hA
  obtain ⟨m0, rfl, _, _, _⟩ := open_int (P := Try.prog) (t := 3) (k := .i64) (by kernel_rfl) (hval 0 _ _ rfl rfl) ⟨fuel0, hf0⟩
  obtain ⟨m1, rfl, _, _, _⟩ := open_int (P := Try.prog) (t := 3) (k := .i64) (by kernel_rfl) (hval 1 _ _ rfl rfl) ⟨fuel1, hf1⟩
  obtain ⟨m2, rfl, _, _, _⟩ := open_int (P := Try.prog) (t := 3) (k := .i64) (by kernel_rfl) (hval 2 _ _ rfl rfl) ⟨fuel2, hf2⟩
  refine (routesNone m0 m1 m2 W Hp.emp (hp W) (Hp.emp_le _) (Hp.le_refl _) (Hp.emp_dis _) trivial (fun X hX => by cases hX)).mono fun e W' ⟨_, _, he, _, _, _, hext, _⟩ => ?_
  exact ⟨.bool true, he, post_true Try.laidOut (by kernel_rfl) rfl (rt := 4) (by kernel_rfl) (by kernel_rfl) hW hext.below rfl rfl rfl⟩
theorem routesNone_holds : Rows.RoutesNoneSaid :=
  OpenClaim.holds_of_wide 6 Try.f6 rfl rfl rfl rfl rfl rfl rfl ⟨rfl, rfl, rfl, rfl, rfl⟩ rfl rfl rfl rfl rfl (by kernel_rfl) Try.func6 (by kernel_rfl)
    (of_decide_eq_true (by kernel_rfl)) (by unfold Func.isWrapper; rw [if_neg (by decide +kernel)]; exact ⟨rfl, rfl⟩)
    (fun os started H enc _ => routesNone_lifted os started H enc)
end Go.Proofs.Ytkjpfodnbjbmfaa
