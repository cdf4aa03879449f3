/-
  What is proved: PremisesTell, PremisesMost, PremisesMore: the rows. Conditions: none.
-/
import Derived.Test.YtagfngobpooppaaPG
namespace Go.Proofs.Ytagfngobpooppaa
open Go.Sy Go.RowKit Go.ChangeShapes Go.WideShapes

theorem Try.own : ownKnob Try.prog.godebug = none := by kernel_rfl
theorem Try.laidOut : laidOutB Try.prog = true := by kernel_rfl
theorem int_dec {w : World} {F : Nat} {vs : List Value} (hl : vs.length = 1) (h : Sees Try.tab w (F + 1) 3 vs) : ∃ x : Int, vs = encN x ∧ True := by
  obtain ⟨n0, e0, _⟩ := leaf_int (F := F) (d := 0) (k := .i64) (u := 3) rfl rfl h 0 (by decide)
  exact ⟨n0, eq_of_at hl (And.intro e0 trivial), trivial⟩
theorem bool_dec {w : World} {F : Nat} {vs : List Value} (hl : vs.length = 1) (h : Sees Try.tab w (F + 1) 4 vs) : ∃ x : Bool, vs = encB x ∧ True := by
  obtain ⟨n0, e0⟩ := leaf_bool (F := F) (d := 0) (u := 4) rfl rfl h 0 (by decide)
  exact ⟨n0, eq_of_at hl (And.intro e0 trivial), trivial⟩
theorem step_dec {w : World} {F : Nat} {vs : List Value} (hl : vs.length = 10) (h : Sees Try.tab w (F + 1 + 1 + 2) 34 vs) : ∃ x : StepI, vs = encS x ∧ True := by
  obtain ⟨n0, e0, _⟩ := leaf_int (F := F + 1) (d := 2) (k := .i64) (u := 3) rfl rfl h 0 (by decide)
  obtain ⟨n1, e1, _⟩ := leaf_int (F := F + 1) (d := 2) (k := .i64) (u := 3) rfl rfl h 1 (by decide)
  obtain ⟨n2, e2, _⟩ := leaf_int (F := F + 1) (d := 2) (k := .i64) (u := 3) rfl rfl h 2 (by decide)
  obtain ⟨n3, e3, _⟩ := leaf_int (F := F + 1) (d := 2) (k := .i64) (u := 3) rfl rfl h 3 (by decide)
  obtain ⟨n4, e4, _⟩ := leaf_int (F := F + 1) (d := 2) (k := .i64) (u := 3) rfl rfl h 4 (by decide)
  obtain ⟨n5, e5, _⟩ := leaf_int (F := F + 1) (d := 2) (k := .i64) (u := 3) rfl rfl h 5 (by decide)
  obtain ⟨n6, e6, _⟩ := leaf_int (F := F + 1) (d := 2) (k := .i64) (u := 3) rfl rfl h 6 (by decide)
  obtain ⟨n7, e7, _⟩ := leaf_int (F := F + 1) (d := 2) (k := .i64) (u := 3) rfl rfl h 7 (by decide)
  obtain ⟨n8, e8, _⟩ := leaf_int (F := F + 1) (d := 2) (k := .i64) (u := 3) rfl rfl h 8 (by decide)
  obtain ⟨A, n, c, es, e9, _⟩ := leaf_slice (F := F + 1) (d := 2) (u := 32) (el := 3) (enc := encN) (G := fun _ => True) rfl rfl (by decide) (fun _ => rfl) (fun _ => rfl) (fun vs hl h => int_dec hl h) rfl h 9 (by decide)
  exact ⟨⟨n0, n1, n2, n3, n4, n5, n6, n7, n8, A, n, c⟩, eq_of_at hl (And.intro e0 (And.intro e1 (And.intro e2 (And.intro e3 (And.intro e4 (And.intro e5 (And.intro e6 (And.intro e7 (And.intro e8 (And.intro e9 (trivial))))))))))), trivial⟩
theorem premisesTell_lifted (os : Os) (started : os.Started) (H : Type) (enc : TypeId × Value → H) :
    ReturnsInHanded {} Try.checked os 3 .any (Rows.premisesTellSpec.pre6 enc Try.prog Try.f3 Rows.premisesTellRow.domain Rows.premisesTellRow.apart) (Rows.premisesTellSpec.post enc Try.prog Try.f3 Rows.premisesTellRow.apart Rows.premisesTellRow.fresh Rows.premisesTellRow.handsOn Rows.premisesTellRow.again) := by
  refine returnsInHanded_of_change (C := Try.checked) Try.own started (by kernel_rfl) Try.func3 (ChangeSpec.witness6 (enc := enc) (C := Try.checked) false ⟨#[], #[.int .i64 0, .slice none 0 0], []⟩ 8 (by kernel_rfl) (by kernel_rfl) (by kernel_rfl) (by kernel_rfl)) ?_
  intro W base args ds gs before hval hW hcnd _
  obtain ⟨p, q, hA, hV, _, _, _⟩ := id hW
  obtain ⟨rfl, _⟩ := trodVars_none hV
  have hpar : Try.f3.params = #[3, 22] := by kernel_rfl
  rw [hpar] at hA hval
  obtain ⟨v0, v1, d0, d1, p0, p1, rfl, rfl, _, ⟨fuel0, hf0⟩, ⟨fuel1, hf1⟩⟩ := trodAll_two hA
  obtain ⟨m0, rfl, _, _, _⟩ := open_int (P := Try.prog) (t := 3) (k := .i64) (by kernel_rfl) (hval 0 _ _ rfl rfl) ⟨fuel0, hf0⟩
  obtain ⟨A, n1, c1, rfl⟩ := okWide_slice (P := Try.prog) (t := 22) (e := 34) (by kernel_rfl) (hval 1 _ _ rfl rfl)
  obtain ⟨A', n', c', l, hl, hln, _, _, hr1, _⟩ := list_of_sees (F := 0 + 1 + 1 + 2) (t := 22) (el := 34) (enc := encS) (G := fun _ => True) rfl rfl (by decide) encS_len (fun _ => rfl) (fun vs hl h => step_dec hl h) (sees_of_trod Try.tbs_ok.tab 5 fuel1 _ _ _ hf1)
  cases hl
  subst hln

  refine (premisesTell m0 A l c1 W Hp.emp (hp W) (Hp.emp_le _) (Hp.le_refl _) (Hp.emp_dis _) trivial (fun X hX => ?_)).mono fun e W' ⟨_, _, he, _, _, _, hext, _⟩ => ?_
  · rw [List.mem_singleton.1 hX]
    exact hr1
  · exact ⟨.bool true, he, post_true Try.laidOut (by kernel_rfl) rfl (rt := 4) (by kernel_rfl) (by kernel_rfl) hW hext.below rfl rfl rfl⟩
theorem premisesTell_holds : Rows.PremisesTellSaid :=
  OpenClaim.holds_of_wide 3 Try.f3 rfl rfl rfl rfl rfl rfl rfl ⟨rfl, rfl, rfl, rfl, rfl⟩ rfl rfl rfl rfl rfl (by kernel_rfl) Try.func3 (by kernel_rfl)
    (of_decide_eq_true (by kernel_rfl)) (by unfold Func.isWrapper; rw [if_neg (by decide +kernel)]; exact ⟨rfl, rfl⟩)
    (fun os started H enc _ => premisesTell_lifted os started H enc)
theorem premisesMost_lifted (os : Os) (started : os.Started) (H : Type) (enc : TypeId × Value → H) :
    ReturnsInHanded {} Try.checked os 5 .any (Rows.premisesMostSpec.pre6 enc Try.prog Try.f5 Rows.premisesMostRow.domain Rows.premisesMostRow.apart) (Rows.premisesMostSpec.post enc Try.prog Try.f5 Rows.premisesMostRow.apart Rows.premisesMostRow.fresh Rows.premisesMostRow.handsOn Rows.premisesMostRow.again) := by
  refine returnsInHanded_of_change (C := Try.checked) Try.own started (by kernel_rfl) Try.func5 (ChangeSpec.witness6 (enc := enc) (C := Try.checked) false ⟨#[], #[.slice none 0 0], []⟩ 8 (by kernel_rfl) (by kernel_rfl) (by kernel_rfl) (by kernel_rfl)) ?_
  intro W base args ds gs before hval hW hcnd _
  obtain ⟨p, q, hA, hV, _, _, _⟩ := id hW
  obtain ⟨rfl, _⟩ := trodVars_none hV
  have hpar : Try.f5.params = #[27] := by kernel_rfl
  rw [hpar] at hA hval
  obtain ⟨v0, d0, rfl, rfl, fuel0, hf0⟩ := trodAll_one hA
  obtain ⟨A, n, c, rfl⟩ := okWide_slice (P := Try.prog) (t := 27) (e := 4) (by kernel_rfl) (hval 0 _ _ rfl rfl)
  obtain ⟨A', n', c', l, hl, hln, _, _, hr, _⟩ := list_of_sees (F := 0 + 1) (t := 27) (el := 4) (enc := encB) (G := fun _ => True) rfl rfl (by decide) (fun _ => rfl) (fun _ => rfl) (fun vs hl h => bool_dec hl h) (sees_of_trod Try.tbs_ok.tab 2 fuel0 _ _ _ hf0)
  cases hl
  refine (premisesMost A l n c hln.symm W Hp.emp (hp W) (Hp.emp_le _) (Hp.le_refl _) (Hp.emp_dis _) trivial (fun X hX => ?_)).mono fun e W' ⟨_, _, he, _, _, _, hext, _⟩ => ?_
  · rw [List.mem_singleton.1 hX]
    exact hr
  · exact ⟨.bool true, he, post_true Try.laidOut (by kernel_rfl) rfl (rt := 4) (by kernel_rfl) (by kernel_rfl) hW hext.below rfl rfl rfl⟩
theorem premisesMost_holds : Rows.PremisesMostSaid :=
  OpenClaim.holds_of_wide 5 Try.f5 rfl rfl rfl rfl rfl rfl rfl ⟨rfl, rfl, rfl, rfl, rfl⟩ rfl rfl rfl rfl rfl (by kernel_rfl) Try.func5 (by kernel_rfl)
    (of_decide_eq_true (by kernel_rfl)) (by unfold Func.isWrapper; rw [if_neg (by decide +kernel)]; exact ⟨rfl, rfl⟩)
    (fun os started H enc _ => premisesMost_lifted os started H enc)
theorem premisesMore_lifted (os : Os) (started : os.Started) (H : Type) (enc : TypeId × Value → H) :
    ReturnsInHanded {} Try.checked os 4 .any (Rows.premisesMoreSpec.pre6 enc Try.prog Try.f4 Rows.premisesMoreRow.domain Rows.premisesMoreRow.apart) (Rows.premisesMoreSpec.post enc Try.prog Try.f4 Rows.premisesMoreRow.apart Rows.premisesMoreRow.fresh Rows.premisesMoreRow.handsOn Rows.premisesMoreRow.again) := by
  refine returnsInHanded_of_change (C := Try.checked) Try.own started (by kernel_rfl) Try.func4 (ChangeSpec.witness6 (enc := enc) (C := Try.checked) false ⟨#[], #[.int .u8 0, .slice none 0 0, .slice none 0 0], []⟩ 8 (by kernel_rfl) (by kernel_rfl) (by kernel_rfl) (by kernel_rfl)) ?_
  intro W base args ds gs before hval hW hcnd _
  obtain ⟨p, q, hA, hV, _, _, _⟩ := id hW
  obtain ⟨rfl, _⟩ := trodVars_none hV
  have hpar : Try.f4.params = #[5, 22, 22] := by kernel_rfl
  rw [hpar] at hA hval
  obtain ⟨v0, v1, v2, d0, d1, d2, p0, p1, p2, rfl, rfl, _, ⟨fuel0, hf0⟩, ⟨fuel1, hf1⟩, ⟨fuel2, hf2⟩⟩ := trodAll_three hA
  obtain ⟨m0, rfl, _, _, w0⟩ := open_int (P := Try.prog) (t := 5) (k := .u8) (by kernel_rfl) (hval 0 _ _ rfl rfl) ⟨fuel0, hf0⟩
  have h0 := wf_u8 w0
  obtain ⟨size, rfl⟩ : ∃ k : Nat, m0 = k := ⟨m0.toNat, by omega⟩
  obtain ⟨A, n1, c1, rfl⟩ := okWide_slice (P := Try.prog) (t := 22) (e := 34) (by kernel_rfl) (hval 1 _ _ rfl rfl)
  obtain ⟨A', n', c', l, hl, hln, _, _, hr1, _⟩ := list_of_sees (F := 0 + 1 + 1 + 2) (t := 22) (el := 34) (enc := encS) (G := fun _ => True) rfl rfl (by decide) encS_len (fun _ => rfl) (fun vs hl h => step_dec hl h) (sees_of_trod Try.tbs_ok.tab 5 fuel1 _ _ _ hf1)
  cases hl
  subst hln
  obtain ⟨B, n2, c2, rfl⟩ := okWide_slice (P := Try.prog) (t := 22) (e := 34) (by kernel_rfl) (hval 2 _ _ rfl rfl)
  obtain ⟨A', n', c', more, hl, hln, _, _, hr2, _⟩ := list_of_sees (F := 0 + 1 + 1 + 2) (t := 22) (el := 34) (enc := encS) (G := fun _ => True) rfl rfl (by decide) encS_len (fun _ => rfl) (fun vs hl h => step_dec hl h) (sees_of_trod Try.tbs_ok.tab 5 fuel2 _ _ _ hf2)
  cases hl
  subst hln

  refine (premisesMore size A l c1 B more c2 (by omega) W Hp.emp (hp W) (Hp.emp_le _) (Hp.le_refl _) (Hp.emp_dis _) trivial (fun X hX => ?_)).mono fun e W' ⟨_, _, he, _, _, _, hext, _⟩ => ?_
  · simp only [List.mem_cons, List.not_mem_nil, or_false] at hX
    rcases hX with rfl | rfl
    · exact hr1
    · exact hr2
  · exact ⟨.bool true, he, post_true Try.laidOut (by kernel_rfl) rfl (rt := 4) (by kernel_rfl) (by kernel_rfl) hW hext.below rfl rfl rfl⟩
theorem premisesMore_holds : Rows.PremisesMoreSaid :=
  OpenClaim.holds_of_wide 4 Try.f4 rfl rfl rfl rfl rfl rfl rfl ⟨rfl, rfl, rfl, rfl, rfl⟩ rfl rfl rfl rfl rfl (by kernel_rfl) Try.func4 (by kernel_rfl)
    (of_decide_eq_true (by kernel_rfl)) (by unfold Func.isWrapper; rw [if_neg (by decide +kernel)]; exact ⟨rfl, rfl⟩)
    (fun os started H enc _ => premisesMore_lifted os started H enc)
end Go.Proofs.Ytagfngobpooppaa
