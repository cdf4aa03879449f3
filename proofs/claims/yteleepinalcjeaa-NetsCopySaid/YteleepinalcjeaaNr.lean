/-
  What is proved: NetsNone, NetsCount, NetsCopy: the rows. Conditions: none.
-/
import Derived.Test.YteleepinalcjeaaNZ
import Derived.Test.YteleepinalcjeaaNV
namespace Go.Proofs.Yteleepinalcjeaa
open Go.Sy Go.RowKit Go.ChangeShapes Go.WideShapes

theorem netsCount_lifted (os : Os) (started : os.Started) (H : Type) (enc : TypeId × Value → H) :
    ReturnsInHanded {} Try.checked os 6 .any (Rows.netsCountSpec.pre6 enc Try.prog Try.f6 Rows.netsCountRow.domain Rows.netsCountRow.apart) (Rows.netsCountSpec.post enc Try.prog Try.f6 Rows.netsCountRow.apart Rows.netsCountRow.fresh Rows.netsCountRow.handsOn Rows.netsCountRow.again) := by
  refine returnsInHanded_of_change (C := Try.checked) Try.own started (by kernel_rfl) Try.func6 (ChangeSpec.witness6 (enc := enc) (C := Try.checked) false ⟨#[], #[.slice none 0 0], []⟩ 8 (by kernel_rfl) (by kernel_rfl) (by kernel_rfl) (by kernel_rfl)) ?_
  intro W base args ds gs before hval hW hcnd _
  obtain ⟨p, q, hA, hV, _, _, _⟩ := id hW
  obtain ⟨rfl, _⟩ := trodVars_none hV
  have hpar : Try.f6.params = #[22] := by kernel_rfl
  rw [hpar] at hA hval
  obtain ⟨v0, d0, rfl, rfl, fuel0, hf0⟩ := trodAll_one hA
  obtain ⟨A, n, c, rfl⟩ := okWide_slice (P := Try.prog) (t := 22) (e := 38) (by kernel_rfl) (hval 0 _ _ rfl rfl)
  obtain ⟨A', n', c', l, hl, hln, _, _, hr, hg⟩ := list_of_sees (F := 0 + 1 + 2 + 1 + 3) (t := 22) (el := 38) (enc := encA) (G := fun x => x.m.rd.holds (hp W) ∧ 0 ≤ x.k ∧ x.k < 256) rfl rfl (by decide) encA_len (fun _ => rfl) (fun vs hl h => act_dec hl h) (sees_of_trod Try.tbs_ok.tab 8 fuel0 _ _ _ hf0)
  cases hl
  subst hln
  refine (netsCount A l c (fun x hx => (hg x hx).2) W Hp.emp (hp W) (Hp.emp_le _) (Hp.le_refl _) (Hp.emp_dis _) trivial (fun X hX => ?_)).mono fun e W' ⟨_, _, he, _, _, _, hext, _⟩ => ?_
  · simp only [List.mem_cons, List.not_mem_nil, or_false] at hX
    rcases hX with rfl | rfl
    · exact hr
    · exact fun x hx => (hg x hx).1
  · exact ⟨.bool true, he, post_true Try.laidOut (by kernel_rfl) rfl (rt := 4) (by kernel_rfl) (by kernel_rfl) hW hext.below rfl rfl rfl⟩
theorem netsCount_holds : Rows.NetsCountSaid :=
  OpenClaim.holds_of_wide 6 Try.f6 rfl rfl rfl rfl rfl rfl rfl ⟨rfl, rfl, rfl, rfl, rfl⟩ rfl rfl rfl rfl rfl (by kernel_rfl) Try.func6 (by kernel_rfl)
    (of_decide_eq_true (by kernel_rfl)) (by unfold Func.isWrapper; rw [if_neg (by decide +kernel)]; exact ⟨rfl, rfl⟩)
    (fun os started H enc _ => netsCount_lifted os started H enc)
theorem netsNone_lifted (os : Os) (started : os.Started) (H : Type) (enc : TypeId × Value → H) :
    ReturnsInHanded {} Try.checked os 4 .any (Rows.netsNoneSpec.pre6 enc Try.prog Try.f4 Rows.netsNoneRow.domain Rows.netsNoneRow.apart) (Rows.netsNoneSpec.post enc Try.prog Try.f4 Rows.netsNoneRow.apart Rows.netsNoneRow.fresh Rows.netsNoneRow.handsOn Rows.netsNoneRow.again) := by
  refine returnsInHanded_of_change (C := Try.checked) Try.own started (by kernel_rfl) Try.func4 (ChangeSpec.witness6 (enc := enc) (C := Try.checked) false ⟨#[], #[.agg (encA ⟨0, noI, 0⟩).toArray], []⟩ 8 (by kernel_rfl) (by kernel_rfl) (by kernel_rfl) (by kernel_rfl)) ?_
  intro W base args ds gs before hval hW hcnd _
  obtain ⟨p, q, hA, hV, _, _, _⟩ := id hW
  obtain ⟨rfl, _⟩ := trodVars_none hV
  have hpar : Try.f4.params = #[38] := by kernel_rfl
  rw [hpar] at hA hval
  obtain ⟨v0, d0, rfl, rfl, fuel0, hf0⟩ := trodAll_one hA
  obtain ⟨cs, rfl, hsz⟩ := okWide_struct (P := Try.prog) (t := 38) (fs := Try.prog.fieldsOf 38) (by kernel_rfl) (hval 0 _ _ rfl rfl)
  have hl : cs.toList.length = 20 := by rw [Array.length_toList, hsz]; kernel_rfl
  obtain ⟨x, hx, _, hk⟩ := act_dec (F := 0) (w := W) hl (sees_of_trod Try.tbs_ok.tab 7 fuel0 _ cs.toList _ hf0)
  obtain rfl : cs = (encA x).toArray := by rw [← hx]
  refine (netsNone x.k x.m.s x.m.a x.m.es.length x.m.c x.i hk W Hp.emp (hp W) (Hp.emp_le _) (Hp.le_refl _) (Hp.emp_dis _) trivial (fun X hX => by cases hX)).mono fun e W' ⟨_, _, he, _, _, _, hext, _⟩ => ?_
  exact ⟨.bool true, he, post_true Try.laidOut (by kernel_rfl) rfl (rt := 4) (by kernel_rfl) (by kernel_rfl) hW hext.below rfl rfl rfl⟩
theorem netsNone_holds : Rows.NetsNoneSaid :=
  OpenClaim.holds_of_wide 4 Try.f4 rfl rfl rfl rfl rfl rfl rfl ⟨rfl, rfl, rfl, rfl, rfl⟩ rfl rfl rfl rfl rfl (by kernel_rfl) Try.func4 (by kernel_rfl)
    (of_decide_eq_true (by kernel_rfl)) (by unfold Func.isWrapper; rw [if_neg (by decide +kernel)]; exact ⟨rfl, rfl⟩)
    (fun os started H enc _ => netsNone_lifted os started H enc)
theorem netsCopy_lifted (os : Os) (started : os.Started) (H : Type) (enc : TypeId × Value → H) :
    ReturnsInHanded {} Try.checked os 8 .any (Rows.netsCopySpec.pre6 enc Try.prog Try.f8 Rows.netsCopyRow.domain Rows.netsCopyRow.apart) (Rows.netsCopySpec.post enc Try.prog Try.f8 Rows.netsCopyRow.apart Rows.netsCopyRow.fresh Rows.netsCopyRow.handsOn Rows.netsCopyRow.again) := by
  refine returnsInHanded_of_change (C := Try.checked) Try.own started (by kernel_rfl) Try.func8 (ChangeSpec.witness6 (enc := enc) (C := Try.checked) false ⟨#[], #[.slice none 0 0, .int .u8 0], []⟩ 8 (by kernel_rfl) (by kernel_rfl) (by kernel_rfl) (by kernel_rfl)) ?_
  intro W base args ds gs before hval hW hcnd _
  obtain ⟨p, q, hA, hV, _, _, _⟩ := id hW
  obtain ⟨rfl, _⟩ := trodVars_none hV
  have hpar : Try.f8.params = #[27, 5] := by kernel_rfl
  rw [hpar] at hA hval
  obtain ⟨v0, v1, d0, d1, p0, p1, rfl, rfl, _, ⟨fuel0, hf0⟩, ⟨fuel1, hf1⟩⟩ := trodAll_two hA
  obtain ⟨A, n, c, rfl⟩ := okWide_slice (P := Try.prog) (t := 27) (e := 36) (by kernel_rfl) (hval 0 _ _ rfl rfl)
  obtain ⟨A', n', c', l, hl, hln, _, _, hr, hg⟩ := list_of_sees (F := 0 + 1 + 2 + 1 + 2) (t := 27) (el := 36) (enc := encI) (G := fun x => x.rd.holds (hp W)) rfl rfl (by decide) encI_len (fun _ => rfl) (fun vs hl h => mail_dec hl h) (sees_of_trod Try.tbs_ok.tab 7 fuel0 _ _ _ hf0)
  cases hl
  subst hln
  obtain ⟨n1, rfl, _, _, w1⟩ := open_int (P := Try.prog) (t := 5) (k := .u8) (by kernel_rfl) (hval 1 _ _ rfl rfl) ⟨fuel1, hf1⟩
  have h1 := wf_u8 w1
  obtain ⟨at', rfl⟩ : ∃ k : Nat, n1 = k := ⟨n1.toNat, by omega⟩
  refine (netsCopy A l c at' (by omega) W Hp.emp (hp W) (Hp.emp_le _) (Hp.le_refl _) (Hp.emp_dis _) trivial (fun X hX => ?_)).mono fun e W' ⟨_, _, he, _, _, _, hext, _⟩ => ?_
  · simp only [List.mem_cons, List.not_mem_nil, or_false] at hX
    rcases hX with rfl | rfl
    · exact hr
    · exact fun x hx => hg x hx
  · exact ⟨.bool true, he, post_true Try.laidOut (by kernel_rfl) rfl (rt := 4) (by kernel_rfl) (by kernel_rfl) hW hext.below rfl rfl rfl⟩
theorem netsCopy_holds : Rows.NetsCopySaid :=
  OpenClaim.holds_of_wide 8 Try.f8 rfl rfl rfl rfl rfl rfl rfl ⟨rfl, rfl, rfl, rfl, rfl⟩ rfl rfl rfl rfl rfl (by kernel_rfl) Try.func8 (by kernel_rfl)
    (of_decide_eq_true (by kernel_rfl)) (by unfold Func.isWrapper; rw [if_neg (by decide +kernel)]; exact ⟨rfl, rfl⟩)
    (fun os started H enc _ => netsCopy_lifted os started H enc)
end Go.Proofs.Yteleepinalcjeaa
