/-
  What is proved: DiskFail: its row. Conditions: none.
-/
import Derived.Test.YthknokcgclcbmaaDa
import Derived.Test.YthknokcgclcbmaaDZ
namespace Go.Proofs.Ythknokcgclcbmaa
open Go.Sy Go.RowKit Go.ChangeShapes Go.WideShapes

theorem arr_trod {H : Type} {enc : TypeId × Value → H} {P : Program} {t e : TypeId} {n : Nat} (hu : P.underlying t = some (.array n e)) (h1 : P.cellsOf e = 1) (hsz : P.cellsOf t = n)
    {W : World} {base : Nat} {sp : Nat → Bool} {held : Bool} {fuel : Nat} {cs : List Value} {x : DataW H × List MemPlace} (hf : DataW.trod enc P W base sp held fuel t cs = some x) (hl : cs.length = n) : ∀ j, j < n → ∃ m y, DataW.trod enc P W base sp held m e ((cs.drop j).take 1) = some y := by
  cases fuel with
  | zero => simp [DataW.trod] at hf
  | succ m =>
    rw [DataW.trod_step] at hf
    unfold DataW.trodStep at hf
    simp only [hu] at hf
    rw [if_pos (by rw [hsz]; simpa using hl)] at hf
    simp only [Option.map_eq_some_iff] at hf
    obtain ⟨ys, hy, _⟩ := hf
    intro j hj
    obtain ⟨y, hy2⟩ := mapM_all _ _ hy j (by simpa using hj)
    rw [h1, Nat.mul_one] at hy2
    exact ⟨m, y, hy2⟩
theorem diskFail_lifted (os : Os) (started : os.Started) (H : Type) (enc : TypeId × Value → H) :
    ReturnsInHanded {} Try.checked os 7 .any (Rows.diskFailSpec.pre6 enc Try.prog Try.f7 Rows.diskFailRow.domain Rows.diskFailRow.apart) (Rows.diskFailSpec.post enc Try.prog Try.f7 Rows.diskFailRow.apart Rows.diskFailRow.fresh Rows.diskFailRow.handsOn Rows.diskFailRow.again) := by
  refine returnsInHanded_of_change (C := Try.checked) Try.own started (by kernel_rfl) Try.func7 (ChangeSpec.witness6 (enc := enc) (C := Try.checked) false ⟨#[], #[.agg #[.slice none 0 0, .slice none 0 0], .int .u8 0, .slice none 0 0], []⟩ 8 (by kernel_rfl) (by kernel_rfl) (by kernel_rfl) (by kernel_rfl)) ?_
  intro W base args ds gs before hval hW hcnd _
  obtain ⟨p, q, hA, hV, _, _, _⟩ := id hW
  obtain ⟨rfl, _⟩ := trodVars_none hV
  have hpar : Try.f7.params = #[61, 5, 33] := by kernel_rfl
  rw [hpar] at hA hval
  obtain ⟨v0, v1, v2, d0, d1, d2, p0, p1, p2, rfl, rfl, _, ⟨fuel0, hf0⟩, ⟨fuel1, hf1⟩, ⟨fuel2, hf2⟩⟩ := trodAll_three hA
  have hv0 := hval 0 _ _ rfl rfl
  simp only [Value.okWide, show Try.prog.underlying 61 = some (.array 2 23) by kernel_rfl] at hv0
  obtain ⟨cs, rfl, hsz, _⟩ := hv0
  have hl : cs.toList.length = 2 := by rw [Array.length_toList, hsz]; kernel_rfl
  obtain ⟨k0, y0, hy0⟩ := arr_trod (n := 2) (e := 23) (by kernel_rfl) (by kernel_rfl) (by kernel_rfl) hf0 hl 0 (by decide)
  obtain ⟨A0, n0, c0, l0, hl0, hln0, hc0, hm0, hr0, hg0⟩ := list_of_sees (F := 0 + 1 + 1 + 1) (t := 23) (el := 35) (enc := encA) (G := fun x => x.rd.holds (hp W) ∧ inA x) rfl rfl (by decide) encA_len (fun _ => rfl) (fun vs hl h => actD_dec hl h) (sees_of_trod Try.tbs_ok.tab 4 k0 _ _ _ hy0)
  obtain ⟨ha0, hin0⟩ := acts_in hg0
  have e0 : cs.toList[0]? = some (.slice A0 n0 c0) := by
    have : ((cs.toList.drop 0).take 1)[0]? = some (.slice A0 n0 c0) := (congrArg (fun l : List Value => l[0]?) hl0).trans rfl
    rw [List.getElem?_take, if_pos (by decide), List.getElem?_drop] at this
    exact this
  obtain ⟨k1, y1, hy1⟩ := arr_trod (n := 2) (e := 23) (by kernel_rfl) (by kernel_rfl) (by kernel_rfl) hf0 hl 1 (by decide)
  obtain ⟨A1, n1, c1, l1, hl1, hln1, hc1, hm1, hr1, hg1⟩ := list_of_sees (F := 0 + 1 + 1 + 1) (t := 23) (el := 35) (enc := encA) (G := fun x => x.rd.holds (hp W) ∧ inA x) rfl rfl (by decide) encA_len (fun _ => rfl) (fun vs hl h => actD_dec hl h) (sees_of_trod Try.tbs_ok.tab 4 k1 _ _ _ hy1)
  obtain ⟨ha1, hin1⟩ := acts_in hg1
  have e1 : cs.toList[1]? = some (.slice A1 n1 c1) := by
    have : ((cs.toList.drop 1).take 1)[0]? = some (.slice A1 n1 c1) := (congrArg (fun l : List Value => l[0]?) hl1).trans rfl
    rw [List.getElem?_take, if_pos (by decide), List.getElem?_drop] at this
    exact this
  obtain rfl : cs = #[.slice A0 n0 c0, .slice A1 n1 c1] := Array.ext' (eq_of_at hl (And.intro e0 (And.intro e1 trivial)))
  obtain ⟨z1, rfl, _, _, w1⟩ := open_int (P := Try.prog) (t := 5) (k := .u8) (by kernel_rfl) (hval 1 _ _ rfl rfl) ⟨fuel1, hf1⟩
  obtain ⟨A2, n2, c2, rfl⟩ := okWide_slice (P := Try.prog) (t := 33) (e := 3) (by kernel_rfl) (hval 2 _ _ rfl rfl)
  obtain ⟨A2', n2', c2', l2, hl2, hln2, hc2, hm2, hr2, hg2⟩ := list_of_sees (F := 0 + 1) (t := 33) (el := 3) (enc := encN) (G := fun _ => True) rfl rfl (by decide) encN_len (fun _ => rfl) (fun vs hl h => int_dec hl h) (sees_of_trod Try.tbs_ok.tab 2 fuel2 _ _ _ hf2)
  cases hl2
  have hw := wf_u8 w1
  refine (diskFail A0 l0 n0 c0 A1 l1 n1 c1 z1 A2 n2 c2 l2 hw.1 (by omega) hln0.symm (maxLen_le hc0 hm0) hin0 hln1.symm (maxLen_le hc1 hm1) hin1 hln2.symm (maxLen_le hc2 hm2) W Hp.emp (hp W) (Hp.emp_le _) (Hp.le_refl _) (Hp.emp_dis _) trivial (fun X hX => ?_)).mono fun e W' ⟨_, _, he, _, _, _, hext, _⟩ => ?_
  · simp only [List.mem_cons, List.not_mem_nil, or_false] at hX
    rcases hX with rfl | rfl | rfl | rfl | rfl
    · exact hr0
    · exact ha0
    · exact hr1
    · exact ha1
    · exact hr2
  · exact ⟨.bool true, he, post_true Try.laidOut (by kernel_rfl) rfl (rt := 4) (by kernel_rfl) (by kernel_rfl) hW hext.below rfl rfl rfl⟩
theorem diskFail_holds : Rows.DiskFailSaid :=
  OpenClaim.holds_of_wide 7 Try.f7 rfl rfl rfl rfl rfl rfl rfl ⟨rfl, rfl, rfl, rfl, rfl⟩ rfl rfl rfl rfl rfl (by kernel_rfl) Try.func7 (by kernel_rfl)
    (of_decide_eq_true (by kernel_rfl)) (by unfold Func.isWrapper; rw [if_neg (by decide +kernel)]; exact ⟨rfl, rfl⟩)
    (fun os started H enc _ => diskFail_lifted os started H enc)
end Go.Proofs.Ythknokcgclcbmaa
