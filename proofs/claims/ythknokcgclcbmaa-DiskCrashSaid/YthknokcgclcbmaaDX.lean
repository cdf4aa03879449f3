/-
  What is proved: DiskCrash: its row. Conditions: none.
-/
import Derived.Test.YthknokcgclcbmaaDQ
import Derived.Test.YthknokcgclcbmaaDZ
namespace Go.Proofs.Ythknokcgclcbmaa
open Go.Sy Go.RowKit Go.ChangeShapes Go.WideShapes

theorem diskCrash_lifted (os : Os) (started : os.Started) (H : Type) (enc : TypeId × Value → H) :
    ReturnsInHanded {} Try.checked os 6 .any (Rows.diskCrashSpec.pre6 enc Try.prog Try.f6 Rows.diskCrashRow.domain Rows.diskCrashRow.apart) (Rows.diskCrashSpec.post enc Try.prog Try.f6 Rows.diskCrashRow.apart Rows.diskCrashRow.fresh Rows.diskCrashRow.handsOn Rows.diskCrashRow.again) := by
  refine returnsInHanded_of_change (C := Try.checked) Try.own started (by kernel_rfl) Try.func6 (ChangeSpec.witness6 (enc := enc) (C := Try.checked) false ⟨#[], #[.int .u16 0, .slice none 0 0, .slice none 0 0], []⟩ 8 (by kernel_rfl) (by kernel_rfl) (by kernel_rfl) (by kernel_rfl)) ?_
  intro W base args ds gs before hval hW hcnd _
  obtain ⟨p, q, hA, hV, _, _, _⟩ := id hW
  obtain ⟨rfl, _⟩ := trodVars_none hV
  have hpar : Try.f6.params = #[22, 23, 33] := by kernel_rfl
  rw [hpar] at hA hval
  obtain ⟨v0, v1, v2, d0, d1, d2, p0, p1, p2, rfl, rfl, _, ⟨fuel0, hf0⟩, ⟨fuel1, hf1⟩, ⟨fuel2, hf2⟩⟩ := trodAll_three hA
  obtain ⟨m0, rfl, _, _, w0⟩ := open_int (P := Try.prog) (t := 22) (k := .u16) (by kernel_rfl) (hval 0 _ _ rfl rfl) ⟨fuel0, hf0⟩
  obtain ⟨A1, n1, c1, rfl⟩ := okWide_slice (P := Try.prog) (t := 23) (e := 35) (by kernel_rfl) (hval 1 _ _ rfl rfl)
  obtain ⟨A1', n1', c1', l1, hl1, hln1, hc1, hm1, hr1, hg1⟩ := list_of_sees (F := 0 + 1 + 1 + 1) (t := 23) (el := 35) (enc := encA) (G := fun x => x.rd.holds (hp W) ∧ inA x) rfl rfl (by decide) encA_len (fun _ => rfl) (fun vs hl h => actD_dec hl h) (sees_of_trod Try.tbs_ok.tab 4 fuel1 _ _ _ hf1)
  cases hl1
  obtain ⟨ha1, hin1⟩ := acts_in hg1
  obtain ⟨A2, n2, c2, rfl⟩ := okWide_slice (P := Try.prog) (t := 33) (e := 3) (by kernel_rfl) (hval 2 _ _ rfl rfl)
  obtain ⟨A2', n2', c2', l2, hl2, hln2, hc2, hm2, hr2, hg2⟩ := list_of_sees (F := 0 + 1) (t := 33) (el := 3) (enc := encN) (G := fun _ => True) rfl rfl (by decide) encN_len (fun _ => rfl) (fun vs hl h => int_dec hl h) (sees_of_trod Try.tbs_ok.tab 2 fuel2 _ _ _ hf2)
  cases hl2
  have hw := wf_u16 w0
  refine (diskCrash m0 A1 l1 n1 c1 A2 n2 c2 l2 hw.1 (by omega) hln1.symm (maxLen_le hc1 hm1) hin1 hln2.symm (maxLen_le hc2 hm2) W Hp.emp (hp W) (Hp.emp_le _) (Hp.le_refl _) (Hp.emp_dis _) trivial (fun X hX => ?_)).mono fun e W' ⟨_, _, he, _, _, _, hext, _⟩ => ?_
  · simp only [List.mem_cons, List.not_mem_nil, or_false] at hX
    rcases hX with rfl | rfl | rfl
    · exact hr1
    · exact ha1
    · exact hr2
  · exact ⟨.bool true, he, post_true Try.laidOut (by kernel_rfl) rfl (rt := 4) (by kernel_rfl) (by kernel_rfl) hW hext.below rfl rfl rfl⟩
theorem diskCrash_holds : Rows.DiskCrashSaid :=
  OpenClaim.holds_of_wide 6 Try.f6 rfl rfl rfl rfl rfl rfl rfl ⟨rfl, rfl, rfl, rfl, rfl⟩ rfl rfl rfl rfl rfl (by kernel_rfl) Try.func6 (by kernel_rfl)
    (of_decide_eq_true (by kernel_rfl)) (by unfold Func.isWrapper; rw [if_neg (by decide +kernel)]; exact ⟨rfl, rfl⟩)
    (fun os started H enc _ => diskCrash_lifted os started H enc)
end Go.Proofs.Ythknokcgclcbmaa
