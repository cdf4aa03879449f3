/-
  What is proved: DiskRename: its row. Conditions: none.
-/
import Derived.Test.YthknokcgclcbmaaDT
import Derived.Test.YthknokcgclcbmaaDZ
import Derived.ChangeMaps5
namespace Go.Proofs.Ythknokcgclcbmaa
open Go.Sy Go.RowKit Go.ChangeShapes Go.WideShapes

theorem diskRename_lifted (os : Os) (started : os.Started) (H : Type) (enc : TypeId × Value → H) :
    ReturnsInHanded {} Try.checked os 8 .any (Rows.diskRenameSpec.pre6 enc Try.prog Try.f8 Rows.diskRenameRow.domain Rows.diskRenameRow.apart) (Rows.diskRenameSpec.post enc Try.prog Try.f8 Rows.diskRenameRow.apart Rows.diskRenameRow.fresh Rows.diskRenameRow.handsOn Rows.diskRenameRow.again) := by
  refine returnsInHanded_of_change (C := Try.checked) Try.own started (by kernel_rfl) Try.func8 (ChangeSpec.witness6 (enc := enc) (C := Try.checked) false ⟨#[], #[.slice none 0 0, .string ⟨#[]⟩, .string ⟨#[]⟩], []⟩ 8 (by kernel_rfl) (by kernel_rfl) (by kernel_rfl) (by kernel_rfl)) ?_
  intro W base args ds gs before hval hW hcnd _
  obtain ⟨p, q, hA, hV, _, _, _⟩ := id hW
  obtain ⟨rfl, _⟩ := trodVars_none hV
  have hpar : Try.f8.params = #[23, 9, 9] := by kernel_rfl
  rw [hpar] at hA hval
  obtain ⟨v0, v1, v2, d0, d1, d2, p0, p1, p2, rfl, rfl, _, ⟨fuel0, hf0⟩, ⟨fuel1, hf1⟩, ⟨fuel2, hf2⟩⟩ := trodAll_three hA
  obtain ⟨A0, n0, c0, rfl⟩ := okWide_slice (P := Try.prog) (t := 23) (e := 35) (by kernel_rfl) (hval 0 _ _ rfl rfl)
  obtain ⟨A0', n0', c0', l0, hl0, hln0, hc0, hm0, hr0, hg0⟩ := list_of_sees (F := 0 + 1 + 1 + 1) (t := 23) (el := 35) (enc := encA) (G := fun x => x.rd.holds (hp W) ∧ inA x) rfl rfl (by decide) encA_len (fun _ => rfl) (fun vs hl h => actD_dec hl h) (sees_of_trod Try.tbs_ok.tab 4 fuel0 _ _ _ hf0)
  cases hl0
  obtain ⟨ha0, hin0⟩ := acts_in hg0
  obtain ⟨s1, rfl, _, _, w1⟩ := Go.ChangeMaps.open_string (P := Try.prog) (t := 9) (by kernel_rfl) (hval 1 _ _ rfl rfl) ⟨fuel1, hf1⟩
  obtain ⟨s2, rfl, _, _, w2⟩ := Go.ChangeMaps.open_string (P := Try.prog) (t := 9) (by kernel_rfl) (hval 2 _ _ rfl rfl) ⟨fuel2, hf2⟩
  refine (diskRename A0 l0 n0 c0 s1 s2 hln0.symm (maxLen_le hc0 hm0) hin0 w1 w2 W Hp.emp (hp W) (Hp.emp_le _) (Hp.le_refl _) (Hp.emp_dis _) trivial (fun X hX => ?_)).mono fun e W' ⟨_, _, he, _, _, _, hext, _⟩ => ?_
  · simp only [List.mem_cons, List.not_mem_nil, or_false] at hX
    rcases hX with rfl | rfl
    · exact hr0
    · exact ha0
  · exact ⟨.bool true, he, post_true Try.laidOut (by kernel_rfl) rfl (rt := 4) (by kernel_rfl) (by kernel_rfl) hW hext.below rfl rfl rfl⟩
theorem diskRename_holds : Rows.DiskRenameSaid :=
  OpenClaim.holds_of_wide 8 Try.f8 rfl rfl rfl rfl rfl rfl rfl ⟨rfl, rfl, rfl, rfl, rfl⟩ rfl rfl rfl rfl rfl (by kernel_rfl) Try.func8 (by kernel_rfl)
    (of_decide_eq_true (by kernel_rfl)) (by unfold Func.isWrapper; rw [if_neg (by decide +kernel)]; exact ⟨rfl, rfl⟩)
    (fun os started H enc _ => diskRename_lifted os started H enc)
end Go.Proofs.Ythknokcgclcbmaa
