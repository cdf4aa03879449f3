/-
  What is proved: DiskNone: its row. Conditions: none.
-/
import Derived.Test.YthknokcgclcbmaaDR
import Derived.Test.YthknokcgclcbmaaDZ
namespace Go.Proofs.Ythknokcgclcbmaa
open Go.Sy Go.RowKit Go.ChangeShapes Go.WideShapes

theorem diskNone_lifted (os : Os) (started : os.Started) (H : Type) (enc : TypeId × Value → H) :
    ReturnsInHanded {} Try.checked os 5 .any (Rows.diskNoneSpec.pre6 enc Try.prog Try.f5 Rows.diskNoneRow.domain Rows.diskNoneRow.apart) (Rows.diskNoneSpec.post enc Try.prog Try.f5 Rows.diskNoneRow.apart Rows.diskNoneRow.fresh Rows.diskNoneRow.handsOn Rows.diskNoneRow.again) := by
  refine returnsInHanded_of_change (C := Try.checked) Try.own started (by kernel_rfl) Try.func5 (ChangeSpec.witness6 (enc := enc) (C := Try.checked) false ⟨#[], #[.agg (encA default).toArray], []⟩ 8 (by kernel_rfl) (by kernel_rfl) (by kernel_rfl) (by kernel_rfl)) ?_
  intro W base args ds gs before hval hW hcnd _
  obtain ⟨p, q, hA, hV, _, _, _⟩ := id hW
  obtain ⟨rfl, _⟩ := trodVars_none hV
  have hpar : Try.f5.params = #[35] := by kernel_rfl
  rw [hpar] at hA hval
  obtain ⟨v0, d0, rfl, rfl, fuel0, hf0⟩ := trodAll_one hA
  obtain ⟨cs, rfl, hsz⟩ := okWide_struct (P := Try.prog) (t := 35) (fs := Try.prog.fieldsOf 35) (by kernel_rfl) (hval 0 _ _ rfl rfl)
  have hl : cs.toList.length = 6 := by rw [Array.length_toList, hsz]; kernel_rfl
  obtain ⟨x, hx, hr, hk⟩ := actD_dec (F := 0) (w := W) hl (sees_of_trod Try.tbs_ok.tab 3 fuel0 _ cs.toList _ hf0)
  obtain rfl : cs = (encA x).toArray := by rw [← hx]
  refine (diskNone x W Hp.emp (hp W) (Hp.emp_le _) (Hp.le_refl _) (Hp.emp_dis _) trivial (fun X hX => ?_)).mono fun e W' ⟨_, _, he, _, _, _, hext, _⟩ => ?_
  · simp only [List.mem_cons, List.not_mem_nil, or_false] at hX
    subst hX
    exact hr
  · exact ⟨.bool true, he, post_true Try.laidOut (by kernel_rfl) rfl (rt := 4) (by kernel_rfl) (by kernel_rfl) hW hext.below rfl rfl rfl⟩
theorem diskNone_holds : Rows.DiskNoneSaid :=
  OpenClaim.holds_of_wide 5 Try.f5 rfl rfl rfl rfl rfl rfl rfl ⟨rfl, rfl, rfl, rfl, rfl⟩ rfl rfl rfl rfl rfl (by kernel_rfl) Try.func5 (by kernel_rfl)
    (of_decide_eq_true (by kernel_rfl)) (by unfold Func.isWrapper; rw [if_neg (by decide +kernel)]; exact ⟨rfl, rfl⟩)
    (fun os started H enc _ => diskNone_lifted os started H enc)
end Go.Proofs.Ythknokcgclcbmaa
