/-
  What is proved: what a law's arguments look like in memory. Conditions: none.
-/
import Derived.Test.YteleepinalcjeaaNU
import Derived.Test.YteleepinalcjeaaGl3
import Derived.Test.YteleepinalcjeaaNM
namespace Go.Proofs.Yteleepinalcjeaa
open Go.Sy Go.RowKit Go.ChangeShapes Go.WideShapes

instance : Inhabited MailS := ⟨zeroM⟩
instance : Inhabited Item := ⟨noI⟩
instance : Inhabited ActI := ⟨⟨0, noI, 0⟩⟩
theorem ent_dec {w : World} {F : Nat} {vs : List Value} (hl : vs.length = 6) (h : Sees Try.tab w (F + 1 + 2) 40 vs) : ∃ x : Ent, vs = encE x ∧ True := by
  obtain ⟨n0, e0, _⟩ := leaf_int (F := F) (d := 2) (k := .i64) (u := 3) rfl rfl h 0 (by decide)
  obtain ⟨n1, e1, _⟩ := leaf_int (F := F) (d := 2) (k := .i64) (u := 3) rfl rfl h 1 (by decide)
  obtain ⟨n2, e2, _⟩ := leaf_int (F := F) (d := 2) (k := .i64) (u := 3) rfl rfl h 2 (by decide)
  obtain ⟨n3, e3, _⟩ := leaf_int (F := F) (d := 2) (k := .i64) (u := 3) rfl rfl h 3 (by decide)
  obtain ⟨n4, e4, _⟩ := leaf_int (F := F) (d := 2) (k := .i64) (u := 3) rfl rfl h 4 (by decide)
  obtain ⟨n5, e5, _⟩ := leaf_int (F := F) (d := 2) (k := .i64) (u := 3) rfl rfl h 5 (by decide)
  exact ⟨(n0, n1, n2, n3, n4, n5), eq_of_at hl (And.intro e0 (And.intro e1 (And.intro e2 (And.intro e3 (And.intro e4 (And.intro e5 trivial)))))), trivial⟩
theorem mail_dec {w : World} {F : Nat} {vs : List Value} (hl : vs.length = 18) (h : Sees Try.tab w (F + 1 + 2 + 1 + 2) 36 vs) : ∃ x : Item, vs = encI x ∧ x.rd.holds (hp w) := by
  obtain ⟨n0, e0, _⟩ := leaf_int (F := F + 1 + 2) (d := 2) (k := .i64) (u := 3) rfl rfl h 0 (by decide)
  obtain ⟨n1, e1, _⟩ := leaf_int (F := F + 1 + 2) (d := 2) (k := .i64) (u := 3) rfl rfl h 1 (by decide)
  obtain ⟨n2, e2, _⟩ := leaf_int (F := F + 1 + 2) (d := 2) (k := .i64) (u := 3) rfl rfl h 2 (by decide)
  obtain ⟨n3, e3, _⟩ := leaf_int (F := F + 1 + 2) (d := 2) (k := .i64) (u := 3) rfl rfl h 3 (by decide)
  obtain ⟨n4, e4, _⟩ := leaf_int (F := F + 1 + 2) (d := 2) (k := .i64) (u := 3) rfl rfl h 4 (by decide)
  obtain ⟨n5, e5, _⟩ := leaf_int (F := F + 1 + 2) (d := 2) (k := .i64) (u := 3) rfl rfl h 5 (by decide)
  obtain ⟨n6, e6, _⟩ := leaf_int (F := F + 1 + 2) (d := 2) (k := .i64) (u := 3) rfl rfl h 6 (by decide)
  obtain ⟨n7, e7, _⟩ := leaf_int (F := F + 1 + 2) (d := 2) (k := .i64) (u := 3) rfl rfl h 7 (by decide)
  obtain ⟨n8, e8, _⟩ := leaf_int (F := F + 1 + 2) (d := 2) (k := .i64) (u := 3) rfl rfl h 8 (by decide)
  obtain ⟨n10, e10, _⟩ := leaf_int (F := F + 1 + 2) (d := 2) (k := .i64) (u := 3) rfl rfl h 10 (by decide)
  obtain ⟨n11, e11, _⟩ := leaf_int (F := F + 1 + 2) (d := 2) (k := .i64) (u := 3) rfl rfl h 11 (by decide)
  obtain ⟨n12, e12, _⟩ := leaf_int (F := F + 1 + 2) (d := 2) (k := .i64) (u := 3) rfl rfl h 12 (by decide)
  obtain ⟨n13, e13, _⟩ := leaf_int (F := F + 1 + 2) (d := 2) (k := .i64) (u := 3) rfl rfl h 13 (by decide)
  obtain ⟨n14, e14, _⟩ := leaf_int (F := F + 1 + 2) (d := 2) (k := .i64) (u := 3) rfl rfl h 14 (by decide)
  obtain ⟨n15, e15, _⟩ := leaf_int (F := F + 1 + 2) (d := 2) (k := .i64) (u := 3) rfl rfl h 15 (by decide)
  obtain ⟨n16, e16, _⟩ := leaf_int (F := F + 1 + 2) (d := 2) (k := .i64) (u := 3) rfl rfl h 16 (by decide)
  obtain ⟨n17, e17, _⟩ := leaf_int (F := F + 1 + 2) (d := 2) (k := .i64) (u := 3) rfl rfl h 17 (by decide)
  obtain ⟨A, n, c, es, e9, hn, _, _, hr, _⟩ := leaf_slice (F := F + 1 + 2) (d := 2) (u := 30) (el := 40) (enc := encE) (G := fun _ => True) rfl rfl (by decide) encE_len (fun _ => rfl) (fun vs hl h => ent_dec hl h) rfl h 9 (by decide)
  subst hn
  exact ⟨⟨⟨n0, n1, n2, n3, n4, n5, n6, n7, n8, n10, n11, n12, n13, n14, n15, n16, n17⟩, es, A, c⟩, eq_of_at hl (And.intro e0 (And.intro e1 (And.intro e2 (And.intro e3 (And.intro e4 (And.intro e5 (And.intro e6 (And.intro e7 (And.intro e8 (And.intro e9 (And.intro e10 (And.intro e11 (And.intro e12 (And.intro e13 (And.intro e14 (And.intro e15 (And.intro e16 (And.intro e17 trivial)))))))))))))))))), hr⟩
theorem act_dec {w : World} {F : Nat} {vs : List Value} (hl : vs.length = 20) (h : Sees Try.tab w (F + 1 + 2 + 1 + 3) 38 vs) : ∃ x : ActI, vs = encA x ∧ (x.m.rd.holds (hp w) ∧ 0 ≤ x.k ∧ x.k < 256) := by
  obtain ⟨n0, e0, w0⟩ := leaf_int (F := F + 1 + 2) (d := 3) (k := .u8) (u := 5) rfl rfl h 0 (by decide)
  obtain ⟨n1, e1, _⟩ := leaf_int (F := F + 1 + 2) (d := 3) (k := .i64) (u := 3) rfl rfl h 1 (by decide)
  obtain ⟨n2, e2, _⟩ := leaf_int (F := F + 1 + 2) (d := 3) (k := .i64) (u := 3) rfl rfl h 2 (by decide)
  obtain ⟨n3, e3, _⟩ := leaf_int (F := F + 1 + 2) (d := 3) (k := .i64) (u := 3) rfl rfl h 3 (by decide)
  obtain ⟨n4, e4, _⟩ := leaf_int (F := F + 1 + 2) (d := 3) (k := .i64) (u := 3) rfl rfl h 4 (by decide)
  obtain ⟨n5, e5, _⟩ := leaf_int (F := F + 1 + 2) (d := 3) (k := .i64) (u := 3) rfl rfl h 5 (by decide)
  obtain ⟨n6, e6, _⟩ := leaf_int (F := F + 1 + 2) (d := 3) (k := .i64) (u := 3) rfl rfl h 6 (by decide)
  obtain ⟨n7, e7, _⟩ := leaf_int (F := F + 1 + 2) (d := 3) (k := .i64) (u := 3) rfl rfl h 7 (by decide)
  obtain ⟨n8, e8, _⟩ := leaf_int (F := F + 1 + 2) (d := 3) (k := .i64) (u := 3) rfl rfl h 8 (by decide)
  obtain ⟨n9, e9, _⟩ := leaf_int (F := F + 1 + 2) (d := 3) (k := .i64) (u := 3) rfl rfl h 9 (by decide)
  obtain ⟨n11, e11, _⟩ := leaf_int (F := F + 1 + 2) (d := 3) (k := .i64) (u := 3) rfl rfl h 11 (by decide)
  obtain ⟨n12, e12, _⟩ := leaf_int (F := F + 1 + 2) (d := 3) (k := .i64) (u := 3) rfl rfl h 12 (by decide)
  obtain ⟨n13, e13, _⟩ := leaf_int (F := F + 1 + 2) (d := 3) (k := .i64) (u := 3) rfl rfl h 13 (by decide)
  obtain ⟨n14, e14, _⟩ := leaf_int (F := F + 1 + 2) (d := 3) (k := .i64) (u := 3) rfl rfl h 14 (by decide)
  obtain ⟨n15, e15, _⟩ := leaf_int (F := F + 1 + 2) (d := 3) (k := .i64) (u := 3) rfl rfl h 15 (by decide)
  obtain ⟨n16, e16, _⟩ := leaf_int (F := F + 1 + 2) (d := 3) (k := .i64) (u := 3) rfl rfl h 16 (by decide)
  obtain ⟨n17, e17, _⟩ := leaf_int (F := F + 1 + 2) (d := 3) (k := .i64) (u := 3) rfl rfl h 17 (by decide)
  obtain ⟨n18, e18, _⟩ := leaf_int (F := F + 1 + 2) (d := 3) (k := .i64) (u := 3) rfl rfl h 18 (by decide)
  obtain ⟨n19, e19, _⟩ := leaf_int (F := F + 1 + 2) (d := 3) (k := .i64) (u := 3) rfl rfl h 19 (by decide)
  obtain ⟨A, n, c, es, e10, hn, _, _, hr, _⟩ := leaf_slice (F := F + 1 + 2) (d := 3) (u := 30) (el := 40) (enc := encE) (G := fun _ => True) rfl rfl (by decide) encE_len (fun _ => rfl) (fun vs hl h => ent_dec hl h) rfl h 10 (by decide)
  subst hn
  exact ⟨⟨n0, ⟨⟨n1, n2, n3, n4, n5, n6, n7, n8, n9, n11, n12, n13, n14, n15, n16, n17, n18⟩, es, A, c⟩, n19⟩, eq_of_at hl (And.intro e0 (And.intro e1 (And.intro e2 (And.intro e3 (And.intro e4 (And.intro e5 (And.intro e6 (And.intro e7 (And.intro e8 (And.intro e9 (And.intro e10 (And.intro e11 (And.intro e12 (And.intro e13 (And.intro e14 (And.intro e15 (And.intro e16 (And.intro e17 (And.intro e18 (And.intro e19 trivial)))))))))))))))))))), hr, wf_u8 w0⟩
theorem netsPlay_lifted (os : Os) (started : os.Started) (H : Type) (enc : TypeId × Value → H) :
    ReturnsInHanded {} Try.checked os 3 .any (Rows.netsPlaySpec.pre6 enc Try.prog Try.f3 Rows.netsPlayRow.domain Rows.netsPlayRow.apart) (Rows.netsPlaySpec.post enc Try.prog Try.f3 Rows.netsPlayRow.apart Rows.netsPlayRow.fresh Rows.netsPlayRow.handsOn Rows.netsPlayRow.again) := by
  refine returnsInHanded_of_change (C := Try.checked) Try.own started (by kernel_rfl) Try.func3 (ChangeSpec.witness6 (enc := enc) (C := Try.checked) false ⟨#[], #[.slice none 0 0], []⟩ 8 (by kernel_rfl) (by kernel_rfl) (by kernel_rfl) (by kernel_rfl)) ?_
  intro W base args ds gs before hval hW hcnd _
  obtain ⟨p, q, hA, hV, _, _, _⟩ := id hW
  obtain ⟨rfl, _⟩ := trodVars_none hV
  have hpar : Try.f3.params = #[22] := by kernel_rfl
  rw [hpar] at hA hval
  obtain ⟨v0, d0, rfl, rfl, fuel, hf⟩ := trodAll_one hA
  obtain ⟨A, n, c, rfl⟩ := okWide_slice (P := Try.prog) (t := 22) (e := 38) (by kernel_rfl) (hval 0 _ _ rfl rfl)
  obtain ⟨A', n', c', l, hl, hln, _, _, hr, hg⟩ := list_of_sees (F := 0 + 1 + 2 + 1 + 3) (t := 22) (el := 38) (enc := encA) (G := fun x => x.m.rd.holds (hp W) ∧ 0 ≤ x.k ∧ x.k < 256) rfl rfl (by decide) encA_len (fun _ => rfl) (fun vs hl h => act_dec hl h) (sees_of_trod Try.tbs_ok.tab 8 fuel _ _ _ hf)
  cases hl
  subst hln
  refine (netsPlay A l c (fun x hx => (hg x hx).2) W Hp.emp (hp W) (Hp.emp_le _) (Hp.le_refl _) (Hp.emp_dis _) trivial (fun X hX => ?_)).mono fun e W' ⟨_, _, he, _, _, _, hext, _⟩ => ?_
  · simp only [List.mem_cons, List.not_mem_nil, or_false] at hX
    rcases hX with rfl | rfl
    · exact hr
    · exact fun x hx => (hg x hx).1
  · exact ⟨.bool true, he, post_true Try.laidOut (by kernel_rfl) rfl (rt := 4) (by kernel_rfl) (by kernel_rfl) hW hext.below rfl rfl rfl⟩
theorem netsPlay_holds : Rows.NetsPlaySaid :=
  OpenClaim.holds_of_wide 3 Try.f3 rfl rfl rfl rfl rfl rfl rfl ⟨rfl, rfl, rfl, rfl, rfl⟩ rfl rfl rfl rfl rfl (by kernel_rfl) Try.func3 (by kernel_rfl)
    (of_decide_eq_true (by kernel_rfl)) (by unfold Func.isWrapper; rw [if_neg (by decide +kernel)]; exact ⟨rfl, rfl⟩)
    (fun os started H enc _ => netsPlay_lifted os started H enc)
end Go.Proofs.Yteleepinalcjeaa
