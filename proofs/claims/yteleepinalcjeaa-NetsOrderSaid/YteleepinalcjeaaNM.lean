/-
  What is proved: NetsFull, the row. Conditions: none.
-/
import Derived.Test.YteleepinalcjeaaNL
import Derived.Test.YteleepinalcjeaaGl2
namespace Go.Proofs.Yteleepinalcjeaa
open Go.Sy Go.RowKit Go.ChangeShapes Go.WideShapes

theorem Try.own : ownKnob Try.prog.godebug = none := by kernel_rfl
theorem Try.laidOut : laidOutB Try.prog = true := by kernel_rfl
theorem one_at {cs : List Value} {k : Nat} {v : Value} (h : (cs.drop k).take 1 = [v]) : cs[k]? = some v := by
  have : ((cs.drop k).take 1)[0]? = some v := by rw [h]; rfl
  rw [List.getElem?_take, if_pos (by decide), List.getElem?_drop] at this
  simpa using this
theorem mail_of_sees {w : World} {cs : List Value} {F : Nat} (h : Sees Try.tab w (F + 3) 36 cs) (hl : cs.length = 18) : ∃ (m : MailS) (A : Option Addr) (n c : Nat), cs = mailL m A n c := by
  have h' : ∀ f ∈ [(0, 3), (1, 3), (2, 3), (3, 3), (4, 3), (5, 3), (6, 3), (7, 3), (8, 3), (9, 30), (10, 32), (15, 34)], ∀ e', te Try.tab f.2 = some e' → Sees Try.tab w (F + 2) f.2 ((cs.drop f.1).take e'.size) := h
  have int : ∀ k, (k, 3) ∈ [(0, 3), (1, 3), (2, 3), (3, 3), (4, 3), (5, 3), (6, 3), (7, 3), (8, 3), (9, 30), (10, 32), (15, 34)] → ∃ n : Int, cs[k]? = some (.int .i64 n) := fun k hk => by
    obtain ⟨n, h1, _⟩ : ∃ n, (cs.drop k).take 1 = [.int .i64 n] ∧ (Lit.int .i64 n).wf = true := h' (k, 3) hk _ rfl
    exact ⟨n, one_at h1⟩
  have ord : ∀ f ∈ [(0, 3), (1, 3), (2, 3), (3, 3), (4, 3)], ∀ e', te Try.tab f.2 = some e' → Sees Try.tab w (F + 1) f.2 ((((cs.drop 10).take 5).drop f.1).take e'.size) := h' (10, 32) (by decide) _ rfl
  have ans : ∀ f ∈ [(0, 3), (1, 3), (2, 3)], ∀ e', te Try.tab f.2 = some e' → Sees Try.tab w (F + 1) f.2 ((((cs.drop 15).take 3).drop f.1).take e'.size) := h' (15, 34) (by decide) _ rfl
  have sub : ∀ {a b k : Nat} {n : Int}, k < b → ((((cs.drop a).take b).drop k).take 1 = [.int .i64 n]) → cs[a + k]? = some (.int .i64 n) := fun {a b k n} hk h => by
    have := one_at h
    rw [List.getElem?_take, if_pos hk, List.getElem?_drop] at this
    exact this
  have o : ∀ k, (k, 3) ∈ [(0, 3), (1, 3), (2, 3), (3, 3), (4, 3)] → k < 5 → ∃ n : Int, cs[10 + k]? = some (.int .i64 n) := fun k hk h5 => by
    obtain ⟨n, h1, _⟩ : ∃ n, (((cs.drop 10).take 5).drop k).take 1 = [.int .i64 n] ∧ (Lit.int .i64 n).wf = true := ord (k, 3) hk _ rfl
    exact ⟨n, sub h5 h1⟩
  have a : ∀ k, (k, 3) ∈ [(0, 3), (1, 3), (2, 3)] → k < 3 → ∃ n : Int, cs[15 + k]? = some (.int .i64 n) := fun k hk h5 => by
    obtain ⟨n, h1, _⟩ : ∃ n, (((cs.drop 15).take 3).drop k).take 1 = [.int .i64 n] ∧ (Lit.int .i64 n).wf = true := ans (k, 3) hk _ rfl
    exact ⟨n, sub h5 h1⟩
  obtain ⟨A, n, c, hs⟩ : ∃ A n c, cs[9]? = some (.slice A n c) := by
    rcases (h' (9, 30) (by decide) _ rfl : Sees Try.tab w (F + 2) 30 ((cs.drop 9).take 1)) with h1 | ⟨a, n, c, h1, _⟩
    · exact ⟨_, _, _, one_at h1⟩
    · exact ⟨_, _, _, one_at h1⟩
  obtain ⟨i0, e0⟩ := int 0 (by decide)
  obtain ⟨i1, e1⟩ := int 1 (by decide)
  obtain ⟨i2, e2⟩ := int 2 (by decide)
  obtain ⟨i3, e3⟩ := int 3 (by decide)
  obtain ⟨i4, e4⟩ := int 4 (by decide)
  obtain ⟨i5, e5⟩ := int 5 (by decide)
  obtain ⟨i6, e6⟩ := int 6 (by decide)
  obtain ⟨i7, e7⟩ := int 7 (by decide)
  obtain ⟨i8, e8⟩ := int 8 (by decide)
  obtain ⟨j0, f0⟩ := o 0 (by decide) (by decide)
  obtain ⟨j1, f1⟩ := o 1 (by decide) (by decide)
  obtain ⟨j2, f2⟩ := o 2 (by decide) (by decide)
  obtain ⟨j3, f3⟩ := o 3 (by decide) (by decide)
  obtain ⟨j4, f4⟩ := o 4 (by decide) (by decide)
  obtain ⟨k0, g0⟩ := a 0 (by decide) (by decide)
  obtain ⟨k1, g1⟩ := a 1 (by decide) (by decide)
  obtain ⟨k2, g2⟩ := a 2 (by decide) (by decide)
  refine ⟨⟨i0, i1, i2, i3, i4, i5, i6, i7, i8, j0, j1, j2, j3, j4, k0, k1, k2⟩, A, n, c, ?_⟩
  clear h h' int ord ans sub o a
  match cs, hl, e0, e1, e2, e3, e4, e5, e6, e7, e8, hs, f0, f1, f2, f3, f4, g0, g1, g2 with
  | [c0, c1, c2, c3, c4, c5, c6, c7, c8, c9, c10, c11, c12, c13, c14, c15, c16, c17], _, e0, e1, e2, e3, e4, e5, e6, e7, e8, hs, f0, f1, f2, f3, f4, g0, g1, g2 =>
    simp at e0 e1 e2 e3 e4 e5 e6 e7 e8 hs f0 f1 f2 f3 f4 g0 g1 g2
    subst e0 e1 e2 e3 e4 e5 e6 e7 e8 hs f0 f1 f2 f3 f4 g0 g1 g2
    rfl
theorem netsFull_lifted (os : Os) (started : os.Started) (H : Type) (enc : TypeId × Value → H) :
    ReturnsInHanded {} Try.checked os 7 .any (Rows.netsFullSpec.pre6 enc Try.prog Try.f7 Rows.netsFullRow.domain Rows.netsFullRow.apart) (Rows.netsFullSpec.post enc Try.prog Try.f7 Rows.netsFullRow.apart Rows.netsFullRow.fresh Rows.netsFullRow.handsOn Rows.netsFullRow.again) := by
  refine returnsInHanded_of_change (C := Try.checked) Try.own started (by kernel_rfl) Try.func7 (ChangeSpec.witness6 (enc := enc) (C := Try.checked) false ⟨#[], #[zeroV, .int .u16 0], []⟩ 8 (by kernel_rfl) (by kernel_rfl) (by kernel_rfl) (by kernel_rfl)) ?_
  intro W base args ds gs before hval hW hcnd _
  obtain ⟨p, q, hA, hV, _, _, _⟩ := id hW
  obtain ⟨rfl, _⟩ := trodVars_none hV
  have hp : Try.f7.params = #[36, 55] := by kernel_rfl
  rw [hp] at hA hval
  obtain ⟨v0, v1, d0, d1, p0, p1, rfl, rfl, _, h0, h1⟩ := trodAll_two hA
  obtain ⟨cs, rfl, hsz⟩ := okWide_struct (P := Try.prog) (t := 36) (fs := Try.prog.fieldsOf 36) (by kernel_rfl) (hval 0 36 v0 rfl rfl)
  obtain ⟨n1, rfl, _, _, w1⟩ := open_int (P := Try.prog) (t := 55) (k := .u16) (by kernel_rfl) (hval 1 55 v1 rfl rfl) h1
  obtain ⟨fuel, hf⟩ := h0
  have hl : cs.toList.length = 18 := by rw [Array.length_toList, hsz]; kernel_rfl
  obtain ⟨m, A, n, c, hcs⟩ := mail_of_sees (F := 0) (sees_of_trod Try.tbs_ok.tab 3 fuel 36 cs.toList _ hf) hl
  obtain rfl : cs = (mailL m A n c).toArray := by rw [← hcs]
  have hn1 : 0 ≤ n1 ∧ n1 < 65536 := by
    simp only [Lit.wf, Bool.and_eq_true, decide_eq_true_eq] at w1
    have h3 : IntKind.u16.min = 0 := rfl
    have h4 : IntKind.u16.max = 65535 := rfl
    omega
  obtain ⟨at', rfl⟩ : ∃ k : Nat, n1 = k := ⟨n1.toNat, by omega⟩
  have T := netsFull m A (List.replicate n (0, 0, 0, 0, 0, 0)) c at' (by omega) W Hp.emp Hp.emp (Hp.emp_le _) (Hp.emp_le _) (Hp.emp_dis _) trivial (fun _ h => by cases h)
  rw [List.length_replicate] at T
  refine T.mono fun e W' ⟨_, _, he, _, _, _, hext, _⟩ => ?_
  exact ⟨.bool true, he, post_true Try.laidOut (by kernel_rfl) rfl (rt := 4) (by kernel_rfl) (by kernel_rfl) hW hext.below rfl rfl rfl⟩
theorem netsFull_holds : Rows.NetsFullSaid :=
  OpenClaim.holds_of_wide 7 Try.f7 rfl rfl rfl rfl rfl rfl rfl ⟨rfl, rfl, rfl, rfl, rfl⟩ rfl rfl rfl rfl rfl (by kernel_rfl) Try.func7 (by kernel_rfl)
    (of_decide_eq_true (by kernel_rfl)) (by unfold Func.isWrapper; rw [if_neg (by decide +kernel)]; exact ⟨rfl, rfl⟩)
    (fun os started H enc _ => netsFull_lifted os started H enc)
end Go.Proofs.Yteleepinalcjeaa
