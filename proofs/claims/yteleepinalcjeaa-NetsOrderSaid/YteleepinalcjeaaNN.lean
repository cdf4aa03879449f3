/-
  What is proved: what the law's package does with nets: messages that are written over, acts. Conditions: none.
-/
import Derived.Test.YteleepinalcjeaaNL
import Derived.Test.YteleepinalcjeaaSyk
namespace Go.Proofs.Yteleepinalcjeaa
open Go.Sy

set_option maxRecDepth 100000 in
theorem spoil (m : MailS) (A : Option Addr) (es : List Ent) (c : Nat) (hn : es.length ≤ 1000000000) :
    Triple Try.prog 16 [mailV m A es.length c] [Own 40 6 A es.length (es.flatMap encE)] [] (List Ent) (fun _ => .tuple #[]) (fun x => x.length = es.length) (fun x => [Own 40 6 A es.length (x.flatMap encE)]) := by
  refine triple_intro Try.tbs_ok Try.func16 rfl [.ag (mailSV m A es.length c)] [.fact (Own 40 6 A es.length (es.flatMap encE))] ⟨by simp [SV.good, SV.goodL, mailSV], trivial⟩ rfl (by simp) ?_
  intro E
  refine go Try.tbs_ok 1000 ?_
  refine ev_new fun b0 => ?_
  refine ev_stop (go_loopR [0, 2, 3, 4, 5, 6, 7, 8, 9, 10, 11, 12, 13, 14] (fun (i, _) => [(2, .va (.int .i64 (i : Nat)))]) (fun (_, fs) => [(0, .fact (Own 40 6 A es.length (fs.flatMap encE)))]) (fun (i, fs) => i ≤ es.length ∧ fs.length = es.length) (fun (i, _) => es.length - i) ((0, es) : Nat × List Ent) ⟨Nat.zero_le _, rfl⟩ ⟨⟨by kernel_rfl, by kernel_rfl⟩, ⟨_, rfl⟩, ⟨_, rfl⟩, by kernel_rfl, by kernel_rfl⟩ (fun x_ h_ => ?_))
  obtain ⟨i, fs⟩ := x_
  obtain ⟨hi, hf⟩ := h_
  refine go Try.tbs_ok 1000 ?_
  refine ev_if_lt (fun h10 => ?_) (fun h10 => ?_)
  refine go Try.tbs_ok 1000 ?_
  refine ev_stop (go_index0 (sz := 6) Try.tbs_ok (.inr 0) (i) rfl rfl rfl rfl rfl rfl (by omega) rfl Own.at0 (fun g11 e12 => ?_))
  subst e12
  refine go Try.tbs_ok 1000 ?_
  have l13 : i < (fs).length := (by omega)
  refine ev_stop (go_storeE Try.tbs_ok 0 (i) 0 ((-9, 0, 0, 0, 0, 0)) rfl rfl rfl rfl rfl (by omega) (fun _ => rfl) (ones_of rfl) (by omega) l13 rfl (by decide) (ones_of rfl) rfl ?_)
  refine go Try.tbs_ok 1000 ?_
  refine ev_wrapN (i + 1) (by constructor <;> omega) (by rfl) ?_
  refine ev_fin (round_next ((i + 1, fs.set i (-9, 0, 0, 0, 0, 0))) (show i + 1 ≤ es.length ∧ (fs.set i (-9, 0, 0, 0, 0, 0)).length = es.length from (by (refine ⟨?_, ?_⟩ <;> first | assumption | omega | (simp only [List.length_set, List.length_append, List.length_cons, List.length_nil]; omega) | rfl))) (show es.length - (i + 1) < es.length - i from (by omega)) ⟨⟨by kernel_rfl, by kernel_rfl⟩, ⟨_, rfl⟩, ⟨_, rfl⟩, by kernel_rfl, by kernel_rfl⟩)
  refine go Try.tbs_ok 1000 ?_
  refine ev_fin (go Try.tbs_ok 1000 ?_)
  refine ev_fin ⟨trivial, _, rfl, (fs), rfl, (by trivial), Frm.sel [0] rfl (by decide)⟩

/-! all in one -/
def noM : Msg := ⟨zeroM, []⟩
def inM (l : List Msg) (i : Int) : Prop := 0 ≤ i ∧ i < (l.length : Int)
instance (l : List Msg) (i : Int) : Decidable (inM l i) := inferInstanceAs (Decidable (_ ∧ _))
def lookM (l : List Msg) (i : Int) : Msg × Bool := if inM l i then (l.getD i.toNat noM, true) else (noM, false)
def goneM (l : List Msg) (i : Int) : List Msg := if inM l i then l.eraseIdx i.toNat else l
def sendM (l : List Msg) (m : Msg) : List Msg × Bool := if l.length < 512 then (l ++ [m], true) else (l, false)
def copyM (l : List Msg) (i : Int) : List Msg × Bool := if inM l i then sendM l (l.getD i.toNat noM) else (l, false)
theorem own_nil {A : Asn} {h : Hp} (p : Asn.starH [A] h) : Asn.starH [A, (noM.at none).own] h := by
  obtain ⟨h1, h2, d, a, b, p, _⟩ := p
  refine ⟨h1, Hp.emp, Hp.dis_emp _, a, Hp.emp_le _, p, starH_one.2 ⟨rfl, (fun c hc => by cases hc), .inl rfl⟩⟩
theorem inM_cases (l : List Msg) (i : Int) : (∃ j : Nat, i = j ∧ j < l.length ∧ inM l i) ∨ ((i < 0 ∨ (l.length : Int) ≤ i) ∧ ¬ inM l i) := by
  unfold inM
  by_cases h : 0 ≤ i ∧ i < (l.length : Int)
  · exact .inl ⟨i.toNat, by omega, by omega, h⟩
  · exact .inr ⟨by omega, h⟩
theorem tLook (p : Nat) (l : List Msg) (hl : fewM l) (i : Int) :
    Triple Try.prog 23 [.pointer (some ⟨p, 0, none⟩), .int .i64 i] [NetM p l] [] (Option Addr) (fun A => .tuple #[((lookM l i).1.at A).val, .bool (lookM l i).2]) (fun _ => True) (fun A => [NetM p l, ((lookM l i).1.at A).own]) := by
  rcases inM_cases l i with ⟨j, rfl, hj, h⟩ | ⟨h0, h⟩
  · simp only [lookM, if_pos h, Int.toNat_natCast, List.getD_eq_getElem?_getD, List.getElem?_eq_getElem hj, Option.getD_some]
    exact mLook p l hl j hj
  · simp only [lookM, if_neg h]
    exact (mLook_out p l i h0).imp fun _ _ => ⟨none, rfl, trivial, fun _ => own_nil⟩
theorem tTake (p : Nat) (l : List Msg) (hl : fewM l) (hn : l.length ≤ 1000000000) (i : Int) :
    Triple Try.prog 22 [.pointer (some ⟨p, 0, none⟩), .int .i64 i] [NetM p l] [] (Option Addr) (fun A => .tuple #[((lookM l i).1.at A).val, .bool (lookM l i).2]) (fun _ => True) (fun A => [NetM p (goneM l i), ((lookM l i).1.at A).own]) := by
  rcases inM_cases l i with ⟨j, rfl, hj, h⟩ | ⟨h0, h⟩
  · simp only [lookM, goneM, if_pos h, Int.toNat_natCast, List.getD_eq_getElem?_getD, List.getElem?_eq_getElem hj, Option.getD_some]
    exact mTake p l hl hn j hj
  · simp only [lookM, goneM, if_neg h]
    exact (mTake_out p l i h0).imp fun _ _ => ⟨none, rfl, trivial, fun _ => own_nil⟩
theorem tDrop (p : Nat) (l : List Msg) (hl : fewM l) (hn : l.length ≤ 1000000000) (i : Int) :
    Triple Try.prog 24 [.pointer (some ⟨p, 0, none⟩), .int .i64 i] [NetM p l] [] Unit (fun _ => .bool (lookM l i).2) (fun _ => True) (fun _ => [NetM p (goneM l i)]) := by
  rcases inM_cases l i with ⟨j, rfl, hj, h⟩ | ⟨h0, h⟩
  · simp only [lookM, goneM, if_pos h, Int.toNat_natCast]
    exact mDrop p l hl hn j hj
  · simp only [lookM, goneM, if_neg h]
    exact mDrop_out p l i h0
theorem tCopy (p : Nat) (l : List Msg) (hl : fewM l) (i : Int) :
    Triple Try.prog 21 [.pointer (some ⟨p, 0, none⟩), .int .i64 i] [NetM p l] [] Unit (fun _ => .bool (copyM l i).2) (fun _ => True) (fun _ => [NetM p (copyM l i).1]) := by
  rcases inM_cases l i with ⟨j, rfl, hj, h⟩ | ⟨h0, h⟩
  · simp only [copyM, sendM, if_pos h, Int.toNat_natCast, List.getD_eq_getElem?_getD, List.getElem?_eq_getElem hj, Option.getD_some]
    by_cases hk : l.length < 512
    · simp only [if_pos hk]
      exact mCopy p l hl hk j hj
    · simp only [if_neg hk]
      exact mCopy_full p l hl (by omega) j hj
  · simp only [copyM, if_neg h]
    exact mCopy_out p l i h0
theorem tSend (p : Nat) (l : List Msg) (m : MailS) (es : List Ent) (A : Option Addr) (c : Nat) (hn : es.length ≤ 1000000000) :
    Triple Try.prog 20 [.pointer (some ⟨p, 0, none⟩), mailV m A es.length c] [NetM p l] [Rd 6 A es.length (es.flatMap encE)] Unit (fun _ => .bool (sendM l ⟨m, es⟩).2) (fun _ => True) (fun _ => [NetM p (sendM l ⟨m, es⟩).1]) := by
  by_cases hk : l.length < 512
  · simp only [sendM, if_pos hk]
    exact mSend p l hk m es A c hn
  · simp only [sendM, if_neg hk]
    exact (mSend_full p l (by omega) m A es.length c).reads (fun A hA => by cases hA)
end Go.Proofs.Yteleepinalcjeaa
