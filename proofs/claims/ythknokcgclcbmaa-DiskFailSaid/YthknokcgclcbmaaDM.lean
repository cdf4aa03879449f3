/-
  What is proved: acts with a disk; lists that are the same. Conditions: none.
-/
import Derived.Test.YthknokcgclcbmaaDL
import Derived.Test.YthknokcgclcbmaaGl3
namespace Go.Proofs.Ythknokcgclcbmaa
open Go.Sy

/-- an act -/
structure ActD where
  k : Int
  n : ByteArray
  o : ByteArray
  d : ByteArray
  z : Int
  K : List Int
  A : Option Addr
  c : Nat
instance : Inhabited ActD := ⟨⟨0, .empty, .empty, .empty, 0, [], none, 0⟩⟩
def encA (x : ActD) : List Value := [.int .u8 x.k, .string x.n, .string x.o, .string x.d, .int .i64 x.z, .slice x.A x.K.length x.c]
theorem encA_len (x : ActD) : (encA x).length = 6 := rfl
def ActD.rd (x : ActD) : Asn := Rd 1 x.A x.K.length (x.K.flatMap encN)
def Acts (l : List ActD) : Asn := ⟨fun h => ∀ x ∈ l, x.rd.holds h, fun e p x hx => x.rd.mono e (p x hx)⟩
/-- what an act comes to -/
def doesD (D : DK) (x : ActD) : DK × Int :=
  if x.k % 12 = 4 then syncD D x.n else if x.k % 12 = 5 then truncD D x.n x.z else if x.k % 12 = 6 then renD D x.n x.o else if x.k % 12 = 7 then remD D x.n else if x.k % 12 = 8 then crashD D x.K else if x.k % 12 = 9 ∨ x.k % 12 = 10 then startD D else if x.k % 12 = 11 then failD D x.z x.K else appD D x.n x.d
/-- an act that is not too great -/
structure fineA (x : ActD) : Prop where
  k : 0 ≤ x.k ∧ x.k < 256
  z : x.z ≤ 9223372036854775807
  n : x.n.size ≤ 1000
  o : x.o.size ≤ 1000
  d : x.d.size ≤ 5000
  K : x.K.length ≤ 100
theorem chg_starts (D : DK) (late : Bool) (L2 : List Fl) : (chg D late L2).1.starts = D.starts ∧ (chg D late L2).1.most = D.most := by
  unfold chg
  split
  · exact ⟨rfl, rfl⟩
  · split <;> exact ⟨rfl, rfl⟩
theorem does_starts (D : DK) (x : ActD) : D.starts ≤ (doesD D x).1.starts ∧ (doesD D x).1.starts ≤ D.starts + 1 ∧ (doesD D x).1.most = D.most := by
  have hc := chg_starts D
  unfold doesD syncD truncD renD remD crashD startD failD appD
  repeat' split
  all_goals first | (rw [(hc _ _).1]; exact ⟨by omega, by omega, (hc _ _).2⟩) | (refine ⟨?_, ?_, rfl⟩ <;> simp only <;> omega)
theorem does_ok {D : DK} (h : okD D) {x : ActD} (hx : fineA x) : okD (doesD D x).1 := by
  unfold doesD
  repeat' split
  · exact sync_ok h _
  · exact trunc_ok h _ _
  · exact ren_ok h _ _
  · exact rem_ok h _
  · exact crash_ok h _
  · exact start_ok h
  · exact fail_ok h _ hx.z _
  · exact app_ok h _ _
set_option maxRecDepth 100000 in
theorem doesT (p : Nat) (D : DK) (x : ActD) (hD : okD D) (hx : fineA x) (h0 : 0 ≤ D.starts) (h1 : D.starts ≤ 1000000000) :
    Triple Try.prog 13 [.pointer (some ⟨p, 0, none⟩), .agg #[.int .u8 x.k, .string x.n, .string x.o, .string x.d, .int .i64 x.z, .slice x.A x.K.length x.c]] [DiskM p D] [Rd 1 x.A x.K.length (x.K.flatMap encN)] Unit (fun _ => .int .i64 (doesD D x).2) (fun _ => True) (fun _ => [DiskM p (doesD D x).1]) := by
  have hk := hx.k
  have h12 : x.k.tmod 12 = x.k % 12 := Int.tmod_eq_emod_of_nonneg hk.1
  have T1 := syncM p D x.n hD
  have T2 := truncM p D x.n x.z hD
  have T3 := renM p D x.n x.o hD
  have T4 := remM p D x.n hD
  have T5 := crashM p D x.A x.K.length x.c x.K hD rfl
  have T6 := startM p D hD h0 h1
  have T7 := failM p D x.z x.A x.K.length x.c x.K hD rfl (Nat.le_trans hx.K (by decide))
  have T8 := appM p D x.n x.d hD (Nat.le_trans hx.d (by decide))
  refine triple_intro Try.tbs_ok Try.func13 rfl [.va (.pointer (some ⟨p, 0, none⟩)), .ag [.va (.int .u8 x.k), .va (.string x.n), .va (.string x.o), .va (.string x.d), .va (.int .i64 x.z), .va (.slice x.A x.K.length x.c)]] [.fact (DiskM p D)] ⟨trivial, by simp [SV.good, SV.goodL], trivial⟩ rfl (by simp []) ?_
  intro E
  rcases show x.k % 12 = 4 ∨ x.k % 12 = 5 ∨ x.k % 12 = 6 ∨ x.k % 12 = 7 ∨ x.k % 12 = 8 ∨ (x.k % 12 = 9 ∨ x.k % 12 = 10) ∨ x.k % 12 = 11 ∨ x.k % 12 < 4 by omega with h | h | h | h | h | h | h | h
  · have e : doesD D x = syncD D x.n := by unfold doesD; rw [if_pos h]
    rw [e]
    refine go Try.tbs_ok 1000 ?_
    refine ev_new fun b20 => ?_
    refine ev_if_yes (beq_iff_eq.2 (show x.k.tmod 12 = 4 from (by omega))) ?_
    refine go Try.tbs_ok 1000 ?_
    refine ev_callF (T1 ) [0] [] rfl rfl (by decide) rfl (by simp) (fun _ => (by repeat (first | exact trivial | refine ⟨rfl, ?_⟩))) (fun _ h21 => ?_)
    refine go Try.tbs_ok 1000 ?_
    refine ev_fin ⟨trivial, _, rfl, (()), rfl, (by trivial), Frm.sel [0] rfl (by decide)⟩
  · have e : doesD D x = truncD D x.n x.z := by unfold doesD; rw [if_neg (by omega), if_pos h]
    rw [e]
    refine go Try.tbs_ok 1000 ?_
    refine ev_new fun b20 => ?_
    refine ev_if_no (beq_eq_false_iff_ne.2 (show ¬x.k.tmod 12 = 4 from (by omega))) ?_
    refine go Try.tbs_ok 1000 ?_
    refine ev_if_yes (beq_iff_eq.2 (show x.k.tmod 12 = 5 from (by omega))) ?_
    refine go Try.tbs_ok 1000 ?_
    refine ev_callF (T2 ) [0] [] rfl rfl (by decide) rfl (by simp) (fun _ => (by repeat (first | exact trivial | refine ⟨rfl, ?_⟩))) (fun _ h21 => ?_)
    refine go Try.tbs_ok 1000 ?_
    refine ev_fin ⟨trivial, _, rfl, (()), rfl, (by trivial), Frm.sel [0] rfl (by decide)⟩
  · have e : doesD D x = renD D x.n x.o := by unfold doesD; rw [if_neg (by omega), if_neg (by omega), if_pos h]
    rw [e]
    refine go Try.tbs_ok 1000 ?_
    refine ev_new fun b20 => ?_
    refine ev_if_no (beq_eq_false_iff_ne.2 (show ¬x.k.tmod 12 = 4 from (by omega))) ?_
    refine go Try.tbs_ok 1000 ?_
    refine ev_if_no (beq_eq_false_iff_ne.2 (show ¬x.k.tmod 12 = 5 from (by omega))) ?_
    refine go Try.tbs_ok 1000 ?_
    refine ev_if_yes (beq_iff_eq.2 (show x.k.tmod 12 = 6 from (by omega))) ?_
    refine go Try.tbs_ok 1000 ?_
    refine ev_callF (T3 ) [0] [] rfl rfl (by decide) rfl (by simp) (fun _ => (by repeat (first | exact trivial | refine ⟨rfl, ?_⟩))) (fun _ h21 => ?_)
    refine go Try.tbs_ok 1000 ?_
    refine ev_fin ⟨trivial, _, rfl, (()), rfl, (by trivial), Frm.sel [0] rfl (by decide)⟩
  · have e : doesD D x = remD D x.n := by unfold doesD; rw [if_neg (by omega), if_neg (by omega), if_neg (by omega), if_pos h]
    rw [e]
    refine go Try.tbs_ok 1000 ?_
    refine ev_new fun b20 => ?_
    refine ev_if_no (beq_eq_false_iff_ne.2 (show ¬x.k.tmod 12 = 4 from (by omega))) ?_
    refine go Try.tbs_ok 1000 ?_
    refine ev_if_no (beq_eq_false_iff_ne.2 (show ¬x.k.tmod 12 = 5 from (by omega))) ?_
    refine go Try.tbs_ok 1000 ?_
    refine ev_if_no (beq_eq_false_iff_ne.2 (show ¬x.k.tmod 12 = 6 from (by omega))) ?_
    refine go Try.tbs_ok 1000 ?_
    refine ev_if_yes (beq_iff_eq.2 (show x.k.tmod 12 = 7 from (by omega))) ?_
    refine go Try.tbs_ok 1000 ?_
    refine ev_callF (T4 ) [0] [] rfl rfl (by decide) rfl (by simp) (fun _ => (by repeat (first | exact trivial | refine ⟨rfl, ?_⟩))) (fun _ h21 => ?_)
    refine go Try.tbs_ok 1000 ?_
    refine ev_fin ⟨trivial, _, rfl, (()), rfl, (by trivial), Frm.sel [0] rfl (by decide)⟩
  · have e : doesD D x = crashD D x.K := by unfold doesD; rw [if_neg (by omega), if_neg (by omega), if_neg (by omega), if_neg (by omega), if_pos h]
    rw [e]
    refine go Try.tbs_ok 1000 ?_
    refine ev_new fun b20 => ?_
    refine ev_if_no (beq_eq_false_iff_ne.2 (show ¬x.k.tmod 12 = 4 from (by omega))) ?_
    refine go Try.tbs_ok 1000 ?_
    refine ev_if_no (beq_eq_false_iff_ne.2 (show ¬x.k.tmod 12 = 5 from (by omega))) ?_
    refine go Try.tbs_ok 1000 ?_
    refine ev_if_no (beq_eq_false_iff_ne.2 (show ¬x.k.tmod 12 = 6 from (by omega))) ?_
    refine go Try.tbs_ok 1000 ?_
    refine ev_if_no (beq_eq_false_iff_ne.2 (show ¬x.k.tmod 12 = 7 from (by omega))) ?_
    refine go Try.tbs_ok 1000 ?_
    refine ev_if_yes (beq_iff_eq.2 (show x.k.tmod 12 = 8 from (by omega))) ?_
    refine go Try.tbs_ok 1000 ?_
    refine ev_callF (T5 ) [0] [.inl 0] rfl rfl (by decide) rfl (by simp) (fun _ => (by repeat (first | exact trivial | refine ⟨rfl, ?_⟩))) (fun _ h21 => ?_)
    refine go Try.tbs_ok 1000 ?_
    refine ev_fin ⟨trivial, _, rfl, (()), rfl, (by trivial), Frm.sel [0] rfl (by decide)⟩
  · have e : doesD D x = startD D := by unfold doesD; rw [if_neg (by omega), if_neg (by omega), if_neg (by omega), if_neg (by omega), if_neg (by omega), if_pos h]
    rw [e]
    refine go Try.tbs_ok 1000 ?_
    refine ev_new fun b20 => ?_
    refine ev_if_no (beq_eq_false_iff_ne.2 (show ¬x.k.tmod 12 = 4 from (by omega))) ?_
    refine go Try.tbs_ok 1000 ?_
    refine ev_if_no (beq_eq_false_iff_ne.2 (show ¬x.k.tmod 12 = 5 from (by omega))) ?_
    refine go Try.tbs_ok 1000 ?_
    refine ev_if_no (beq_eq_false_iff_ne.2 (show ¬x.k.tmod 12 = 6 from (by omega))) ?_
    refine go Try.tbs_ok 1000 ?_
    refine ev_if_no (beq_eq_false_iff_ne.2 (show ¬x.k.tmod 12 = 7 from (by omega))) ?_
    refine go Try.tbs_ok 1000 ?_
    refine ev_if_no (beq_eq_false_iff_ne.2 (show ¬x.k.tmod 12 = 8 from (by omega))) ?_
    refine go Try.tbs_ok 1000 ?_
    refine ev_if_eq (fun h21 => ?_) (fun h21 => ?_)
    refine go Try.tbs_ok 1000 ?_
    refine ev_if_yes (beq_iff_eq.2 (by with_reducible assumption)) ?_
    refine go Try.tbs_ok 1000 ?_
    refine ev_callF (T6 ) [0] [] rfl rfl (by decide) rfl (by simp) (fun _ => (by repeat (first | exact trivial | refine ⟨rfl, ?_⟩))) (fun _ h22 => ?_)
    refine go Try.tbs_ok 1000 ?_
    refine ev_fin ⟨trivial, _, rfl, (()), rfl, (by trivial), Frm.sel [0] rfl (by decide)⟩
    refine go Try.tbs_ok 1000 ?_
    refine ev_if_yes (beq_iff_eq.2 (show x.k.tmod 12 = 10 from (by omega))) ?_
    refine go Try.tbs_ok 1000 ?_
    refine ev_callF (T6 ) [0] [] rfl rfl (by decide) rfl (by simp) (fun _ => (by repeat (first | exact trivial | refine ⟨rfl, ?_⟩))) (fun _ h23 => ?_)
    refine go Try.tbs_ok 1000 ?_
    refine ev_fin ⟨trivial, _, rfl, (()), rfl, (by trivial), Frm.sel [0] rfl (by decide)⟩
  · have e : doesD D x = failD D x.z x.K := by unfold doesD; rw [if_neg (by omega), if_neg (by omega), if_neg (by omega), if_neg (by omega), if_neg (by omega), if_neg (by omega), if_pos h]
    rw [e]
    refine go Try.tbs_ok 1000 ?_
    refine ev_new fun b20 => ?_
    refine ev_if_no (beq_eq_false_iff_ne.2 (show ¬x.k.tmod 12 = 4 from (by omega))) ?_
    refine go Try.tbs_ok 1000 ?_
    refine ev_if_no (beq_eq_false_iff_ne.2 (show ¬x.k.tmod 12 = 5 from (by omega))) ?_
    refine go Try.tbs_ok 1000 ?_
    refine ev_if_no (beq_eq_false_iff_ne.2 (show ¬x.k.tmod 12 = 6 from (by omega))) ?_
    refine go Try.tbs_ok 1000 ?_
    refine ev_if_no (beq_eq_false_iff_ne.2 (show ¬x.k.tmod 12 = 7 from (by omega))) ?_
    refine go Try.tbs_ok 1000 ?_
    refine ev_if_no (beq_eq_false_iff_ne.2 (show ¬x.k.tmod 12 = 8 from (by omega))) ?_
    refine go Try.tbs_ok 1000 ?_
    refine ev_if_no (beq_eq_false_iff_ne.2 (show ¬x.k.tmod 12 = 9 from (by omega))) ?_
    refine go Try.tbs_ok 1000 ?_
    refine ev_if_no (beq_eq_false_iff_ne.2 (show ¬x.k.tmod 12 = 10 from (by omega))) ?_
    refine go Try.tbs_ok 1000 ?_
    refine ev_if_yes (beq_iff_eq.2 (show x.k.tmod 12 = 11 from (by omega))) ?_
    refine go Try.tbs_ok 1000 ?_
    refine ev_callF (T7 ) [0] [.inl 0] rfl rfl (by decide) rfl (by simp) (fun _ => (by repeat (first | exact trivial | refine ⟨rfl, ?_⟩))) (fun _ h21 => ?_)
    refine go Try.tbs_ok 1000 ?_
    refine ev_fin ⟨trivial, _, rfl, (()), rfl, (by trivial), Frm.sel [0] rfl (by decide)⟩
  · have e : doesD D x = appD D x.n x.d := by unfold doesD; rw [if_neg (by omega), if_neg (by omega), if_neg (by omega), if_neg (by omega), if_neg (by omega), if_neg (by omega), if_neg (by omega)]
    rw [e]
    refine go Try.tbs_ok 1000 ?_
    refine ev_new fun b20 => ?_
    refine ev_if_no (beq_eq_false_iff_ne.2 (show ¬x.k.tmod 12 = 4 from (by omega))) ?_
    refine go Try.tbs_ok 1000 ?_
    refine ev_if_no (beq_eq_false_iff_ne.2 (show ¬x.k.tmod 12 = 5 from (by omega))) ?_
    refine go Try.tbs_ok 1000 ?_
    refine ev_if_no (beq_eq_false_iff_ne.2 (show ¬x.k.tmod 12 = 6 from (by omega))) ?_
    refine go Try.tbs_ok 1000 ?_
    refine ev_if_no (beq_eq_false_iff_ne.2 (show ¬x.k.tmod 12 = 7 from (by omega))) ?_
    refine go Try.tbs_ok 1000 ?_
    refine ev_if_no (beq_eq_false_iff_ne.2 (show ¬x.k.tmod 12 = 8 from (by omega))) ?_
    refine go Try.tbs_ok 1000 ?_
    refine ev_if_no (beq_eq_false_iff_ne.2 (show ¬x.k.tmod 12 = 9 from (by omega))) ?_
    refine go Try.tbs_ok 1000 ?_
    refine ev_if_no (beq_eq_false_iff_ne.2 (show ¬x.k.tmod 12 = 10 from (by omega))) ?_
    refine go Try.tbs_ok 1000 ?_
    refine ev_if_no (beq_eq_false_iff_ne.2 (show ¬x.k.tmod 12 = 11 from (by omega))) ?_
    refine go Try.tbs_ok 1000 ?_
    refine ev_callF (T8 ) [0] [] rfl rfl (by decide) rfl (by simp) (fun _ => (by repeat (first | exact trivial | refine ⟨rfl, ?_⟩))) (fun _ h21 => ?_)
    refine go Try.tbs_ok 1000 ?_
    refine ev_fin ⟨trivial, _, rfl, (()), rfl, (by trivial), Frm.sel [0] rfl (by decide)⟩
set_option maxRecDepth 100000 in
theorem sameInts (A B : Option Addr) (L M : List Int) (m c n d : Nat) (hm : m = L.length) (hn : n = M.length) (h1 : m ≤ 1000000) :
    Triple Try.prog 19 [.slice A m c, .slice B n d] [] [Rd 1 A m (L.flatMap encN), Rd 1 B n (M.flatMap encN)] Unit (fun _ => .bool (decide (L = M))) (fun _ => True) (fun _ => []) := by
  refine triple_intro Try.tbs_ok Try.func19 rfl [.va (.slice A m c), .va (.slice B n d)] [] ⟨trivial, trivial, trivial⟩ rfl (by simp) ?_
  intro E
  refine go Try.tbs_ok 1000 ?_
  refine ev_if_ne (fun h0 => ?_) (fun h0 => ?_)
  refine go Try.tbs_ok 1000 ?_
  refine ev_fin ⟨trivial, _, rfl, (()), ?_, (by trivial), Frm.nil _⟩
  rotate_left
  refine go Try.tbs_ok 1000 ?_
  rotate_left
  · exact congrArg Value.bool (decide_eq_false (fun e => by rw [e] at hm; omega)).symm
  · have hmn : m = n := by omega
    refine ev_stop (go_loopR [4, 5, 11, 12, 13, 14, 15, 16, 17, 18, 19, 20, 21, 22, 23, 24, 25] (fun i => [(5, .va (.int .i64 (i : Nat)))]) (fun _ => []) (fun i => i ≤ m ∧ L.take i = M.take i) (fun i => m - i) (0 : Nat) ⟨Nat.zero_le _, rfl⟩ ⟨⟨by kernel_rfl, by kernel_rfl⟩, ⟨_, rfl⟩, ⟨_, rfl⟩, by kernel_rfl, by kernel_rfl⟩ (fun i h_ => ?_))
    obtain ⟨hi, hi2⟩ := h_
    refine go Try.tbs_ok 1000 ?_
    refine ev_if_lt (fun h20 => ?_) (fun h20 => ?_)
    refine go Try.tbs_ok 1000 ?_
    refine ev_stop (go_draw Try.tbs_ok true [] [(0,true),(1,true),(2,true),(3,true),(4,true),(5,true),(6,true),(7,true),(8,true)] rfl ?_)
    refine go Try.tbs_ok 1000 ?_
    refine ev_need ⟨⟨(by repeat (first | exact trivial | refine ⟨rfl, ?_⟩)), rfl⟩, by kernel_rfl⟩ ?_
    refine ev_stop (tk_indexE (sz := 1) Try.tbs_ok (.inl 0) (i) ⟨⟨(by repeat (first | exact trivial | refine ⟨rfl, ?_⟩)), rfl⟩, by kernel_rfl⟩ rfl rfl rfl rfl rfl rfl rfl (by omega) rfl (fun _ h => h) (fun g21 o23 e22 => ?_))
    subst e22
    refine go Try.tbs_ok 1000 ?_
    refine ev_need ⟨⟨(by repeat (first | exact trivial | refine ⟨rfl, ?_⟩)), rfl⟩, by kernel_rfl⟩ ?_
    have l24 : i < (L).length := (by omega)
    refine ev_stop (tk_loadE Try.tbs_ok (.inl 0) (i) 0 ⟨⟨(by repeat (first | exact trivial | refine ⟨rfl, ?_⟩)), rfl⟩, by kernel_rfl⟩ rfl rfl rfl rfl rfl (fun _ h => h) (by omega) (fun _ => rfl) (by omega) l24 (by decide) ?_)
    refine go Try.tbs_ok 1000 ?_
    refine ev_need ⟨⟨(by repeat (first | exact trivial | refine ⟨rfl, ?_⟩)), rfl⟩, by kernel_rfl⟩ ?_
    refine ev_stop (tk_indexE (sz := 1) Try.tbs_ok (.inl 1) (i) ⟨⟨(by repeat (first | exact trivial | refine ⟨rfl, ?_⟩)), rfl⟩, by kernel_rfl⟩ rfl rfl rfl rfl rfl rfl rfl (by omega) rfl (fun _ h => h) (fun g25 o27 e26 => ?_))
    subst e26
    refine go Try.tbs_ok 1000 ?_
    refine ev_need ⟨⟨(by repeat (first | exact trivial | refine ⟨rfl, ?_⟩)), rfl⟩, by kernel_rfl⟩ ?_
    have l28 : i < (M).length := (by omega)
    refine ev_stop (tk_loadE Try.tbs_ok (.inl 1) (i) 0 ⟨⟨(by repeat (first | exact trivial | refine ⟨rfl, ?_⟩)), rfl⟩, by kernel_rfl⟩ rfl rfl rfl rfl rfl (fun _ h => h) (by omega) (fun _ => rfl) (by omega) l28 (by decide) ?_)
    refine go Try.tbs_ok 1000 ?_
    refine ev_need ⟨⟨(by repeat (first | exact trivial | refine ⟨rfl, ?_⟩)), rfl⟩, by kernel_rfl⟩ ?_
    refine ev_if_ne (fun h29 => ?_) (fun h29 => ?_)
    refine go Try.tbs_ok 1000 ?_
    refine ev_fin ⟨trivial, _, rfl, (()), ?_, (by trivial), Frm.nil _⟩
    rotate_left
    refine go Try.tbs_ok 1000 ?_
    refine ev_wrapN (i + 1) (by constructor <;> omega) (by rfl) ?_
    refine ev_fin (round_next (i + 1) (?_ : i + 1 ≤ m ∧ List.take (i + 1) L = List.take (i + 1) M) (show m - (i + 1) < m - i from (by omega)) ⟨⟨by kernel_rfl, by kernel_rfl⟩, ⟨_, rfl⟩, ⟨_, rfl⟩, by kernel_rfl, by kernel_rfl⟩)
    rotate_left
    refine go Try.tbs_ok 1000 ?_
    refine ev_fin (go Try.tbs_ok 1000 ?_)
    refine ev_fin ⟨trivial, _, rfl, (()), ?_, (by trivial), Frm.nil _⟩
    rotate_left
    · exact congrArg Value.bool (decide_eq_false (fun e => by subst e; exact h29 rfl)).symm
    · refine ⟨by omega, ?_⟩
      rw [← List.take_append_getElem l24, ← List.take_append_getElem l28, hi2]
      rw [h29]
    · refine congrArg Value.bool (decide_eq_true ?_).symm
      rw [List.take_of_length_le (by omega), List.take_of_length_le (by omega)] at hi2
      exact hi2
set_option maxRecDepth 100000 in
theorem sameTexts (A B : Option Addr) (L M : List ByteArray) (m c n d : Nat) (hm : m = L.length) (hn : n = M.length) (h1 : m ≤ 1000000) :
    Triple Try.prog 14 [.slice A m c, .slice B n d] [] [Rd 1 A m (L.flatMap encS), Rd 1 B n (M.flatMap encS)] Unit (fun _ => .bool (decide (L = M))) (fun _ => True) (fun _ => []) := by
  refine triple_intro Try.tbs_ok Try.func14 rfl [.va (.slice A m c), .va (.slice B n d)] [] ⟨trivial, trivial, trivial⟩ rfl (by simp) ?_
  intro E
  refine go Try.tbs_ok 1000 ?_
  refine ev_if_ne (fun h0 => ?_) (fun h0 => ?_)
  refine go Try.tbs_ok 1000 ?_
  refine ev_fin ⟨trivial, _, rfl, (()), ?_, (by trivial), Frm.nil _⟩
  rotate_left
  refine go Try.tbs_ok 1000 ?_
  rotate_left
  · exact congrArg Value.bool (decide_eq_false (fun e => by rw [e] at hm; omega)).symm
  · have hmn : m = n := by omega
    refine ev_stop (go_loopR [4, 5, 11, 12, 13, 14, 15, 16, 17, 18, 19, 20, 21, 22, 23, 24, 25] (fun i => [(5, .va (.int .i64 (i : Nat)))]) (fun _ => []) (fun i => i ≤ m ∧ L.take i = M.take i) (fun i => m - i) (0 : Nat) ⟨Nat.zero_le _, rfl⟩ ⟨⟨by kernel_rfl, by kernel_rfl⟩, ⟨_, rfl⟩, ⟨_, rfl⟩, by kernel_rfl, by kernel_rfl⟩ (fun i h_ => ?_))
    obtain ⟨hi, hi2⟩ := h_
    refine go Try.tbs_ok 1000 ?_
    refine ev_if_lt (fun h20 => ?_) (fun h20 => ?_)
    refine go Try.tbs_ok 1000 ?_
    refine ev_stop (go_draw Try.tbs_ok true [] [(0,true),(1,true),(2,true),(3,true),(4,true),(5,true),(6,true),(7,true),(8,true)] rfl ?_)
    refine go Try.tbs_ok 1000 ?_
    refine ev_need ⟨⟨(by repeat (first | exact trivial | refine ⟨rfl, ?_⟩)), rfl⟩, by kernel_rfl⟩ ?_
    refine ev_stop (tk_indexE (sz := 1) Try.tbs_ok (.inl 0) (i) ⟨⟨(by repeat (first | exact trivial | refine ⟨rfl, ?_⟩)), rfl⟩, by kernel_rfl⟩ rfl rfl rfl rfl rfl rfl rfl (by omega) rfl (fun _ h => h) (fun g21 o23 e22 => ?_))
    subst e22
    refine go Try.tbs_ok 1000 ?_
    refine ev_need ⟨⟨(by repeat (first | exact trivial | refine ⟨rfl, ?_⟩)), rfl⟩, by kernel_rfl⟩ ?_
    have l24 : i < (L).length := (by omega)
    refine ev_stop (tk_loadE Try.tbs_ok (.inl 0) (i) 0 ⟨⟨(by repeat (first | exact trivial | refine ⟨rfl, ?_⟩)), rfl⟩, by kernel_rfl⟩ rfl rfl rfl rfl rfl (fun _ h => h) (by omega) (fun _ => rfl) (by omega) l24 (by decide) ?_)
    refine go Try.tbs_ok 1000 ?_
    refine ev_need ⟨⟨(by repeat (first | exact trivial | refine ⟨rfl, ?_⟩)), rfl⟩, by kernel_rfl⟩ ?_
    refine ev_stop (tk_indexE (sz := 1) Try.tbs_ok (.inl 1) (i) ⟨⟨(by repeat (first | exact trivial | refine ⟨rfl, ?_⟩)), rfl⟩, by kernel_rfl⟩ rfl rfl rfl rfl rfl rfl rfl (by omega) rfl (fun _ h => h) (fun g25 o27 e26 => ?_))
    subst e26
    refine go Try.tbs_ok 1000 ?_
    refine ev_need ⟨⟨(by repeat (first | exact trivial | refine ⟨rfl, ?_⟩)), rfl⟩, by kernel_rfl⟩ ?_
    have l28 : i < (M).length := (by omega)
    refine ev_stop (tk_loadE Try.tbs_ok (.inl 1) (i) 0 ⟨⟨(by repeat (first | exact trivial | refine ⟨rfl, ?_⟩)), rfl⟩, by kernel_rfl⟩ rfl rfl rfl rfl rfl (fun _ h => h) (by omega) (fun _ => rfl) (by omega) l28 (by decide) ?_)
    refine go Try.tbs_ok 1000 ?_
    refine ev_need ⟨⟨(by repeat (first | exact trivial | refine ⟨rfl, ?_⟩)), rfl⟩, by kernel_rfl⟩ ?_
    refine ev_if_nd (fun h29 => ?_) (fun h29 => ?_)
    refine go Try.tbs_ok 1000 ?_
    refine ev_fin ⟨trivial, _, rfl, (()), ?_, (by trivial), Frm.nil _⟩
    rotate_left
    refine go Try.tbs_ok 1000 ?_
    refine ev_wrapN (i + 1) (by constructor <;> omega) (by rfl) ?_
    refine ev_fin (round_next (i + 1) (?_ : i + 1 ≤ m ∧ List.take (i + 1) L = List.take (i + 1) M) (show m - (i + 1) < m - i from (by omega)) ⟨⟨by kernel_rfl, by kernel_rfl⟩, ⟨_, rfl⟩, ⟨_, rfl⟩, by kernel_rfl, by kernel_rfl⟩)
    rotate_left
    refine go Try.tbs_ok 1000 ?_
    refine ev_fin (go Try.tbs_ok 1000 ?_)
    refine ev_fin ⟨trivial, _, rfl, (()), ?_, (by trivial), Frm.nil _⟩
    rotate_left
    · exact congrArg Value.bool (decide_eq_false (fun e => by subst e; exact h29 rfl)).symm
    · refine ⟨by omega, ?_⟩
      rw [← List.take_append_getElem l24, ← List.take_append_getElem l28, hi2]
      rw [h29]
    · refine congrArg Value.bool (decide_eq_true ?_).symm
      rw [List.take_of_length_le (by omega), List.take_of_length_le (by omega)] at hi2
      exact hi2
end Go.Proofs.Ythknokcgclcbmaa
