/-
  What is proved: NetsCount's walk. Conditions: none.
-/
import Derived.Test.YteleepinalcjeaaNU
namespace Go.Proofs.Yteleepinalcjeaa
open Go.Sy

/-- an act of which is known what it comes to -/
theorem doesR (p : Nat) (l : List Msg) (hl : fewM l) (hn : l.length ≤ 1000000000) (k : Int) (s : MailS) (es : List Ent) (i : Int) (hk : 0 ≤ k ∧ k < 256) (hx : es.length ≤ 1000000000) (R : List Msg × Msg × Bool) (hR : R = actM l k ⟨s, es⟩ i) (a : Option Addr) (d : Nat) :
    Triple Try.prog 11 [.pointer (some ⟨p, 0, none⟩), .agg (actL k s a es.length d i).toArray] [NetM p l] [Rd 6 a es.length (es.flatMap encE)] (Option Addr)
      (fun A => .tuple #[(R.2.1.at A).val, .bool R.2.2]) (fun _ => True) (fun A => [NetM p R.1, (R.2.1.at A).own]) := by
  subst hR
  exact does p l hl hn ⟨k, ⟨s, es, a, d⟩, i⟩ hk hx
theorem look_ok (l : List Msg) (i : Int) : (lookM l i).2 = decide (inM l i) := by
  unfold lookM
  split <;> simp [*]
theorem gone_length (l : List Msg) (i : Int) : ((goneM l i).length : Int) = l.length - (if (lookM l i).2 then 1 else 0) := by
  rw [look_ok]
  unfold goneM
  split
  · rename_i h
    have : i.toNat < l.length := by have := h.1; have := h.2; omega
    rw [List.length_eraseIdx, if_pos this]
    simp [h]
    omega
  · rename_i h
    simp [h]
theorem send_length (l : List Msg) (m : Msg) : ((sendM l m).1.length : Int) = l.length + (if (sendM l m).2 then 1 else 0) := by
  unfold sendM
  split <;> simp
theorem copy_length (l : List Msg) (i : Int) : ((copyM l i).1.length : Int) = l.length + (if (copyM l i).2 then 1 else 0) := by
  unfold copyM
  split
  · exact send_length _ _
  · simp
theorem act_length (l : List Msg) (k : Int) (m : Msg) (i : Int) : ((actM l k m i).1.length : Int) = l.length + (if (actM l k m i).2.2 then (if k % 9 = 4 then 0 else if k % 9 = 5 ∨ k % 9 = 6 ∨ k % 9 = 8 then -1 else 1) else 0) := by
  unfold actM
  by_cases h4 : k % 9 = 4
  · simp [h4]
  · rw [if_neg h4]
    by_cases h5 : k % 9 = 5 ∨ k % 9 = 6
    · rw [if_pos h5]
      have := gone_length l i
      have h6 : k % 9 = 5 ∨ k % 9 = 6 ∨ k % 9 = 8 := by omega
      simp only [h4, h6, if_true, if_false]
      rw [this]
      split <;> omega
    · rw [if_neg h5]
      by_cases h7 : k % 9 = 7
      · rw [if_pos h7]
        have := copy_length l i
        have h6 : ¬ (k % 9 = 5 ∨ k % 9 = 6 ∨ k % 9 = 8) := by omega
        simp only [h4, h6, if_false]
        exact this
      · rw [if_neg h7]
        by_cases h8 : k % 9 = 8
        · rw [if_pos h8]
          have := gone_length l i
          have h6 : k % 9 = 5 ∨ k % 9 = 6 ∨ k % 9 = 8 := by omega
          simp only [h4, h6, if_true, if_false]
          rw [this]
          split <;> omega
        · rw [if_neg h8]
          have := send_length l m
          have h6 : ¬ (k % 9 = 5 ∨ k % 9 = 6 ∨ k % 9 = 8) := by omega
          simp only [h4, h6, if_false]
          exact this
theorem mAllL (p : Nat) (l : List Msg) (hl : fewM l) (hn : l.length ≤ 512) :
    Triple Try.prog 17 [.pointer (some ⟨p, 0, none⟩)] [NetM p l] [] (List Item × Option Addr × Nat × Nat) (fun (_, A, n, c) => .slice A n c) (fun (I, _, n, _) => I.map Item.msg = l ∧ n = I.length ∧ n = l.length)
      (fun (I, A, n, c) => [NetM p l, Row 36 18 A n c (I.flatMap encI), Asn.star (I.map Item.own)]) :=
  (mAll p l hl hn).imp fun (I, A, c) hI => ⟨(I, A, I.length, c), rfl, ⟨hI, rfl, by
    have := congrArg List.length (show I.map Item.msg = l from hI)
    rw [List.length_map] at this
    exact this⟩, fun _ q => q⟩
set_option maxHeartbeats 8000000 in
set_option maxRecDepth 100000 in
theorem netsCount (A : Option Addr) (l : List ActI) (c : Nat) (hk : ∀ x ∈ l, 0 ≤ x.k ∧ x.k < 256) :
    Triple Try.prog 6 [.slice A l.length c] [] [Rd 20 A l.length (l.flatMap encA), Acts l] Unit (fun _ => .bool true) (fun _ => True) (fun _ => []) := by
  refine triple_intro Try.tbs_ok Try.func6 rfl [.va (.slice A l.length c)] [] ⟨trivial, trivial⟩ rfl (by simp) ?_
  intro E
  refine go Try.tbs_ok 1000 ?_
  refine ev_callF (great (A) (l) (c)) [] [.inl 0] rfl rfl (by decide) rfl (by simp) (fun _ => (by repeat (first | exact trivial | refine ⟨rfl, ?_⟩))) (fun _ h0 => ?_)
  refine go Try.tbs_ok 1000 ?_
  refine ev_if (fun h1 => ?_) (fun h1 => ?_)
  refine go Try.tbs_ok 1000 ?_
  refine ev_fin ⟨trivial, _, rfl, (()), rfl, (by trivial), Frm.nil _⟩
  refine go Try.tbs_ok 1000 ?_
  refine ev_callF (mNew ) [] [] rfl rfl (by decide) rfl (by simp) (fun _ => (by repeat (first | exact trivial | refine ⟨rfl, ?_⟩))) (fun x2 h3 => ?_)
  refine go Try.tbs_ok 1000 ?_
  have h8 : costs l ≤ 4000 ∧ l.length ≤ 800 := by simpa using h1
  have hes : ∀ x ∈ l, x.m.es.length ≤ 4000 := costs_es h8.1
  refine ev_stop (go_loopR [2, 4, 5, 6, 7, 8, 12, 13, 14, 15, 16, 17, 18, 19, 20, 21, 22, 23, 24, 25, 26, 27, 28, 29, 30, 31, 32, 33, 34, 35, 36, 37, 38, 39, 40, 41, 42, 43, 44, 45, 46, 47, 48, 49, 50, 51, 52, 53, 54, 55, 56, 57, 58, 59, 60, 61, 62, 63, 64, 65, 66, 67, 68, 69, 70, 71, 72, 73, 74, 75, 76, 77] (fun (i, _, m) => [(4, .va (.int .i64 m)), (5, .va (.int .i64 (i : Nat)))]) (fun (_, lst, _) => [(0, .fact (NetM x2 lst))]) (fun (i, lst, m) => i ≤ l.length ∧ m = (lst.length : Int) ∧ lst.length ≤ i ∧ lst.length ≤ 512 ∧ ∀ m ∈ lst, m.es.length ≤ 4000) (fun (i, _, _) => l.length - i) ((0, [], 0) : Nat × List Msg × Int) ⟨Nat.zero_le _, rfl, Nat.zero_le _, Nat.zero_le _, (fun _ h => by cases h)⟩ ⟨⟨by kernel_rfl, by kernel_rfl⟩, ⟨_, rfl⟩, ⟨_, rfl⟩, by kernel_rfl, by kernel_rfl⟩ (fun x_ h_ => ?_))
  obtain ⟨i, lst, m⟩ := x_
  obtain ⟨hi, hm, hlen, h512, hle⟩ := h_
  have hfl : fewM lst := fun m hm => Nat.le_trans (hle m hm) (by decide)
  refine go Try.tbs_ok 1000 ?_
  refine ev_if_lt (fun hlt => ?_) (fun hge => ?_)
  · have hil : i < l.length := by
      have : (i : Int) < (l.length : Int) := hlt
      omega
    have hx4 : l[i].m.es.length ≤ 4000 := hes _ (List.getElem_mem hil)
    have hki := hk _ (List.getElem_mem hil)
    have h9 := tmod9 hki
    obtain ⟨R, hR⟩ : ∃ R, R = actM lst l[i].k ⟨l[i].m.s, l[i].m.es⟩ l[i].i := ⟨_, rfl⟩
    obtain ⟨hac, hac2, hac3, hac4⟩ := act_few hle (m := ⟨l[i].m.s, l[i].m.es⟩) hx4 l[i].k l[i].i
    have hac7 := act_length lst l[i].k ⟨l[i].m.s, l[i].m.es⟩ l[i].i
    rw [← hR] at hac hac2 hac3 hac4 hac7
    have hac5 : R.1.length ≤ 512 := hac4 h512
    have hac6 : fewM R.1 := fun m hm => Nat.le_trans (hac2 m hm) (by decide)
    have T1 := doesR x2 lst hfl (by omega) l[i].k l[i].m.s l[i].m.es l[i].i hki (by omega) R hR
    refine go_more 1 (Acts l) (Rd 6 l[i].m.a l[i].m.es.length (l[i].m.es.flatMap encE)) rfl (fun h p => p _ (List.getElem_mem hil)) ?_
    cases hb : R.2.2
    · rw [hb] at T1
      simp only [hb, Bool.false_eq_true, if_false] at hac7
      refine go Try.tbs_ok 1000 ?_
      refine ev_stop (go_indexE (sz := 20) Try.tbs_ok (.inl 0) (i) rfl rfl rfl rfl rfl rfl (by omega) rfl (fun _ h => h) (fun g40 o42 e41 => ?_))
      subst e41
      refine go Try.tbs_ok 1000 ?_
      have l43 : i < (l).length := (by omega)
      refine ev_stop (go_loadE Try.tbs_ok (.inl 0) (i) 0 rfl rfl rfl rfl (fun _ h => h) (by omega) (fun _ => rfl) (by omega) l43 (by decide) ?_)
      refine go Try.tbs_ok 1000 ?_
      refine ev_callF (T1 (l[i].m.a) (l[i].m.c)) [0] [.inl 2] rfl rfl (by decide) rfl (by simp) (fun _ => (by repeat (first | exact trivial | refine ⟨rfl, ?_⟩))) (fun x44 h45 => ?_)
      refine go Try.tbs_ok 1000 ?_
      refine ev_new fun b46 => ?_
      refine ev_stop (go_atE (sz := 20) Try.tbs_ok (i) rfl rfl rfl rfl rfl rfl (by omega) ?_)
      refine go Try.tbs_ok 1000 ?_
      have l47 : i < (l).length := (by omega)
      refine ev_stop (go_loadE Try.tbs_ok (.inl 0) (i) 0 rfl rfl rfl rfl (fun _ h => h) (by omega) (fun _ => rfl) (by omega) l47 (by decide) ?_)
      refine go Try.tbs_ok 1000 ?_
      refine ev_if_no rfl ?_
      refine go Try.tbs_ok 1000 ?_
      refine ev_if_no rfl ?_
      refine go Try.tbs_ok 1000 ?_
      refine ev_callF (mLen (x2) (R.fst)) [0] [] rfl rfl (by decide) rfl (by simp) (fun _ => (by repeat (first | exact trivial | refine ⟨rfl, ?_⟩))) (fun _ h48 => ?_)
      refine go Try.tbs_ok 1000 ?_
      refine ev_if_no (ne_no (show (↑R.fst.length : Int) = m from (by omega))) ?_
      refine go Try.tbs_ok 1000 ?_
      refine ev_if_no (decide_eq_false (show ¬m > 512 from (by omega))) ?_
      refine go Try.tbs_ok 1000 ?_
      refine ev_if_no (decide_eq_false (show ¬m < 0 from (by omega))) ?_
      refine go Try.tbs_ok 1000 ?_
      refine ev_callF (mAllL (x2) (R.fst) (by with_reducible assumption) (by with_reducible assumption)) [0] [] rfl rfl (by decide) rfl (by simp) (fun _ => (by repeat (first | exact trivial | refine ⟨rfl, ?_⟩))) (fun ⟨x49, x50, x51, x52⟩ ⟨h53, h54, h55⟩ => ?_)
      refine go Try.tbs_ok 1000 ?_
      refine ev_if_no (ne_no (show (↑x51 : Int) = m from (by omega))) ?_
      refine go Try.tbs_ok 1000 ?_
      refine ev_wrapN (i + 1) (by constructor <;> omega) (by rfl) ?_
      refine ev_fin (round_next ((i + 1, R.fst, m)) (?_ : i + 1 ≤ l.length ∧ m = (↑R.fst.length : Int) ∧ R.fst.length ≤ i + 1 ∧ R.fst.length ≤ 512 ∧ ∀ (m : Msg), m ∈ R.fst → m.es.length ≤ 4000) (show l.length - (i + 1) < l.length - i from (by omega)) ⟨⟨by kernel_rfl, by kernel_rfl⟩, ⟨_, rfl⟩, ⟨_, rfl⟩, by kernel_rfl, by kernel_rfl⟩)
      exact ⟨by omega, by omega, by omega, hac5, hac2⟩
    · rw [hb] at T1
      simp only [hb, if_true] at hac7
      by_cases h4 : l[i].k % 9 = 4
      · rw [if_pos h4] at hac7
        refine go Try.tbs_ok 1000 ?_
        refine ev_stop (go_indexE (sz := 20) Try.tbs_ok (.inl 0) (i) rfl rfl rfl rfl rfl rfl (by omega) rfl (fun _ h => h) (fun g140 o142 e141 => ?_))
        subst e141
        refine go Try.tbs_ok 1000 ?_
        have l143 : i < (l).length := (by omega)
        refine ev_stop (go_loadE Try.tbs_ok (.inl 0) (i) 0 rfl rfl rfl rfl (fun _ h => h) (by omega) (fun _ => rfl) (by omega) l143 (by decide) ?_)
        refine go Try.tbs_ok 1000 ?_
        refine ev_callF (T1 (l[i].m.a) (l[i].m.c)) [0] [.inl 2] rfl rfl (by decide) rfl (by simp) (fun _ => (by repeat (first | exact trivial | refine ⟨rfl, ?_⟩))) (fun x144 h145 => ?_)
        refine go Try.tbs_ok 1000 ?_
        refine ev_new fun b146 => ?_
        refine ev_stop (go_atE (sz := 20) Try.tbs_ok (i) rfl rfl rfl rfl rfl rfl (by omega) ?_)
        refine go Try.tbs_ok 1000 ?_
        have l147 : i < (l).length := (by omega)
        refine ev_stop (go_loadE Try.tbs_ok (.inl 0) (i) 0 rfl rfl rfl rfl (fun _ h => h) (by omega) (fun _ => rfl) (by omega) l147 (by decide) ?_)
        refine go Try.tbs_ok 1000 ?_
        refine ev_if_yes rfl ?_
        refine go Try.tbs_ok 1000 ?_
        refine ev_if_no (decide_eq_false (show ¬l[i].k.tmod 9 < 4 from (by omega))) ?_
        refine go Try.tbs_ok 1000 ?_
        refine ev_if_no (beq_eq_false_iff_ne.2 (show ¬l[i].k.tmod 9 = 7 from (by omega))) ?_
        refine go Try.tbs_ok 1000 ?_
        refine ev_if_yes rfl ?_
        refine go Try.tbs_ok 1000 ?_
        refine ev_if_no (beq_eq_false_iff_ne.2 (show ¬l[i].k.tmod 9 = 5 from (by omega))) ?_
        refine go Try.tbs_ok 1000 ?_
        refine ev_if_no (beq_eq_false_iff_ne.2 (show ¬l[i].k.tmod 9 = 6 from (by omega))) ?_
        refine go Try.tbs_ok 1000 ?_
        refine ev_if_no (beq_eq_false_iff_ne.2 (show ¬l[i].k.tmod 9 = 8 from (by omega))) ?_
        refine go Try.tbs_ok 1000 ?_
        refine ev_callF (mLen (x2) (R.fst)) [0] [] rfl rfl (by decide) rfl (by simp) (fun _ => (by repeat (first | exact trivial | refine ⟨rfl, ?_⟩))) (fun _ h148 => ?_)
        refine go Try.tbs_ok 1000 ?_
        refine ev_if_no (ne_no (show (↑R.fst.length : Int) = m from (by omega))) ?_
        refine go Try.tbs_ok 1000 ?_
        refine ev_if_no (decide_eq_false (show ¬m > 512 from (by omega))) ?_
        refine go Try.tbs_ok 1000 ?_
        refine ev_if_no (decide_eq_false (show ¬m < 0 from (by omega))) ?_
        refine go Try.tbs_ok 1000 ?_
        refine ev_callF (mAllL (x2) (R.fst) (by with_reducible assumption) (by with_reducible assumption)) [0] [] rfl rfl (by decide) rfl (by simp) (fun _ => (by repeat (first | exact trivial | refine ⟨rfl, ?_⟩))) (fun ⟨x149, x150, x151, x152⟩ ⟨h153, h154, h155⟩ => ?_)
        refine go Try.tbs_ok 1000 ?_
        refine ev_if_no (ne_no (show (↑x151 : Int) = m from (by omega))) ?_
        refine go Try.tbs_ok 1000 ?_
        refine ev_wrapN (i + 1) (by constructor <;> omega) (by rfl) ?_
        refine ev_fin (round_next ((i + 1, R.fst, m)) (?_ : i + 1 ≤ l.length ∧ m = (↑R.fst.length : Int) ∧ R.fst.length ≤ i + 1 ∧ R.fst.length ≤ 512 ∧ ∀ (m : Msg), m ∈ R.fst → m.es.length ≤ 4000) (show l.length - (i + 1) < l.length - i from (by omega)) ⟨⟨by kernel_rfl, by kernel_rfl⟩, ⟨_, rfl⟩, ⟨_, rfl⟩, by kernel_rfl, by kernel_rfl⟩)
        all_goals exact ⟨by omega, by omega, by omega, hac5, hac2⟩
      · rw [if_neg h4] at hac7
        by_cases h5 : l[i].k % 9 = 5 ∨ l[i].k % 9 = 6 ∨ l[i].k % 9 = 8
        · rw [if_pos h5] at hac7
          refine go Try.tbs_ok 1000 ?_
          refine ev_stop (go_indexE (sz := 20) Try.tbs_ok (.inl 0) (i) rfl rfl rfl rfl rfl rfl (by omega) rfl (fun _ h => h) (fun g240 o242 e241 => ?_))
          subst e241
          refine go Try.tbs_ok 1000 ?_
          have l243 : i < (l).length := (by omega)
          refine ev_stop (go_loadE Try.tbs_ok (.inl 0) (i) 0 rfl rfl rfl rfl (fun _ h => h) (by omega) (fun _ => rfl) (by omega) l243 (by decide) ?_)
          refine go Try.tbs_ok 1000 ?_
          refine ev_callF (T1 (l[i].m.a) (l[i].m.c)) [0] [.inl 2] rfl rfl (by decide) rfl (by simp) (fun _ => (by repeat (first | exact trivial | refine ⟨rfl, ?_⟩))) (fun x244 h245 => ?_)
          refine go Try.tbs_ok 1000 ?_
          refine ev_new fun b246 => ?_
          refine ev_stop (go_atE (sz := 20) Try.tbs_ok (i) rfl rfl rfl rfl rfl rfl (by omega) ?_)
          refine go Try.tbs_ok 1000 ?_
          have l247 : i < (l).length := (by omega)
          refine ev_stop (go_loadE Try.tbs_ok (.inl 0) (i) 0 rfl rfl rfl rfl (fun _ h => h) (by omega) (fun _ => rfl) (by omega) l247 (by decide) ?_)
          refine go Try.tbs_ok 1000 ?_
          refine ev_if_yes rfl ?_
          refine go Try.tbs_ok 1000 ?_
          refine ev_if_no (decide_eq_false (show ¬l[i].k.tmod 9 < 4 from (by omega))) ?_
          refine go Try.tbs_ok 1000 ?_
          refine ev_if_no (beq_eq_false_iff_ne.2 (show ¬l[i].k.tmod 9 = 7 from (by omega))) ?_
          refine go Try.tbs_ok 1000 ?_
          refine ev_if_yes rfl ?_
          refine go Try.tbs_ok 1000 ?_
          refine ev_if_eq (fun h248 => ?_) (fun h248 => ?_)
          refine go Try.tbs_ok 1000 ?_
          refine ev_w64 (by constructor <;> omega) ?_
          refine ev_callF (mLen (x2) (R.fst)) [0] [] rfl rfl (by decide) rfl (by simp) (fun _ => (by repeat (first | exact trivial | refine ⟨rfl, ?_⟩))) (fun _ h249 => ?_)
          refine go Try.tbs_ok 1000 ?_
          refine ev_if_no (ne_no (show (↑R.fst.length : Int) = m - 1 from (by omega))) ?_
          refine go Try.tbs_ok 1000 ?_
          refine ev_if_no (decide_eq_false (show ¬m - 1 > 512 from (by omega))) ?_
          refine go Try.tbs_ok 1000 ?_
          refine ev_if_no (decide_eq_false (show ¬m - 1 < 0 from (by omega))) ?_
          refine go Try.tbs_ok 1000 ?_
          refine ev_callF (mAllL (x2) (R.fst) (by with_reducible assumption) (by with_reducible assumption)) [0] [] rfl rfl (by decide) rfl (by simp) (fun _ => (by repeat (first | exact trivial | refine ⟨rfl, ?_⟩))) (fun ⟨x250, x251, x252, x253⟩ ⟨h254, h255, h256⟩ => ?_)
          refine go Try.tbs_ok 1000 ?_
          refine ev_if_no (ne_no (show (↑x252 : Int) = m - 1 from (by omega))) ?_
          refine go Try.tbs_ok 1000 ?_
          refine ev_wrapN (i + 1) (by constructor <;> omega) (by rfl) ?_
          refine ev_fin (round_next ((i + 1, R.fst, m - 1)) (?_ : i + 1 ≤ l.length ∧ m - 1 = (↑R.fst.length : Int) ∧ R.fst.length ≤ i + 1 ∧ R.fst.length ≤ 512 ∧ ∀ (m : Msg), m ∈ R.fst → m.es.length ≤ 4000) (show l.length - (i + 1) < l.length - i from (by omega)) ⟨⟨by kernel_rfl, by kernel_rfl⟩, ⟨_, rfl⟩, ⟨_, rfl⟩, by kernel_rfl, by kernel_rfl⟩)
          rotate_left
          refine go Try.tbs_ok 1000 ?_
          refine ev_if_eq (fun h257 => ?_) (fun h257 => ?_)
          refine go Try.tbs_ok 1000 ?_
          refine ev_w64 (by constructor <;> omega) ?_
          refine ev_callF (mLen (x2) (R.fst)) [0] [] rfl rfl (by decide) rfl (by simp) (fun _ => (by repeat (first | exact trivial | refine ⟨rfl, ?_⟩))) (fun _ h258 => ?_)
          refine go Try.tbs_ok 1000 ?_
          refine ev_if_no (ne_no (show (↑R.fst.length : Int) = m - 1 from (by omega))) ?_
          refine go Try.tbs_ok 1000 ?_
          refine ev_if_no (decide_eq_false (show ¬m - 1 > 512 from (by omega))) ?_
          refine go Try.tbs_ok 1000 ?_
          refine ev_if_no (decide_eq_false (show ¬m - 1 < 0 from (by omega))) ?_
          refine go Try.tbs_ok 1000 ?_
          refine ev_callF (mAllL (x2) (R.fst) (by with_reducible assumption) (by with_reducible assumption)) [0] [] rfl rfl (by decide) rfl (by simp) (fun _ => (by repeat (first | exact trivial | refine ⟨rfl, ?_⟩))) (fun ⟨x259, x260, x261, x262⟩ ⟨h263, h264, h265⟩ => ?_)
          refine go Try.tbs_ok 1000 ?_
          refine ev_if_no (ne_no (show (↑x261 : Int) = m - 1 from (by omega))) ?_
          refine go Try.tbs_ok 1000 ?_
          refine ev_wrapN (i + 1) (by constructor <;> omega) (by rfl) ?_
          refine ev_fin (round_next ((i + 1, R.fst, m - 1)) (?_ : i + 1 ≤ l.length ∧ m - 1 = (↑R.fst.length : Int) ∧ R.fst.length ≤ i + 1 ∧ R.fst.length ≤ 512 ∧ ∀ (m : Msg), m ∈ R.fst → m.es.length ≤ 4000) (show l.length - (i + 1) < l.length - i from (by omega)) ⟨⟨by kernel_rfl, by kernel_rfl⟩, ⟨_, rfl⟩, ⟨_, rfl⟩, by kernel_rfl, by kernel_rfl⟩)
          rotate_left
          refine go Try.tbs_ok 1000 ?_
          refine ev_if_yes (beq_iff_eq.2 (show l[i].k.tmod 9 = 8 from (by omega))) ?_
          refine go Try.tbs_ok 1000 ?_
          refine ev_w64 (by constructor <;> omega) ?_
          refine ev_callF (mLen (x2) (R.fst)) [0] [] rfl rfl (by decide) rfl (by simp) (fun _ => (by repeat (first | exact trivial | refine ⟨rfl, ?_⟩))) (fun _ h266 => ?_)
          refine go Try.tbs_ok 1000 ?_
          refine ev_if_no (ne_no (show (↑R.fst.length : Int) = m - 1 from (by omega))) ?_
          refine go Try.tbs_ok 1000 ?_
          refine ev_if_no (decide_eq_false (show ¬m - 1 > 512 from (by omega))) ?_
          refine go Try.tbs_ok 1000 ?_
          refine ev_if_no (decide_eq_false (show ¬m - 1 < 0 from (by omega))) ?_
          refine go Try.tbs_ok 1000 ?_
          refine ev_callF (mAllL (x2) (R.fst) (by with_reducible assumption) (by with_reducible assumption)) [0] [] rfl rfl (by decide) rfl (by simp) (fun _ => (by repeat (first | exact trivial | refine ⟨rfl, ?_⟩))) (fun ⟨x267, x268, x269, x270⟩ ⟨h271, h272, h273⟩ => ?_)
          refine go Try.tbs_ok 1000 ?_
          refine ev_if_no (ne_no (show (↑x269 : Int) = m - 1 from (by omega))) ?_
          refine go Try.tbs_ok 1000 ?_
          refine ev_wrapN (i + 1) (by constructor <;> omega) (by rfl) ?_
          refine ev_fin (round_next ((i + 1, R.fst, m - 1)) (?_ : i + 1 ≤ l.length ∧ m - 1 = (↑R.fst.length : Int) ∧ R.fst.length ≤ i + 1 ∧ R.fst.length ≤ 512 ∧ ∀ (m : Msg), m ∈ R.fst → m.es.length ≤ 4000) (show l.length - (i + 1) < l.length - i from (by omega)) ⟨⟨by kernel_rfl, by kernel_rfl⟩, ⟨_, rfl⟩, ⟨_, rfl⟩, by kernel_rfl, by kernel_rfl⟩)
          rotate_left
          all_goals exact ⟨by omega, by omega, by omega, hac5, hac2⟩
        · rw [if_neg h5] at hac7
          refine go Try.tbs_ok 1000 ?_
          refine ev_stop (go_indexE (sz := 20) Try.tbs_ok (.inl 0) (i) rfl rfl rfl rfl rfl rfl (by omega) rfl (fun _ h => h) (fun g340 o342 e341 => ?_))
          subst e341
          refine go Try.tbs_ok 1000 ?_
          have l343 : i < (l).length := (by omega)
          refine ev_stop (go_loadE Try.tbs_ok (.inl 0) (i) 0 rfl rfl rfl rfl (fun _ h => h) (by omega) (fun _ => rfl) (by omega) l343 (by decide) ?_)
          refine go Try.tbs_ok 1000 ?_
          refine ev_callF (T1 (l[i].m.a) (l[i].m.c)) [0] [.inl 2] rfl rfl (by decide) rfl (by simp) (fun _ => (by repeat (first | exact trivial | refine ⟨rfl, ?_⟩))) (fun x344 h345 => ?_)
          refine go Try.tbs_ok 1000 ?_
          refine ev_new fun b346 => ?_
          refine ev_stop (go_atE (sz := 20) Try.tbs_ok (i) rfl rfl rfl rfl rfl rfl (by omega) ?_)
          refine go Try.tbs_ok 1000 ?_
          have l347 : i < (l).length := (by omega)
          refine ev_stop (go_loadE Try.tbs_ok (.inl 0) (i) 0 rfl rfl rfl rfl (fun _ h => h) (by omega) (fun _ => rfl) (by omega) l347 (by decide) ?_)
          refine go Try.tbs_ok 1000 ?_
          refine ev_if_yes rfl ?_
          refine go Try.tbs_ok 1000 ?_
          refine ev_if_lt (fun h348 => ?_) (fun h348 => ?_)
          refine go Try.tbs_ok 1000 ?_
          refine ev_w64 (by constructor <;> omega) ?_
          refine ev_if_yes rfl ?_
          refine go Try.tbs_ok 1000 ?_
          refine ev_if_no (beq_eq_false_iff_ne.2 (show ¬l[i].k.tmod 9 = 5 from (by omega))) ?_
          refine go Try.tbs_ok 1000 ?_
          refine ev_if_no (beq_eq_false_iff_ne.2 (show ¬l[i].k.tmod 9 = 6 from (by omega))) ?_
          refine go Try.tbs_ok 1000 ?_
          refine ev_if_no (beq_eq_false_iff_ne.2 (show ¬l[i].k.tmod 9 = 8 from (by omega))) ?_
          refine go Try.tbs_ok 1000 ?_
          refine ev_callF (mLen (x2) (R.fst)) [0] [] rfl rfl (by decide) rfl (by simp) (fun _ => (by repeat (first | exact trivial | refine ⟨rfl, ?_⟩))) (fun _ h349 => ?_)
          refine go Try.tbs_ok 1000 ?_
          refine ev_if_no (ne_no (show (↑R.fst.length : Int) = m + 1 from (by omega))) ?_
          refine go Try.tbs_ok 1000 ?_
          refine ev_if_no (decide_eq_false (show ¬m + 1 > 512 from (by omega))) ?_
          refine go Try.tbs_ok 1000 ?_
          refine ev_if_no (decide_eq_false (show ¬m + 1 < 0 from (by omega))) ?_
          refine go Try.tbs_ok 1000 ?_
          refine ev_callF (mAllL (x2) (R.fst) (by with_reducible assumption) (by with_reducible assumption)) [0] [] rfl rfl (by decide) rfl (by simp) (fun _ => (by repeat (first | exact trivial | refine ⟨rfl, ?_⟩))) (fun ⟨x350, x351, x352, x353⟩ ⟨h354, h355, h356⟩ => ?_)
          refine go Try.tbs_ok 1000 ?_
          refine ev_if_no (ne_no (show (↑x352 : Int) = m + 1 from (by omega))) ?_
          refine go Try.tbs_ok 1000 ?_
          refine ev_wrapN (i + 1) (by constructor <;> omega) (by rfl) ?_
          refine ev_fin (round_next ((i + 1, R.fst, m + 1)) (?_ : i + 1 ≤ l.length ∧ m + 1 = (↑R.fst.length : Int) ∧ R.fst.length ≤ i + 1 ∧ R.fst.length ≤ 512 ∧ ∀ (m : Msg), m ∈ R.fst → m.es.length ≤ 4000) (show l.length - (i + 1) < l.length - i from (by omega)) ⟨⟨by kernel_rfl, by kernel_rfl⟩, ⟨_, rfl⟩, ⟨_, rfl⟩, by kernel_rfl, by kernel_rfl⟩)
          rotate_left
          refine go Try.tbs_ok 1000 ?_
          refine ev_if_yes (beq_iff_eq.2 (show l[i].k.tmod 9 = 7 from (by omega))) ?_
          refine go Try.tbs_ok 1000 ?_
          refine ev_w64 (by constructor <;> omega) ?_
          refine ev_if_yes rfl ?_
          refine go Try.tbs_ok 1000 ?_
          refine ev_if_no (beq_eq_false_iff_ne.2 (show ¬l[i].k.tmod 9 = 5 from (by omega))) ?_
          refine go Try.tbs_ok 1000 ?_
          refine ev_if_no (beq_eq_false_iff_ne.2 (show ¬l[i].k.tmod 9 = 6 from (by omega))) ?_
          refine go Try.tbs_ok 1000 ?_
          refine ev_if_no (beq_eq_false_iff_ne.2 (show ¬l[i].k.tmod 9 = 8 from (by omega))) ?_
          refine go Try.tbs_ok 1000 ?_
          refine ev_callF (mLen (x2) (R.fst)) [0] [] rfl rfl (by decide) rfl (by simp) (fun _ => (by repeat (first | exact trivial | refine ⟨rfl, ?_⟩))) (fun _ h357 => ?_)
          refine go Try.tbs_ok 1000 ?_
          refine ev_if_no (ne_no (show (↑R.fst.length : Int) = m + 1 from (by omega))) ?_
          refine go Try.tbs_ok 1000 ?_
          refine ev_if_no (decide_eq_false (show ¬m + 1 > 512 from (by omega))) ?_
          refine go Try.tbs_ok 1000 ?_
          refine ev_if_no (decide_eq_false (show ¬m + 1 < 0 from (by omega))) ?_
          refine go Try.tbs_ok 1000 ?_
          refine ev_callF (mAllL (x2) (R.fst) (by with_reducible assumption) (by with_reducible assumption)) [0] [] rfl rfl (by decide) rfl (by simp) (fun _ => (by repeat (first | exact trivial | refine ⟨rfl, ?_⟩))) (fun ⟨x358, x359, x360, x361⟩ ⟨h362, h363, h364⟩ => ?_)
          refine go Try.tbs_ok 1000 ?_
          refine ev_if_no (ne_no (show (↑x360 : Int) = m + 1 from (by omega))) ?_
          refine go Try.tbs_ok 1000 ?_
          refine ev_wrapN (i + 1) (by constructor <;> omega) (by rfl) ?_
          refine ev_fin (round_next ((i + 1, R.fst, m + 1)) (?_ : i + 1 ≤ l.length ∧ m + 1 = (↑R.fst.length : Int) ∧ R.fst.length ≤ i + 1 ∧ R.fst.length ≤ 512 ∧ ∀ (m : Msg), m ∈ R.fst → m.es.length ≤ 4000) (show l.length - (i + 1) < l.length - i from (by omega)) ⟨⟨by kernel_rfl, by kernel_rfl⟩, ⟨_, rfl⟩, ⟨_, rfl⟩, by kernel_rfl, by kernel_rfl⟩)
          rotate_left
          all_goals exact ⟨by omega, by omega, by omega, hac5, hac2⟩
  · refine go Try.tbs_ok 1000 ?_
    refine ev_fin (go Try.tbs_ok 1000 ?_)
    refine ev_callF (works ) [] [] rfl rfl (by decide) rfl (by simp) (fun _ => (by repeat (first | exact trivial | refine ⟨rfl, ?_⟩))) (fun _ h500 => ?_)
    refine go Try.tbs_ok 1000 ?_
    refine ev_fin ⟨trivial, _, rfl, (()), rfl, (by trivial), Frm.nil _⟩
end Go.Proofs.Yteleepinalcjeaa
