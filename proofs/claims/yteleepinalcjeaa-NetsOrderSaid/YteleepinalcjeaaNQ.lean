/-
  What is proved: what the document's net does: messages that are taken, sent, copied. Conditions: none.
-/
import Derived.Test.YteleepinalcjeaaNP
namespace Go.Proofs.Yteleepinalcjeaa
open Go.Sy

def RefT (p : Nat) (A : Option Addr) (n c : Nat) (L : List Item) : List Asn := [Pt p 29 [.slice A n c], Row 36 18 A n c (L.flatMap encI)]
set_option maxRecDepth 100000 in
theorem rTwin (m : MailS) (A : Option Addr) (c : Nat) (es : List Ent) (hn : es.length ≤ 1000000000) :
    Triple Try.prog 34 [mailV m A es.length c] [] [Rd 6 A es.length (es.flatMap encE)] (Option Addr × Nat) (fun x => mailV m x.1 es.length x.2) (fun _ => True) (fun x => [Row 40 6 x.1 es.length x.2 (es.flatMap encE)]) := by
  refine triple_intro Try.tbs_ok Try.func34 rfl [.ag (mailSV m A es.length c)] [] ⟨by simp [SV.good, SV.goodL, mailSV], trivial⟩ rfl (by simp) ?_
  intro E
  refine go Try.tbs_ok 1000 ?_
  refine ev_new fun b0 => ?_
  refine ev_new fun b1 => ?_
  refine ev_stop (go_appendE (sz := 6) (M := []) Try.tbs_ok [] [] (.inl 0) ([]) (es) (es) (es.length) rfl rfl rfl rfl rfl rfl rfl (by decide) rfl (by decide) (fun _ _ => Row.nil _ _ _) rfl (fun _ h => h) (by first | rfl | simp) (by first | rfl | omega) (le_app (s := es.length) (by omega) (by first | rfl | omega)) (le_appb (s := es.length) (by omega) (by first | rfl | omega) (by decide)) (fun _ _ => (by repeat (first | exact trivial | refine ⟨rfl, ?_⟩))) (fun A2 c3 h4 => ?_))
  refine go Try.tbs_ok 1000 ?_
  refine ev_fin ⟨trivial, _, rfl, ((A2, c3)), rfl, (by trivial), Frm.sel [2] rfl (by decide)⟩
set_option maxRecDepth 100000 in
theorem rTake (p : Nat) (A : Option Addr) (c : Nat) (L : List Item) (hL : L.length ≤ 1000000000) (i : Int) :
    Triple Try.prog 26 [.pointer (some ⟨p, 0, none⟩), .int .i64 i] [Pt p 29 [.slice A L.length c], Row 36 18 A L.length c (L.flatMap encI)] [] (Option Addr × Nat × Nat) (fun _ => .tuple #[(lookI L i).1.val, .bool (lookI L i).2]) (fun x => x.2.1 = (goneI L i).length)
      (fun x => [Pt p 29 [.slice x.1 x.2.1 x.2.2], Row 36 18 x.1 x.2.1 x.2.2 ((goneI L i).flatMap encI)]) := by
  refine triple_intro Try.tbs_ok Try.func26 rfl [.pt 0 p 0, .va (.int .i64 i)] [.box p 29 [.va (.slice A L.length c)], .fact (Row 36 18 A L.length c (L.flatMap encI))] ⟨rfl, trivial, trivial⟩ rfl (by simp [SV.good, SV.goodL]) ?_
  intro E
  rcases inI_cases L i with ⟨j, rfl, hj, h⟩ | ⟨h0, h⟩
  · have e2 : goneI L (j : Int) = L.eraseIdx j := by simp only [goneI, if_pos h, Int.toNat_natCast]
    have e : lookI L (j : Int) = (L[j], true) := by simp only [lookI, if_pos h, Int.toNat_natCast, List.getD_eq_getElem?_getD, List.getElem?_eq_getElem hj, Option.getD_some]
    rw [e2]
    refine go Try.tbs_ok 1000 ?_
    refine ev_new fun b0 => ?_
    refine ev_call (rLook (p) (A) (c) (L) (by with_reducible assumption) (↑j : Int)) [0, 1] [] (fun v0_ => [.box (p) 29 [.va (Value.slice A L.length c)], .fact (Row 36 18 A L.length c (List.flatMap encI L))]) rfl rfl (by decide) rfl (by simp) (fun _ => rfl) (fun _ => (newsOk_box (by simp [SV.good, SV.goodL]) (newsOk_fact (newsOk_nil _)))) (fun _ => (by repeat (first | exact trivial | refine ⟨rfl, ?_⟩))) (fun _ h1 => ?_)
    refine go Try.tbs_ok 1000 ?_
    refine ev_new fun b2 => ?_
    refine ev_if_yes (by simp [*]) ?_
    refine go Try.tbs_ok 1000 ?_
    refine ev_stop (go_fact (Row 36 18 none 0 0 (([] : List Item).flatMap encI)) (Row.nilE _ _) ?_)
    refine go Try.tbs_ok 1000 ?_
    refine ev_stop (go_loopR [8, 9, 10, 13, 14, 17, 18, 19, 20, 21, 22, 23, 24, 25, 26, 27, 28, 29, 30, 31, 32, 33, 34, 35, 36, 37, 38] (fun (k, n, _, A2, c2) => [(8, .va (.slice A2 n c2)), (9, .va (.int .i64 (k : Nat)))]) (fun (_, n, M, A2, c2) => [(4, .fact (Row 36 18 A2 n c2 (M.flatMap encI)))]) (fun (k, n, M, _, _) => k ≤ L.length ∧ n = M.length ∧ M = (L.take k).eraseIdx j) (fun (k, _, _, _, _) => L.length - k) ((0, 0, [], none, 0) : Nat × Nat × List Item × Option Addr × Nat) ⟨Nat.zero_le _, rfl, rfl⟩ ⟨⟨by kernel_rfl, by kernel_rfl⟩, ⟨_, rfl⟩, ⟨_, rfl⟩, by kernel_rfl, by kernel_rfl⟩ (fun x_ h_ => ?_))
    obtain ⟨k, n, M, A2, c2⟩ := x_
    obtain ⟨hk, hn, hM⟩ := h_
    have hM1 : M.length ≤ k := by rw [hM]; exact Nat.le_trans (List.length_eraseIdx_le _ _) (by simp; omega)
    refine go Try.tbs_ok 1000 ?_
    refine ev_if_lt (fun h20 => ?_) (fun h20 => ?_)
    refine go Try.tbs_ok 1000 ?_
    refine ev_if_ne (fun h21 => ?_) (fun h21 => ?_)
    refine go Try.tbs_ok 1000 ?_
    refine ev_stop (go_index0 (sz := 18) Try.tbs_ok (.inr 1) (k) rfl rfl rfl rfl rfl rfl (by omega) rfl Row.at0 (fun g22 e23 => ?_))
    subst e23
    refine go Try.tbs_ok 1000 ?_
    have l24 : k < (L).length := (by omega)
    refine ev_stop (go_loadE Try.tbs_ok (.inr 1) (k) 0 rfl rfl rfl rfl (fun _ h => Row.rd h) (by omega) (fun _ => rfl) (by omega) l24 (by decide) ?_)
    refine go Try.tbs_ok 1000 ?_
    refine ev_new fun b25 => ?_
    refine ev_stop (go_appendE (sz := 18) (M := [_]) (enc := encI) Try.tbs_ok [4] [] (.inr 5) (M) ([L[k]]) ((M) ++ ([L[k]])) (n + 1) rfl rfl rfl rfl rfl rfl rfl (by decide) rfl (by decide) (fun _ p => starH_one.1 p) rfl (fun _ p => Pt.rd p rfl) (by first | rfl | simp) (by first | rfl | omega) (le_app (s := n + 1) (by omega) (by first | rfl | omega)) (le_appb (s := n + 1) (by omega) (by first | rfl | omega) (by decide)) (fun _ _ => (by repeat (first | exact trivial | refine ⟨rfl, ?_⟩))) (fun A26 c27 h28 => ?_))
    refine go Try.tbs_ok 1000 ?_
    refine ev_wrapN (k + 1) (by constructor <;> omega) (by rfl) ?_
    refine ev_fin (round_next ((k + 1, n + 1, M ++ [L[k]], A26, c27)) (?_ : k + 1 ≤ L.length ∧ n + 1 = (M ++ [L[k]]).length ∧ M ++ [L[k]] = (List.take (k + 1) L).eraseIdx j) (show L.length - (k + 1) < L.length - k from (by omega)) ⟨⟨by kernel_rfl, by kernel_rfl⟩, ⟨_, rfl⟩, ⟨_, rfl⟩, by kernel_rfl, by kernel_rfl⟩)
    rotate_left
    refine go Try.tbs_ok 1000 ?_
    refine ev_wrapN (k + 1) (by constructor <;> omega) (by rfl) ?_
    refine ev_fin (round_next ((k + 1, n, M, A2, c2)) (?_ : k + 1 ≤ L.length ∧ n = M.length ∧ M = (List.take (k + 1) L).eraseIdx j) (show L.length - (k + 1) < L.length - k from (by omega)) ⟨⟨by kernel_rfl, by kernel_rfl⟩, ⟨_, rfl⟩, ⟨_, rfl⟩, by kernel_rfl, by kernel_rfl⟩)
    rotate_left
    refine go Try.tbs_ok 1000 ?_
    refine ev_fin (go Try.tbs_ok 1000 ?_)
    rotate_left
    · refine ⟨by omega, by simp [hn], ?_⟩
      rw [hM, ← List.take_append_getElem l24]
      have h21' : k ≠ j := fun e => h21 (by rw [e])
      rcases Nat.lt_or_ge j k with hjk | hjk
      · rw [List.eraseIdx_append_of_lt_length (by simp; omega)]
      · rw [List.eraseIdx_of_length_le (by simp; omega), List.eraseIdx_of_length_le (by simp; omega)]
    · obtain rfl : k = j := by omega
      refine ⟨by omega, hn, ?_⟩
      rw [hM, ← List.take_append_getElem (by omega : k < L.length), List.eraseIdx_of_length_le (by simp; omega), List.eraseIdx_append_of_length_le (by simp; omega)]
      simp [Nat.min_eq_left (by omega : k ≤ L.length)]
    · have hk2 : k = L.length := by omega
      rw [hk2, List.take_length] at hM
      subst hM
      refine ev_fin ⟨trivial, _, rfl, ((A2, n, c2)), rfl, (by trivial), Frm.sel [0, 4] rfl (by decide)⟩
  · have e : lookI L i = (noI, false) := by simp only [lookI, if_neg h]
    have e2 : goneI L i = L := by simp only [goneI, if_neg h]
    rw [e2]
    refine go Try.tbs_ok 1000 ?_
    refine ev_new fun b0 => ?_
    refine ev_call (rLook (p) (A) (c) (L) (by with_reducible assumption) (i)) [0, 1] [] (fun v0_ => [.box (p) 29 [.va (Value.slice A L.length c)], .fact (Row 36 18 A L.length c (List.flatMap encI L))]) rfl rfl (by decide) rfl (by simp) (fun _ => rfl) (fun _ => (newsOk_box (by simp [SV.good, SV.goodL]) (newsOk_fact (newsOk_nil _)))) (fun _ => (by repeat (first | exact trivial | refine ⟨rfl, ?_⟩))) (fun _ h1 => ?_)
    refine go Try.tbs_ok 1000 ?_
    refine ev_new fun b2 => ?_
    refine ev_if_no (by simp [*]) ?_
    refine go Try.tbs_ok 1000 ?_
    refine ev_fin ⟨trivial, _, rfl, ((A, L.length, c)), rfl, (by trivial), Frm.sel [0, 1] rfl (by decide)⟩
set_option maxRecDepth 100000 in
theorem rSend_room (p : Nat) (A : Option Addr) (c : Nat) (L : List Item) (hL : L.length < 512) (m : MailS) (B : Option Addr) (d : Nat) (es : List Ent) (hn : es.length ≤ 1000000000) :
    Triple Try.prog 29 [.pointer (some ⟨p, 0, none⟩), mailV m B es.length d] [Pt p 29 [.slice A L.length c], Row 36 18 A L.length c (L.flatMap encI)] [Rd 6 B es.length (es.flatMap encE)]
      (Option Addr × Nat × Option Addr × Nat) (fun _ => .bool true) (fun _ => True)
      (fun (A2, c2, a, q) => [Pt p 29 [.slice A2 (L.length + 1) c2], Row 36 18 A2 (L.length + 1) c2 ((L ++ [(⟨m, es, a, q⟩ : Item)]).flatMap encI), Row 40 6 a es.length q (es.flatMap encE)]) := by
  refine triple_intro Try.tbs_ok Try.func29 rfl [.pt 0 p 0, .ag (mailSV m B es.length d)] [.box p 29 [.va (.slice A L.length c)], .fact (Row 36 18 A L.length c (L.flatMap encI))] ⟨rfl, by simp [SV.good, SV.goodL, mailSV], trivial⟩ rfl (by simp [SV.good, SV.goodL]) ?_
  intro E
  refine go Try.tbs_ok 1000 ?_
  refine ev_new fun b0 => ?_
  refine ev_if_no (decide_eq_false (show ¬(↑L.length : Int) ≥ 512 from (by omega))) ?_
  refine go Try.tbs_ok 1000 ?_
  refine ev_stop (go_draw Try.tbs_ok false [0, 2] [(0,true),(1,true),(2,true),(3,true),(4,true),(5,true),(6,false),(7,false),(8,false),(9,true),(10,true),(11,false)] rfl ?_)
  refine go Try.tbs_ok 1000 ?_
  refine ev_need ⟨⟨(by repeat (first | exact trivial | refine ⟨rfl, ?_⟩)), rfl⟩, by kernel_rfl⟩ ?_
  refine ev_callF (rTwin (m) (B) (d) (es) (by with_reducible assumption)) [] [.inl 0] rfl rfl (by decide) rfl (by simp) (fun _ => (by repeat (first | exact trivial | refine ⟨rfl, ?_⟩))) (fun ⟨x1, x2⟩ h3 => ?_)
  refine go Try.tbs_ok 1000 ?_
  refine ev_need ⟨⟨(by repeat (first | exact trivial | refine ⟨rfl, ?_⟩)), rfl⟩, by kernel_rfl⟩ ?_
  refine ev_new fun b4 => ?_
  refine ev_need ⟨⟨(by repeat (first | exact trivial | refine ⟨rfl, ?_⟩)), rfl⟩, by kernel_rfl⟩ ?_
  refine ev_stop (go_appendE (sz := 18) (M := [_]) (enc := encI) Try.tbs_ok [1] [] (.inr 4) (L) ([{ s := m, es := es, a := x1, c := x2 }]) ((L) ++ ([{ s := m, es := es, a := x1, c := x2 }])) (L.length + 1) rfl rfl rfl rfl rfl rfl rfl (by decide) rfl (by decide) (fun _ p => starH_one.1 p) rfl (fun _ p => Pt.rd p rfl) (by first | rfl | simp) (by first | rfl | omega) (le_app (s := L.length + 1) (by omega) (by first | rfl | omega)) (le_appb (s := L.length + 1) (by omega) (by first | rfl | omega) (by decide)) (fun _ _ => (by repeat (first | exact trivial | refine ⟨rfl, ?_⟩))) (fun A5 c6 h7 => ?_))
  refine go Try.tbs_ok 1000 ?_
  refine ev_need ⟨⟨(by repeat (first | exact trivial | refine ⟨rfl, ?_⟩)), rfl⟩, by kernel_rfl⟩ ?_
  refine ev_need (by kernel_rfl) ?_
  refine ev_fin ⟨trivial, _, rfl, ((A5, c6, x1, x2)), rfl, (by trivial), Frm.sel [0, 1, 3] rfl (by decide)⟩
set_option maxRecDepth 100000 in
theorem rSend_full (p : Nat) (A : Option Addr) (n c : Nat) (hL : 512 ≤ n) (m : MailS) (B : Option Addr) (k d : Nat) :
    Triple Try.prog 29 [.pointer (some ⟨p, 0, none⟩), mailV m B k d] [Pt p 29 [.slice A n c]] [] Unit (fun _ => .bool false) (fun _ => True) (fun _ => [Pt p 29 [.slice A n c]]) := by
  refine triple_intro Try.tbs_ok Try.func29 rfl [.pt 0 p 0, .ag (mailSV m B k d)] [.box p 29 [.va (.slice A n c)]] ⟨rfl, by simp [SV.good, SV.goodL, mailSV], trivial⟩ rfl (by simp [SV.good, SV.goodL]) ?_
  intro E
  refine go Try.tbs_ok 1000 ?_
  refine ev_new fun b0 => ?_
  refine ev_if_yes (decide_eq_true (show (↑n : Int) ≥ 512 from (by omega))) ?_
  refine go Try.tbs_ok 1000 ?_
  refine ev_fin ⟨trivial, _, rfl, (()), rfl, (by trivial), Frm.sel [0] rfl (by decide)⟩
end Go.Proofs.Yteleepinalcjeaa
