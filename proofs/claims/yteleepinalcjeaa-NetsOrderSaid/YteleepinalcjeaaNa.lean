/-
  What is proved: NetsOrder's walk. Conditions: none.
-/
import Derived.Test.YteleepinalcjeaaNW
import Derived.Test.YteleepinalcjeaaSym
namespace Go.Proofs.Yteleepinalcjeaa
open Go.Sy

def encN (n : Int) : List Value := [.int .i64 n]
theorem act_cases {l : List Msg} {k : Int} {m : Msg} {i : Int} {R : List Msg × Msg × Bool} (hR : R = actM l k m i) (hk : 0 ≤ k) :
    (R.2.2 = false ∧ R.1 = l ∧ (k % 9 < 4 → 512 ≤ l.length) ∧ (4 ≤ k % 9 → k % 9 ≠ 7 → i < 0 ∨ (l.length : Int) ≤ i)) ∨
    (R.2.2 = true ∧ k % 9 < 4 ∧ R.1 = l ++ [m]) ∨ (R.2.2 = true ∧ k % 9 = 4 ∧ R.1 = l) ∨
    (R.2.2 = true ∧ k % 9 = 7 ∧ ∃ j : Nat, ∃ h : j < l.length, i = j ∧ R.1 = l ++ [l[j]]) ∨
    (R.2.2 = true ∧ (k % 9 = 5 ∨ k % 9 = 6 ∨ k % 9 = 8) ∧ ∃ j : Nat, i = j ∧ j < l.length ∧ R.1 = l.eraseIdx j) := by
  subst hR
  rcases inM_cases l i with ⟨j, rfl, hj, hin⟩ | ⟨h0, hin⟩
  · unfold actM
    by_cases h4 : k % 9 = 4
    · rw [if_pos h4]
      refine .inr (.inr (.inl ⟨by rw [look_ok]; simpa using hin, h4, rfl⟩))
    · rw [if_neg h4]
      by_cases h5 : k % 9 = 5 ∨ k % 9 = 6
      · rw [if_pos h5]
        refine .inr (.inr (.inr (.inr ⟨by rw [look_ok]; simpa using hin, by omega, j, rfl, hj, ?_⟩)))
        simp [goneM, hin]
      · rw [if_neg h5]
        by_cases h7 : k % 9 = 7
        · rw [if_pos h7]
          unfold copyM sendM
          rw [if_pos hin]
          by_cases hl : l.length < 512
          · refine .inr (.inr (.inr (.inl ⟨by simp [hl], h7, j, hj, rfl, ?_⟩)))
            simp [hl, List.getD_eq_getElem?_getD, List.getElem?_eq_getElem hj]
          · exact .inl ⟨by simp [hl], by simp [hl], by omega, by omega⟩
        · rw [if_neg h7]
          by_cases h8 : k % 9 = 8
          · rw [if_pos h8]
            refine .inr (.inr (.inr (.inr ⟨by rw [look_ok]; simpa using hin, by omega, j, rfl, hj, ?_⟩)))
            simp [goneM, hin]
          · rw [if_neg h8]
            unfold sendM
            by_cases hl : l.length < 512
            · exact .inr (.inl ⟨by simp [hl], by omega, by simp [hl]⟩)
            · exact .inl ⟨by simp [hl], by simp [hl], by omega, by omega⟩
  · unfold actM
    by_cases h4 : k % 9 = 4
    · rw [if_pos h4]
      exact .inl ⟨by rw [look_ok]; simpa using hin, rfl, by omega, fun _ _ => h0⟩
    · rw [if_neg h4]
      by_cases h5 : k % 9 = 5 ∨ k % 9 = 6
      · rw [if_pos h5]
        exact .inl ⟨by rw [look_ok]; simpa using hin, by simp [goneM, hin], by omega, fun _ _ => h0⟩
      · rw [if_neg h5]
        by_cases h7 : k % 9 = 7
        · rw [if_pos h7]
          exact .inl ⟨by simp [copyM, hin], by simp [copyM, hin], by omega, by omega⟩
        · rw [if_neg h7]
          by_cases h8 : k % 9 = 8
          · rw [if_pos h8]
            exact .inl ⟨by rw [look_ok]; simpa using hin, by simp [goneM, hin], by omega, fun _ _ => h0⟩
          · rw [if_neg h8]
            unfold sendM
            by_cases hl : l.length < 512
            · exact .inr (.inl ⟨by simp [hl], by omega, by simp [hl]⟩)
            · exact .inl ⟨by simp [hl], by simp [hl], by omega, by omega⟩
theorem er_take {α : Type} {l : List α} {n j : Nat} (hn : n = l.length) (hj : j < l.length) : l.take j ++ (l.take (j + 1 + (n - (j + 1)))).drop (j + 1) = l.eraseIdx j := by
  rw [show j + 1 + (n - (j + 1)) = l.length by omega, List.take_length, List.eraseIdx_eq_take_drop_succ]
theorem map_erase {α β : Type} (f : α → β) (l : List α) (j : Nat) : (l.map f).eraseIdx j = (l.eraseIdx j).map f := by
  rw [List.eraseIdx_eq_take_drop_succ, List.eraseIdx_eq_take_drop_succ, List.map_append, List.map_take, List.map_drop]
set_option maxHeartbeats 8000000 in
set_option maxRecDepth 100000 in
theorem netsOrder (A : Option Addr) (l : List ActI) (c : Nat) (hk : ∀ x ∈ l, 0 ≤ x.k ∧ x.k < 256) :
    Triple Try.prog 5 [.slice A l.length c] [] [Rd 20 A l.length (l.flatMap encA), Acts l] Unit (fun _ => .bool true) (fun _ => True) (fun _ => []) := by
  refine triple_intro Try.tbs_ok Try.func5 rfl [.va (.slice A l.length c)] [] ⟨trivial, trivial⟩ rfl (by simp) ?_
  intro E
  refine go Try.tbs_ok 1000 ?_
  refine ev_callF (great (A) (l) (c)) [] [.inl 0] rfl rfl (by decide) rfl (by simp) (fun _ => (by repeat (first | exact trivial | refine ⟨rfl, ?_⟩))) (fun _ h0 => ?_)
  refine go Try.tbs_ok 1000 ?_
  refine ev_if (fun h1 => ?_) (fun h1 => ?_)
  refine go Try.tbs_ok 1000 ?_
  refine ev_fin ⟨trivial, _, rfl, (()), rfl, (by trivial), Frm.nil _⟩
  refine go Try.tbs_ok 1000 ?_
  refine ev_callF (mNew ) [] [] rfl rfl (by decide) rfl (by simp) (fun _ => (by repeat (first | exact trivial | refine ⟨rfl, ?_⟩))) (fun x2 h3 => ?_)
  refine go Try.tbs_ok 1000 ?_
  refine ev_new fun b4 => ?_
  have h8 : costs l ≤ 4000 ∧ l.length ≤ 800 := by simpa using h1
  have hes : ∀ x ∈ l, x.m.es.length ≤ 4000 := costs_es h8.1
  refine ev_stop (go_boxfact 1 (Row 3 1 (some ⟨b4, 0, none⟩) 0 0 (([] : List Int).flatMap encN)) rfl (fun h p => Pt.row (sz := 1) (n := 0) p rfl (by decide)) (by repeat (first | exact trivial | refine ⟨rfl, ?_⟩)) (go_fact (Row 3 1 none 0 0 (([] : List Int).flatMap encN)) (Row.nilE _ _) ?_))
  refine go_slot 6 _ (.va (.slice (some ⟨b4, 0, none⟩) 0 0)) rfl rfl rfl (fun _ => trivial) ?_
  refine go Try.tbs_ok 1000 ?_
  refine ev_stop (go_loopR [2, 4, 5, 6, 7, 8, 9, 10, 11, 12, 13, 20, 21, 22, 23, 24, 25, 26, 27, 28, 29, 30, 31, 32, 33, 34, 35, 36, 37, 38, 39, 40, 41, 42, 43, 44, 45, 46, 47, 48, 49, 50, 51, 52, 53, 54, 55, 56, 57, 58, 59, 60, 61, 62, 63, 64, 65, 66, 67, 68, 69, 70, 71, 72, 73, 74, 75, 76, 77, 78, 79, 80, 81, 82, 83, 84, 85, 86, 87, 88, 89, 90, 91, 92, 93, 94, 95, 96, 97, 98, 99, 100, 101, 102, 103, 104, 105, 106, 107, 108, 109, 110, 111, 112, 113, 114, 115, 116, 117, 118, 119, 120, 121, 122, 123, 124, 125, 126, 127, 128, 129, 130, 131, 132, 133, 134, 135, 136, 137, 138, 139, 140, 141] (fun (i, _, _, _, cm, A1, n1, c1, A2, n2, c2) => [(4, .va (.slice A1 n1 c1)), (5, .va (.int .i64 cm)), (6, .va (.slice A2 n2 c2)), (7, .va (.int .i64 (i : Nat)))]) (fun (_, lst, K, S, _, A1, n1, c1, A2, n2, c2) => [(0, .fact (NetM x2 lst)), (2, .fact (Row 3 1 A2 n2 c2 (S.flatMap encN))), (3, .fact (Row 3 1 A1 n1 c1 (K.flatMap encN)))]) (fun (i, lst, K, S, cm, _, n1, _, _, n2, _) => i ≤ l.length ∧ S = lst.map (fun m => m.s.stamp) ∧ n1 = K.length ∧ n2 = S.length ∧ K.length = lst.length ∧ K.Pairwise (· < ·) ∧ (∀ k ∈ K, k < cm) ∧ (0 ≤ cm ∧ cm ≤ i) ∧ lst.length ≤ i ∧ lst.length ≤ 512 ∧ ∀ m ∈ lst, m.es.length ≤ 4000) (fun (i, _, _, _, _, _, _, _, _, _, _) => l.length - i) ((0, [], [], [], 0, none, 0, 0, some ⟨b4, 0, none⟩, 0, 0) : Nat × List Msg × List Int × List Int × Int × Option Addr × Nat × Nat × Option Addr × Nat × Nat) ⟨Nat.zero_le _, rfl, rfl, rfl, rfl, List.Pairwise.nil, (fun _ h => by cases h), ⟨Int.le_refl _, Int.le_refl _⟩, Nat.zero_le _, Nat.zero_le _, (fun _ h => by cases h)⟩ ⟨⟨by kernel_rfl, by kernel_rfl⟩, ⟨_, rfl⟩, ⟨_, rfl⟩, by kernel_rfl, by kernel_rfl⟩ (fun x_ h_ => ?_))
  obtain ⟨i, lst, K, S, cm, A1, n1, c1, A2, n2, c2⟩ := x_
  obtain ⟨hi, hS, hn1, hn2, hKl, hKp, hKc, hc0, hlen, h512, hle⟩ := h_
  have hfl : fewM lst := fun m hm => Nat.le_trans (hle m hm) (by decide)
  have hSl : S.length = lst.length := by rw [hS, List.length_map]
  refine go Try.tbs_ok 1000 ?_
  refine ev_if_lt (fun hlt => ?_) (fun hge => ?_)
  · have hil : i < l.length := by
      have : (i : Int) < (l.length : Int) := hlt
      omega
    have hx4 : l[i].m.es.length ≤ 4000 := hes _ (List.getElem_mem hil)
    have hki := hk _ (List.getElem_mem hil)
    have h9 := tmod9 hki
    obtain ⟨s', hs'⟩ : ∃ s', s' = stampM l[i].m.s cm := ⟨_, rfl⟩
    obtain ⟨R, hR⟩ : ∃ R, R = actM lst l[i].k ⟨s', l[i].m.es⟩ l[i].i := ⟨_, rfl⟩
    obtain ⟨hac, hac2, hac3, hac4⟩ := act_few hle (m := ⟨s', l[i].m.es⟩) hx4 l[i].k l[i].i
    rw [← hR] at hac hac2 hac3 hac4
    have hac5 : R.1.length ≤ 512 := hac4 h512
    have T1 := doesR x2 lst hfl (by omega) l[i].k s' l[i].m.es l[i].i hki (by omega) R hR
    subst hs'
    refine go_more 1 (Acts l) (Rd 6 l[i].m.a l[i].m.es.length (l[i].m.es.flatMap encE)) rfl (fun h p => p _ (List.getElem_mem hil)) ?_
    refine go_know (.inr 2) (Row 3 1 A2 n2 c2 (S.flatMap encN)) rfl (p := n2 ≤ c2) (fun _ p => Row.cap p) fun hc2 => ?_
    refine go_know (.inr 3) (Row 3 1 A1 n1 c1 (K.flatMap encN)) rfl (p := n1 ≤ c1) (fun _ p => Row.cap p) fun hc1 => ?_
    rcases act_cases hR hki.1 with ⟨hb, hR1, hq1, hq2⟩ | ⟨hb, hq, hR1⟩ | ⟨hb, hq, hR1⟩ | ⟨hb, hq, j, hj, hij, hR1⟩ | ⟨hb, hq, j, hij, hj, hR1⟩
    · rw [hb, hR1] at T1
      refine go Try.tbs_ok 1000 ?_
      refine ev_stop (go_indexE (sz := 20) Try.tbs_ok (.inl 0) (i) rfl rfl rfl rfl rfl rfl (by omega) rfl (fun _ h => h) (fun g100 o102 e101 => ?_))
      subst e101
      refine go Try.tbs_ok 1000 ?_
      have l103 : i < (l).length := (by omega)
      refine ev_stop (go_loadE Try.tbs_ok (.inl 0) (i) 0 rfl rfl rfl rfl (fun _ h => h) (by omega) (fun _ => rfl) (by omega) l103 (by decide) ?_)
      refine go Try.tbs_ok 1000 ?_
      refine ev_new fun b104 => ?_
      refine ev_callF (T1 (l[i].m.a) (l[i].m.c)) [0] [.inl 2] rfl rfl (by decide) rfl (by simp) (fun _ => (by repeat (first | exact trivial | refine ⟨rfl, ?_⟩))) (fun x105 h106 => ?_)
      refine go Try.tbs_ok 1000 ?_
      refine ev_new fun b107 => ?_
      refine ev_if_yes rfl ?_
      refine go Try.tbs_ok 1000 ?_
      refine ev_if_lt (fun h108 => ?_) (fun h108 => ?_)
      refine go Try.tbs_ok 1000 ?_
      refine ev_callF (mLen (x2) (lst)) [0] [] rfl rfl (by decide) rfl (by simp) (fun _ => (by repeat (first | exact trivial | refine ⟨rfl, ?_⟩))) (fun _ h109 => ?_)
      refine go Try.tbs_ok 1000 ?_
      refine ev_if_no (decide_eq_false (show ¬(↑lst.length : Int) < 512 from (by omega))) ?_
      refine go Try.tbs_ok 1000 ?_
      refine ev_if_no (decide_eq_false (show ¬l[i].k.tmod 9 ≥ 4 from (by omega))) ?_
      refine go Try.tbs_ok 1000 ?_
      refine ev_wrapN (i + 1) (by constructor <;> omega) (by rfl) ?_
      refine ev_fin (round_next ((i + 1, lst, K, S, cm, A1, n1, c1, A2, n2, c2)) (?_ : i + 1 ≤ l.length ∧ S = List.map (fun m ↦ m.s.stamp) lst ∧ n1 = K.length ∧ n2 = S.length ∧ K.length = lst.length ∧ List.Pairwise (fun x1 x2 ↦ x1 < x2) K ∧ (∀ (k : Int), k ∈ K → k < cm) ∧ (0 ≤ cm ∧ cm ≤ (↑(i + 1) : Int)) ∧ lst.length ≤ i + 1 ∧ lst.length ≤ 512 ∧ ∀ (m : Msg), m ∈ lst → m.es.length ≤ 4000) (show l.length - (i + 1) < l.length - i from (by omega)) ⟨⟨by kernel_rfl, by kernel_rfl⟩, ⟨_, rfl⟩, ⟨_, rfl⟩, by kernel_rfl, by kernel_rfl⟩)
      rotate_left
      refine go Try.tbs_ok 1000 ?_
      refine ev_if_yes (decide_eq_true (show l[i].k.tmod 9 ≥ 4 from (by omega))) ?_
      refine go Try.tbs_ok 1000 ?_
      refine ev_if_ne (fun h110 => ?_) (fun h110 => ?_)
      refine go Try.tbs_ok 1000 ?_
      refine ev_if_lt (fun h111 => ?_) (fun h111 => ?_)
      refine go Try.tbs_ok 1000 ?_
      refine ev_if_no (decide_eq_false (show ¬l[i].i < (↑n1 : Int) from (by omega))) ?_
      refine go Try.tbs_ok 1000 ?_
      refine ev_wrapN (i + 1) (by constructor <;> omega) (by rfl) ?_
      refine ev_fin (round_next ((i + 1, lst, K, S, cm, A1, n1, c1, A2, n2, c2)) (?_ : i + 1 ≤ l.length ∧ S = List.map (fun m ↦ m.s.stamp) lst ∧ n1 = K.length ∧ n2 = S.length ∧ K.length = lst.length ∧ List.Pairwise (fun x1 x2 ↦ x1 < x2) K ∧ (∀ (k : Int), k ∈ K → k < cm) ∧ (0 ≤ cm ∧ cm ≤ (↑(i + 1) : Int)) ∧ lst.length ≤ i + 1 ∧ lst.length ≤ 512 ∧ ∀ (m : Msg), m ∈ lst → m.es.length ≤ 4000) (show l.length - (i + 1) < l.length - i from (by omega)) ⟨⟨by kernel_rfl, by kernel_rfl⟩, ⟨_, rfl⟩, ⟨_, rfl⟩, by kernel_rfl, by kernel_rfl⟩)
      rotate_left
      refine go Try.tbs_ok 1000 ?_
      refine ev_wrapN (i + 1) (by constructor <;> omega) (by rfl) ?_
      refine ev_fin (round_next ((i + 1, lst, K, S, cm, A1, n1, c1, A2, n2, c2)) (?_ : i + 1 ≤ l.length ∧ S = List.map (fun m ↦ m.s.stamp) lst ∧ n1 = K.length ∧ n2 = S.length ∧ K.length = lst.length ∧ List.Pairwise (fun x1 x2 ↦ x1 < x2) K ∧ (∀ (k : Int), k ∈ K → k < cm) ∧ (0 ≤ cm ∧ cm ≤ (↑(i + 1) : Int)) ∧ lst.length ≤ i + 1 ∧ lst.length ≤ 512 ∧ ∀ (m : Msg), m ∈ lst → m.es.length ≤ 4000) (show l.length - (i + 1) < l.length - i from (by omega)) ⟨⟨by kernel_rfl, by kernel_rfl⟩, ⟨_, rfl⟩, ⟨_, rfl⟩, by kernel_rfl, by kernel_rfl⟩)
      rotate_left
      refine go Try.tbs_ok 1000 ?_
      refine ev_wrapN (i + 1) (by constructor <;> omega) (by rfl) ?_
      refine ev_fin (round_next ((i + 1, lst, K, S, cm, A1, n1, c1, A2, n2, c2)) (?_ : i + 1 ≤ l.length ∧ S = List.map (fun m ↦ m.s.stamp) lst ∧ n1 = K.length ∧ n2 = S.length ∧ K.length = lst.length ∧ List.Pairwise (fun x1 x2 ↦ x1 < x2) K ∧ (∀ (k : Int), k ∈ K → k < cm) ∧ (0 ≤ cm ∧ cm ≤ (↑(i + 1) : Int)) ∧ lst.length ≤ i + 1 ∧ lst.length ≤ 512 ∧ ∀ (m : Msg), m ∈ lst → m.es.length ≤ 4000) (show l.length - (i + 1) < l.length - i from (by omega)) ⟨⟨by kernel_rfl, by kernel_rfl⟩, ⟨_, rfl⟩, ⟨_, rfl⟩, by kernel_rfl, by kernel_rfl⟩)
      rotate_left
      all_goals exact ⟨by omega, hS, hn1, hn2, hKl, hKp, hKc, by omega, by omega, h512, hle⟩
    · rw [hb, hR1] at T1
      refine go Try.tbs_ok 1000 ?_
      refine ev_stop (go_indexE (sz := 20) Try.tbs_ok (.inl 0) (i) rfl rfl rfl rfl rfl rfl (by omega) rfl (fun _ h => h) (fun g200 o202 e201 => ?_))
      subst e201
      refine go Try.tbs_ok 1000 ?_
      have l203 : i < (l).length := (by omega)
      refine ev_stop (go_loadE Try.tbs_ok (.inl 0) (i) 0 rfl rfl rfl rfl (fun _ h => h) (by omega) (fun _ => rfl) (by omega) l203 (by decide) ?_)
      refine go Try.tbs_ok 1000 ?_
      refine ev_new fun b204 => ?_
      refine ev_callF (T1 (l[i].m.a) (l[i].m.c)) [0] [.inl 2] rfl rfl (by decide) rfl (by simp) (fun _ => (by repeat (first | exact trivial | refine ⟨rfl, ?_⟩))) (fun x205 h206 => ?_)
      refine go Try.tbs_ok 1000 ?_
      refine ev_new fun b207 => ?_
      refine ev_if_no rfl ?_
      refine go Try.tbs_ok 1000 ?_
      refine ev_if_yes (decide_eq_true (show l[i].k.tmod 9 < 4 from (by omega))) ?_
      refine go Try.tbs_ok 1000 ?_
      refine ev_new fun b208 => ?_
      refine ev_stop (go_appendE (sz := 1) (M := [_]) (enc := encN) Try.tbs_ok [3] [] (.inr 7) (K) ([cm]) ((K) ++ ([cm])) (n1 + 1) rfl rfl rfl rfl rfl rfl rfl (by decide) rfl (by decide) (fun _ p => starH_one.1 p) rfl (fun _ p => Pt.rd p rfl) (by first | rfl | simp) (by first | rfl | omega) (le_app (s := n1 + 1) (by omega) (by first | rfl | omega)) (le_appb (s := n1 + 1) (by omega) (by first | rfl | omega) (by decide)) (fun _ _ => (by repeat (first | exact trivial | refine ⟨rfl, ?_⟩))) (fun A209 c210 h211 => ?_))
      refine go Try.tbs_ok 1000 ?_
      refine ev_new fun b212 => ?_
      refine ev_stop (go_appendE (sz := 1) (M := [_]) (enc := encN) Try.tbs_ok [2] [] (.inr 8) (S) ([cm]) ((S) ++ ([cm])) (n2 + 1) rfl rfl rfl rfl rfl rfl rfl (by decide) rfl (by decide) (fun _ p => starH_one.1 p) rfl (fun _ p => Pt.rd p rfl) (by first | rfl | simp) (by first | rfl | omega) (le_app (s := n2 + 1) (by omega) (by first | rfl | omega)) (le_appb (s := n2 + 1) (by omega) (by first | rfl | omega) (by decide)) (fun _ _ => (by repeat (first | exact trivial | refine ⟨rfl, ?_⟩))) (fun A213 c214 h215 => ?_))
      refine go Try.tbs_ok 1000 ?_
      refine ev_w64 (by constructor <;> omega) ?_
      refine ev_wrapN (i + 1) (by constructor <;> omega) (by rfl) ?_
      refine ev_fin (round_next ((i + 1, lst ++ [{ s := stampM l[i].m.s cm, es := l[i].m.es }], K ++ [cm], S ++ [cm], cm + 1, A209, n1 + 1, c210, A213, n2 + 1, c214)) ?_ (show l.length - (i + 1) < l.length - i from (by omega)) ⟨⟨by kernel_rfl, by kernel_rfl⟩, ⟨_, rfl⟩, ⟨_, rfl⟩, by kernel_rfl, by kernel_rfl⟩)
      refine ⟨by omega, by rw [hS, List.map_append]; rfl, by simp [hn1], by simp [hn2], by simp [hKl], ?_, ?_, by omega, by simp; omega, by rw [← hR1]; exact hac5, by rw [← hR1]; exact hac2⟩
      · rw [List.pairwise_append]
        exact ⟨hKp, List.pairwise_singleton _ _, fun a ha b hb => by rw [List.mem_singleton.1 hb]; exact hKc a ha⟩
      · intro k hk
        rcases List.mem_append.1 hk with hk | hk
        · have := hKc k hk; omega
        · rw [List.mem_singleton.1 hk]; omega
    · rw [hb, hR1] at T1
      refine go Try.tbs_ok 1000 ?_
      refine ev_stop (go_indexE (sz := 20) Try.tbs_ok (.inl 0) (i) rfl rfl rfl rfl rfl rfl (by omega) rfl (fun _ h => h) (fun g300 o302 e301 => ?_))
      subst e301
      refine go Try.tbs_ok 1000 ?_
      have l303 : i < (l).length := (by omega)
      refine ev_stop (go_loadE Try.tbs_ok (.inl 0) (i) 0 rfl rfl rfl rfl (fun _ h => h) (by omega) (fun _ => rfl) (by omega) l303 (by decide) ?_)
      refine go Try.tbs_ok 1000 ?_
      refine ev_new fun b304 => ?_
      refine ev_callF (T1 (l[i].m.a) (l[i].m.c)) [0] [.inl 2] rfl rfl (by decide) rfl (by simp) (fun _ => (by repeat (first | exact trivial | refine ⟨rfl, ?_⟩))) (fun x305 h306 => ?_)
      refine go Try.tbs_ok 1000 ?_
      refine ev_new fun b307 => ?_
      refine ev_if_no rfl ?_
      refine go Try.tbs_ok 1000 ?_
      refine ev_if_no (decide_eq_false (show ¬l[i].k.tmod 9 < 4 from (by omega))) ?_
      refine go Try.tbs_ok 1000 ?_
      refine ev_if_no (beq_eq_false_iff_ne.2 (show ¬l[i].k.tmod 9 = 7 from (by omega))) ?_
      refine go Try.tbs_ok 1000 ?_
      refine ev_if_no (ne_no (show l[i].k.tmod 9 = 4 from (by omega))) ?_
      refine go Try.tbs_ok 1000 ?_
      refine ev_wrapN (i + 1) (by constructor <;> omega) (by rfl) ?_
      refine ev_fin (round_next ((i + 1, lst, K, S, cm, A1, n1, c1, A2, n2, c2)) (?_ : i + 1 ≤ l.length ∧ S = List.map (fun m ↦ m.s.stamp) lst ∧ n1 = K.length ∧ n2 = S.length ∧ K.length = lst.length ∧ List.Pairwise (fun x1 x2 ↦ x1 < x2) K ∧ (∀ (k : Int), k ∈ K → k < cm) ∧ (0 ≤ cm ∧ cm ≤ (↑(i + 1) : Int)) ∧ lst.length ≤ i + 1 ∧ lst.length ≤ 512 ∧ ∀ (m : Msg), m ∈ lst → m.es.length ≤ 4000) (show l.length - (i + 1) < l.length - i from (by omega)) ⟨⟨by kernel_rfl, by kernel_rfl⟩, ⟨_, rfl⟩, ⟨_, rfl⟩, by kernel_rfl, by kernel_rfl⟩)
      all_goals exact ⟨by omega, hS, hn1, hn2, hKl, hKp, hKc, by omega, by omega, h512, hle⟩
    · rw [hb, hR1] at T1
      refine go Try.tbs_ok 1000 ?_
      refine ev_stop (go_indexE (sz := 20) Try.tbs_ok (.inl 0) (i) rfl rfl rfl rfl rfl rfl (by omega) rfl (fun _ h => h) (fun g400 o402 e401 => ?_))
      subst e401
      refine go Try.tbs_ok 1000 ?_
      have l403 : i < (l).length := (by omega)
      refine ev_stop (go_loadE Try.tbs_ok (.inl 0) (i) 0 rfl rfl rfl rfl (fun _ h => h) (by omega) (fun _ => rfl) (by omega) l403 (by decide) ?_)
      refine go Try.tbs_ok 1000 ?_
      refine ev_new fun b404 => ?_
      refine ev_callF (T1 (l[i].m.a) (l[i].m.c)) [0] [.inl 2] rfl rfl (by decide) rfl (by simp) (fun _ => (by repeat (first | exact trivial | refine ⟨rfl, ?_⟩))) (fun x405 h406 => ?_)
      refine go Try.tbs_ok 1000 ?_
      refine ev_new fun b407 => ?_
      refine ev_if_no rfl ?_
      refine go Try.tbs_ok 1000 ?_
      refine ev_if_no (decide_eq_false (show ¬l[i].k.tmod 9 < 4 from (by omega))) ?_
      refine go Try.tbs_ok 1000 ?_
      refine ev_if_yes (beq_iff_eq.2 (show l[i].k.tmod 9 = 7 from (by omega))) ?_
      refine go Try.tbs_ok 1000 ?_
      refine ev_if_no (decide_eq_false (show ¬l[i].i < 0 from (by omega))) ?_
      refine go Try.tbs_ok 1000 ?_
      refine ev_if_no (decide_eq_false (show ¬l[i].i ≥ (↑n2 : Int) from (by omega))) ?_
      refine go Try.tbs_ok 1000 ?_
      refine ev_new fun b408 => ?_
      refine ev_stop (go_appendE (sz := 1) (M := [_]) (enc := encN) Try.tbs_ok [3] [] (.inr 7) (K) ([cm]) ((K) ++ ([cm])) (n1 + 1) rfl rfl rfl rfl rfl rfl rfl (by decide) rfl (by decide) (fun _ p => starH_one.1 p) rfl (fun _ p => Pt.rd p rfl) (by first | rfl | simp) (by first | rfl | omega) (le_app (s := n1 + 1) (by omega) (by first | rfl | omega)) (le_appb (s := n1 + 1) (by omega) (by first | rfl | omega) (by decide)) (fun _ _ => (by repeat (first | exact trivial | refine ⟨rfl, ?_⟩))) (fun A409 c410 h411 => ?_))
      refine go Try.tbs_ok 1000 ?_
      refine ev_stop (go_slot 104 _ (.va (.int .i64 (j : Nat))) rfl rfl (by simp [SV.den, hij]) (fun _ => trivial) ?_)
      refine go_slot 9 _ (.va (.int .i64 (j : Nat))) rfl rfl (by simp [SV.den, hij]) (fun _ => trivial) ?_
      refine go Try.tbs_ok 1000 ?_
      refine ev_stop (go_index0 (sz := 1) Try.tbs_ok (.inr 2) (j) rfl rfl rfl rfl rfl rfl (by omega) rfl Row.at0 (fun g450 e451 => ?_))
      subst e451
      refine go Try.tbs_ok 1000 ?_
      have l452 : j < (S).length := (by omega)
      refine ev_stop (go_loadE Try.tbs_ok (.inr 2) (j) 0 rfl rfl rfl rfl (fun _ h => Row.rd h) (by omega) (fun _ => rfl) (by omega) l452 (by decide) ?_)
      refine go Try.tbs_ok 1000 ?_
      refine ev_new fun b453 => ?_
      refine ev_stop (go_appendE (sz := 1) (M := [_]) (enc := encN) Try.tbs_ok [2] [] (.inr 8) (S) ([S[j]]) ((S) ++ ([S[j]])) (n2 + 1) rfl rfl rfl rfl rfl rfl rfl (by decide) rfl (by decide) (fun _ p => starH_one.1 p) rfl (fun _ p => Pt.rd p rfl) (by first | rfl | simp) (by first | rfl | omega) (le_app (s := n2 + 1) (by omega) (by first | rfl | omega)) (le_appb (s := n2 + 1) (by omega) (by first | rfl | omega) (by decide)) (fun _ _ => (by repeat (first | exact trivial | refine ⟨rfl, ?_⟩))) (fun A454 c455 h456 => ?_))
      refine go Try.tbs_ok 1000 ?_
      refine ev_w64 (by constructor <;> omega) ?_
      refine ev_wrapN (i + 1) (by constructor <;> omega) (by rfl) ?_
      refine ev_fin (round_next ((i + 1, lst ++ [lst[j]], K ++ [cm], S ++ [S[j]], cm + 1, A409, n1 + 1, c410, A454, n2 + 1, c455)) (?_ : i + 1 ≤ l.length ∧ S ++ [S[j]] = List.map (fun m ↦ m.s.stamp) (lst ++ [lst[j]]) ∧ n1 + 1 = (K ++ [cm]).length ∧ n2 + 1 = (S ++ [S[j]]).length ∧ (K ++ [cm]).length = (lst ++ [lst[j]]).length ∧ List.Pairwise (fun x1 x2 ↦ x1 < x2) (K ++ [cm]) ∧ (∀ (k : Int), k ∈ K ++ [cm] → k < cm + 1) ∧ (0 ≤ cm + 1 ∧ cm + 1 ≤ (↑(i + 1) : Int)) ∧ (lst ++ [lst[j]]).length ≤ i + 1 ∧ (lst ++ [lst[j]]).length ≤ 512 ∧ ∀ (m : Msg), m ∈ lst ++ [lst[j]] → m.es.length ≤ 4000) (show l.length - (i + 1) < l.length - i from (by omega)) ⟨⟨by kernel_rfl, by kernel_rfl⟩, ⟨_, rfl⟩, ⟨_, rfl⟩, by kernel_rfl, by kernel_rfl⟩)
      refine ⟨by omega, by simp only [hS, List.map_append, List.map_cons, List.map_nil, List.getElem_map], by simp [hn1], by simp [hn2], by simp [hKl], ?_, ?_, by omega, by simp; omega, by rw [← hR1]; exact hac5, by rw [← hR1]; exact hac2⟩
      · rw [List.pairwise_append]
        exact ⟨hKp, List.pairwise_singleton _ _, fun a ha b hb => by rw [List.mem_singleton.1 hb]; exact hKc a ha⟩
      · intro k hk
        rcases List.mem_append.1 hk with hk | hk
        · have := hKc k hk; omega
        · rw [List.mem_singleton.1 hk]; omega
    · rw [hb, hR1] at T1
      refine go Try.tbs_ok 1000 ?_
      refine ev_stop (go_indexE (sz := 20) Try.tbs_ok (.inl 0) (i) rfl rfl rfl rfl rfl rfl (by omega) rfl (fun _ h => h) (fun g500 o502 e501 => ?_))
      subst e501
      refine go Try.tbs_ok 1000 ?_
      have l503 : i < (l).length := (by omega)
      refine ev_stop (go_loadE Try.tbs_ok (.inl 0) (i) 0 rfl rfl rfl rfl (fun _ h => h) (by omega) (fun _ => rfl) (by omega) l503 (by decide) ?_)
      refine go Try.tbs_ok 1000 ?_
      refine ev_new fun b504 => ?_
      refine ev_callF (T1 (l[i].m.a) (l[i].m.c)) [0] [.inl 2] rfl rfl (by decide) rfl (by simp) (fun _ => (by repeat (first | exact trivial | refine ⟨rfl, ?_⟩))) (fun x505 h506 => ?_)
      refine go Try.tbs_ok 1000 ?_
      refine ev_new fun b507 => ?_
      refine ev_if_no rfl ?_
      refine go Try.tbs_ok 1000 ?_
      refine ev_if_no (decide_eq_false (show ¬l[i].k.tmod 9 < 4 from (by omega))) ?_
      refine go Try.tbs_ok 1000 ?_
      refine ev_if_no (beq_eq_false_iff_ne.2 (show ¬l[i].k.tmod 9 = 7 from (by omega))) ?_
      refine go Try.tbs_ok 1000 ?_
      refine ev_if_yes (ne_yes (show ¬l[i].k.tmod 9 = 4 from (by omega))) ?_
      refine go Try.tbs_ok 1000 ?_
      refine ev_if_no (decide_eq_false (show ¬l[i].i < 0 from (by omega))) ?_
      refine go Try.tbs_ok 1000 ?_
      refine ev_if_no (decide_eq_false (show ¬l[i].i ≥ (↑n1 : Int) from (by omega))) ?_
      refine go Try.tbs_ok 1000 ?_
      refine ev_stop (go_draw Try.tbs_ok false [] [(1,true),(2,true),(3,true),(5,true),(6,true),(7,true),(8,true),(0,false),(4,false),(9,false),(10,false)] rfl ?_)
      refine go Try.tbs_ok 1000 ?_
      refine ev_need ⟨⟨(by repeat (first | exact trivial | refine ⟨rfl, ?_⟩)), rfl⟩, by kernel_rfl⟩ ?_
      refine ev_stop (go_slot 124 _ (.va (.int .i64 (j : Nat))) rfl rfl (by simp [SV.den, hij]) (fun _ => trivial) ?_)
      refine go_slot 9 _ (.va (.int .i64 (j : Nat))) rfl rfl (by simp [SV.den, hij]) (fun _ => trivial) ?_
      refine go Try.tbs_ok 1000 ?_
      refine ev_need ⟨⟨(by repeat (first | exact trivial | refine ⟨rfl, ?_⟩)), rfl⟩, by kernel_rfl⟩ ?_
      refine ev_stop (tk_front Try.tbs_ok (j) (c1) ⟨⟨(by repeat (first | exact trivial | refine ⟨rfl, ?_⟩)), rfl⟩, by kernel_rfl⟩ rfl rfl rfl rfl rfl rfl rfl ⟨_, rfl⟩ rfl (by decide) (by omega) (by omega) ?_)
      refine go Try.tbs_ok 1000 ?_
      refine ev_need ⟨⟨(by repeat (first | exact trivial | refine ⟨rfl, ?_⟩)), rfl⟩, by kernel_rfl⟩ ?_
      refine ev_wrapN (j + 1) (by constructor <;> omega) (by rfl) ?_
      refine ev_stop (tk_back Try.tbs_ok (j + 1) (n1) (c1) ⟨⟨(by repeat (first | exact trivial | refine ⟨rfl, ?_⟩)), rfl⟩, by kernel_rfl⟩ rfl rfl rfl rfl rfl rfl ⟨_, rfl⟩ rfl rfl (by decide) (by omega) (by omega) (by omega) ?_)
      refine go Try.tbs_ok 1000 ?_
      refine ev_need ⟨⟨(by repeat (first | exact trivial | refine ⟨rfl, ?_⟩)), rfl⟩, by kernel_rfl⟩ ?_
      refine ev_new fun b550 => ?_
      refine ev_need ⟨⟨(by repeat (first | exact trivial | refine ⟨rfl, ?_⟩)), rfl⟩, by kernel_rfl⟩ ?_
      refine ev_stop (go_appendE (sz := 1) (M := [_]) (enc := encN) Try.tbs_ok [7] [some b550] (.inr 3) ([]) (((K).take (j))) (((K).take (j))) (j) rfl rfl rfl rfl rfl rfl rfl (by decide) rfl (by decide) (fun _ p => Pt.row (starH_one.1 p) rfl (by decide)) rfl (fun _ h => rd_take (k := j) (fun _ => rfl) (Row.rd h) (by omega)) (by first | rfl | simp) (by first | rfl | omega) (le_app (s := j) (by omega) (by first | rfl | omega)) (le_appb (s := j) (by omega) (by first | rfl | omega) (by decide)) (fun _ _ => (by repeat (first | exact trivial | refine ⟨rfl, ?_⟩))) (fun A551 c552 h553 => ?_))
      refine go Try.tbs_ok 1000 ?_
      refine ev_need ⟨⟨(by repeat (first | exact trivial | refine ⟨rfl, ?_⟩)), rfl⟩, by kernel_rfl⟩ ?_
      refine ev_stop (go_appendE (sz := 1) (M := [_]) (enc := encN) Try.tbs_ok [8] [] (.inr 3) (List.take j K) ((((K).take ((j + 1) + (n1 - (j + 1)))).drop (j + 1))) ((List.take j K) ++ ((((K).take ((j + 1) + (n1 - (j + 1)))).drop (j + 1)))) (j + (n1 - (j + 1))) rfl rfl rfl rfl rfl rfl rfl (by decide) rfl (by decide) (fun _ p => starH_one.1 p) rfl (fun _ h => rd_part (lo := j + 1) (m := n1 - (j + 1)) (fun _ => rfl) (Row.rd h) (by omega) (by omega)) (by first | rfl | simp) (by first | rfl | omega) (le_app (s := j + (n1 - (j + 1))) (by omega) (by first | rfl | omega)) (le_appb (s := j + (n1 - (j + 1))) (by omega) (by first | rfl | omega) (by decide)) (fun _ _ => (by repeat (first | exact trivial | refine ⟨rfl, ?_⟩))) (fun A554 c555 h556 => ?_))
      refine go Try.tbs_ok 1000 ?_
      refine ev_need ⟨⟨(by repeat (first | exact trivial | refine ⟨rfl, ?_⟩)), rfl⟩, by kernel_rfl⟩ ?_
      refine ev_need (by kernel_rfl) ?_
      refine ev_stop (go_draw Try.tbs_ok false [] [(1,true),(2,true),(3,true),(5,true),(6,true),(7,true),(8,true),(0,false),(4,false),(9,false),(10,false)] rfl ?_)
      refine go Try.tbs_ok 1000 ?_
      refine ev_need ⟨⟨(by repeat (first | exact trivial | refine ⟨rfl, ?_⟩)), rfl⟩, by kernel_rfl⟩ ?_
      refine ev_stop (tk_front Try.tbs_ok (j) (c2) ⟨⟨(by repeat (first | exact trivial | refine ⟨rfl, ?_⟩)), rfl⟩, by kernel_rfl⟩ rfl rfl rfl rfl rfl rfl rfl ⟨_, rfl⟩ rfl (by decide) (by omega) (by omega) ?_)
      refine go Try.tbs_ok 1000 ?_
      refine ev_need ⟨⟨(by repeat (first | exact trivial | refine ⟨rfl, ?_⟩)), rfl⟩, by kernel_rfl⟩ ?_
      refine ev_wrapN (j + 1) (by constructor <;> omega) (by rfl) ?_
      refine ev_stop (tk_back Try.tbs_ok (j + 1) (n2) (c2) ⟨⟨(by repeat (first | exact trivial | refine ⟨rfl, ?_⟩)), rfl⟩, by kernel_rfl⟩ rfl rfl rfl rfl rfl rfl ⟨_, rfl⟩ rfl rfl (by decide) (by omega) (by omega) (by omega) ?_)
      refine go Try.tbs_ok 1000 ?_
      refine ev_need ⟨⟨(by repeat (first | exact trivial | refine ⟨rfl, ?_⟩)), rfl⟩, by kernel_rfl⟩ ?_
      refine ev_new fun b557 => ?_
      refine ev_need ⟨⟨(by repeat (first | exact trivial | refine ⟨rfl, ?_⟩)), rfl⟩, by kernel_rfl⟩ ?_
      refine ev_stop (go_appendE (sz := 1) (M := [_]) (enc := encN) Try.tbs_ok [9] [some b557] (.inr 2) ([]) (((S).take (j))) (((S).take (j))) (j) rfl rfl rfl rfl rfl rfl rfl (by decide) rfl (by decide) (fun _ p => Pt.row (starH_one.1 p) rfl (by decide)) rfl (fun _ h => rd_take (k := j) (fun _ => rfl) (Row.rd h) (by omega)) (by first | rfl | simp) (by first | rfl | omega) (le_app (s := j) (by omega) (by first | rfl | omega)) (le_appb (s := j) (by omega) (by first | rfl | omega) (by decide)) (fun _ _ => (by repeat (first | exact trivial | refine ⟨rfl, ?_⟩))) (fun A558 c559 h560 => ?_))
      refine go Try.tbs_ok 1000 ?_
      refine ev_need ⟨⟨(by repeat (first | exact trivial | refine ⟨rfl, ?_⟩)), rfl⟩, by kernel_rfl⟩ ?_
      refine ev_stop (go_appendE (sz := 1) (M := [_]) (enc := encN) Try.tbs_ok [10] [] (.inr 2) (List.take j S) ((((S).take ((j + 1) + (n2 - (j + 1)))).drop (j + 1))) ((List.take j S) ++ ((((S).take ((j + 1) + (n2 - (j + 1)))).drop (j + 1)))) (j + (n2 - (j + 1))) rfl rfl rfl rfl rfl rfl rfl (by decide) rfl (by decide) (fun _ p => starH_one.1 p) rfl (fun _ h => rd_part (lo := j + 1) (m := n2 - (j + 1)) (fun _ => rfl) (Row.rd h) (by omega) (by omega)) (by first | rfl | simp) (by first | rfl | omega) (le_app (s := j + (n2 - (j + 1))) (by omega) (by first | rfl | omega)) (le_appb (s := j + (n2 - (j + 1))) (by omega) (by first | rfl | omega) (by decide)) (fun _ _ => (by repeat (first | exact trivial | refine ⟨rfl, ?_⟩))) (fun A561 c562 h563 => ?_))
      refine go Try.tbs_ok 1000 ?_
      refine ev_need ⟨⟨(by repeat (first | exact trivial | refine ⟨rfl, ?_⟩)), rfl⟩, by kernel_rfl⟩ ?_
      refine ev_need (by kernel_rfl) ?_
      refine ev_wrapN (i + 1) (by constructor <;> omega) (by rfl) ?_
      refine ev_move 2 10 (by decide) rfl rfl (by repeat (first | exact trivial | refine ⟨rfl, ?_⟩)) ?_
      refine ev_move 3 8 (by decide) rfl rfl (by repeat (first | exact trivial | refine ⟨rfl, ?_⟩)) ?_
      refine ev_fin (round_next ((i + 1, lst.eraseIdx j, List.take j K ++ List.drop (j + 1) (List.take (j + 1 + (n1 - (j + 1))) K), List.take j S ++ List.drop (j + 1) (List.take (j + 1 + (n2 - (j + 1))) S), cm, A554, j + (n1 - (j + 1)), c555, A561, j + (n2 - (j + 1)), c562)) (?_ : i + 1 ≤ l.length ∧ List.take j S ++ List.drop (j + 1) (List.take (j + 1 + (n2 - (j + 1))) S) = List.map (fun m ↦ m.s.stamp) (lst.eraseIdx j) ∧ j + (n1 - (j + 1)) = (List.take j K ++ List.drop (j + 1) (List.take (j + 1 + (n1 - (j + 1))) K)).length ∧ j + (n2 - (j + 1)) = (List.take j S ++ List.drop (j + 1) (List.take (j + 1 + (n2 - (j + 1))) S)).length ∧ (List.take j K ++ List.drop (j + 1) (List.take (j + 1 + (n1 - (j + 1))) K)).length = (lst.eraseIdx j).length ∧ List.Pairwise (fun x1 x2 ↦ x1 < x2) (List.take j K ++ List.drop (j + 1) (List.take (j + 1 + (n1 - (j + 1))) K)) ∧ (∀ (k : Int), k ∈ List.take j K ++ List.drop (j + 1) (List.take (j + 1 + (n1 - (j + 1))) K) → k < cm) ∧ (0 ≤ cm ∧ cm ≤ (↑(i + 1) : Int)) ∧ (lst.eraseIdx j).length ≤ i + 1 ∧ (lst.eraseIdx j).length ≤ 512 ∧ ∀ (m : Msg), m ∈ lst.eraseIdx j → m.es.length ≤ 4000) (show l.length - (i + 1) < l.length - i from (by omega)) ⟨⟨by kernel_rfl, by kernel_rfl⟩, ⟨_, rfl⟩, ⟨_, rfl⟩, by kernel_rfl, by kernel_rfl⟩)
      rw [er_take hn1 (by omega), er_take hn2 (by omega)]
      refine ⟨by omega, by rw [hS, map_erase], by rw [List.length_eraseIdx_of_lt (by omega)]; omega, by rw [List.length_eraseIdx_of_lt (by omega)]; omega, by rw [List.length_eraseIdx_of_lt (by omega), List.length_eraseIdx_of_lt hj, hKl], hKp.sublist (List.eraseIdx_sublist _ _), fun k hk => hKc k (List.mem_of_mem_eraseIdx hk), by omega, by rw [List.length_eraseIdx_of_lt hj]; omega, by rw [← hR1]; exact hac5, by rw [← hR1]; exact hac2⟩
  · have T2 := mAllL x2 lst hfl h512
    refine go Try.tbs_ok 1000 ?_
    refine ev_fin (go Try.tbs_ok 1000 ?_)
    refine ev_callF (T2 ) [0] [] rfl rfl (by decide) rfl (by simp) (fun _ => (by repeat (first | exact trivial | refine ⟨rfl, ?_⟩))) (fun ⟨x600, x601, x602, x603⟩ ⟨h604, h605, h606⟩ => ?_)
    refine go Try.tbs_ok 1000 ?_
    refine ev_if_no (ne_no (show (↑x602 : Int) = (↑n2 : Int) from (by omega))) ?_
    refine go Try.tbs_ok 1000 ?_
    refine ev_stop (go_loopR [2, 15, 149, 150, 151, 152, 153, 154, 155, 156, 157, 158, 159, 160, 161, 162, 163, 164, 165, 166, 167, 168, 169, 170, 171, 172, 173, 174, 175, 176, 177, 178, 179, 180] (fun a => [(15, .va (.int .i64 (a : Nat)))]) (fun _ => []) (fun a => a ≤ x602 ∧ True) (fun a => x602 - a) (0 : Nat) ⟨Nat.zero_le _, trivial⟩ ⟨⟨by kernel_rfl, by kernel_rfl⟩, ⟨_, rfl⟩, ⟨_, rfl⟩, by kernel_rfl, by kernel_rfl⟩ (fun a h_ => ?_))
    obtain ⟨ha⟩ := h_
    refine go Try.tbs_ok 1000 ?_
    refine ev_if_lt (fun h650 => ?_) (fun h650 => ?_)
    refine go Try.tbs_ok 1000 ?_
    refine ev_stop (go_draw Try.tbs_ok true [0, 2, 3, 4, 5] [(0,true),(1,true),(2,true),(3,true),(4,true),(5,true),(6,true),(7,true),(8,true),(9,true),(10,true),(11,true),(12,true),(13,true),(14,true),(15,true),(16,true),(17,true),(18,true),(19,true),(20,true),(21,true),(22,true),(23,true),(24,true),(25,true)] rfl ?_)
    refine go Try.tbs_ok 1000 ?_
    refine ev_need ⟨⟨(by repeat (first | exact trivial | refine ⟨rfl, ?_⟩)), rfl⟩, by kernel_rfl⟩ ?_
    refine ev_stop (tk_index0 (sz := 18) Try.tbs_ok (.inr 4) (a) ⟨⟨(by repeat (first | exact trivial | refine ⟨rfl, ?_⟩)), rfl⟩, by kernel_rfl⟩ rfl rfl rfl rfl rfl rfl rfl (by omega) rfl Row.at0 (fun g651 e652 => ?_))
    subst e652
    refine go Try.tbs_ok 1000 ?_
    refine ev_need ⟨⟨(by repeat (first | exact trivial | refine ⟨rfl, ?_⟩)), rfl⟩, by kernel_rfl⟩ ?_
    have l653 : a < (x600).length := (by omega)
    refine ev_stop (tk_loadE Try.tbs_ok (.inr 3) (a) 8 ⟨⟨(by repeat (first | exact trivial | refine ⟨rfl, ?_⟩)), rfl⟩, by kernel_rfl⟩ rfl rfl rfl rfl rfl (fun _ h => Row.rd h) (by omega) (fun _ => rfl) (by omega) l653 (by decide) ?_)
    refine go Try.tbs_ok 1000 ?_
    refine ev_need ⟨⟨(by repeat (first | exact trivial | refine ⟨rfl, ?_⟩)), rfl⟩, by kernel_rfl⟩ ?_
    refine ev_stop (tk_index0 (sz := 1) Try.tbs_ok (.inr 2) (a) ⟨⟨(by repeat (first | exact trivial | refine ⟨rfl, ?_⟩)), rfl⟩, by kernel_rfl⟩ rfl rfl rfl rfl rfl rfl rfl (by omega) rfl Row.at0 (fun g654 e655 => ?_))
    subst e655
    refine go Try.tbs_ok 1000 ?_
    refine ev_need ⟨⟨(by repeat (first | exact trivial | refine ⟨rfl, ?_⟩)), rfl⟩, by kernel_rfl⟩ ?_
    have l656 : a < (S).length := (by omega)
    refine ev_stop (tk_loadE Try.tbs_ok (.inr 1) (a) 0 ⟨⟨(by repeat (first | exact trivial | refine ⟨rfl, ?_⟩)), rfl⟩, by kernel_rfl⟩ rfl rfl rfl rfl rfl (fun _ h => Row.rd h) (by omega) (fun _ => rfl) (by omega) l656 (by decide) ?_)
    refine go Try.tbs_ok 1000 ?_
    refine ev_need ⟨⟨(by repeat (first | exact trivial | refine ⟨rfl, ?_⟩)), rfl⟩, by kernel_rfl⟩ ?_
    refine ev_if_ne (fun h657 => ?_) (fun h657 => ?_)
    refine go Try.tbs_ok 1000 ?_
    refine ev_need ⟨⟨(by repeat (first | exact trivial | refine ⟨rfl, ?_⟩)), rfl⟩, by kernel_rfl⟩ ?_
    refine ev_fin ⟨trivial, _, rfl, (()), ?_, (by trivial), Frm.nil _⟩
    rotate_left
    refine go Try.tbs_ok 1000 ?_
    refine ev_need ⟨⟨(by repeat (first | exact trivial | refine ⟨rfl, ?_⟩)), rfl⟩, by kernel_rfl⟩ ?_
    refine ev_if_lt (fun h658 => ?_) (fun h658 => ?_)
    refine go Try.tbs_ok 1000 ?_
    refine ev_need ⟨⟨(by repeat (first | exact trivial | refine ⟨rfl, ?_⟩)), rfl⟩, by kernel_rfl⟩ ?_
    refine ev_stop (tk_index0 (sz := 1) Try.tbs_ok (.inr 3) (a) ⟨⟨(by repeat (first | exact trivial | refine ⟨rfl, ?_⟩)), rfl⟩, by kernel_rfl⟩ rfl rfl rfl rfl rfl rfl rfl (by omega) rfl Row.at0 (fun g659 e660 => ?_))
    subst e660
    refine go Try.tbs_ok 1000 ?_
    refine ev_need ⟨⟨(by repeat (first | exact trivial | refine ⟨rfl, ?_⟩)), rfl⟩, by kernel_rfl⟩ ?_
    have l661 : a < (K).length := (by omega)
    refine ev_stop (tk_loadE Try.tbs_ok (.inr 2) (a) 0 ⟨⟨(by repeat (first | exact trivial | refine ⟨rfl, ?_⟩)), rfl⟩, by kernel_rfl⟩ rfl rfl rfl rfl rfl (fun _ h => Row.rd h) (by omega) (fun _ => rfl) (by omega) l661 (by decide) ?_)
    refine go Try.tbs_ok 1000 ?_
    refine ev_need ⟨⟨(by repeat (first | exact trivial | refine ⟨rfl, ?_⟩)), rfl⟩, by kernel_rfl⟩ ?_
    refine ev_wrapN (a - 1) (by constructor <;> omega) (by omega) ?_
    refine ev_stop (tk_atE (sz := 1) Try.tbs_ok (a - 1) ⟨⟨(by repeat (first | exact trivial | refine ⟨rfl, ?_⟩)), rfl⟩, by kernel_rfl⟩ rfl rfl rfl rfl rfl rfl rfl (by omega) ?_)
    refine go Try.tbs_ok 1000 ?_
    refine ev_need ⟨⟨(by repeat (first | exact trivial | refine ⟨rfl, ?_⟩)), rfl⟩, by kernel_rfl⟩ ?_
    have l662 : a - 1 < (K).length := (by omega)
    refine ev_stop (tk_loadE Try.tbs_ok (.inr 2) (a - 1) 0 ⟨⟨(by repeat (first | exact trivial | refine ⟨rfl, ?_⟩)), rfl⟩, by kernel_rfl⟩ rfl rfl rfl rfl rfl (fun _ h => Row.rd h) (by omega) (fun _ => rfl) (by omega) l662 (by decide) ?_)
    refine go Try.tbs_ok 1000 ?_
    refine ev_need ⟨⟨(by repeat (first | exact trivial | refine ⟨rfl, ?_⟩)), rfl⟩, by kernel_rfl⟩ ?_
    refine ev_if_lt (fun h663 => ?_) (fun h663 => ?_)
    refine go Try.tbs_ok 1000 ?_
    refine ev_fin ⟨trivial, _, rfl, (()), ?_, (by trivial), Frm.nil _⟩
    rotate_left
    refine go Try.tbs_ok 1000 ?_
    refine ev_wrapN (a + 1) (by constructor <;> omega) (by rfl) ?_
    refine ev_fin (round_next (a + 1) (show a + 1 ≤ x602 ∧ True from (by (refine ⟨?_, ?_⟩ <;> first | assumption | omega | (simp only [List.length_set, List.length_append, List.length_cons, List.length_nil]; omega) | rfl))) (show x602 - (a + 1) < x602 - a from (by omega)) ⟨⟨by kernel_rfl, by kernel_rfl⟩, ⟨_, rfl⟩, ⟨_, rfl⟩, by kernel_rfl, by kernel_rfl⟩)
    refine go Try.tbs_ok 1000 ?_
    refine ev_need ⟨⟨(by repeat (first | exact trivial | refine ⟨rfl, ?_⟩)), rfl⟩, by kernel_rfl⟩ ?_
    refine ev_wrapN (a + 1) (by constructor <;> omega) (by rfl) ?_
    refine ev_fin (round_next (a + 1) (show a + 1 ≤ x602 ∧ True from (by (refine ⟨?_, ?_⟩ <;> first | assumption | omega | (simp only [List.length_set, List.length_append, List.length_cons, List.length_nil]; omega) | rfl))) (show x602 - (a + 1) < x602 - a from (by omega)) ⟨⟨by kernel_rfl, by kernel_rfl⟩, ⟨_, rfl⟩, ⟨_, rfl⟩, by kernel_rfl, by kernel_rfl⟩)
    refine go Try.tbs_ok 1000 ?_
    refine ev_fin (go Try.tbs_ok 1000 ?_)
    refine ev_callF (works ) [] [] rfl rfl (by decide) rfl (by simp) (fun _ => (by repeat (first | exact trivial | refine ⟨rfl, ?_⟩))) (fun _ h664 => ?_)
    refine go Try.tbs_ok 1000 ?_
    refine ev_fin ⟨trivial, _, rfl, (()), rfl, (by trivial), Frm.nil _⟩
    · exact absurd (by simp only [hS, ← h604, List.getElem_map]; rfl) h657
    · have h0a : (0 : Int) < (a : Int) := h658
      exact absurd h663 (Int.not_le.2 (List.pairwise_iff_getElem.1 hKp (a - 1) a l662 l661 (by omega)))
end Go.Proofs.Yteleepinalcjeaa
