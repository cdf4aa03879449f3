/-
  What is proved: lists of numbers: what is sought in them. Conditions: none.
-/
import Derived.Test.YtkjpfodnbjbmfaaRA
namespace Go.Proofs.Ytkjpfodnbjbmfaa
open Go.Sy

/-- where a number is, or would be -/
def posI (L : List Int) (x : Int) : Nat := L.countP (· < x)
theorem posI_le (L : List Int) (x : Int) : posI L x ≤ L.length := List.countP_le_length
theorem posI_of {L : List Int} {x : Int} {i : Nat} (hi : i ≤ L.length) (h1 : ∀ y ∈ L.take i, y < x) (h2 : ∀ y ∈ L.drop i, x ≤ y) : posI L x = i := by
  unfold posI
  rw [← List.take_append_drop i L, List.countP_append]
  have e1 : (L.take i).countP (· < x) = (L.take i).length := List.countP_eq_length.2 fun y hy => decide_eq_true (h1 y hy)
  have e2 : (L.drop i).countP (· < x) = 0 := List.countP_eq_zero.2 fun y hy => by
    have := h2 y hy
    simp
    omega
  rw [e1, e2, List.length_take]
  omega
theorem rise_take {L : List Int} (hs : L.Pairwise (· < ·)) {x : Int} {m : Nat} (hm : m < L.length) (h : L[m] < x) : ∀ y ∈ L.take (m + 1), y < x := fun y hy => by
  obtain ⟨k, hk, rfl⟩ := List.getElem_of_mem hy
  rw [List.length_take] at hk
  rw [List.getElem_take]
  rcases Nat.lt_or_ge k m with h2 | h2
  · have := List.pairwise_iff_getElem.1 hs k m (by omega) hm h2
    omega
  · obtain rfl : k = m := by omega
    exact h
theorem rise_drop {L : List Int} (hs : L.Pairwise (· < ·)) {x : Int} {m : Nat} (hm : m < L.length) (h : ¬ L[m] < x) : ∀ y ∈ L.drop m, x ≤ y := fun y hy => by
  obtain ⟨k, hk, rfl⟩ := List.getElem_of_mem hy
  rw [List.length_drop] at hk
  rw [List.getElem_drop]
  rcases Nat.eq_zero_or_pos k with h2 | h2
  · subst h2
    simp only [Nat.add_zero]
    omega
  · have := List.pairwise_iff_getElem.1 hs m (m + k) hm (by omega) (by omega)
    omega
set_option maxRecDepth 100000 in
theorem searchI (A : Option Addr) (L : List Int) (n c : Nat) (x : Int) (hn : n = L.length) (h1 : n ≤ 1000) (hs : L.Pairwise (· < ·)) :
    Triple Try.prog 22 [.slice A n c, .int .i64 x] [] [Rd 1 A n (L.flatMap encN)] Unit (fun _ => .tuple #[.int .i64 (posI L x : Nat), .bool (decide (x ∈ L))]) (fun _ => True) (fun _ => []) := by
  refine triple_intro Try.tbs_ok Try.func22 rfl [.va (.slice A n c), .va (.int .i64 x)] [] ⟨trivial, trivial, trivial⟩ rfl (by simp) ?_
  intro E
  refine go Try.tbs_ok 1000 ?_
  refine ev_stop (go_loopR [7, 8, 9, 13, 14, 15, 16, 17, 18, 19, 20, 21, 22, 23, 24, 25, 26, 27, 28, 29, 30] (fun (i, j) => [(7, .va (.int .i64 (i : Nat))), (8, .va (.int .i64 (j : Nat)))]) (fun _ => []) (fun (i, j) => i ≤ j ∧ j ≤ n ∧ (∀ y ∈ L.take i, y < x) ∧ ∀ y ∈ L.drop j, x ≤ y) (fun (i, j) => j - i) ((0, n) : Nat × Nat) ⟨Nat.zero_le _, Nat.le_refl _, (fun y h => by simp at h), (fun y h => by rw [List.drop_of_length_le (by omega)] at h; cases h)⟩ ⟨⟨by kernel_rfl, by kernel_rfl⟩, ⟨_, rfl⟩, ⟨_, rfl⟩, by kernel_rfl, by kernel_rfl⟩ (fun x_ h_ => ?_))
  obtain ⟨i, j⟩ := x_
  obtain ⟨hij, hj, hlo, hhi⟩ := h_
  refine go Try.tbs_ok 1000 ?_
  refine ev_if_lt (fun h20 => ?_) (fun h20 => ?_)
  refine go Try.tbs_ok 1000 ?_
  refine ev_wrapN (i + j) (by constructor <;> omega) (by rfl) ?_
  refine ev_wu64 (show 0 ≤ (↑(i + j) : Int) ∧ (↑(i + j) : Int) < 18446744073709551616 from (by constructor <;> omega)) ?_
  refine ev_stop (go_bin (.va _) trivial rfl rfl rfl rfl rfl (by decide) (by decide) (fun w => shr_run (show 0 ≤ 1 from (by omega)) w) ?_)
  refine go Try.tbs_ok 1000 ?_
  rotate_left
  refine go Try.tbs_ok 1000 ?_
  refine ev_fin (go Try.tbs_ok 1000 ?_)
  refine ev_if_lt (fun h21 => ?_) (fun h21 => ?_)
  refine go Try.tbs_ok 1000 ?_
  refine ev_stop (go_indexE (sz := 1) Try.tbs_ok (.inl 0) (i) rfl rfl rfl rfl rfl rfl (by omega) rfl (fun _ h => h) (fun g22 o24 e23 => ?_))
  subst e23
  refine go Try.tbs_ok 1000 ?_
  have l25 : i < (L).length := (by omega)
  refine ev_stop (go_loadE Try.tbs_ok (.inl 0) (i) 0 rfl rfl rfl rfl (fun _ h => h) (by omega) (fun _ => rfl) (by omega) l25 (by decide) ?_)
  refine go Try.tbs_ok 1000 ?_
  refine ev_if_eq (fun h26 => ?_) (fun h26 => ?_)
  refine go Try.tbs_ok 1000 ?_
  refine ev_fin ⟨trivial, _, rfl, (()), ?_, (by trivial), Frm.nil _⟩
  rotate_left
  refine go Try.tbs_ok 1000 ?_
  refine ev_stop (go_atE (sz := 1) Try.tbs_ok (i) rfl rfl rfl rfl rfl rfl (by omega) ?_)
  refine go Try.tbs_ok 1000 ?_
  have l27 : i < (L).length := (by omega)
  refine ev_stop (go_loadE Try.tbs_ok (.inl 0) (i) 0 rfl rfl rfl rfl (fun _ h => h) (by omega) (fun _ => rfl) (by omega) l27 (by decide) ?_)
  refine go Try.tbs_ok 1000 ?_
  refine ev_callF (nan (L[i])) [] [] rfl rfl (by decide) rfl (by simp) (fun _ => (by repeat (first | exact trivial | refine ⟨rfl, ?_⟩))) (fun _ h28 => ?_)
  refine go Try.tbs_ok 1000 ?_
  refine ev_if_no rfl ?_
  refine go Try.tbs_ok 1000 ?_
  refine ev_fin ⟨trivial, _, rfl, (()), ?_, (by trivial), Frm.nil _⟩
  rotate_left
  refine go Try.tbs_ok 1000 ?_
  refine ev_fin ⟨trivial, _, rfl, (()), ?_, (by trivial), Frm.nil _⟩
  rotate_left
  · have e : ((i + j : Nat) : Int).fdiv (2 ^ min (Int.toNat 1) IntKind.u64.bits) = (((i + j) / 2 : Nat) : Int) := by
      rw [show (2 : Int) ^ min (Int.toNat 1) IntKind.u64.bits = 2 from rfl, Int.fdiv_eq_ediv_of_nonneg _ (by omega)]
      omega
    refine ev_wrapN ((i + j) / 2) (by rw [e]; omega) e ?_
    refine ev_stop (go_indexE (sz := 1) Try.tbs_ok (.inl 0) ((i + j) / 2) rfl rfl rfl rfl rfl rfl (by omega) rfl (fun _ h => h) (fun g60 o62 e61 => ?_))
    subst e61
    refine go Try.tbs_ok 1000 ?_
    have l63 : (i + j) / 2 < (L).length := (by omega)
    refine ev_stop (go_loadE Try.tbs_ok (.inl 0) ((i + j) / 2) 0 rfl rfl rfl rfl (fun _ h => h) (by omega) (fun _ => rfl) (by omega) l63 (by decide) ?_)
    refine go Try.tbs_ok 1000 ?_
    refine ev_callF (less (L[(i + j) / 2]) (x)) [] [] rfl rfl (by decide) rfl (by simp) (fun _ => (by repeat (first | exact trivial | refine ⟨rfl, ?_⟩))) (fun _ h64 => ?_)
    refine go Try.tbs_ok 1000 ?_
    refine ev_if_lt (fun h65 => ?_) (fun h65 => ?_)
    refine go Try.tbs_ok 1000 ?_
    refine ev_wrapN ((i + j) / 2 + 1) (by constructor <;> omega) (by rfl) ?_
    refine ev_fin (round_next (((i + j) / 2 + 1, j)) (?_ : (i + j) / 2 + 1 ≤ j ∧ j ≤ n ∧ (∀ (y : Int), y ∈ List.take ((i + j) / 2 + 1) L → y < x) ∧ ∀ (y : Int), y ∈ List.drop j L → x ≤ y) (show j - ((i + j) / 2 + 1) < j - i from (by omega)) ⟨⟨by kernel_rfl, by kernel_rfl⟩, ⟨_, rfl⟩, ⟨_, rfl⟩, by kernel_rfl, by kernel_rfl⟩)
    rotate_left
    refine go Try.tbs_ok 1000 ?_
    refine ev_fin (round_next ((i, (i + j) / 2)) (?_ : i ≤ (i + j) / 2 ∧ (i + j) / 2 ≤ n ∧ (∀ (y : Int), y ∈ List.take i L → y < x) ∧ ∀ (y : Int), y ∈ List.drop ((i + j) / 2) L → x ≤ y) (show (i + j) / 2 - i < j - i from (by omega)) ⟨⟨by kernel_rfl, by kernel_rfl⟩, ⟨_, rfl⟩, ⟨_, rfl⟩, by kernel_rfl, by kernel_rfl⟩)
    rotate_left
    · exact ⟨by omega, hj, rise_take hs l63 h65, hhi⟩
    · exact ⟨by omega, by omega, hlo, rise_drop hs l63 h65⟩
  · obtain rfl : i = j := by omega
    show retV _ = Value.tuple #[.int .i64 (posI L x : Nat), .bool (decide (x ∈ L))]
    rw [posI_of (by omega) hlo hhi, decide_eq_true (by rw [← h26]; exact List.getElem_mem _)]
    rfl
  · obtain rfl : i = j := by omega
    have l25 : i < L.length := by omega
    have hge : x ≤ L[i] := hhi _ (List.mem_iff_getElem.2 ⟨0, by rw [List.length_drop]; omega, by simp⟩)
    have hgt := rise_drop hs l25 (x := x + 1) (by omega)
    show retV _ = Value.tuple #[.int .i64 (posI L x : Nat), .bool (decide (x ∈ L))]
    rw [posI_of (by omega) hlo hhi, decide_eq_false (fun hx => by
      rw [← List.take_append_drop i L] at hx
      rcases List.mem_append.1 hx with hx | hx
      · have := hlo _ hx; omega
      · have := hgt _ hx; omega)]
    rfl
  · obtain rfl : i = j := by omega
    show retV _ = Value.tuple #[.int .i64 (posI L x : Nat), .bool (decide (x ∈ L))]
    rw [posI_of (by omega) hlo hhi, decide_eq_false (fun hx => by
      rw [← List.take_of_length_le (i := i) (l := L) (by omega)] at hx
      have := hlo _ hx
      omega)]
    rfl
set_option maxRecDepth 100000 in
theorem indexI (A : Option Addr) (L : List Int) (n c : Nat) (x : Int) (hn : n = L.length) (h1 : n ≤ 1000) :
    Triple Try.prog 33 [.slice A n c, .int .i64 x] [] [Rd 1 A n (L.flatMap encN)] Int (fun i => .int .i64 i) (fun i => (0 ≤ i ↔ x ∈ L) ∧ -1 ≤ i ∧ i ≤ 1000) (fun _ => []) := by
  refine triple_intro Try.tbs_ok Try.func33 rfl [.va (.slice A n c), .va (.int .i64 x)] [] ⟨trivial, trivial, trivial⟩ rfl (by simp) ?_
  intro E
  refine go Try.tbs_ok 1000 ?_
  refine ev_stop (go_loopR [4, 5, 8, 9, 10, 11, 12, 13, 14, 15, 16, 17, 18] (fun i => [(8, .va (.int .i64 (i : Nat)))]) (fun _ => []) (fun i => i ≤ n ∧ x ∉ L.take i) (fun i => n - i) (0 : Nat) ⟨Nat.zero_le _, (by simp)⟩ ⟨⟨by kernel_rfl, by kernel_rfl⟩, ⟨_, rfl⟩, ⟨_, rfl⟩, by kernel_rfl, by kernel_rfl⟩ (fun i h_ => ?_))
  obtain ⟨hi, hne⟩ := h_
  refine go Try.tbs_ok 1000 ?_
  refine ev_if_lt (fun h20 => ?_) (fun h20 => ?_)
  refine go Try.tbs_ok 1000 ?_
  refine ev_stop (go_indexE (sz := 1) Try.tbs_ok (.inl 0) (i) rfl rfl rfl rfl rfl rfl (by omega) rfl (fun _ h => h) (fun g21 o23 e22 => ?_))
  subst e22
  refine go Try.tbs_ok 1000 ?_
  have l24 : i < (L).length := (by omega)
  refine ev_stop (go_loadE Try.tbs_ok (.inl 0) (i) 0 rfl rfl rfl rfl (fun _ h => h) (by omega) (fun _ => rfl) (by omega) l24 (by decide) ?_)
  refine go Try.tbs_ok 1000 ?_
  refine ev_if_eq (fun h25 => ?_) (fun h25 => ?_)
  refine go Try.tbs_ok 1000 ?_
  refine ev_fin ⟨trivial, _, rfl, ((↑i : Int)), rfl, ?_, Frm.nil _⟩
  rotate_left
  refine go Try.tbs_ok 1000 ?_
  refine ev_wrapN (i + 1) (by constructor <;> omega) (by rfl) ?_
  refine ev_fin (round_next (i + 1) (?_ : i + 1 ≤ n ∧ ¬x ∈ List.take (i + 1) L) (show n - (i + 1) < n - i from (by omega)) ⟨⟨by kernel_rfl, by kernel_rfl⟩, ⟨_, rfl⟩, ⟨_, rfl⟩, by kernel_rfl, by kernel_rfl⟩)
  rotate_left
  refine go Try.tbs_ok 1000 ?_
  refine ev_fin (go Try.tbs_ok 1000 ?_)
  refine ev_fin ⟨trivial, _, rfl, (-1), rfl, ?_, Frm.nil _⟩
  rotate_left
  · exact ⟨⟨fun _ => by rw [h25]; exact List.getElem_mem _, fun _ => by omega⟩, by omega, by omega⟩
  · refine ⟨by omega, fun hx => ?_⟩
    rw [← List.take_append_getElem l24] at hx
    rcases List.mem_append.1 hx with hx | hx
    · exact hne hx
    · exact h25 (List.mem_singleton.1 hx)
  · rw [List.take_of_length_le (by omega)] at hne
    exact ⟨⟨fun h => absurd h (by decide), fun h => absurd h hne⟩, by decide, by decide⟩
set_option maxRecDepth 100000 in
theorem containsI (A : Option Addr) (L : List Int) (n c : Nat) (x : Int) (hn : n = L.length) (h1 : n ≤ 1000) :
    Triple Try.prog 27 [.slice A n c, .int .i64 x] [] [Rd 1 A n (L.flatMap encN)] Unit (fun _ => .bool (decide (x ∈ L))) (fun _ => True) (fun _ => []) := by
  refine triple_intro Try.tbs_ok Try.func27 rfl [.va (.slice A n c), .va (.int .i64 x)] [] ⟨trivial, trivial, trivial⟩ rfl (by simp) ?_
  intro E
  refine go Try.tbs_ok 1000 ?_
  refine ev_callF (indexI (A) (L) (n) (c) (x) (by with_reducible assumption) (by with_reducible assumption)) [] [.inl 0] rfl rfl (by decide) rfl (by simp) (fun _ => (by repeat (first | exact trivial | refine ⟨rfl, ?_⟩))) (fun x0 ⟨h1, h2, h3⟩ => ?_)
  refine go Try.tbs_ok 1000 ?_
  refine ev_fin ⟨trivial, _, rfl, (()), ?_, (by trivial), Frm.nil _⟩
  exact congrArg Value.bool (decide_eq_decide.2 h1)
end Go.Proofs.Ytkjpfodnbjbmfaa
