/-
  What is proved: how far clocks are apart, by the program and by the chapter. Conditions: none.
-/
import Derived.Test.YtagfngobpooppaaPB
namespace Go.Proofs.Ytagfngobpooppaa
open Go.Sy

theorem manyM_le (n : Int) : manyM n ≤ 7 := by unfold manyM; split <;> omega
theorem clk_nil (m : Nat) : List.replicate m 0 = clk m [] := by
  apply List.ext_getElem
  · simp [clk]
  · intro s h1 h2
    rw [clk_get]
    simp [ticksM]
theorem wM_none (l : List StepI) : ∀ k, wM 0 l k = 0
  | 0 => rfl
  | k + 1 => by
    show max (wM 0 l k) (spread 0 (l.take k)) = 0
    rw [wM_none l k]
    rfl
theorem wM_one (m : Nat) (l : List StepI) : wM m l 1 = 0 := by
  show max 0 (spread m []) = 0
  rw [spread_zero]
  rfl
set_option maxRecDepth 100000 in
theorem pWorst (A : Option Addr) (l : List StepI) (c : Nat) (n : Int) (hn : l.length ≤ 1000000) :
    Triple Try.prog 8 [.int .i64 n, .slice A l.length c] [] [Rd 10 A l.length (l.flatMap encS)] Unit (fun _ => .int .i64 (worstM n l)) (fun _ => True) (fun _ => []) := by
  obtain ⟨m, hm⟩ : ∃ m, m = manyM n := ⟨_, rfl⟩
  have hm7 : m ≤ 7 := by rw [hm]; exact manyM_le n
  have T0 := many n
  unfold worstM
  rw [← hm] at T0 ⊢
  refine triple_intro Try.tbs_ok Try.func8 rfl [.va (.int .i64 n), .va (.slice A l.length c)] [] ⟨trivial, trivial, trivial⟩ rfl (by simp) ?_
  intro E
  refine go Try.tbs_ok 1000 ?_
  refine ev_callF (T0 ) [] [] rfl rfl (by decide) rfl (by simp) (fun _ => (by repeat (first | exact trivial | refine ⟨rfl, ?_⟩))) (fun _ h0 => ?_)
  refine go Try.tbs_ok 1000 ?_
  refine ev_stop (go_makeE (sz := 1) (enc := encN) Try.tbs_ok (m) (m) (0) rfl rfl rfl rfl rfl rfl rfl rfl rfl rfl (by omega) (le_max (by omega)) (le_bytes (by omega) (by decide)) (fun _ => (by repeat (first | exact trivial | refine ⟨rfl, ?_⟩))) (fun b1 => ?_))
  refine go Try.tbs_ok 1000 ?_
  refine ev_stop (go_loopR [6, 8, 14, 15, 16, 17, 18, 19, 20, 21, 22, 23, 24, 25, 26, 27, 28, 29, 30, 31, 32, 33, 34, 35, 36, 37, 38, 39, 40, 41, 42, 43, 44, 45, 46, 47, 48, 49, 50, 51, 52, 53, 54, 55] (fun (i, _, w) => [(6, .va (.int .i64 w)), (14, .va (.int .i64 (i : Nat)))]) (fun (_, C, _) => [(0, .fact (Row 3 1 (some ⟨b1, 0, none⟩) m m (C.flatMap encN)))]) (fun (i, C, w) => i ≤ l.length ∧ C = clk m (l.take i) ∧ w = wM m l (i + 1)) (fun (i, _, _) => l.length - i) ((0, List.replicate m 0, 0) : Nat × List Int × Int) ⟨Nat.zero_le _, clk_nil m, (wM_one m l).symm⟩ ⟨⟨by kernel_rfl, by kernel_rfl⟩, ⟨_, rfl⟩, ⟨_, rfl⟩, by kernel_rfl, by kernel_rfl⟩ (fun x_ h_ => ?_))
  obtain ⟨i, C, w⟩ := x_
  obtain ⟨hi, hC, hw⟩ := h_
  have hCl : C.length = m := by rw [hC, clk_len]
  have hCb : ∀ (j : Nat) (h : j < C.length), 0 ≤ C[j] ∧ C[j] ≤ (i : Int) := fun j h => by
    subst hC
    rw [clk_get]
    have := ticksM_le (l.take i) j
    rw [List.length_take] at this
    omega
  refine go Try.tbs_ok 1000 ?_
  refine ev_if_lt (fun h20 => ?_) (fun h20 => ?_)
  refine go Try.tbs_ok 1000 ?_
  refine ev_stop (go_indexE (sz := 10) Try.tbs_ok (.inl 0) (i) rfl rfl rfl rfl rfl rfl (by omega) rfl (fun _ h => h) (fun g21 o23 e22 => ?_))
  subst e22
  refine go Try.tbs_ok 1000 ?_
  have l24 : i < (l).length := (by omega)
  refine ev_stop (go_loadE Try.tbs_ok (.inl 0) (i) 0 rfl rfl rfl rfl (fun _ h => h) (by omega) (fun _ => rfl) (by omega) l24 (by decide) ?_)
  refine go Try.tbs_ok 1000 ?_
  refine ev_new fun b25 => ?_
  refine ev_if_ne (fun h26 => ?_) (fun h26 => ?_)
  refine go Try.tbs_ok 1000 ?_
  refine ev_wrapN (i + 1) (by constructor <;> omega) (by rfl) ?_
  refine ev_fin (round_next ((i + 1, C, w)) (?_ : i + 1 ≤ l.length ∧ C = clk m (List.take (i + 1) l) ∧ w = wM m l (i + 1 + 1)) (show l.length - (i + 1) < l.length - i from (by omega)) ⟨⟨by kernel_rfl, by kernel_rfl⟩, ⟨_, rfl⟩, ⟨_, rfl⟩, by kernel_rfl, by kernel_rfl⟩)
  rotate_left
  refine go Try.tbs_ok 1000 ?_
  refine ev_if_lt (fun h27 => ?_) (fun h27 => ?_)
  refine go Try.tbs_ok 1000 ?_
  refine ev_wrapN (i + 1) (by constructor <;> omega) (by rfl) ?_
  refine ev_fin (round_next ((i + 1, C, w)) (?_ : i + 1 ≤ l.length ∧ C = clk m (List.take (i + 1) l) ∧ w = wM m l (i + 1 + 1)) (show l.length - (i + 1) < l.length - i from (by omega)) ⟨⟨by kernel_rfl, by kernel_rfl⟩, ⟨_, rfl⟩, ⟨_, rfl⟩, by kernel_rfl, by kernel_rfl⟩)
  rotate_left
  refine go Try.tbs_ok 1000 ?_
  refine ev_if_lt (fun h28 => ?_) (fun h28 => ?_)
  refine go Try.tbs_ok 1000 ?_
  refine ev_wrapN (i + 1) (by constructor <;> omega) (by rfl) ?_
  refine ev_fin (round_next ((i + 1, C, w)) (?_ : i + 1 ≤ l.length ∧ C = clk m (List.take (i + 1) l) ∧ w = wM m l (i + 1 + 1)) (show l.length - (i + 1) < l.length - i from (by omega)) ⟨⟨by kernel_rfl, by kernel_rfl⟩, ⟨_, rfl⟩, ⟨_, rfl⟩, by kernel_rfl, by kernel_rfl⟩)
  rotate_left
  refine go Try.tbs_ok 1000 ?_
  refine ev_stop (go_slot 36 _ (.va (.int IntKind.i64 ((l[i].s.toNat : Nat) : Int))) rfl rfl (congrArg (fun z => Value.int IntKind.i64 z) (show l[i].s = ((l[i].s.toNat : Nat) : Int) by omega)) (fun _ => trivial) ?_)
  refine go Try.tbs_ok 1000 ?_
  refine ev_stop (go_atE (sz := 1) Try.tbs_ok (l[i].s.toNat) rfl rfl rfl rfl rfl rfl (by omega) ?_)
  refine go Try.tbs_ok 1000 ?_
  have l29 : l[i].s.toNat < (C).length := (by omega)
  refine ev_stop (go_loadE Try.tbs_ok (.inr 0) (l[i].s.toNat) 0 rfl rfl rfl rfl (fun _ h => Row.rd h) (by omega) (fun _ => rfl) (by omega) l29 (by decide) ?_)
  refine go Try.tbs_ok 1000 ?_
  refine ev_if_lt (fun h30 => ?_) (fun h30 => ?_)
  refine go Try.tbs_ok 1000 ?_
  refine ev_wrapN (i + 1) (by constructor <;> omega) (by rfl) ?_
  refine ev_fin (round_next ((i + 1, C, w)) (?_ : i + 1 ≤ l.length ∧ C = clk m (List.take (i + 1) l) ∧ w = wM m l (i + 1 + 1)) (show l.length - (i + 1) < l.length - i from (by omega)) ⟨⟨by kernel_rfl, by kernel_rfl⟩, ⟨_, rfl⟩, ⟨_, rfl⟩, by kernel_rfl, by kernel_rfl⟩)
  rotate_left
  refine go Try.tbs_ok 1000 ?_
  refine ev_stop (go_slot 43 _ (.va (.int IntKind.i64 ((l[i].s.toNat : Nat) : Int))) rfl rfl (congrArg (fun z => Value.int IntKind.i64 z) (show l[i].s = ((l[i].s.toNat : Nat) : Int) by omega)) (fun _ => trivial) ?_)
  refine go Try.tbs_ok 1000 ?_
  refine ev_stop (go_atE (sz := 1) Try.tbs_ok (l[i].s.toNat) rfl rfl rfl rfl rfl rfl (by omega) ?_)
  refine go Try.tbs_ok 1000 ?_
  have l31 : l[i].s.toNat < (C).length := (by omega)
  refine ev_stop (go_loadE Try.tbs_ok (.inr 0) (l[i].s.toNat) 0 rfl rfl rfl rfl (fun _ h => Row.rd h) (by omega) (fun _ => rfl) (by omega) l31 (by decide) ?_)
  refine go Try.tbs_ok 1000 ?_
  rotate_left
  refine go Try.tbs_ok 1000 ?_
  refine ev_fin (go Try.tbs_ok 1000 ?_)
  refine ev_fin ⟨trivial, _, rfl, (()), ?_, (by trivial), Frm.nil _⟩
  rotate_left
  · have hil : i < l.length := by omega
    have key : ¬ (l[i].k = 2 ∧ 0 ≤ l[i].s ∧ l[i].s < m) := by omega
    exact ⟨by omega, by rw [hC, clk_still hil key], by rw [hw, wM_still hil key]⟩
  · have hil : i < l.length := by omega
    have key : ¬ (l[i].k = 2 ∧ 0 ≤ l[i].s ∧ l[i].s < m) := by omega
    exact ⟨by omega, by rw [hC, clk_still hil key], by rw [hw, wM_still hil key]⟩
  · have hil : i < l.length := by omega
    have key : ¬ (l[i].k = 2 ∧ 0 ≤ l[i].s ∧ l[i].s < m) := by omega
    exact ⟨by omega, by rw [hC, clk_still hil key], by rw [hw, wM_still hil key]⟩
  · exfalso
    have hil : i < l.length := by omega
    have := hCb l[i].s.toNat (by omega)
    omega
  · have hil : i < l.length := by omega
    have := hCb l[i].s.toNat (by omega)
    obtain ⟨C', hC'⟩ : ∃ C', C' = C.set l[i].s.toNat (C[l[i].s.toNat]'(by omega) + 1) := ⟨_, rfl⟩
    have hCl' : C'.length = m := by rw [hC', List.length_set, hCl]
    have hCc : C' = clk m (l.take (i + 1)) := by
      rw [hC', clk_tick hil (j := l[i].s.toNat) (by omega) (by omega)]
      have e : C[l[i].s.toNat]'(by omega) = (ticksM (l.take i) (l[i].s.toNat : Int) : Int) := by subst hC; exact clk_get _
      rw [e, hC]
    have T1 := (maxS (some ⟨b1, 0, none⟩) C' m m hCl'.symm (by omega) (by omega)).ofRow 3 m
    have T2 := (minS (some ⟨b1, 0, none⟩) C' m m hCl'.symm (by omega) (by omega)).ofRow 3 m
    rw [hC'] at T1 T2
    have b1 := maxL_mem (L := C') (fun e => by rw [e] at hCl'; simp at hCl'; omega)
    have b2 := minL_mem (L := C') (fun e => by rw [e] at hCl'; simp at hCl'; omega)
    have b3 : ∀ x ∈ C', 0 ≤ x ∧ x ≤ 1000000 := fun x hx => by
      rw [hCc] at hx
      obtain ⟨s, _, rfl⟩ := List.mem_map.1 hx
      have := ticksM_le (l.take (i + 1)) s
      rw [List.length_take] at this
      omega
    have b4 := b3 _ b1
    have b5 := b3 _ b2
    rw [hC'] at b4 b5
    refine ev_w64 (by omega) ?_
    refine ev_stop (go_atE (sz := 1) Try.tbs_ok (l[i].s.toNat) rfl rfl rfl rfl rfl rfl (by omega) ?_)
    refine go Try.tbs_ok 1000 ?_
    have l60 : l[i].s.toNat < (C).length := (by omega)
    refine ev_stop (go_storeR Try.tbs_ok 0 (l[i].s.toNat) 0 (C[l[i].s.toNat] + 1) rfl rfl rfl rfl rfl (by omega) (fun _ => rfl) (ones_of rfl) (by omega) l60 rfl (by decide) (ones_of rfl) rfl ?_)
    refine go Try.tbs_ok 1000 ?_
    refine ev_callF (T1 ) [] [.inr 0] rfl rfl (by decide) rfl (by simp) (fun _ => (by repeat (first | exact trivial | refine ⟨rfl, ?_⟩))) (fun _ h61 => ?_)
    refine go Try.tbs_ok 1000 ?_
    refine ev_callF (T2 ) [] [.inr 0] rfl rfl (by decide) rfl (by simp) (fun _ => (by repeat (first | exact trivial | refine ⟨rfl, ?_⟩))) (fun _ h62 => ?_)
    refine go Try.tbs_ok 1000 ?_
    refine ev_w64 (by constructor <;> omega) ?_
    refine ev_wrapN (i + 1) (by constructor <;> omega) (by rfl) ?_
    refine ev_fin (round_next ((i + 1, C.set l[i].s.toNat (C[l[i].s.toNat] + 1), max w (maxL (C.set l[i].s.toNat (C[l[i].s.toNat] + 1)) - minL (C.set l[i].s.toNat (C[l[i].s.toNat] + 1))))) (?_ : i + 1 ≤ l.length ∧ C.set l[i].s.toNat (C[l[i].s.toNat] + 1) = clk m (List.take (i + 1) l) ∧ max w (maxL (C.set l[i].s.toNat (C[l[i].s.toNat] + 1)) - minL (C.set l[i].s.toNat (C[l[i].s.toNat] + 1))) = wM m l (i + 1 + 1)) (show l.length - (i + 1) < l.length - i from (by omega)) ⟨⟨by kernel_rfl, by kernel_rfl⟩, ⟨_, rfl⟩, ⟨_, rfl⟩, by kernel_rfl, by kernel_rfl⟩)
    exact ⟨by omega, by rw [← hC']; exact hCc, by rw [← hC', hw, hCc]; rfl⟩
  · exact congrArg (Value.int .i64) (by rw [hw, show i = l.length by omega])
set_option maxRecDepth 100000 in
theorem within (A : Option Addr) (l : List StepI) (c : Nat) (n : Int) (hn : l.length ≤ 1000000) :
    Triple Try.prog 9 [.int .i64 n, .slice A l.length c] [] [Rd 10 A l.length (l.flatMap encS)] Unit (fun _ => .bool (decide (worstM n l ≤ 3))) (fun _ => True) (fun _ => []) := by
  refine triple_intro Try.tbs_ok Try.func9 rfl [.va (.int .i64 n), .va (.slice A l.length c)] [] ⟨trivial, trivial, trivial⟩ rfl (by simp) ?_
  intro E
  refine go Try.tbs_ok 1000 ?_
  refine ev_callF (pWorst (A) (l) (c) (n) (by with_reducible assumption)) [] [.inl 0] rfl rfl (by decide) rfl (by simp) (fun _ => (by repeat (first | exact trivial | refine ⟨rfl, ?_⟩))) (fun _ h0 => ?_)
  refine go Try.tbs_ok 1000 ?_
  refine ev_fin ⟨trivial, _, rfl, (()), rfl, (by trivial), Frm.nil _⟩
set_option maxRecDepth 100000 in
theorem rWorst (A : Option Addr) (l : List StepI) (c : Nat) (n : Int) (hn : l.length ≤ 1000000) :
    Triple Try.prog 7 [.int .i64 n, .slice A l.length c] [] [Rd 10 A l.length (l.flatMap encS)] Unit (fun _ => .int .i64 (worstM n l)) (fun _ => True) (fun _ => []) := by
  by_cases hN : 2 ≤ n ∧ n ≤ 7
  · obtain ⟨m, rfl⟩ : ∃ m : Nat, n = m := ⟨n.toNat, by omega⟩
    have hm : manyM (m : Int) = m := by unfold manyM; rw [if_pos hN]; rfl
    unfold worstM
    rw [hm]
    refine triple_intro Try.tbs_ok Try.func7 rfl [.va (.int .i64 (m : Nat)), .va (.slice A l.length c)] [] ⟨trivial, trivial, trivial⟩ rfl (by simp) ?_
    intro E
    refine go Try.tbs_ok 1000 ?_
    refine ev_if_no (decide_eq_false (show ¬(↑m : Int) < 2 from (by omega))) ?_
    refine go Try.tbs_ok 1000 ?_
    refine ev_if_no (decide_eq_false (show ¬(↑m : Int) > 7 from (by omega))) ?_
    refine go Try.tbs_ok 1000 ?_
    refine ev_stop (go_loopR [5, 6, 7, 8, 15, 16, 17, 18, 19, 20, 21, 22, 23, 24, 25, 26, 27, 28, 29, 30, 31, 32, 33, 34, 35, 36, 37, 38, 39, 40, 41] (fun (k, w) => [(5, .va (.int .i64 w)), (6, .va (.int .i64 (k : Nat)))]) (fun _ => []) (fun (k, w) => k ≤ l.length + 1 ∧ w = wM m l k) (fun (k, _) => l.length + 1 - k) ((0, 0) : Nat × Int) ⟨Nat.zero_le _, rfl⟩ ⟨⟨by kernel_rfl, by kernel_rfl⟩, ⟨_, rfl⟩, ⟨_, rfl⟩, by kernel_rfl, by kernel_rfl⟩ (fun x_ h_ => ?_))
    obtain ⟨k, w⟩ := x_
    obtain ⟨hk, hw⟩ := h_
    have hw0 := wM_mono m l (j := k) (k := k + 1) (by omega)
    refine go Try.tbs_ok 1000 ?_
    refine ev_if_lt (fun h20 => ?_) (fun h20 => ?_)
    refine go Try.tbs_ok 1000 ?_
    rotate_left
    refine go Try.tbs_ok 1000 ?_
    refine ev_fin (go Try.tbs_ok 1000 ?_)
    refine ev_fin ⟨trivial, _, rfl, (()), ?_, (by trivial), Frm.nil _⟩
    rotate_left
    · refine ev_stop (go_loopR [5, 7, 8, 21, 22, 23, 24, 25, 26, 27, 28, 29, 30, 31, 32, 33, 34, 35, 36, 37, 38, 39, 40, 41] (fun (a, v) => [(5, .va (.int .i64 v)), (7, .va (.int .i64 (a : Nat)))]) (fun _ => []) (fun (a, v) => a ≤ m ∧ w ≤ v ∧ v ≤ wM m l (k + 1) ∧ ∀ a' b' : Nat, a' < a → b' < m → (ticksM (l.take k) a' : Int) - ticksM (l.take k) b' ≤ v) (fun (a, _) => m - a) ((0, w) : Nat × Int) ⟨Nat.zero_le _, Int.le_refl _, by rw [hw]; exact hw0, fun a' b' h => by omega⟩ ⟨⟨by kernel_rfl, by kernel_rfl⟩, ⟨_, rfl⟩, ⟨_, rfl⟩, by kernel_rfl, by kernel_rfl⟩ (fun x_ h_ => ?_))
      obtain ⟨a, v⟩ := x_
      obtain ⟨ha, hv0, hv1, hv2⟩ := h_
      refine go Try.tbs_ok 1000 ?_
      refine ev_if_lt (fun h40 => ?_) (fun h40 => ?_)
      refine go Try.tbs_ok 1000 ?_
      rotate_left
      refine go Try.tbs_ok 1000 ?_
      refine ev_fin (go Try.tbs_ok 1000 ?_)
      refine ev_wrapN (k + 1) (by constructor <;> omega) (by rfl) ?_
      refine ev_fin (round_next ((k + 1, v)) (?_ : k + 1 ≤ l.length + 1 ∧ v = wM m l (k + 1)) (show l.length + 1 - (k + 1) < l.length + 1 - k from (by omega)) ⟨⟨by kernel_rfl, by kernel_rfl⟩, ⟨_, rfl⟩, ⟨_, rfl⟩, by kernel_rfl, by kernel_rfl⟩)
      rotate_left
      · refine ev_stop (go_loopR [5, 8, 26, 27, 28, 29, 30, 31, 32, 33, 34, 35, 36, 37, 38, 39, 40, 41] (fun (b, u) => [(5, .va (.int .i64 u)), (8, .va (.int .i64 (b : Nat)))]) (fun _ => []) (fun (b, u) => b ≤ m ∧ w ≤ u ∧ u ≤ wM m l (k + 1) ∧ (∀ a' b' : Nat, a' < a → b' < m → (ticksM (l.take k) a' : Int) - ticksM (l.take k) b' ≤ u) ∧ ∀ b' : Nat, b' < b → (ticksM (l.take k) a : Int) - ticksM (l.take k) b' ≤ u) (fun (b, _) => m - b) ((0, v) : Nat × Int) ⟨Nat.zero_le _, hv0, hv1, hv2, fun b' h => by omega⟩ ⟨⟨by kernel_rfl, by kernel_rfl⟩, ⟨_, rfl⟩, ⟨_, rfl⟩, by kernel_rfl, by kernel_rfl⟩ (fun x_ h_ => ?_))
        obtain ⟨b, u⟩ := x_
        obtain ⟨hb, hu0, hu1, hu2, hu3⟩ := h_
        have B1 := ticksM_le (l.take k) a
        have B2 := ticksM_le (l.take k) b
        rw [List.length_take] at B1 B2
        refine go Try.tbs_ok 1000 ?_
        refine ev_if_lt (fun h60 => ?_) (fun h60 => ?_)
        refine go Try.tbs_ok 1000 ?_
        refine ev_callF (ticksR (A) (l) (c) (k) (↑a : Int) (show k ≤ l.length from (by omega)) (by with_reducible assumption)) [] [.inl 0] rfl rfl (by decide) rfl (by simp) (fun _ => (by repeat (first | exact trivial | refine ⟨rfl, ?_⟩))) (fun _ h61 => ?_)
        refine go Try.tbs_ok 1000 ?_
        refine ev_callF (ticksR (A) (l) (c) (k) (↑b : Int) (show k ≤ l.length from (by omega)) (by with_reducible assumption)) [] [.inl 0] rfl rfl (by decide) rfl (by simp) (fun _ => (by repeat (first | exact trivial | refine ⟨rfl, ?_⟩))) (fun _ h62 => ?_)
        refine go Try.tbs_ok 1000 ?_
        refine ev_w64 (by constructor <;> omega) ?_
        refine ev_wrapN (b + 1) (by constructor <;> omega) (by rfl) ?_
        refine ev_fin (round_next ((b + 1, max u ((↑(ticksM (List.take k l) (↑a : Int)) : Int) - (↑(ticksM (List.take k l) (↑b : Int)) : Int)))) (?_ : b + 1 ≤ m ∧ w ≤ max u ((↑(ticksM (List.take k l) (↑a : Int)) : Int) - (↑(ticksM (List.take k l) (↑b : Int)) : Int)) ∧ max u ((↑(ticksM (List.take k l) (↑a : Int)) : Int) - (↑(ticksM (List.take k l) (↑b : Int)) : Int)) ≤ wM m l (k + 1) ∧ (∀ (a' b' : Nat), a' < a → b' < m → (↑(ticksM (List.take k l) (↑a' : Int)) : Int) - (↑(ticksM (List.take k l) (↑b' : Int)) : Int) ≤ max u ((↑(ticksM (List.take k l) (↑a : Int)) : Int) - (↑(ticksM (List.take k l) (↑b : Int)) : Int))) ∧ ∀ (b' : Nat), b' < b + 1 → (↑(ticksM (List.take k l) (↑a : Int)) : Int) - (↑(ticksM (List.take k l) (↑b' : Int)) : Int) ≤ max u ((↑(ticksM (List.take k l) (↑a : Int)) : Int) - (↑(ticksM (List.take k l) (↑b : Int)) : Int))) (show m - (b + 1) < m - b from (by omega)) ⟨⟨by kernel_rfl, by kernel_rfl⟩, ⟨_, rfl⟩, ⟨_, rfl⟩, by kernel_rfl, by kernel_rfl⟩)
        rotate_left
        refine go Try.tbs_ok 1000 ?_
        refine ev_fin (go Try.tbs_ok 1000 ?_)
        refine ev_wrapN (a + 1) (by constructor <;> omega) (by rfl) ?_
        refine ev_fin (round_next ((a + 1, u)) (?_ : a + 1 ≤ m ∧ w ≤ u ∧ u ≤ wM m l (k + 1) ∧ ∀ (a' b' : Nat), a' < a + 1 → b' < m → (↑(ticksM (List.take k l) (↑a' : Int)) : Int) - (↑(ticksM (List.take k l) (↑b' : Int)) : Int) ≤ u) (show m - (a + 1) < m - a from (by omega)) ⟨⟨by kernel_rfl, by kernel_rfl⟩, ⟨_, rfl⟩, ⟨_, rfl⟩, by kernel_rfl, by kernel_rfl⟩)
        rotate_left
        · have hs := spread_ge (m := m) (l := l.take k) (a := a) (b := b) (by omega) (by omega)
          have hs2 := wM_spread m l k
          refine ⟨by omega, by omega, by omega, fun a' b' h1 h2 => ?_, fun b' h => ?_⟩
          · have := hu2 a' b' h1 h2
            omega
          · rcases Nat.lt_or_eq_of_le (Nat.le_of_lt_succ h) with h | rfl
            · have := hu3 b' h
              omega
            · omega
        · refine ⟨by omega, hu0, hu1, fun a' b' h1 h2 => ?_⟩
          rcases Nat.lt_or_eq_of_le (Nat.le_of_lt_succ h1) with h | rfl
          · exact hu2 a' b' h h2
          · exact hu3 b' (by omega)
      · have h0 := wM_nonneg m l k
        have hs : spread m (l.take k) ≤ v := spread_le (by omega) (fun a' b' h1 h2 => hv2 a' b' (by omega) h2)
        have h1 : wM m l (k + 1) = max (wM m l k) (spread m (l.take k)) := rfl
        exact ⟨by omega, by omega⟩
    · exact congrArg (Value.int .i64) (by rw [hw, show k = l.length + 1 by omega])
  · unfold worstM
    rw [show manyM n = 0 from if_neg hN, wM_none]
    refine triple_intro Try.tbs_ok Try.func7 rfl [.va (.int .i64 n), .va (.slice A l.length c)] [] ⟨trivial, trivial, trivial⟩ rfl (by simp) ?_
    intro E
    refine go Try.tbs_ok 1000 ?_
    refine ev_if_lt (fun h0 => ?_) (fun h0 => ?_)
    refine go Try.tbs_ok 1000 ?_
    refine ev_fin ⟨trivial, _, rfl, (()), rfl, (by trivial), Frm.nil _⟩
    refine go Try.tbs_ok 1000 ?_
    refine ev_if_yes (decide_eq_true (show n > 7 from (by omega))) ?_
    refine go Try.tbs_ok 1000 ?_
    refine ev_fin ⟨trivial, _, rfl, (()), rfl, (by trivial), Frm.nil _⟩
end Go.Proofs.Ytagfngobpooppaa
