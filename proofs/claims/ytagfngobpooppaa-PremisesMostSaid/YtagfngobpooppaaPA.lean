/-
  What is proved: scripts of clocks: what the small functions tell. Conditions: none.
-/
import Derived.Test.YtagfngobpooppaaGl3
import Derived.Test.YtagfngobpooppaaSym
import Derived.Test.YtagfngobpooppaaTab
namespace Go.Proofs.Ytagfngobpooppaa
open Go.Sy

/-- a step, as it lies in memory -/
structure StepI where
  k : Int
  s : Int
  st : Int
  ix : Int
  o1 : Int
  o2 : Int
  o3 : Int
  o4 : Int
  o5 : Int
  a : Option Addr
  n : Nat
  c : Nat
def encS (x : StepI) : List Value := [.int .i64 x.k, .int .i64 x.s, .int .i64 x.st, .int .i64 x.ix, .int .i64 x.o1, .int .i64 x.o2, .int .i64 x.o3, .int .i64 x.o4, .int .i64 x.o5, .slice x.a x.n x.c]
theorem encS_len (x : StepI) : (encS x).length = 10 := rfl
def encN (n : Int) : List Value := [.int .i64 n]
def encB (b : Bool) : List Value := [.bool b]
instance : Inhabited StepI := ⟨⟨0, 0, 0, 0, 0, 0, 0, 0, 0, none, 0, 0⟩⟩
def manyM (n : Int) : Nat := if 2 ≤ n ∧ n ≤ 7 then n.toNat else 0
def isTick (s : Int) (x : StepI) : Bool := x.k == 2 && x.s == s
def ticksM (l : List StepI) (s : Int) : Nat := l.countP (isTick s)
theorem ticksM_le (l : List StepI) (s : Int) : ticksM l s ≤ l.length := List.countP_le_length
theorem ticksM_take (l : List StepI) (s : Int) {i : Nat} (hi : i < l.length) : ticksM (l.take (i + 1)) s = ticksM (l.take i) s + if l[i].k = 2 ∧ l[i].s = s then 1 else 0 := by
  unfold ticksM
  rw [← List.take_append_getElem hi, List.countP_append]
  congr 1
  simp [isTick, List.countP_cons, List.countP_nil]
def maxL : List Int → Int
  | [] => 0
  | x :: l => l.foldl max x
def minL : List Int → Int
  | [] => 0
  | x :: l => l.foldl min x
theorem maxL_take {L : List Int} {i : Nat} (h0 : 0 < i) (hi : i < L.length) : maxL (L.take (i + 1)) = max (maxL (L.take i)) L[i] := by
  cases L with
  | nil => simp at hi
  | cons x l =>
    obtain ⟨j, rfl⟩ : ∃ j, i = j + 1 := ⟨i - 1, by omega⟩
    have hj : j < l.length := by simpa using hi
    simp only [List.take_succ_cons, maxL, List.getElem_cons_succ]
    rw [← List.take_append_getElem hj, List.foldl_append]
    rfl
theorem minL_take {L : List Int} {i : Nat} (h0 : 0 < i) (hi : i < L.length) : minL (L.take (i + 1)) = min (minL (L.take i)) L[i] := by
  cases L with
  | nil => simp at hi
  | cons x l =>
    obtain ⟨j, rfl⟩ : ∃ j, i = j + 1 := ⟨i - 1, by omega⟩
    have hj : j < l.length := by simpa using hi
    simp only [List.take_succ_cons, minL, List.getElem_cons_succ]
    rw [← List.take_append_getElem hj, List.foldl_append]
    rfl
set_option maxRecDepth 100000 in
theorem many (n : Int) : Triple Try.prog 17 [.int .i64 n] [] [] Unit (fun _ => .int .i64 (manyM n : Nat)) (fun _ => True) (fun _ => []) := by
  refine triple_intro Try.tbs_ok Try.func17 rfl [.va (.int .i64 n)] [] ⟨trivial, trivial⟩ rfl (by simp) ?_
  intro E
  refine go Try.tbs_ok 1000 ?_
  refine ev_if_lt (fun h0 => ?_) (fun h0 => ?_)
  refine go Try.tbs_ok 1000 ?_
  refine ev_fin ⟨trivial, _, rfl, (()), ?_, (by trivial), Frm.nil _⟩
  rotate_left
  refine go Try.tbs_ok 1000 ?_
  refine ev_if_lt (fun h1 => ?_) (fun h1 => ?_)
  refine go Try.tbs_ok 1000 ?_
  refine ev_fin ⟨trivial, _, rfl, (()), ?_, (by trivial), Frm.nil _⟩
  rotate_left
  refine go Try.tbs_ok 1000 ?_
  refine ev_fin ⟨trivial, _, rfl, (()), ?_, (by trivial), Frm.nil _⟩
  rotate_left
  · rw [show manyM n = 0 from if_neg (by omega)]; rfl
  · rw [show manyM n = 0 from if_neg (by omega)]; rfl
  · rw [show manyM n = n.toNat from if_pos (by omega), Int.toNat_of_nonneg (by omega)]; rfl
set_option maxRecDepth 100000 in
theorem sites (n : Int) : Triple Try.prog 23 [.int .i64 n] [] [] Unit (fun _ => .bool (decide (2 ≤ n ∧ n ≤ 7))) (fun _ => True) (fun _ => []) := by
  refine triple_intro Try.tbs_ok Try.func23 rfl [.va (.int .i64 n)] [] ⟨trivial, trivial⟩ rfl (by simp) ?_
  intro E
  refine go Try.tbs_ok 1000 ?_
  refine ev_if_lt (fun h0 => ?_) (fun h0 => ?_)
  refine go Try.tbs_ok 1000 ?_
  refine ev_fin ⟨trivial, _, rfl, (()), ?_, (by trivial), Frm.nil _⟩
  rotate_left
  refine go Try.tbs_ok 1000 ?_
  refine ev_fin ⟨trivial, _, rfl, (()), ?_, (by trivial), Frm.nil _⟩
  rotate_left
  · exact congrArg Value.bool (decide_eq_decide.2 (by omega))
  · exact congrArg Value.bool (decide_eq_false (by omega)).symm
set_option maxRecDepth 100000 in
theorem majority (n : Nat) (hn : n ≤ 1000) : Triple Try.prog 21 [.int .i64 n] [] [] Unit (fun _ => .int .i64 (if 2 ≤ n ∧ n ≤ 7 then n / 2 + 1 else 0 : Nat)) (fun _ => True) (fun _ => []) := by
  refine triple_intro Try.tbs_ok Try.func21 rfl [.va (.int .i64 n)] [] ⟨trivial, trivial⟩ rfl (by simp) ?_
  intro E
  refine go Try.tbs_ok 1000 ?_
  refine ev_callF (sites (↑n : Int)) [] [] rfl rfl (by decide) rfl (by simp) (fun _ => (by repeat (first | exact trivial | refine ⟨rfl, ?_⟩))) (fun _ h0 => ?_)
  refine go Try.tbs_ok 1000 ?_
  refine ev_if (fun h1 => ?_) (fun h1 => ?_)
  refine go Try.tbs_ok 1000 ?_
  refine ev_fin ⟨trivial, _, rfl, (()), ?_, (by trivial), Frm.nil _⟩
  rotate_left
  refine go Try.tbs_ok 1000 ?_
  rotate_left
  · have h2 : ¬ (2 ≤ n ∧ n ≤ 7) := by simp at h1; omega
    rw [if_neg h2]; rfl
  · have h2 : 2 ≤ n ∧ n ≤ 7 := by simp at h1; omega
    have e : (n : Int).tdiv 2 = ((n / 2 : Nat) : Int) := rfl
    refine ev_wrapN (n / 2) (by rw [e]; omega) e ?_
    rw [if_pos h2]
    refine ev_wrapN (n / 2 + 1) (by constructor <;> omega) (by rfl) ?_
    refine ev_fin ⟨trivial, _, rfl, (()), rfl, (by trivial), Frm.nil _⟩
set_option maxRecDepth 100000 in
theorem ticksR (A : Option Addr) (l : List StepI) (c k : Nat) (s : Int) (hk : k ≤ l.length) (hn : l.length ≤ 1000000) :
    Triple Try.prog 16 [.slice A l.length c, .int .i64 k, .int .i64 s] [] [Rd 10 A l.length (l.flatMap encS)] Unit (fun _ => .int .i64 (ticksM (l.take k) s : Nat)) (fun _ => True) (fun _ => []) := by
  refine triple_intro Try.tbs_ok Try.func16 rfl [.va (.slice A l.length c), .va (.int .i64 k), .va (.int .i64 s)] [] ⟨trivial, trivial, trivial, trivial⟩ rfl (by simp) ?_
  intro E
  refine go Try.tbs_ok 1000 ?_
  refine ev_stop (go_loopR [7, 8, 9, 10, 11, 12, 13, 14, 15, 16, 17, 18, 19, 20, 21, 22, 23, 24, 25, 26, 27, 28, 29, 30] (fun (i, n) => [(7, .va (.int .i64 (n : Nat))), (8, .va (.int .i64 (i : Nat)))]) (fun _ => []) (fun (i, n) => i ≤ k ∧ n ≤ i ∧ n = ticksM (l.take i) s) (fun (i, _) => k - i) ((0, 0) : Nat × Nat) ⟨Nat.zero_le _, Nat.zero_le _, rfl⟩ ⟨⟨by kernel_rfl, by kernel_rfl⟩, ⟨_, rfl⟩, ⟨_, rfl⟩, by kernel_rfl, by kernel_rfl⟩ (fun x_ h_ => ?_))
  obtain ⟨i, n⟩ := x_
  obtain ⟨hi, hni, hm⟩ := h_
  refine go Try.tbs_ok 1000 ?_
  refine ev_if_lt (fun h10 => ?_) (fun h10 => ?_)
  refine go Try.tbs_ok 1000 ?_
  refine ev_stop (go_indexE (sz := 10) Try.tbs_ok (.inl 0) (i) rfl rfl rfl rfl rfl rfl (by omega) rfl (fun _ h => h) (fun g11 o13 e12 => ?_))
  subst e12
  refine go Try.tbs_ok 1000 ?_
  have l14 : i < (l).length := (by omega)
  refine ev_stop (go_loadE Try.tbs_ok (.inl 0) (i) 0 rfl rfl rfl rfl (fun _ h => h) (by omega) (fun _ => rfl) (by omega) l14 (by decide) ?_)
  refine go Try.tbs_ok 1000 ?_
  refine ev_if_eq (fun h15 => ?_) (fun h15 => ?_)
  refine go Try.tbs_ok 1000 ?_
  refine ev_stop (go_atE (sz := 10) Try.tbs_ok (i) rfl rfl rfl rfl rfl rfl (by omega) ?_)
  refine go Try.tbs_ok 1000 ?_
  have l16 : i < (l).length := (by omega)
  refine ev_stop (go_loadE Try.tbs_ok (.inl 0) (i) 1 rfl rfl rfl rfl (fun _ h => h) (by omega) (fun _ => rfl) (by omega) l16 (by decide) ?_)
  refine go Try.tbs_ok 1000 ?_
  refine ev_if_eq (fun h17 => ?_) (fun h17 => ?_)
  refine go Try.tbs_ok 1000 ?_
  refine ev_wrapN (n + 1) (by constructor <;> omega) (by rfl) ?_
  refine ev_wrapN (i + 1) (by constructor <;> omega) (by rfl) ?_
  refine ev_fin (round_next ((i + 1, n + 1)) (?_ : i + 1 ≤ k ∧ n + 1 ≤ i + 1 ∧ n + 1 = ticksM (List.take (i + 1) l) s) (show k - (i + 1) < k - i from (by omega)) ⟨⟨by kernel_rfl, by kernel_rfl⟩, ⟨_, rfl⟩, ⟨_, rfl⟩, by kernel_rfl, by kernel_rfl⟩)
  rotate_left
  refine go Try.tbs_ok 1000 ?_
  refine ev_wrapN (i + 1) (by constructor <;> omega) (by rfl) ?_
  refine ev_fin (round_next ((i + 1, n)) (?_ : i + 1 ≤ k ∧ n ≤ i + 1 ∧ n = ticksM (List.take (i + 1) l) s) (show k - (i + 1) < k - i from (by omega)) ⟨⟨by kernel_rfl, by kernel_rfl⟩, ⟨_, rfl⟩, ⟨_, rfl⟩, by kernel_rfl, by kernel_rfl⟩)
  rotate_left
  refine go Try.tbs_ok 1000 ?_
  refine ev_wrapN (i + 1) (by constructor <;> omega) (by rfl) ?_
  refine ev_fin (round_next ((i + 1, n)) (?_ : i + 1 ≤ k ∧ n ≤ i + 1 ∧ n = ticksM (List.take (i + 1) l) s) (show k - (i + 1) < k - i from (by omega)) ⟨⟨by kernel_rfl, by kernel_rfl⟩, ⟨_, rfl⟩, ⟨_, rfl⟩, by kernel_rfl, by kernel_rfl⟩)
  rotate_left
  refine go Try.tbs_ok 1000 ?_
  refine ev_fin (go Try.tbs_ok 1000 ?_)
  refine ev_fin ⟨trivial, _, rfl, (()), ?_, (by trivial), Frm.nil _⟩
  rotate_left
  · exact ⟨by omega, by omega, by rw [ticksM_take l s l14, if_pos ⟨h15, h17⟩, hm]⟩
  · exact ⟨by omega, by omega, by rw [ticksM_take l s l14, if_neg (fun h => h17 h.2), hm]; rfl⟩
  · exact ⟨by omega, by omega, by rw [ticksM_take l s l14, if_neg (fun h => h15 h.1), hm]; rfl⟩
  · rw [hm, show i = k by omega]; rfl
set_option maxRecDepth 100000 in
theorem maxS (A : Option Addr) (L : List Int) (n c : Nat) (hn : n = L.length) (h0 : 0 < n) (h1 : n ≤ 1000000) :
    Triple Try.prog 18 [.slice A n c] [] [Rd 1 A n (L.flatMap encN)] Unit (fun _ => .int .i64 (maxL L)) (fun _ => True) (fun _ => []) := by
  refine triple_intro Try.tbs_ok Try.func18 rfl [.va (.slice A n c)] [] ⟨trivial, trivial⟩ rfl (by simp) ?_
  intro E
  refine go Try.tbs_ok 1000 ?_
  refine ev_if_no (decide_eq_false (show ¬(↑n : Int) < 1 from (by omega))) ?_
  refine go Try.tbs_ok 1000 ?_
  refine ev_stop (go_indexE (sz := 1) Try.tbs_ok (.inl 0) (0) rfl rfl rfl rfl rfl rfl (by omega) rfl (fun _ h => h) (fun g0 o2 e1 => ?_))
  subst e1
  refine go Try.tbs_ok 1000 ?_
  have l3 : 0 < (L).length := (by omega)
  refine ev_stop (go_loadE Try.tbs_ok (.inl 0) (0) 0 rfl rfl rfl rfl (fun _ h => h) (by omega) (fun _ => rfl) (by omega) l3 (by decide) ?_)
  refine go Try.tbs_ok 1000 ?_
  have hL1 : maxL (L.take 1) = L[0] := by
    cases L with
    | nil => simp at l3
    | cons x l => rfl
  refine ev_stop (go_loopR [3, 4, 12, 13, 14, 15, 16, 17, 18, 19, 20, 21, 22, 23] (fun (i, m) => [(3, .va (.int .i64 m)), (4, .va (.int .i64 (i : Nat)))]) (fun _ => []) (fun (i, m) => 0 < i ∧ i ≤ n ∧ m = maxL (L.take i)) (fun (i, _) => n - i) ((1, L[0]) : Nat × Int) ⟨by omega, h0, hL1.symm⟩ ⟨⟨by kernel_rfl, by kernel_rfl⟩, ⟨_, rfl⟩, ⟨_, rfl⟩, by kernel_rfl, by kernel_rfl⟩ (fun x_ h_ => ?_))
  obtain ⟨i, m⟩ := x_
  obtain ⟨h0i, hi, hm⟩ := h_
  refine go Try.tbs_ok 1000 ?_
  refine ev_if_lt (fun h10 => ?_) (fun h10 => ?_)
  refine go Try.tbs_ok 1000 ?_
  refine ev_stop (go_atE (sz := 1) Try.tbs_ok (i) rfl rfl rfl rfl rfl rfl (by omega) ?_)
  refine go Try.tbs_ok 1000 ?_
  have l11 : i < (L).length := (by omega)
  refine ev_stop (go_loadE Try.tbs_ok (.inl 0) (i) 0 rfl rfl rfl rfl (fun _ h => h) (by omega) (fun _ => rfl) (by omega) l11 (by decide) ?_)
  refine go Try.tbs_ok 1000 ?_
  refine ev_wrapN (i + 1) (by constructor <;> omega) (by rfl) ?_
  refine ev_fin (round_next ((i + 1, max m L[i])) (?_ : 0 < i + 1 ∧ i + 1 ≤ n ∧ max m L[i] = maxL (List.take (i + 1) L)) (show n - (i + 1) < n - i from (by omega)) ⟨⟨by kernel_rfl, by kernel_rfl⟩, ⟨_, rfl⟩, ⟨_, rfl⟩, by kernel_rfl, by kernel_rfl⟩)
  rotate_left
  refine go Try.tbs_ok 1000 ?_
  refine ev_fin (go Try.tbs_ok 1000 ?_)
  refine ev_fin ⟨trivial, _, rfl, (()), ?_, (by trivial), Frm.nil _⟩
  rotate_left
  · exact ⟨by omega, by omega, by rw [maxL_take h0i l11, hm]⟩
  · rw [hm, List.take_of_length_le (by omega)]; rfl
set_option maxRecDepth 100000 in
theorem minS (A : Option Addr) (L : List Int) (n c : Nat) (hn : n = L.length) (h0 : 0 < n) (h1 : n ≤ 1000000) :
    Triple Try.prog 19 [.slice A n c] [] [Rd 1 A n (L.flatMap encN)] Unit (fun _ => .int .i64 (minL L)) (fun _ => True) (fun _ => []) := by
  refine triple_intro Try.tbs_ok Try.func19 rfl [.va (.slice A n c)] [] ⟨trivial, trivial⟩ rfl (by simp) ?_
  intro E
  refine go Try.tbs_ok 1000 ?_
  refine ev_if_no (decide_eq_false (show ¬(↑n : Int) < 1 from (by omega))) ?_
  refine go Try.tbs_ok 1000 ?_
  refine ev_stop (go_indexE (sz := 1) Try.tbs_ok (.inl 0) (0) rfl rfl rfl rfl rfl rfl (by omega) rfl (fun _ h => h) (fun g0 o2 e1 => ?_))
  subst e1
  refine go Try.tbs_ok 1000 ?_
  have l3 : 0 < (L).length := (by omega)
  refine ev_stop (go_loadE Try.tbs_ok (.inl 0) (0) 0 rfl rfl rfl rfl (fun _ h => h) (by omega) (fun _ => rfl) (by omega) l3 (by decide) ?_)
  refine go Try.tbs_ok 1000 ?_
  have hL1 : minL (L.take 1) = L[0] := by
    cases L with
    | nil => simp at l3
    | cons x l => rfl
  refine ev_stop (go_loopR [3, 4, 12, 13, 14, 15, 16, 17, 18, 19, 20, 21, 22, 23] (fun (i, m) => [(3, .va (.int .i64 m)), (4, .va (.int .i64 (i : Nat)))]) (fun _ => []) (fun (i, m) => 0 < i ∧ i ≤ n ∧ m = minL (L.take i)) (fun (i, _) => n - i) ((1, L[0]) : Nat × Int) ⟨by omega, h0, hL1.symm⟩ ⟨⟨by kernel_rfl, by kernel_rfl⟩, ⟨_, rfl⟩, ⟨_, rfl⟩, by kernel_rfl, by kernel_rfl⟩ (fun x_ h_ => ?_))
  obtain ⟨i, m⟩ := x_
  obtain ⟨h0i, hi, hm⟩ := h_
  refine go Try.tbs_ok 1000 ?_
  refine ev_if_lt (fun h10 => ?_) (fun h10 => ?_)
  refine go Try.tbs_ok 1000 ?_
  refine ev_stop (go_atE (sz := 1) Try.tbs_ok (i) rfl rfl rfl rfl rfl rfl (by omega) ?_)
  refine go Try.tbs_ok 1000 ?_
  have l11 : i < (L).length := (by omega)
  refine ev_stop (go_loadE Try.tbs_ok (.inl 0) (i) 0 rfl rfl rfl rfl (fun _ h => h) (by omega) (fun _ => rfl) (by omega) l11 (by decide) ?_)
  refine go Try.tbs_ok 1000 ?_
  refine ev_wrapN (i + 1) (by constructor <;> omega) (by rfl) ?_
  refine ev_fin (round_next ((i + 1, min m L[i])) (?_ : 0 < i + 1 ∧ i + 1 ≤ n ∧ min m L[i] = minL (List.take (i + 1) L)) (show n - (i + 1) < n - i from (by omega)) ⟨⟨by kernel_rfl, by kernel_rfl⟩, ⟨_, rfl⟩, ⟨_, rfl⟩, by kernel_rfl, by kernel_rfl⟩)
  rotate_left
  refine go Try.tbs_ok 1000 ?_
  refine ev_fin (go Try.tbs_ok 1000 ?_)
  refine ev_fin ⟨trivial, _, rfl, (()), ?_, (by trivial), Frm.nil _⟩
  rotate_left
  · exact ⟨by omega, by omega, by rw [minL_take h0i l11, hm]⟩
  · rw [hm, List.take_of_length_le (by omega)]; rfl
end Go.Proofs.Ytagfngobpooppaa
