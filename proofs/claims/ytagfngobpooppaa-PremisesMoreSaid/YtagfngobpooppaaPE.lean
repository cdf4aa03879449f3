/-
  What is proved: who is up, by the program and by the chapter. Conditions: none.
-/
import Derived.Test.YtagfngobpooppaaPD
namespace Go.Proofs.Ytagfngobpooppaa
open Go.Sy

/-- is a site up, behind these steps? -/
def upS (s : Int) (b : Bool) (x : StepI) : Bool := if x.s = s ∧ x.k = 10 then false else if x.s = s ∧ x.k = 11 then true else b
def upAt (l : List StepI) (s : Int) : Bool := l.foldl (upS s) true
def upV (m : Nat) (l : List StepI) : List Bool := (List.range m).map fun s : Nat => upAt l (s : Int)
def upM (n : Int) (l : List StepI) : List Bool := upV (manyM n) l
theorem upV_len (m : Nat) (l : List StepI) : (upV m l).length = m := by simp [upV]
theorem upV_get {m : Nat} {l : List StepI} {s : Nat} (h : s < (upV m l).length) : (upV m l)[s] = upAt l (s : Int) := by simp [upV]
theorem upAt_take (l : List StepI) (s : Int) {i : Nat} (hi : i < l.length) : upAt (l.take (i + 1)) s = upS s (upAt (l.take i) s) l[i] := by
  unfold upAt
  rw [← List.take_append_getElem hi, List.foldl_append]
  rfl
theorem upV_still {m : Nat} {l : List StepI} {i : Nat} (hi : i < l.length) (h : ¬ (0 ≤ l[i].s ∧ l[i].s < m ∧ (l[i].k = 10 ∨ l[i].k = 11))) : upV m (l.take (i + 1)) = upV m (l.take i) := by
  apply List.ext_getElem
  · simp [upV]
  · intro s h1 h2
    rw [upV_len] at h1
    rw [upV_get, upV_get, upAt_take l s hi]
    unfold upS
    rw [if_neg (by omega), if_neg (by omega)]
theorem upV_down {m : Nat} {l : List StepI} {i : Nat} (hi : i < l.length) {j : Nat} (hs : l[i].s = j) (hk : l[i].k = 10) : upV m (l.take (i + 1)) = (upV m (l.take i)).set j false := by
  apply List.ext_getElem
  · simp [upV]
  · intro s h1 h2
    rw [upV_get, upAt_take l s hi, List.getElem_set]
    unfold upS
    by_cases e : j = s
    · rw [if_pos e, if_pos (by omega)]
    · rw [if_neg e, if_neg (by omega), if_neg (by omega), upV_get]
theorem upV_up {m : Nat} {l : List StepI} {i : Nat} (hi : i < l.length) {j : Nat} (hs : l[i].s = j) (hk : l[i].k = 11) : upV m (l.take (i + 1)) = (upV m (l.take i)).set j true := by
  apply List.ext_getElem
  · simp [upV]
  · intro s h1 h2
    rw [upV_get, upAt_take l s hi, List.getElem_set]
    unfold upS
    by_cases e : j = s
    · rw [if_pos e, if_neg (by omega), if_pos (by omega)]
    · rw [if_neg e, if_neg (by omega), if_neg (by omega), upV_get]
theorem upV_succ (m : Nat) (l : List StepI) : upV (m + 1) l = upV m l ++ [upAt l m] := by
  unfold upV
  rw [List.range_succ, List.map_append]
  rfl
theorem upV_nil (m : Nat) : List.replicate m true = upV m [] := by
  apply List.ext_getElem
  · simp [upV]
  · intro s h1 h2
    rw [upV_get]
    simp [upAt]
set_option maxRecDepth 100000 in
theorem pUp (A : Option Addr) (l : List StepI) (c : Nat) (n : Int) (hn : l.length ≤ 1000000) :
    Triple Try.prog 11 [.int .i64 n, .slice A l.length c] [] [Rd 10 A l.length (l.flatMap encS)] (Nat × Nat) (fun (b, m) => .slice (some ⟨b, 0, none⟩) m m) (fun (_, m) => m = manyM n) (fun (b, m) => [Row 4 1 (some ⟨b, 0, none⟩) m m ((upM n l).flatMap encB)]) := by
  obtain ⟨m, hm⟩ : ∃ m, m = manyM n := ⟨_, rfl⟩
  have hm7 : m ≤ 7 := by rw [hm]; exact manyM_le n
  have T0 := many n
  unfold upM
  rw [← hm] at T0 ⊢
  refine triple_intro Try.tbs_ok Try.func11 rfl [.va (.int .i64 n), .va (.slice A l.length c)] [] ⟨trivial, trivial, trivial⟩ rfl (by simp) ?_
  intro E
  refine go Try.tbs_ok 1000 ?_
  refine ev_new fun b0 => ?_
  refine ev_callF (T0 ) [] [] rfl rfl (by decide) rfl (by simp) (fun _ => (by repeat (first | exact trivial | refine ⟨rfl, ?_⟩))) (fun _ h1 => ?_)
  refine go Try.tbs_ok 1000 ?_
  refine ev_callF (repeatL (b0) (m) (by with_reducible assumption)) [] [.inr 0] rfl rfl (by decide) rfl (by simp) (fun _ => (by repeat (first | exact trivial | refine ⟨rfl, ?_⟩))) (fun x2 h3 => ?_)
  refine go Try.tbs_ok 1000 ?_
  refine ev_stop (go_loopR [7, 14, 15, 16, 17, 18, 19, 20, 21, 22, 23, 24, 25, 26, 27, 28, 29, 30, 31, 32, 33, 34, 35, 36, 37, 38, 39, 40, 41, 42] (fun (i, _) => [(14, .va (.int .i64 (i : Nat)))]) (fun (_, U) => [(1, .fact (Row 4 1 (some ⟨x2, 0, none⟩) m m (U.flatMap encB)))]) (fun (i, U) => i ≤ l.length ∧ U = upV m (l.take i)) (fun (i, _) => l.length - i) ((0, List.replicate m true) : Nat × List Bool) ⟨Nat.zero_le _, upV_nil m⟩ ⟨⟨by kernel_rfl, by kernel_rfl⟩, ⟨_, rfl⟩, ⟨_, rfl⟩, by kernel_rfl, by kernel_rfl⟩ (fun x_ h_ => ?_))
  obtain ⟨i, U⟩ := x_
  obtain ⟨hi, hU⟩ := h_
  have hUl : U.length = m := by rw [hU, upV_len]
  refine go Try.tbs_ok 1000 ?_
  refine ev_if_lt (fun h20 => ?_) (fun h20 => ?_)
  refine go Try.tbs_ok 1000 ?_
  refine ev_stop (go_indexE (sz := 10) Try.tbs_ok (.inl 0) (i) rfl rfl rfl rfl rfl rfl (by omega) rfl (fun _ h => h) (fun g21 o23 e22 => ?_))
  subst e22
  refine go Try.tbs_ok 1000 ?_
  have l24 : i < (l).length := (by omega)
  refine ev_stop (go_loadE Try.tbs_ok (.inl 0) (i) 0 rfl rfl rfl rfl (fun _ h => h) (by omega) (fun _ => rfl) (by omega) l24 (by decide) ?_)
  refine go Try.tbs_ok 1000 ?_
  refine ev_new fun b25 => ?_
  refine ev_if_lt (fun h26 => ?_) (fun h26 => ?_)
  refine go Try.tbs_ok 1000 ?_
  refine ev_wrapN (i + 1) (by constructor <;> omega) (by rfl) ?_
  refine ev_fin (round_next ((i + 1, U)) (?_ : i + 1 ≤ l.length ∧ U = upV m (List.take (i + 1) l)) (show l.length - (i + 1) < l.length - i from (by omega)) ⟨⟨by kernel_rfl, by kernel_rfl⟩, ⟨_, rfl⟩, ⟨_, rfl⟩, by kernel_rfl, by kernel_rfl⟩)
  rotate_left
  refine go Try.tbs_ok 1000 ?_
  refine ev_if_lt (fun h27 => ?_) (fun h27 => ?_)
  refine go Try.tbs_ok 1000 ?_
  refine ev_wrapN (i + 1) (by constructor <;> omega) (by rfl) ?_
  refine ev_fin (round_next ((i + 1, U)) (?_ : i + 1 ≤ l.length ∧ U = upV m (List.take (i + 1) l)) (show l.length - (i + 1) < l.length - i from (by omega)) ⟨⟨by kernel_rfl, by kernel_rfl⟩, ⟨_, rfl⟩, ⟨_, rfl⟩, by kernel_rfl, by kernel_rfl⟩)
  rotate_left
  refine go Try.tbs_ok 1000 ?_
  refine ev_if_eq (fun h28 => ?_) (fun h28 => ?_)
  refine go Try.tbs_ok 1000 ?_
  refine ev_stop (go_slot 34 _ (.va (.int IntKind.i64 ((l[i].s.toNat : Nat) : Int))) rfl rfl (congrArg (fun z => Value.int IntKind.i64 z) (show l[i].s = ((l[i].s.toNat : Nat) : Int) by omega)) (fun _ => trivial) ?_)
  refine go Try.tbs_ok 1000 ?_
  refine ev_stop (go_atE (sz := 1) Try.tbs_ok (l[i].s.toNat) rfl rfl rfl rfl rfl rfl (by omega) ?_)
  refine go Try.tbs_ok 1000 ?_
  have l29 : l[i].s.toNat < (U).length := (by omega)
  refine ev_stop (go_storeR Try.tbs_ok 1 (l[i].s.toNat) 0 (false) rfl rfl rfl rfl rfl (by omega) (fun _ => rfl) (ones_of rfl) (by omega) l29 rfl (by decide) (ones_of rfl) rfl ?_)
  refine go Try.tbs_ok 1000 ?_
  refine ev_wrapN (i + 1) (by constructor <;> omega) (by rfl) ?_
  refine ev_fin (round_next ((i + 1, U.set l[i].s.toNat false)) (?_ : i + 1 ≤ l.length ∧ U.set l[i].s.toNat false = upV m (List.take (i + 1) l)) (show l.length - (i + 1) < l.length - i from (by omega)) ⟨⟨by kernel_rfl, by kernel_rfl⟩, ⟨_, rfl⟩, ⟨_, rfl⟩, by kernel_rfl, by kernel_rfl⟩)
  rotate_left
  refine go Try.tbs_ok 1000 ?_
  refine ev_if_eq (fun h30 => ?_) (fun h30 => ?_)
  refine go Try.tbs_ok 1000 ?_
  refine ev_stop (go_slot 40 _ (.va (.int IntKind.i64 ((l[i].s.toNat : Nat) : Int))) rfl rfl (congrArg (fun z => Value.int IntKind.i64 z) (show l[i].s = ((l[i].s.toNat : Nat) : Int) by omega)) (fun _ => trivial) ?_)
  refine go Try.tbs_ok 1000 ?_
  refine ev_stop (go_atE (sz := 1) Try.tbs_ok (l[i].s.toNat) rfl rfl rfl rfl rfl rfl (by omega) ?_)
  refine go Try.tbs_ok 1000 ?_
  have l31 : l[i].s.toNat < (U).length := (by omega)
  refine ev_stop (go_storeR Try.tbs_ok 1 (l[i].s.toNat) 0 (true) rfl rfl rfl rfl rfl (by omega) (fun _ => rfl) (ones_of rfl) (by omega) l31 rfl (by decide) (ones_of rfl) rfl ?_)
  refine go Try.tbs_ok 1000 ?_
  refine ev_wrapN (i + 1) (by constructor <;> omega) (by rfl) ?_
  refine ev_fin (round_next ((i + 1, U.set l[i].s.toNat true)) (?_ : i + 1 ≤ l.length ∧ U.set l[i].s.toNat true = upV m (List.take (i + 1) l)) (show l.length - (i + 1) < l.length - i from (by omega)) ⟨⟨by kernel_rfl, by kernel_rfl⟩, ⟨_, rfl⟩, ⟨_, rfl⟩, by kernel_rfl, by kernel_rfl⟩)
  rotate_left
  refine go Try.tbs_ok 1000 ?_
  refine ev_wrapN (i + 1) (by constructor <;> omega) (by rfl) ?_
  refine ev_fin (round_next ((i + 1, U)) (?_ : i + 1 ≤ l.length ∧ U = upV m (List.take (i + 1) l)) (show l.length - (i + 1) < l.length - i from (by omega)) ⟨⟨by kernel_rfl, by kernel_rfl⟩, ⟨_, rfl⟩, ⟨_, rfl⟩, by kernel_rfl, by kernel_rfl⟩)
  rotate_left
  refine go Try.tbs_ok 1000 ?_
  refine ev_fin (go Try.tbs_ok 1000 ?_)
  rotate_left
  · have hil : i < l.length := by omega
    exact ⟨by omega, by rw [hU, upV_still hil (by omega)]⟩
  · have hil : i < l.length := by omega
    exact ⟨by omega, by rw [hU, upV_still hil (by omega)]⟩
  · have hil : i < l.length := by omega
    exact ⟨by omega, by rw [hU, upV_down hil (j := l[i].s.toNat) (by omega) (by omega)]⟩
  · have hil : i < l.length := by omega
    exact ⟨by omega, by rw [hU, upV_up hil (j := l[i].s.toNat) (by omega) (by omega)]⟩
  · have hil : i < l.length := by omega
    exact ⟨by omega, by rw [hU, upV_still hil (by omega)]⟩
  · obtain rfl : i = l.length := by omega
    rw [List.take_length] at hU
    subst hU
    refine ev_fin ⟨trivial, _, rfl, ((x2, m)), rfl, (by trivial), Frm.sel [1] rfl (by decide)⟩
set_option maxRecDepth 100000 in
theorem rUp (A : Option Addr) (l : List StepI) (c : Nat) (n : Int) (hn : l.length ≤ 1000000) :
    Triple Try.prog 12 [.int .i64 n, .slice A l.length c] [] [Rd 10 A l.length (l.flatMap encS)] (Option Addr × Nat × Nat) (fun (B, m, c) => .slice B m c) (fun (_, m, _) => m = manyM n) (fun (B, m, c) => [Row 4 1 B m c ((upM n l).flatMap encB)]) := by
  by_cases hN : 2 ≤ n ∧ n ≤ 7
  · obtain ⟨m, rfl⟩ : ∃ m : Nat, n = m := ⟨n.toNat, by omega⟩
    have hm : manyM (m : Int) = m := by unfold manyM; rw [if_pos hN]; rfl
    unfold upM
    rw [hm]
    refine triple_intro Try.tbs_ok Try.func12 rfl [.va (.int .i64 (m : Nat)), .va (.slice A l.length c)] [] ⟨trivial, trivial, trivial⟩ rfl (by simp) ?_
    intro E
    refine go Try.tbs_ok 1000 ?_
    refine ev_if_no (decide_eq_false (show ¬(↑m : Int) < 2 from (by omega))) ?_
    refine go Try.tbs_ok 1000 ?_
    refine ev_if_no (decide_eq_false (show ¬(↑m : Int) > 7 from (by omega))) ?_
    refine go Try.tbs_ok 1000 ?_
    refine ev_stop (go_fact (Row 4 1 none 0 0 (([] : List Bool).flatMap encB)) (Row.nilE _ _) ?_)
    refine go Try.tbs_ok 1000 ?_
    refine ev_stop (go_loopR [5, 6, 7, 8, 15, 16, 17, 18, 19, 20, 21, 22, 23, 24, 25, 26, 27, 28, 29, 30, 31, 32, 33, 34, 35, 36, 37, 38, 39, 40, 41, 42, 43, 44, 45, 46, 47, 48, 49, 50, 51, 52, 53, 54, 55, 56, 57, 58, 59] (fun (s, B, n, d, _) => [(5, .va (.slice B n d)), (6, .va (.int .i64 (s : Nat)))]) (fun (_, B, n, d, O) => [(0, .fact (Row 4 1 B n d (O.flatMap encB)))]) (fun (s, _, n, _, O) => s ≤ m ∧ n = s ∧ O = upV s l) (fun (s, _, _, _, _) => m - s) ((0, none, 0, 0, []) : Nat × Option Addr × Nat × Nat × List Bool) ⟨Nat.zero_le _, rfl, rfl⟩ ⟨⟨by kernel_rfl, by kernel_rfl⟩, ⟨_, rfl⟩, ⟨_, rfl⟩, by kernel_rfl, by kernel_rfl⟩ (fun x_ h_ => ?_))
    obtain ⟨s, B, n, d, O⟩ := x_
    obtain ⟨hs, hn', hO⟩ := h_
    have hOl : O.length = s := by rw [hO, upV_len]
    refine go Try.tbs_ok 1000 ?_
    refine ev_if_lt (fun h20 => ?_) (fun h20 => ?_)
    refine go Try.tbs_ok 1000 ?_
    rotate_left
    refine go Try.tbs_ok 1000 ?_
    refine ev_fin (go Try.tbs_ok 1000 ?_)
    rotate_left
    · refine ev_stop (go_slot 7 _ (.bq true) rfl rfl rfl (fun _ => trivial) ?_)
      refine go Try.tbs_ok 1000 ?_
      refine ev_stop (go_loopR [7, 8, 20, 21, 22, 23, 24, 25, 26, 27, 28, 29, 30, 31, 32, 33, 34, 35, 36, 37, 38, 39, 40, 41, 42, 43, 44, 45, 46, 47, 48, 49, 50, 51, 52, 53, 54, 55] (fun (i, u) => [(7, .bq u), (8, .va (.int .i64 (i : Nat)))]) (fun _ => []) (fun (i, u) => i ≤ l.length ∧ u = upAt (l.take i) s) (fun (i, _) => l.length - i) ((0, true) : Nat × Bool) ⟨Nat.zero_le _, rfl⟩ ⟨⟨by kernel_rfl, by kernel_rfl⟩, ⟨_, rfl⟩, ⟨_, rfl⟩, by kernel_rfl, by kernel_rfl⟩ (fun x_ h_ => ?_))
      obtain ⟨i, u⟩ := x_
      obtain ⟨hi, hu⟩ := h_
      refine go Try.tbs_ok 1000 ?_
      refine ev_if_lt (fun h40 => ?_) (fun h40 => ?_)
      refine go Try.tbs_ok 1000 ?_
      refine ev_stop (go_indexE (sz := 10) Try.tbs_ok (.inl 0) (i) rfl rfl rfl rfl rfl rfl (by omega) rfl (fun _ h => h) (fun g41 o43 e42 => ?_))
      subst e42
      refine go Try.tbs_ok 1000 ?_
      have l44 : i < (l).length := (by omega)
      refine ev_stop (go_loadE Try.tbs_ok (.inl 0) (i) 1 rfl rfl rfl rfl (fun _ h => h) (by omega) (fun _ => rfl) (by omega) l44 (by decide) ?_)
      refine go Try.tbs_ok 1000 ?_
      refine ev_if_eq (fun h45 => ?_) (fun h45 => ?_)
      refine go Try.tbs_ok 1000 ?_
      refine ev_stop (go_atE (sz := 10) Try.tbs_ok (i) rfl rfl rfl rfl rfl rfl (by omega) ?_)
      refine go Try.tbs_ok 1000 ?_
      have l46 : i < (l).length := (by omega)
      refine ev_stop (go_loadE Try.tbs_ok (.inl 0) (i) 0 rfl rfl rfl rfl (fun _ h => h) (by omega) (fun _ => rfl) (by omega) l46 (by decide) ?_)
      refine go Try.tbs_ok 1000 ?_
      refine ev_if_eq (fun h47 => ?_) (fun h47 => ?_)
      refine go Try.tbs_ok 1000 ?_
      refine ev_stop (go_atE (sz := 10) Try.tbs_ok (i) rfl rfl rfl rfl rfl rfl (by omega) ?_)
      refine go Try.tbs_ok 1000 ?_
      have l48 : i < (l).length := (by omega)
      refine ev_stop (go_loadE Try.tbs_ok (.inl 0) (i) 1 rfl rfl rfl rfl (fun _ h => h) (by omega) (fun _ => rfl) (by omega) l48 (by decide) ?_)
      refine go Try.tbs_ok 1000 ?_
      refine ev_if_yes (beq_iff_eq.2 (by with_reducible assumption)) ?_
      refine go Try.tbs_ok 1000 ?_
      refine ev_stop (go_atE (sz := 10) Try.tbs_ok (i) rfl rfl rfl rfl rfl rfl (by omega) ?_)
      refine go Try.tbs_ok 1000 ?_
      have l49 : i < (l).length := (by omega)
      refine ev_stop (go_loadE Try.tbs_ok (.inl 0) (i) 0 rfl rfl rfl rfl (fun _ h => h) (by omega) (fun _ => rfl) (by omega) l49 (by decide) ?_)
      refine go Try.tbs_ok 1000 ?_
      refine ev_if_no (beq_eq_false_iff_ne.2 (show ¬l[i].k = 11 from (by omega))) ?_
      refine go Try.tbs_ok 1000 ?_
      refine ev_wrapN (i + 1) (by constructor <;> omega) (by rfl) ?_
      refine ev_slot 7 _ (.bq false) rfl rfl rfl (fun _ => trivial) ?_
      refine ev_fin (round_next ((i + 1, false)) (?_ : i + 1 ≤ l.length ∧ false = upAt (List.take (i + 1) l) (↑s : Int)) (show l.length - (i + 1) < l.length - i from (by omega)) ⟨⟨by kernel_rfl, by kernel_rfl⟩, ⟨_, rfl⟩, ⟨_, rfl⟩, by kernel_rfl, by kernel_rfl⟩)
      rotate_left
      refine go Try.tbs_ok 1000 ?_
      refine ev_stop (go_atE (sz := 10) Try.tbs_ok (i) rfl rfl rfl rfl rfl rfl (by omega) ?_)
      refine go Try.tbs_ok 1000 ?_
      have l50 : i < (l).length := (by omega)
      refine ev_stop (go_loadE Try.tbs_ok (.inl 0) (i) 1 rfl rfl rfl rfl (fun _ h => h) (by omega) (fun _ => rfl) (by omega) l50 (by decide) ?_)
      refine go Try.tbs_ok 1000 ?_
      refine ev_if_yes (beq_iff_eq.2 (by with_reducible assumption)) ?_
      refine go Try.tbs_ok 1000 ?_
      refine ev_stop (go_atE (sz := 10) Try.tbs_ok (i) rfl rfl rfl rfl rfl rfl (by omega) ?_)
      refine go Try.tbs_ok 1000 ?_
      have l51 : i < (l).length := (by omega)
      refine ev_stop (go_loadE Try.tbs_ok (.inl 0) (i) 0 rfl rfl rfl rfl (fun _ h => h) (by omega) (fun _ => rfl) (by omega) l51 (by decide) ?_)
      refine go Try.tbs_ok 1000 ?_
      refine ev_if_eq (fun h52 => ?_) (fun h52 => ?_)
      refine go Try.tbs_ok 1000 ?_
      refine ev_wrapN (i + 1) (by constructor <;> omega) (by rfl) ?_
      refine ev_slot 7 _ (.bq true) rfl rfl rfl (fun _ => trivial) ?_
      refine ev_fin (round_next ((i + 1, true)) (?_ : i + 1 ≤ l.length ∧ true = upAt (List.take (i + 1) l) (↑s : Int)) (show l.length - (i + 1) < l.length - i from (by omega)) ⟨⟨by kernel_rfl, by kernel_rfl⟩, ⟨_, rfl⟩, ⟨_, rfl⟩, by kernel_rfl, by kernel_rfl⟩)
      rotate_left
      refine go Try.tbs_ok 1000 ?_
      refine ev_wrapN (i + 1) (by constructor <;> omega) (by rfl) ?_
      refine ev_fin (round_next ((i + 1, u)) (?_ : i + 1 ≤ l.length ∧ u = upAt (List.take (i + 1) l) (↑s : Int)) (show l.length - (i + 1) < l.length - i from (by omega)) ⟨⟨by kernel_rfl, by kernel_rfl⟩, ⟨_, rfl⟩, ⟨_, rfl⟩, by kernel_rfl, by kernel_rfl⟩)
      rotate_left
      refine go Try.tbs_ok 1000 ?_
      refine ev_stop (go_atE (sz := 10) Try.tbs_ok (i) rfl rfl rfl rfl rfl rfl (by omega) ?_)
      refine go Try.tbs_ok 1000 ?_
      have l53 : i < (l).length := (by omega)
      refine ev_stop (go_loadE Try.tbs_ok (.inl 0) (i) 1 rfl rfl rfl rfl (fun _ h => h) (by omega) (fun _ => rfl) (by omega) l53 (by decide) ?_)
      refine go Try.tbs_ok 1000 ?_
      refine ev_if_no (beq_eq_false_iff_ne.2 (by with_reducible assumption)) ?_
      refine go Try.tbs_ok 1000 ?_
      refine ev_wrapN (i + 1) (by constructor <;> omega) (by rfl) ?_
      refine ev_fin (round_next ((i + 1, u)) (?_ : i + 1 ≤ l.length ∧ u = upAt (List.take (i + 1) l) (↑s : Int)) (show l.length - (i + 1) < l.length - i from (by omega)) ⟨⟨by kernel_rfl, by kernel_rfl⟩, ⟨_, rfl⟩, ⟨_, rfl⟩, by kernel_rfl, by kernel_rfl⟩)
      rotate_left
      refine go Try.tbs_ok 1000 ?_
      refine ev_fin (go Try.tbs_ok 1000 ?_)
      refine ev_new fun b54 => ?_
      refine ev_stop (go_appendE (sz := 1) (M := [_]) (enc := encB) Try.tbs_ok [0] [] (.inr 1) (O) ([u]) ((O) ++ ([u])) (n + 1) rfl rfl rfl rfl rfl rfl rfl (by decide) rfl (by decide) (fun _ p => starH_one.1 p) rfl (fun _ p => Pt.rd p rfl) (by first | rfl | simp) (by first | rfl | omega) (le_app (s := n + 1) (by omega) (by first | rfl | omega)) (le_appb (s := n + 1) (by omega) (by first | rfl | omega) (by decide)) (fun _ _ => (by repeat (first | exact trivial | refine ⟨rfl, ?_⟩))) (fun A55 c56 h57 => ?_))
      refine go Try.tbs_ok 1000 ?_
      refine ev_wrapN (s + 1) (by constructor <;> omega) (by rfl) ?_
      refine ev_fin (round_next ((s + 1, A55, n + 1, c56, O ++ [u])) (?_ : s + 1 ≤ m ∧ n + 1 = s + 1 ∧ O ++ [u] = upV (s + 1) l) (show m - (s + 1) < m - s from (by omega)) ⟨⟨by kernel_rfl, by kernel_rfl⟩, ⟨_, rfl⟩, ⟨_, rfl⟩, by kernel_rfl, by kernel_rfl⟩)
      rotate_left
      · have hil : i < l.length := by omega
        exact ⟨by omega, by rw [upAt_take l s hil]; unfold upS; rw [if_pos (by omega)]⟩
      · have hil : i < l.length := by omega
        exact ⟨by omega, by rw [upAt_take l s hil]; unfold upS; rw [if_neg (by omega), if_pos (by omega)]⟩
      · have hil : i < l.length := by omega
        exact ⟨by omega, by rw [upAt_take l s hil]; unfold upS; rw [if_neg (by omega), if_neg (by omega)]; exact hu⟩
      · have hil : i < l.length := by omega
        exact ⟨by omega, by rw [upAt_take l s hil]; unfold upS; rw [if_neg (by omega), if_neg (by omega)]; exact hu⟩
      · exact ⟨by omega, by omega, by rw [upV_succ, hO, hu, show i = l.length by omega, List.take_length]⟩
    · obtain rfl : s = m := by omega
      subst hO
      refine ev_fin ⟨trivial, _, rfl, ((B, n, d)), rfl, (by trivial), Frm.sel [0] rfl (by decide)⟩
  · unfold upM
    rw [show manyM n = 0 from if_neg hN]
    refine triple_intro Try.tbs_ok Try.func12 rfl [.va (.int .i64 n), .va (.slice A l.length c)] [] ⟨trivial, trivial, trivial⟩ rfl (by simp) ?_
    intro E
    refine go_fact (Row 4 1 none 0 0 ((upV 0 l).flatMap encB)) (Row.nilE _ _) ?_
    refine go Try.tbs_ok 1000 ?_
    refine ev_if_lt (fun h0 => ?_) (fun h0 => ?_)
    refine go Try.tbs_ok 1000 ?_
    refine ev_fin ⟨trivial, _, rfl, ((none, 0, 0)), rfl, (by trivial), Frm.sel [0] rfl (by decide)⟩
    refine go Try.tbs_ok 1000 ?_
    refine ev_if_yes (decide_eq_true (show n > 7 from (by omega))) ?_
    refine go Try.tbs_ok 1000 ?_
    refine ev_fin ⟨trivial, _, rfl, ((none, 0, 0)), rfl, (by trivial), Frm.sel [0] rfl (by decide)⟩
set_option maxRecDepth 100000 in
theorem sameBools (A B : Option Addr) (L M : List Bool) (m c n d : Nat) (hm : m = L.length) (hn : n = M.length) (h1 : m ≤ 1000000) :
    Triple Try.prog 10 [.slice A m c, .slice B n d] [] [Rd 1 A m (L.flatMap encB), Rd 1 B n (M.flatMap encB)] Unit (fun _ => .bool (decide (L = M))) (fun _ => True) (fun _ => []) := by
  refine triple_intro Try.tbs_ok Try.func10 rfl [.va (.slice A m c), .va (.slice B n d)] [] ⟨trivial, trivial, trivial⟩ rfl (by simp) ?_
  intro E
  refine go Try.tbs_ok 1000 ?_
  refine ev_if_ne (fun h0 => ?_) (fun h0 => ?_)
  refine go Try.tbs_ok 1000 ?_
  refine ev_fin ⟨trivial, _, rfl, (()), ?_, (by trivial), Frm.nil _⟩
  rotate_left
  refine go Try.tbs_ok 1000 ?_
  rotate_left
  · exact congrArg Value.bool (decide_eq_false (fun e => by rw [e] at hm; omega)).symm
  · have hmn : m = n := by omega
    refine ev_stop (go_loopR [4, 5, 11, 12, 13, 14, 15, 16, 17, 18, 19, 20, 21, 22, 23, 24, 25] (fun i => [(5, .va (.int .i64 (i : Nat)))]) (fun _ => []) (fun i => i ≤ m ∧ L.take i = M.take i) (fun i => m - i) (0 : Nat) ⟨Nat.zero_le _, rfl⟩ ⟨⟨by kernel_rfl, by kernel_rfl⟩, ⟨_, rfl⟩, ⟨_, rfl⟩, by kernel_rfl, by kernel_rfl⟩ (fun i h_ => ?_))
    obtain ⟨hi, hi2⟩ := h_
    refine go Try.tbs_ok 1000 ?_
    refine ev_if_lt (fun h20 => ?_) (fun h20 => ?_)
    refine go Try.tbs_ok 1000 ?_
    refine ev_stop (go_draw Try.tbs_ok true [] [(0,true),(1,true),(2,true),(3,true),(4,true),(5,true),(6,true),(7,true),(8,true)] rfl ?_)
    refine go Try.tbs_ok 1000 ?_
    refine ev_need ⟨⟨(by repeat (first | exact trivial | refine ⟨rfl, ?_⟩)), rfl⟩, by kernel_rfl⟩ ?_
    refine ev_stop (tk_indexE (sz := 1) Try.tbs_ok (.inl 0) (i) ⟨⟨(by repeat (first | exact trivial | refine ⟨rfl, ?_⟩)), rfl⟩, by kernel_rfl⟩ rfl rfl rfl rfl rfl rfl rfl (by omega) rfl (fun _ h => h) (fun g21 o23 e22 => ?_))
    subst e22
    refine go Try.tbs_ok 1000 ?_
    refine ev_need ⟨⟨(by repeat (first | exact trivial | refine ⟨rfl, ?_⟩)), rfl⟩, by kernel_rfl⟩ ?_
    have l24 : i < (L).length := (by omega)
    refine ev_stop (tk_loadE Try.tbs_ok (.inl 0) (i) 0 ⟨⟨(by repeat (first | exact trivial | refine ⟨rfl, ?_⟩)), rfl⟩, by kernel_rfl⟩ rfl rfl rfl rfl rfl (fun _ h => h) (by omega) (fun _ => rfl) (by omega) l24 (by decide) ?_)
    refine go Try.tbs_ok 1000 ?_
    refine ev_need ⟨⟨(by repeat (first | exact trivial | refine ⟨rfl, ?_⟩)), rfl⟩, by kernel_rfl⟩ ?_
    refine ev_stop (tk_indexE (sz := 1) Try.tbs_ok (.inl 1) (i) ⟨⟨(by repeat (first | exact trivial | refine ⟨rfl, ?_⟩)), rfl⟩, by kernel_rfl⟩ rfl rfl rfl rfl rfl rfl rfl (by omega) rfl (fun _ h => h) (fun g25 o27 e26 => ?_))
    subst e26
    refine go Try.tbs_ok 1000 ?_
    refine ev_need ⟨⟨(by repeat (first | exact trivial | refine ⟨rfl, ?_⟩)), rfl⟩, by kernel_rfl⟩ ?_
    have l28 : i < (M).length := (by omega)
    refine ev_stop (tk_loadE Try.tbs_ok (.inl 1) (i) 0 ⟨⟨(by repeat (first | exact trivial | refine ⟨rfl, ?_⟩)), rfl⟩, by kernel_rfl⟩ rfl rfl rfl rfl rfl (fun _ h => h) (by omega) (fun _ => rfl) (by omega) l28 (by decide) ?_)
    refine go Try.tbs_ok 1000 ?_
    refine ev_need ⟨⟨(by repeat (first | exact trivial | refine ⟨rfl, ?_⟩)), rfl⟩, by kernel_rfl⟩ ?_
    refine ev_if (fun h29 => ?_) (fun h29 => ?_)
    refine go Try.tbs_ok 1000 ?_
    refine ev_fin ⟨trivial, _, rfl, (()), ?_, (by trivial), Frm.nil _⟩
    rotate_left
    refine go Try.tbs_ok 1000 ?_
    refine ev_wrapN (i + 1) (by constructor <;> omega) (by rfl) ?_
    refine ev_fin (round_next (i + 1) (?_ : i + 1 ≤ m ∧ List.take (i + 1) L = List.take (i + 1) M) (show m - (i + 1) < m - i from (by omega)) ⟨⟨by kernel_rfl, by kernel_rfl⟩, ⟨_, rfl⟩, ⟨_, rfl⟩, by kernel_rfl, by kernel_rfl⟩)
    rotate_left
    refine go Try.tbs_ok 1000 ?_
    refine ev_fin (go Try.tbs_ok 1000 ?_)
    refine ev_fin ⟨trivial, _, rfl, (()), ?_, (by trivial), Frm.nil _⟩
    rotate_left
    · exact congrArg Value.bool (decide_eq_false (fun e => by subst e; simp at h29)).symm
    · refine ⟨by omega, ?_⟩
      rw [← List.take_append_getElem l24, ← List.take_append_getElem l28, hi2]
      simp at h29
      rw [h29]
    · refine congrArg Value.bool (decide_eq_true ?_).symm
      rw [List.take_of_length_le (by omega), List.take_of_length_le (by omega)] at hi2
      exact hi2
def mostM (L : List Bool) : Bool := if 2 ≤ L.length ∧ L.length ≤ 7 then decide (L.length / 2 + 1 ≤ L.count true) else false
set_option maxRecDepth 100000 in
theorem pMost (A : Option Addr) (L : List Bool) (m c : Nat) (hm : m = L.length) (h1 : m ≤ 1000) :
    Triple Try.prog 14 [.slice A m c] [] [Rd 1 A m (L.flatMap encB)] Unit (fun _ => .bool (mostM L)) (fun _ => True) (fun _ => []) := by
  refine triple_intro Try.tbs_ok Try.func14 rfl [.va (.slice A m c)] [] ⟨trivial, trivial⟩ rfl (by simp) ?_
  intro E
  refine go Try.tbs_ok 1000 ?_
  refine ev_callF (many (↑m : Int)) [] [] rfl rfl (by decide) rfl (by simp) (fun _ => (by repeat (first | exact trivial | refine ⟨rfl, ?_⟩))) (fun _ h0 => ?_)
  refine go Try.tbs_ok 1000 ?_
  refine ev_if_eq (fun h1 => ?_) (fun h1 => ?_)
  refine go Try.tbs_ok 1000 ?_
  refine ev_fin ⟨trivial, _, rfl, (()), ?_, (by trivial), Frm.nil _⟩
  rotate_left
  refine go Try.tbs_ok 1000 ?_
  rotate_left
  · have h2 : ¬ (2 ≤ L.length ∧ L.length ≤ 7) := fun h => by
      unfold manyM at h1
      rw [if_pos (by omega)] at h1
      omega
    exact congrArg Value.bool (by unfold mostM; rw [if_neg h2])
  · have h2 : 2 ≤ m ∧ m ≤ 7 := by
      by_cases h : 2 ≤ (m : Int) ∧ (m : Int) ≤ 7
      · omega
      · unfold manyM at h1
        rw [if_neg h] at h1
        exact absurd rfl h1
    refine ev_stop (go_loopR [3, 5, 12, 13, 14, 15, 16, 17, 18, 19] (fun (i, k) => [(3, .va (.int .i64 (k : Nat))), (12, .va (.int .i64 (i : Nat)))]) (fun _ => []) (fun (i, k) => i ≤ m ∧ k = (L.take i).count true ∧ k ≤ i) (fun (i, _) => m - i) ((0, 0) : Nat × Nat) ⟨Nat.zero_le _, rfl, Nat.zero_le _⟩ ⟨⟨by kernel_rfl, by kernel_rfl⟩, ⟨_, rfl⟩, ⟨_, rfl⟩, by kernel_rfl, by kernel_rfl⟩ (fun x_ h_ => ?_))
    obtain ⟨i, k⟩ := x_
    obtain ⟨hi, hk, hki⟩ := h_
    refine go Try.tbs_ok 1000 ?_
    refine ev_if_lt (fun h20 => ?_) (fun h20 => ?_)
    refine go Try.tbs_ok 1000 ?_
    refine ev_stop (go_indexE (sz := 1) Try.tbs_ok (.inl 0) (i) rfl rfl rfl rfl rfl rfl (by omega) rfl (fun _ h => h) (fun g21 o23 e22 => ?_))
    subst e22
    refine go Try.tbs_ok 1000 ?_
    have l24 : i < (L).length := (by omega)
    refine ev_stop (go_loadE Try.tbs_ok (.inl 0) (i) 0 rfl rfl rfl rfl (fun _ h => h) (by omega) (fun _ => rfl) (by omega) l24 (by decide) ?_)
    refine go Try.tbs_ok 1000 ?_
    refine ev_if (fun h25 => ?_) (fun h25 => ?_)
    refine go Try.tbs_ok 1000 ?_
    refine ev_wrapN (k + 1) (by constructor <;> omega) (by rfl) ?_
    refine ev_wrapN (i + 1) (by constructor <;> omega) (by rfl) ?_
    refine ev_fin (round_next ((i + 1, k + 1)) (?_ : i + 1 ≤ m ∧ k + 1 = List.count true (List.take (i + 1) L) ∧ k + 1 ≤ i + 1) (show m - (i + 1) < m - i from (by omega)) ⟨⟨by kernel_rfl, by kernel_rfl⟩, ⟨_, rfl⟩, ⟨_, rfl⟩, by kernel_rfl, by kernel_rfl⟩)
    rotate_left
    refine go Try.tbs_ok 1000 ?_
    refine ev_wrapN (i + 1) (by constructor <;> omega) (by rfl) ?_
    refine ev_fin (round_next ((i + 1, k)) (?_ : i + 1 ≤ m ∧ k = List.count true (List.take (i + 1) L) ∧ k ≤ i + 1) (show m - (i + 1) < m - i from (by omega)) ⟨⟨by kernel_rfl, by kernel_rfl⟩, ⟨_, rfl⟩, ⟨_, rfl⟩, by kernel_rfl, by kernel_rfl⟩)
    rotate_left
    refine go Try.tbs_ok 1000 ?_
    refine ev_fin (go Try.tbs_ok 1000 ?_)
    refine ev_callF (majority (m) (by with_reducible assumption)) [] [] rfl rfl (by decide) rfl (by simp) (fun _ => (by repeat (first | exact trivial | refine ⟨rfl, ?_⟩))) (fun _ h26 => ?_)
    refine go Try.tbs_ok 1000 ?_
    refine ev_fin ⟨trivial, _, rfl, (()), ?_, (by trivial), Frm.nil _⟩
    rotate_left
    · refine ⟨by omega, ?_, by omega⟩
      rw [← List.take_append_getElem l24, List.count_append, ← hk, h25]
      rfl
    · refine ⟨by omega, ?_, by omega⟩
      rw [← List.take_append_getElem l24, List.count_append, ← hk, h25]
      rfl
    · rw [if_pos h2]
      refine congrArg Value.bool ?_
      unfold mostM
      rw [← hm, if_pos h2, hk, List.take_of_length_le (by omega)]
      exact decide_eq_decide.2 (by omega)
end Go.Proofs.Ytagfngobpooppaa
