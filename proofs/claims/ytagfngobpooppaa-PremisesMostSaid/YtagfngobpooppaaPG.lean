/-
  What is proved: the walks of PremisesTell, PremisesMost, PremisesMore. Conditions: none.
-/
import Derived.Test.YtagfngobpooppaaPF
namespace Go.Proofs.Ytagfngobpooppaa
open Go.Sy

theorem sameUp (A B : Option Addr) (L : List Bool) (m n c d : Nat) (hm : m = L.length) (hn : n = L.length) (h1 : m ≤ 1000) :
    Triple Try.prog 10 [.slice A m c, .slice B n d] [] [Row 4 1 A m c (L.flatMap encB), Row 4 1 B n d (L.flatMap encB)] Unit (fun _ => .bool true) (fun _ => True) (fun _ => []) := by
  obtain rfl : m = n := by omega
  have t := (sameBools A B L L m c m d hm hm (by omega)).reads (N' := [Row 4 1 A m c (L.flatMap encB), Row 4 1 B m d (L.flatMap encB)]) fun X hX => by
    simp only [List.mem_cons, List.not_mem_nil, or_false] at hX
    rcases hX with rfl | rfl
    · exact ⟨_, List.mem_cons_self, fun _ q => Row.rd q⟩
    · exact ⟨_, List.mem_cons_of_mem _ List.mem_cons_self, fun _ q => Row.rd q⟩
  rw [decide_eq_true rfl] at t
  exact t
set_option maxRecDepth 100000 in
theorem premisesTell (n : Int) (A : Option Addr) (l : List StepI) (c : Nat) :
    Triple Try.prog 3 [.int .i64 n, .slice A l.length c] [] [Rd 10 A l.length (l.flatMap encS)] Unit (fun _ => .bool true) (fun _ => True) (fun _ => []) := by
  obtain ⟨m, hm⟩ : ∃ m, m = manyM n := ⟨_, rfl⟩
  have hm7 : m ≤ 7 := by rw [hm]; exact manyM_le n
  have T1 := fun h => pUp A l c n h
  have T2 := fun h => rUp A l c n h
  rw [← hm] at T1 T2
  have hU : (upM n l).length = m := by unfold upM; rw [upV_len, hm]
  obtain ⟨U, hU2⟩ : ∃ U, U = upM n l := ⟨_, rfl⟩
  rw [← hU2] at hU T1 T2
  have T3 := fun A B m n c d => sameUp A B U m n c d
  refine triple_intro Try.tbs_ok Try.func3 rfl [.va (.int .i64 n), .va (.slice A l.length c)] [] ⟨trivial, trivial, trivial⟩ rfl (by simp) ?_
  intro E
  refine go Try.tbs_ok 1000 ?_
  refine ev_if_lt (fun h0 => ?_) (fun h0 => ?_)
  refine go Try.tbs_ok 1000 ?_
  refine ev_callF (lives ) [] [] rfl rfl (by decide) rfl (by simp) (fun _ => (by repeat (first | exact trivial | refine ⟨rfl, ?_⟩))) (fun _ h1 => ?_)
  refine go Try.tbs_ok 1000 ?_
  refine ev_fin ⟨trivial, _, rfl, (()), rfl, (by trivial), Frm.nil _⟩
  refine go Try.tbs_ok 1000 ?_
  refine ev_callF (rWorst (A) (l) (c) (n) (show l.length ≤ 1000000 from (by omega))) [] [.inl 0] rfl rfl (by decide) rfl (by simp) (fun _ => (by repeat (first | exact trivial | refine ⟨rfl, ?_⟩))) (fun _ h2 => ?_)
  refine go Try.tbs_ok 1000 ?_
  refine ev_callF (pWorst (A) (l) (c) (n) (show l.length ≤ 1000000 from (by omega))) [] [.inl 0] rfl rfl (by decide) rfl (by simp) (fun _ => (by repeat (first | exact trivial | refine ⟨rfl, ?_⟩))) (fun _ h3 => ?_)
  refine go Try.tbs_ok 1000 ?_
  refine ev_if_yes (beq_iff_eq.2 (show worstM n l = worstM n l from (by omega))) ?_
  refine go Try.tbs_ok 1000 ?_
  refine ev_callF (within (A) (l) (c) (n) (show l.length ≤ 1000000 from (by omega))) [] [.inl 0] rfl rfl (by decide) rfl (by simp) (fun _ => (by repeat (first | exact trivial | refine ⟨rfl, ?_⟩))) (fun _ h4 => ?_)
  refine go Try.tbs_ok 1000 ?_
  refine ev_if_yes (by simp [*]) ?_
  refine go Try.tbs_ok 1000 ?_
  refine ev_callF (T1 (show l.length ≤ 1000000 from (by omega))) [] [.inl 0] rfl rfl (by decide) rfl (by simp) (fun _ => (by repeat (first | exact trivial | refine ⟨rfl, ?_⟩))) (fun ⟨x5, x6⟩ h7 => ?_)
  refine go Try.tbs_ok 1000 ?_
  refine ev_callF (T2 (show l.length ≤ 1000000 from (by omega))) [] [.inl 0] rfl rfl (by decide) rfl (by simp) (fun _ => (by repeat (first | exact trivial | refine ⟨rfl, ?_⟩))) (fun ⟨x8, x9, x10⟩ h11 => ?_)
  refine go Try.tbs_ok 1000 ?_
  refine ev_callF (T3 (some { block := x5, off := 0 }) (x8) (x6) (x9) (x6) (x10) (show x6 = U.length from (by omega)) (show x9 = U.length from (by omega)) (show x6 ≤ 1000 from (by omega))) [] [.inr 0, .inr 1] rfl rfl (by decide) rfl (by simp) (fun _ => (by repeat (first | exact trivial | refine ⟨rfl, ?_⟩))) (fun _ h12 => ?_)
  refine go Try.tbs_ok 1000 ?_
  refine ev_if_yes rfl ?_
  refine go Try.tbs_ok 1000 ?_
  refine ev_callF (lives ) [] [] rfl rfl (by decide) rfl (by simp) (fun _ => (by repeat (first | exact trivial | refine ⟨rfl, ?_⟩))) (fun _ h13 => ?_)
  refine go Try.tbs_ok 1000 ?_
  refine ev_fin ⟨trivial, _, rfl, (()), rfl, (by trivial), Frm.nil _⟩
set_option maxRecDepth 100000 in
theorem sized (size : Nat) (hs : size < 256) : Triple Try.prog 13 [.int .u8 size] [] [] Unit (fun _ => .int .i64 (2 + size % 6 : Nat)) (fun _ => True) (fun _ => []) := by
  refine triple_intro Try.tbs_ok Try.func13 rfl [.va (.int .u8 size)] [] ⟨trivial, trivial⟩ rfl (by simp) ?_
  intro E
  refine go Try.tbs_ok 1000 ?_
  refine ev_wrapN (size) (by constructor <;> omega) (by rfl) ?_
  have e : (size : Int).tmod 6 = ((size % 6 : Nat) : Int) := rfl
  refine ev_wrapN (2 + size % 6) (by rw [e]; omega) (by rw [e]; omega) ?_
  refine ev_fin ⟨trivial, _, rfl, (()), rfl, (by trivial), Frm.nil _⟩
theorem most_pos {L : List Bool} (h : mostM L = true) : (2 ≤ L.length ∧ L.length ≤ 7) ∧ L.length / 2 + 1 ≤ L.count true := by
  unfold mostM at h
  by_cases h2 : 2 ≤ L.length ∧ L.length ≤ 7
  · rw [if_pos h2] at h
    exact ⟨h2, of_decide_eq_true h⟩
  · rw [if_neg h2] at h
    cases h
theorem count_not : ∀ L : List Bool, (L.map not).count true + L.count true = L.length
  | [] => rfl
  | b :: L => by
    have := count_not L
    cases b <;> simp <;> omega
theorem most_not {L : List Bool} (h : mostM L = true) : mostM (L.map not) = false := by
  cases hb : mostM (L.map not)
  · rfl
  · have h1 := (most_pos h).2
    have h2 := (most_pos hb).2
    have h3 := count_not L
    rw [List.length_map] at h2
    omega
set_option maxRecDepth 100000 in
theorem premisesMost (A : Option Addr) (L : List Bool) (m c : Nat) (hm : m = L.length) :
    Triple Try.prog 5 [.slice A m c] [] [Rd 1 A m (L.flatMap encB)] Unit (fun _ => .bool true) (fun _ => True) (fun _ => []) := by
  refine triple_intro Try.tbs_ok Try.func5 rfl [.va (.slice A m c)] [] ⟨trivial, trivial⟩ rfl (by simp) ?_
  intro E
  refine go Try.tbs_ok 1000 ?_
  refine ev_if_lt (fun h0 => ?_) (fun h0 => ?_)
  refine go Try.tbs_ok 1000 ?_
  refine ev_callF (lives ) [] [] rfl rfl (by decide) rfl (by simp) (fun _ => (by repeat (first | exact trivial | refine ⟨rfl, ?_⟩))) (fun _ h1 => ?_)
  refine go Try.tbs_ok 1000 ?_
  refine ev_fin ⟨trivial, _, rfl, (()), rfl, (by trivial), Frm.nil _⟩
  refine go Try.tbs_ok 1000 ?_
  refine ev_stop (go_fact (Row 4 1 none 0 0 (([] : List Bool).flatMap encB)) (Row.nilE _ _) ?_)
  refine go Try.tbs_ok 1000 ?_
  refine ev_stop (go_loopR [3, 4, 5, 11, 12, 13, 14, 15, 16, 17, 18, 19, 20, 21, 22, 23, 24, 25, 26, 27, 28, 29, 30] (fun (i, k, B, n, d, _) => [(3, .va (.slice B n d)), (4, .va (.int .i64 (k : Nat))), (5, .va (.int .i64 (i : Nat)))]) (fun (_, _, B, n, d, D) => [(0, .fact (Row 4 1 B n d (D.flatMap encB)))]) (fun (i, k, _, n, _, D) => i ≤ m ∧ k = (L.take i).count true ∧ k ≤ i ∧ n = i ∧ D = (L.take i).map not) (fun (i, _, _, _, _, _) => m - i) ((0, 0, none, 0, 0, []) : Nat × Nat × Option Addr × Nat × Nat × List Bool) ⟨Nat.zero_le _, rfl, Nat.zero_le _, rfl, rfl⟩ ⟨⟨by kernel_rfl, by kernel_rfl⟩, ⟨_, rfl⟩, ⟨_, rfl⟩, by kernel_rfl, by kernel_rfl⟩ (fun x_ h_ => ?_))
  obtain ⟨i, k, B, n, d, D⟩ := x_
  obtain ⟨hi, hk, hki, hn, hD⟩ := h_
  have hDl : D.length = i := by rw [hD, List.length_map, List.length_take]; omega
  have T1 := pMost A L m c hm (by omega)
  have T2 := (pMost B D n d (by omega) (by omega)).ofRow 4 d
  refine go Try.tbs_ok 1000 ?_
  refine ev_if_lt (fun h20 => ?_) (fun h20 => ?_)
  refine go Try.tbs_ok 1000 ?_
  refine ev_stop (go_indexE (sz := 1) Try.tbs_ok (.inl 0) (i) rfl rfl rfl rfl rfl rfl (by omega) rfl (fun _ h => h) (fun g21 o23 e22 => ?_))
  subst e22
  refine go Try.tbs_ok 1000 ?_
  have l24 : i < (L).length := (by omega)
  refine ev_stop (go_loadE Try.tbs_ok (.inl 0) (i) 0 rfl rfl rfl rfl (fun _ h => h) (by omega) (fun _ => rfl) (by omega) l24 (by decide) ?_)
  refine go Try.tbs_ok 1000 ?_
  refine ev_new fun b25 => ?_
  refine ev_stop (go_appendE (sz := 1) (M := [_]) (enc := encB) Try.tbs_ok [0] [] (.inr 1) (D) ([!L[i]]) ((D) ++ ([!L[i]])) (n + 1) rfl rfl rfl rfl rfl rfl rfl (by decide) rfl (by decide) (fun _ p => starH_one.1 p) rfl (fun _ p => Pt.rd p rfl) (by first | rfl | simp) (by first | rfl | omega) (le_app (s := n + 1) (by omega) (by first | rfl | omega)) (le_appb (s := n + 1) (by omega) (by first | rfl | omega) (by decide)) (fun _ _ => (by repeat (first | exact trivial | refine ⟨rfl, ?_⟩))) (fun A26 c27 h28 => ?_))
  refine go Try.tbs_ok 1000 ?_
  refine ev_stop (go_atE (sz := 1) Try.tbs_ok (i) rfl rfl rfl rfl rfl rfl (by omega) ?_)
  refine go Try.tbs_ok 1000 ?_
  have l29 : i < (L).length := (by omega)
  refine ev_stop (go_loadE Try.tbs_ok (.inl 0) (i) 0 rfl rfl rfl rfl (fun _ h => h) (by omega) (fun _ => rfl) (by omega) l29 (by decide) ?_)
  refine go Try.tbs_ok 1000 ?_
  refine ev_if (fun h30 => ?_) (fun h30 => ?_)
  refine go Try.tbs_ok 1000 ?_
  refine ev_wrapN (k + 1) (by constructor <;> omega) (by rfl) ?_
  refine ev_wrapN (i + 1) (by constructor <;> omega) (by rfl) ?_
  refine ev_fin (round_next ((i + 1, k + 1, A26, n + 1, c27, D ++ [!L[i]])) (?_ : i + 1 ≤ m ∧ k + 1 = List.count true (List.take (i + 1) L) ∧ k + 1 ≤ i + 1 ∧ n + 1 = i + 1 ∧ D ++ [!L[i]] = List.map not (List.take (i + 1) L)) (show m - (i + 1) < m - i from (by omega)) ⟨⟨by kernel_rfl, by kernel_rfl⟩, ⟨_, rfl⟩, ⟨_, rfl⟩, by kernel_rfl, by kernel_rfl⟩)
  rotate_left
  refine go Try.tbs_ok 1000 ?_
  refine ev_wrapN (i + 1) (by constructor <;> omega) (by rfl) ?_
  refine ev_fin (round_next ((i + 1, k, A26, n + 1, c27, D ++ [!L[i]])) (?_ : i + 1 ≤ m ∧ k = List.count true (List.take (i + 1) L) ∧ k ≤ i + 1 ∧ n + 1 = i + 1 ∧ D ++ [!L[i]] = List.map not (List.take (i + 1) L)) (show m - (i + 1) < m - i from (by omega)) ⟨⟨by kernel_rfl, by kernel_rfl⟩, ⟨_, rfl⟩, ⟨_, rfl⟩, by kernel_rfl, by kernel_rfl⟩)
  rotate_left
  refine go Try.tbs_ok 1000 ?_
  refine ev_fin (go Try.tbs_ok 1000 ?_)
  refine ev_if_lt (fun h31 => ?_) (fun h31 => ?_)
  refine go Try.tbs_ok 1000 ?_
  refine ev_callF (T1 ) [] [.inl 0] rfl rfl (by decide) rfl (by simp) (fun _ => (by repeat (first | exact trivial | refine ⟨rfl, ?_⟩))) (fun _ h32 => ?_)
  refine go Try.tbs_ok 1000 ?_
  refine ev_if_lt (fun h33 => ?_) (fun h33 => ?_)
  refine go Try.tbs_ok 1000 ?_
  refine ev_wrapN (2 * k) (by constructor <;> omega) (by rfl) ?_
  refine ev_if (fun h34 => ?_) (fun h34 => ?_)
  refine go Try.tbs_ok 1000 ?_
  refine ev_callF (T1 ) [] [.inl 0] rfl rfl (by decide) rfl (by simp) (fun _ => (by repeat (first | exact trivial | refine ⟨rfl, ?_⟩))) (fun _ h35 => ?_)
  refine go Try.tbs_ok 1000 ?_
  refine ev_if (fun h36 => ?_) (fun h36 => ?_)
  refine go Try.tbs_ok 1000 ?_
  refine ev_callF (T2 ) [] [.inr 0] rfl rfl (by decide) rfl (by simp) (fun _ => (by repeat (first | exact trivial | refine ⟨rfl, ?_⟩))) (fun _ h37 => ?_)
  refine go Try.tbs_ok 1000 ?_
  refine ev_if (fun h38 => ?_) (fun h38 => ?_)
  refine go Try.tbs_ok 1000 ?_
  refine ev_callF (lives ) [] [] rfl rfl (by decide) rfl (by simp) (fun _ => (by repeat (first | exact trivial | refine ⟨rfl, ?_⟩))) (fun _ h39 => ?_)
  refine go Try.tbs_ok 1000 ?_
  refine ev_fin ⟨trivial, _, rfl, (()), rfl, (by trivial), Frm.nil _⟩
  refine go Try.tbs_ok 1000 ?_
  refine ev_fin ⟨trivial, _, rfl, (()), ?_, (by trivial), Frm.nil _⟩
  rotate_left
  refine go Try.tbs_ok 1000 ?_
  refine ev_callF (lives ) [] [] rfl rfl (by decide) rfl (by simp) (fun _ => (by repeat (first | exact trivial | refine ⟨rfl, ?_⟩))) (fun _ h40 => ?_)
  refine go Try.tbs_ok 1000 ?_
  refine ev_fin ⟨trivial, _, rfl, (()), rfl, (by trivial), Frm.nil _⟩
  refine go Try.tbs_ok 1000 ?_
  refine ev_fin ⟨trivial, _, rfl, (()), ?_, (by trivial), Frm.nil _⟩
  rotate_left
  refine go Try.tbs_ok 1000 ?_
  refine ev_if (fun h41 => ?_) (fun h41 => ?_)
  refine go Try.tbs_ok 1000 ?_
  refine ev_callF (T1 ) [] [.inl 0] rfl rfl (by decide) rfl (by simp) (fun _ => (by repeat (first | exact trivial | refine ⟨rfl, ?_⟩))) (fun _ h42 => ?_)
  refine go Try.tbs_ok 1000 ?_
  refine ev_if (fun h43 => ?_) (fun h43 => ?_)
  refine go Try.tbs_ok 1000 ?_
  refine ev_callF (T2 ) [] [.inr 0] rfl rfl (by decide) rfl (by simp) (fun _ => (by repeat (first | exact trivial | refine ⟨rfl, ?_⟩))) (fun _ h44 => ?_)
  refine go Try.tbs_ok 1000 ?_
  refine ev_if (fun h45 => ?_) (fun h45 => ?_)
  refine go Try.tbs_ok 1000 ?_
  refine ev_callF (lives ) [] [] rfl rfl (by decide) rfl (by simp) (fun _ => (by repeat (first | exact trivial | refine ⟨rfl, ?_⟩))) (fun _ h46 => ?_)
  refine go Try.tbs_ok 1000 ?_
  refine ev_fin ⟨trivial, _, rfl, (()), rfl, (by trivial), Frm.nil _⟩
  refine go Try.tbs_ok 1000 ?_
  refine ev_fin ⟨trivial, _, rfl, (()), ?_, (by trivial), Frm.nil _⟩
  rotate_left
  refine go Try.tbs_ok 1000 ?_
  refine ev_callF (lives ) [] [] rfl rfl (by decide) rfl (by simp) (fun _ => (by repeat (first | exact trivial | refine ⟨rfl, ?_⟩))) (fun _ h47 => ?_)
  refine go Try.tbs_ok 1000 ?_
  refine ev_fin ⟨trivial, _, rfl, (()), rfl, (by trivial), Frm.nil _⟩
  refine go Try.tbs_ok 1000 ?_
  refine ev_fin ⟨trivial, _, rfl, (()), ?_, (by trivial), Frm.nil _⟩
  rotate_left
  refine go Try.tbs_ok 1000 ?_
  refine ev_callF (T1 ) [] [.inl 0] rfl rfl (by decide) rfl (by simp) (fun _ => (by repeat (first | exact trivial | refine ⟨rfl, ?_⟩))) (fun _ h48 => ?_)
  refine go Try.tbs_ok 1000 ?_
  refine ev_if (fun h49 => ?_) (fun h49 => ?_)
  refine go Try.tbs_ok 1000 ?_
  refine ev_callF (T1 ) [] [.inl 0] rfl rfl (by decide) rfl (by simp) (fun _ => (by repeat (first | exact trivial | refine ⟨rfl, ?_⟩))) (fun _ h50 => ?_)
  refine go Try.tbs_ok 1000 ?_
  refine ev_if (fun h51 => ?_) (fun h51 => ?_)
  refine go Try.tbs_ok 1000 ?_
  refine ev_callF (T2 ) [] [.inr 0] rfl rfl (by decide) rfl (by simp) (fun _ => (by repeat (first | exact trivial | refine ⟨rfl, ?_⟩))) (fun _ h52 => ?_)
  refine go Try.tbs_ok 1000 ?_
  refine ev_if (fun h53 => ?_) (fun h53 => ?_)
  refine go Try.tbs_ok 1000 ?_
  refine ev_callF (lives ) [] [] rfl rfl (by decide) rfl (by simp) (fun _ => (by repeat (first | exact trivial | refine ⟨rfl, ?_⟩))) (fun _ h54 => ?_)
  refine go Try.tbs_ok 1000 ?_
  refine ev_fin ⟨trivial, _, rfl, (()), rfl, (by trivial), Frm.nil _⟩
  refine go Try.tbs_ok 1000 ?_
  refine ev_fin ⟨trivial, _, rfl, (()), ?_, (by trivial), Frm.nil _⟩
  rotate_left
  refine go Try.tbs_ok 1000 ?_
  refine ev_callF (lives ) [] [] rfl rfl (by decide) rfl (by simp) (fun _ => (by repeat (first | exact trivial | refine ⟨rfl, ?_⟩))) (fun _ h55 => ?_)
  refine go Try.tbs_ok 1000 ?_
  refine ev_fin ⟨trivial, _, rfl, (()), rfl, (by trivial), Frm.nil _⟩
  refine go Try.tbs_ok 1000 ?_
  refine ev_fin ⟨trivial, _, rfl, (()), ?_, (by trivial), Frm.nil _⟩
  rotate_left
  · refine ⟨by omega, ?_, by omega, by omega, ?_⟩
    · rw [← List.take_append_getElem l24, List.count_append, ← hk, h30]
      rfl
    · rw [← List.take_append_getElem l24, List.map_append, hD]
      rfl
  · refine ⟨by omega, ?_, by omega, by omega, ?_⟩
    · rw [← List.take_append_getElem l24, List.count_append, ← hk, h30]
      rfl
    · rw [← List.take_append_getElem l24, List.map_append, hD]
      rfl
  all_goals
    exfalso
    rw [List.take_of_length_le (by omega)] at hk hD
  · rw [hD, most_not h36] at h38
    cases h38
  · unfold mostM at h34
    rw [if_pos (by omega), hm, hk, beq_eq_false_iff_ne] at h34
    exact h34 (decide_eq_decide.2 (by omega))
  · have := (most_pos h43).1
    omega
  · have := (most_pos (L := L) (by simpa using h41)).1
    omega
  · have := (most_pos h51).1
    omega
  · have := (most_pos (L := L) (by simpa using h49)).1
    omega
theorem worstRow (A : Option Addr) (l : List StepI) (m c : Nat) (n : Int) (hm : m = l.length) (hn : m ≤ 1000000) :
    Triple Try.prog 8 [.int .i64 n, .slice A m c] [] [Row 34 10 A m c (l.flatMap encS)] Unit (fun _ => .int .i64 (worstM n l)) (fun _ => True) (fun _ => []) := by
  subst hm
  exact (pWorst A l c n hn).ofRow 34 c
theorem wM_append (m : Nat) (l more : List StepI) : ∀ k, k ≤ l.length + 1 → wM m (l ++ more) k = wM m l k
  | 0, _ => rfl
  | k + 1, h => by
    show max (wM m (l ++ more) k) (spread m ((l ++ more).take k)) = max (wM m l k) (spread m (l.take k))
    rw [wM_append m l more k (by omega), List.take_append_of_le_length (by omega)]
theorem worst_more (n : Int) (l more : List StepI) : worstM n l ≤ worstM n (l ++ more) := by
  unfold worstM
  rw [← wM_append (manyM n) l more (l.length + 1) (Nat.le_refl _), List.length_append]
  exact wM_mono _ _ (by omega)
theorem worst_still (n : Int) (l rest : List StepI) (h : ∀ x ∈ rest, x.k ≠ 2) : worstM n (l ++ rest) = worstM n l := by
  have key : ∀ j, j ≤ rest.length → wM (manyM n) (l ++ rest) (l.length + j + 1) = wM (manyM n) (l ++ rest) (l.length + 1) := by
    intro j
    induction j with
    | zero => exact fun _ => rfl
    | succ j ih =>
      intro hj
      have hi : l.length + j < (l ++ rest).length := by rw [List.length_append]; omega
      have e : (l ++ rest)[l.length + j] = rest[j] := by rw [List.getElem_append_right (by omega)]; simp
      rw [← ih (by omega)]
      exact wM_still hi (fun hh => h _ (List.getElem_mem (show j < rest.length by omega)) (by rw [← e]; exact hh.1))
  unfold worstM
  rw [List.length_append, key _ (Nat.le_refl _), wM_append _ _ _ _ (Nat.le_refl _)]
theorem still_in (l more : List StepI) {i : Nat} (hi : i < l.length) :
    l.take i ++ (more.take (i - l.length)).filter (fun x => x.k != 2) ++ [(l ++ more)[i]'(by rw [List.length_append]; omega)] = l.take (i + 1) ++ (more.take (i + 1 - l.length)).filter (fun x => x.k != 2) := by
  rw [show i - l.length = 0 by omega, show i + 1 - l.length = 0 by omega, List.getElem_append_left hi, ← List.take_append_getElem hi]
  simp
theorem still_step (l more : List StepI) {i : Nat} (h1 : l.length ≤ i) (h2 : i < (l ++ more).length) :
    l.take (i + 1) ++ (more.take (i + 1 - l.length)).filter (fun x => x.k != 2) = l.take i ++ (more.take (i - l.length)).filter (fun x => x.k != 2) ++ [(l ++ more)[i]].filter (fun x => x.k != 2) := by
  have hj : i - l.length < more.length := by rw [List.length_append] at h2; omega
  rw [show i + 1 - l.length = (i - l.length) + 1 by omega, ← List.take_append_getElem hj, List.filter_append, List.getElem_append_right h1, List.take_of_length_le (by omega), List.take_of_length_le h1, List.append_assoc]
theorem still_on (l more : List StepI) {i : Nat} (h1 : l.length ≤ i) (h2 : i < (l ++ more).length) (h : (l ++ more)[i].k ≠ 2) :
    l.take i ++ (more.take (i - l.length)).filter (fun x => x.k != 2) ++ [(l ++ more)[i]] = l.take (i + 1) ++ (more.take (i + 1 - l.length)).filter (fun x => x.k != 2) := by
  rw [still_step l more h1 h2, List.filter_cons_of_pos (by simpa using h)]
  rfl
theorem still_off (l more : List StepI) {i : Nat} (h1 : l.length ≤ i) (h2 : i < (l ++ more).length) (h : (l ++ more)[i].k = 2) :
    l.take i ++ (more.take (i - l.length)).filter (fun x => x.k != 2) = l.take (i + 1) ++ (more.take (i + 1 - l.length)).filter (fun x => x.k != 2) := by
  rw [still_step l more h1 h2, List.filter_cons_of_neg (by simp [h])]
  simp
set_option maxRecDepth 100000 in
theorem premisesMore (size : Nat) (A : Option Addr) (l : List StepI) (c : Nat) (B : Option Addr) (more : List StepI) (d : Nat) (hs : size < 256) :
    Triple Try.prog 4 [.int .u8 size, .slice A l.length c, .slice B more.length d] [] [Rd 10 A l.length (l.flatMap encS), Rd 10 B more.length (more.flatMap encS)] Unit (fun _ => .bool true) (fun _ => True) (fun _ => []) := by
  obtain ⟨n, hn⟩ : ∃ n : Nat, n = 2 + size % 6 := ⟨_, rfl⟩
  have T0 := sized size hs
  rw [← hn] at T0
  have hmono := worst_more (n : Int) l more
  refine triple_intro Try.tbs_ok Try.func4 rfl [.va (.int .u8 size), .va (.slice A l.length c), .va (.slice B more.length d)] [] ⟨trivial, trivial, trivial, trivial⟩ rfl (by simp) ?_
  intro E
  refine go Try.tbs_ok 1000 ?_
  refine ev_if_lt (fun h0 => ?_) (fun h0 => ?_)
  refine go Try.tbs_ok 1000 ?_
  refine ev_callF (lives ) [] [] rfl rfl (by decide) rfl (by simp) (fun _ => (by repeat (first | exact trivial | refine ⟨rfl, ?_⟩))) (fun _ h1 => ?_)
  refine go Try.tbs_ok 1000 ?_
  refine ev_fin ⟨trivial, _, rfl, (()), rfl, (by trivial), Frm.nil _⟩
  refine go Try.tbs_ok 1000 ?_
  refine ev_if_lt (fun h2 => ?_) (fun h2 => ?_)
  refine go Try.tbs_ok 1000 ?_
  refine ev_callF (lives ) [] [] rfl rfl (by decide) rfl (by simp) (fun _ => (by repeat (first | exact trivial | refine ⟨rfl, ?_⟩))) (fun _ h3 => ?_)
  refine go Try.tbs_ok 1000 ?_
  refine ev_fin ⟨trivial, _, rfl, (()), rfl, (by trivial), Frm.nil _⟩
  refine go Try.tbs_ok 1000 ?_
  refine ev_callF (T0 ) [] [] rfl rfl (by decide) rfl (by simp) (fun _ => (by repeat (first | exact trivial | refine ⟨rfl, ?_⟩))) (fun _ h4 => ?_)
  refine go Try.tbs_ok 1000 ?_
  refine ev_callF (pWorst (A) (l) (c) (↑n : Int) (show l.length ≤ 1000000 from (by omega))) [] [.inl 0] rfl rfl (by decide) rfl (by simp) (fun _ => (by repeat (first | exact trivial | refine ⟨rfl, ?_⟩))) (fun _ h5 => ?_)
  refine go Try.tbs_ok 1000 ?_
  refine ev_stop (go_appendE (sz := 10) (M := []) (enc := encS) Try.tbs_ok [] [] (.inl 0) ([]) (l) (l) (l.length) rfl rfl rfl rfl rfl rfl rfl (by decide) rfl (by decide) (fun _ _ => Row.nil _ _ _) rfl (fun _ h => h) (by first | rfl | simp) (by first | rfl | omega) (le_app (s := l.length) (by omega) (by first | rfl | omega)) (le_appb (s := l.length) (by omega) (by first | rfl | omega) (by decide)) (fun _ _ => (by repeat (first | exact trivial | refine ⟨rfl, ?_⟩))) (fun A6 c7 h8 => ?_))
  refine go Try.tbs_ok 1000 ?_
  refine ev_stop (go_appendE (sz := 10) (M := [_]) (enc := encS) Try.tbs_ok [0] [] (.inl 1) (l) (more) ((l) ++ (more)) (l.length + more.length) rfl rfl rfl rfl rfl rfl rfl (by decide) rfl (by decide) (fun _ p => starH_one.1 p) rfl (fun _ h => h) (by first | rfl | simp) (by first | rfl | omega) (le_app (s := l.length + more.length) (by omega) (by first | rfl | omega)) (le_appb (s := l.length + more.length) (by omega) (by first | rfl | omega) (by decide)) (fun _ _ => (by repeat (first | exact trivial | refine ⟨rfl, ?_⟩))) (fun A9 c10 h11 => ?_))
  refine go Try.tbs_ok 1000 ?_
  refine ev_callF (worstRow (A9) (l ++ more) (l.length + more.length) (c10) (↑n : Int) (show l.length + more.length = (l ++ more).length from (by (simp only [List.length_set, List.length_append, List.length_cons, List.length_nil, List.length_map, List.length_take, List.length_drop, List.length_replicate] <;> omega))) (show l.length + more.length ≤ 1000000 from (by omega))) [] [.inr 0] rfl rfl (by decide) rfl (by simp) (fun _ => (by repeat (first | exact trivial | refine ⟨rfl, ?_⟩))) (fun _ h12 => ?_)
  refine go Try.tbs_ok 1000 ?_
  refine ev_if_no (decide_eq_false (show ¬worstM (↑n : Int) (l ++ more) < worstM (↑n : Int) l from (by omega))) ?_
  refine go Try.tbs_ok 1000 ?_
  refine ev_stop (go_fact (Row 34 10 none 0 0 (([] : List StepI).flatMap encS)) (Row.nilE _ _) ?_)
  refine go Try.tbs_ok 1000 ?_
  refine ev_stop (go_loopR [10, 11, 35, 36, 37, 38, 39, 40, 41, 42, 43, 44, 45, 46, 47, 48, 49, 50, 51, 52, 53, 54, 55, 56, 57, 58, 59] (fun (i, C, m, q, _) => [(10, .va (.slice C m q)), (11, .va (.int .i64 (i : Nat)))]) (fun (_, C, m, q, S) => [(1, .fact (Row 34 10 C m q (S.flatMap encS)))]) (fun (i, _, m, _, S) => i ≤ l.length + more.length ∧ m = S.length ∧ m ≤ i ∧ S = l.take i ++ (more.take (i - l.length)).filter (fun x => x.k != 2)) (fun (i, _, _, _, _) => l.length + more.length - i) ((0, none, 0, 0, []) : Nat × Option Addr × Nat × Nat × List StepI) ⟨Nat.zero_le _, rfl, Nat.le_refl _, (by simp)⟩ ⟨⟨by kernel_rfl, by kernel_rfl⟩, ⟨_, rfl⟩, ⟨_, rfl⟩, by kernel_rfl, by kernel_rfl⟩ (fun x_ h_ => ?_))
  obtain ⟨i, C, m, q, S⟩ := x_
  obtain ⟨hi, hm, hSm, hS⟩ := h_
  refine go Try.tbs_ok 1000 ?_
  refine ev_if_lt (fun hlt => ?_) (fun hge => ?_)
  · refine go Try.tbs_ok 1000 ?_
    refine ev_if_lt (fun h40 => ?_) (fun h40 => ?_)
    refine go Try.tbs_ok 1000 ?_
    refine ev_stop (go_index0 (sz := 10) Try.tbs_ok (.inr 0) (i) rfl rfl rfl rfl rfl rfl (by omega) rfl Row.at0 (fun g41 e42 => ?_))
    subst e42
    refine go Try.tbs_ok 1000 ?_
    have l43 : i < (l ++ more).length := (by (simp only [List.length_set, List.length_append, List.length_cons, List.length_nil, List.length_map, List.length_take, List.length_drop, List.length_replicate] <;> omega))
    refine ev_stop (go_loadE Try.tbs_ok (.inr 0) (i) 0 rfl rfl rfl rfl (fun _ h => Row.rd h) (by omega) (fun _ => rfl) (by omega) l43 (by decide) ?_)
    refine go Try.tbs_ok 1000 ?_
    refine ev_new fun b44 => ?_
    refine ev_stop (go_appendE (sz := 10) (M := [_]) (enc := encS) Try.tbs_ok [1] [] (.inr 2) (S) ([(l ++ more)[i]]) ((S) ++ ([(l ++ more)[i]])) (m + 1) rfl rfl rfl rfl rfl rfl rfl (by decide) rfl (by decide) (fun _ p => starH_one.1 p) rfl (fun _ p => Pt.rd p rfl) (by first | rfl | simp) (by first | rfl | omega) (le_app (s := m + 1) (by omega) (by first | rfl | omega)) (le_appb (s := m + 1) (by omega) (by first | rfl | omega) (by decide)) (fun _ _ => (by repeat (first | exact trivial | refine ⟨rfl, ?_⟩))) (fun A45 c46 h47 => ?_))
    refine go Try.tbs_ok 1000 ?_
    refine ev_wrapN (i + 1) (by constructor <;> omega) (by rfl) ?_
    refine ev_fin (round_next ((i + 1, A45, m + 1, c46, S ++ [(l ++ more)[i]])) (?_ : i + 1 ≤ l.length + more.length ∧ m + 1 = (S ++ [(l ++ more)[i]]).length ∧ m + 1 ≤ i + 1 ∧ S ++ [(l ++ more)[i]] = List.take (i + 1) l ++ List.filter (fun x ↦ x.k != 2) (List.take (i + 1 - l.length) more)) (show l.length + more.length - (i + 1) < l.length + more.length - i from (by omega)) ⟨⟨by kernel_rfl, by kernel_rfl⟩, ⟨_, rfl⟩, ⟨_, rfl⟩, by kernel_rfl, by kernel_rfl⟩)
    rotate_left
    refine go Try.tbs_ok 1000 ?_
    refine ev_stop (go_index0 (sz := 10) Try.tbs_ok (.inr 0) (i) rfl rfl rfl rfl rfl rfl (by omega) rfl Row.at0 (fun g48 e49 => ?_))
    subst e49
    refine go Try.tbs_ok 1000 ?_
    have l50 : i < (l ++ more).length := (by (simp only [List.length_set, List.length_append, List.length_cons, List.length_nil, List.length_map, List.length_take, List.length_drop, List.length_replicate] <;> omega))
    refine ev_stop (go_loadE Try.tbs_ok (.inr 0) (i) 0 rfl rfl rfl rfl (fun _ h => Row.rd h) (by omega) (fun _ => rfl) (by omega) l50 (by decide) ?_)
    refine go Try.tbs_ok 1000 ?_
    refine ev_if_ne (fun h51 => ?_) (fun h51 => ?_)
    refine go Try.tbs_ok 1000 ?_
    refine ev_stop (go_atE (sz := 10) Try.tbs_ok (i) rfl rfl rfl rfl rfl rfl (by omega) ?_)
    refine go Try.tbs_ok 1000 ?_
    have l52 : i < (l ++ more).length := (by omega)
    refine ev_stop (go_loadE Try.tbs_ok (.inr 0) (i) 0 rfl rfl rfl rfl (fun _ h => Row.rd h) (by omega) (fun _ => rfl) (by omega) l52 (by decide) ?_)
    refine go Try.tbs_ok 1000 ?_
    refine ev_new fun b53 => ?_
    refine ev_stop (go_appendE (sz := 10) (M := [_]) (enc := encS) Try.tbs_ok [1] [] (.inr 2) (S) ([(l ++ more)[i]]) ((S) ++ ([(l ++ more)[i]])) (m + 1) rfl rfl rfl rfl rfl rfl rfl (by decide) rfl (by decide) (fun _ p => starH_one.1 p) rfl (fun _ p => Pt.rd p rfl) (by first | rfl | simp) (by first | rfl | omega) (le_app (s := m + 1) (by omega) (by first | rfl | omega)) (le_appb (s := m + 1) (by omega) (by first | rfl | omega) (by decide)) (fun _ _ => (by repeat (first | exact trivial | refine ⟨rfl, ?_⟩))) (fun A54 c55 h56 => ?_))
    refine go Try.tbs_ok 1000 ?_
    refine ev_wrapN (i + 1) (by constructor <;> omega) (by rfl) ?_
    refine ev_fin (round_next ((i + 1, A54, m + 1, c55, S ++ [(l ++ more)[i]])) (?_ : i + 1 ≤ l.length + more.length ∧ m + 1 = (S ++ [(l ++ more)[i]]).length ∧ m + 1 ≤ i + 1 ∧ S ++ [(l ++ more)[i]] = List.take (i + 1) l ++ List.filter (fun x ↦ x.k != 2) (List.take (i + 1 - l.length) more)) (show l.length + more.length - (i + 1) < l.length + more.length - i from (by omega)) ⟨⟨by kernel_rfl, by kernel_rfl⟩, ⟨_, rfl⟩, ⟨_, rfl⟩, by kernel_rfl, by kernel_rfl⟩)
    rotate_left
    refine go Try.tbs_ok 1000 ?_
    refine ev_wrapN (i + 1) (by constructor <;> omega) (by rfl) ?_
    refine ev_fin (round_next ((i + 1, C, m, q, S)) (?_ : i + 1 ≤ l.length + more.length ∧ m = S.length ∧ m ≤ i + 1 ∧ S = List.take (i + 1) l ++ List.filter (fun x ↦ x.k != 2) (List.take (i + 1 - l.length) more)) (show l.length + more.length - (i + 1) < l.length + more.length - i from (by omega)) ⟨⟨by kernel_rfl, by kernel_rfl⟩, ⟨_, rfl⟩, ⟨_, rfl⟩, by kernel_rfl, by kernel_rfl⟩)
    rotate_left
    · exact ⟨by omega, by rw [List.length_append, hm]; rfl, by omega, by rw [hS, still_in l more (by omega)]⟩
    · exact ⟨by omega, by rw [List.length_append, hm]; rfl, by omega, by rw [hS, still_on l more (by omega) l50 h51]⟩
    · exact ⟨by omega, hm, by omega, by rw [hS, still_off l more (by omega) l50 (by simpa using h51)]⟩
  · have hSw : worstM n S = worstM n l := by
      rw [hS, List.take_of_length_le (by omega)]
      refine worst_still _ _ _ fun x hx => ?_
      have := (List.mem_filter.1 hx).2
      simpa using this
    refine go Try.tbs_ok 1000 ?_
    refine ev_fin (go Try.tbs_ok 1000 ?_)
    refine ev_callF (worstRow (C) (S) (m) (q) (↑n : Int) (by with_reducible assumption) (show m ≤ 1000000 from (by omega))) [] [.inr 1] rfl rfl (by decide) rfl (by simp) (fun _ => (by repeat (first | exact trivial | refine ⟨rfl, ?_⟩))) (fun _ h80 => ?_)
    refine go Try.tbs_ok 1000 ?_
    refine ev_if_yes (beq_iff_eq.2 (by with_reducible assumption)) ?_
    refine go Try.tbs_ok 1000 ?_
    refine ev_callF (lives ) [] [] rfl rfl (by decide) rfl (by simp) (fun _ => (by repeat (first | exact trivial | refine ⟨rfl, ?_⟩))) (fun _ h81 => ?_)
    refine go Try.tbs_ok 1000 ?_
    refine ev_fin ⟨trivial, _, rfl, (()), rfl, (by trivial), Frm.nil _⟩
end Go.Proofs.Ytagfngobpooppaa
