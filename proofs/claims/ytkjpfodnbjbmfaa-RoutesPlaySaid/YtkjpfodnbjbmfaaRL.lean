/-
  What is proved: RoutesFull's walk. Conditions: none.
-/
import Derived.Test.YtkjpfodnbjbmfaaRK
import Derived.Test.YtkjpfodnbjbmfaaRI
namespace Go.Proofs.Ytkjpfodnbjbmfaa
open Go.Sy

def fullT (id o : Int) (k : Nat) : WT := (List.range k).map fun j : Nat => (((1 : Int), id + (j : Int)), [o])
theorem full_keys (id o : Int) (k : Nat) (q : Key) : q ∈ (fullT id o k).map (·.1) ↔ ∃ j : Nat, j < k ∧ (1, id + (j : Int)) = q := by
  unfold fullT
  rw [List.map_map]
  simp [List.mem_map, List.mem_range]
theorem full_len (id o : Int) (k : Nat) : (fullT id o k).length = k := by simp [fullT]
theorem full_ok (id o : Int) (ho : 0 ≤ o ∧ o < 7) (k : Nat) : OkT (fullT id o k) := by
  refine ⟨?_, fun e he => ?_, fun e he => ?_, fun e he => ?_⟩
  · unfold fullT
    rw [List.map_map]
    refine List.Pairwise.map _ (fun a b (h : a ≠ b) => ?_) List.nodup_range
    intro e
    have := congrArg Prod.snd e
    simp at this
    omega
  all_goals
    obtain ⟨j, _, rfl⟩ := List.mem_map.1 he
    simp
  · omega
theorem full_find (id o : Int) (ho : 0 ≤ o ∧ o < 7) {k j : Nat} (hj : j < k) : findT (fullT id o k) (1, id + (j : Int)) = [o] :=
  findT_of (full_ok id o ho k) (List.mem_map.2 ⟨j, List.mem_range.2 hj, rfl⟩)
theorem full_wait (id o : Int) (ho : 0 ≤ o ∧ o < 7) {k : Nat} (hk : k < 64) : (fullT id o (k + 1), (0 : Int)) = waitT (fullT id o k) (1, id + (k : Int)) o := by
  have hnot : (1, id + (k : Int)) ∉ (fullT id o k).map (·.1) := fun h => by
    obtain ⟨j, hj, e⟩ := (full_keys id o k _).1 h
    have := congrArg Prod.snd e
    simp at this
    omega
  unfold waitT
  rw [findT_none hnot, if_neg (by omega), if_neg (by simp), if_neg (by rw [full_len]; omega)]
  unfold putT
  rw [ixOf_none.2 hnot]
  simp only [fullT, List.range_succ, List.map_append, List.map_cons, List.map_nil]
  rfl
theorem full_long (id o : Int) (ho : 0 ≤ o ∧ o < 7) : (fullT id o 64, (3 : Int)) = waitT (fullT id o 64) (2, id) o := by
  have hnot : ((2 : Int), id) ∉ (fullT id o 64).map (·.1) := fun h => by
    obtain ⟨j, hj, e⟩ := (full_keys id o 64 _).1 h
    have := congrArg Prod.fst e
    simp at this
  unfold waitT
  rw [findT_none hnot, if_neg (by omega), if_neg (by simp), if_pos (by rw [full_len]; exact ⟨rfl, by decide⟩)]
def full2 (id o : Int) : WT := putT (fullT id o 64) (1, id + 3) [-1, o]
theorem full_here (id o : Int) (ho : 0 ≤ o ∧ o < 7) : (full2 id o, (0 : Int)) = waitT (fullT id o 64) (1, id + 3) (-1) := by
  have hf : findT (fullT id o 64) (1, id + 3) = [o] := full_find id o ho (j := 3) (by decide)
  unfold waitT
  rw [hf, if_neg (by decide), if_neg (by simp; omega), if_neg (by simp)]
  have : insI [o] (-1) = [-1, o] := by
    have hp : posI [o] (-1) = 0 := by unfold posI; simp; omega
    unfold insI
    rw [hp]
    rfl
  rw [this]
  rfl
theorem full2_ok (id o : Int) (ho : 0 ≤ o ∧ o < 7) : OkT (full2 id o) :=
  put_ok (full_ok id o ho 64) _ (by simp; omega) (fun x hx => by simp at hx; omega) (by simp)
theorem full2_mem (id o : Int) (ho : 0 ≤ o ∧ o < 7) : (1, id + 3) ∈ (full2 id o).map (·.1) := by
  rw [mem_keys (full2_ok id o ho), full2, find_put, if_pos rfl]
  simp
theorem full2_len (id o : Int) : (full2 id o).length = 64 := by
  unfold full2
  rw [put_len, if_pos (show (1, id + 3) ∈ (fullT id o 64).map (·.1) from (full_keys id o 64 _).2 ⟨3, by decide, rfl⟩), full_len]
def full3 (id o : Int) : WT := delT (full2 id o) (1, id + 3)
theorem full3_ok (id o : Int) (ho : 0 ≤ o ∧ o < 7) : OkT (full3 id o) := del_ok (full2_ok id o ho) _
theorem full3_len (id o : Int) (ho : 0 ≤ o ∧ o < 7) : (full3 id o).length = 63 := by
  unfold full3
  rw [del_len, if_pos (full2_mem id o ho), full2_len]
def full4 (id o : Int) : WT := putT (full3 id o) (2, id) [o]
theorem full3_find (id o : Int) (ho : 0 ≤ o ∧ o < 7) : findT (full3 id o) (2, id) = [] := by
  unfold full3
  rw [find_del (full2_ok id o ho), if_neg (by simp), full2, find_put, if_neg (by simp)]
  refine findT_none fun h => ?_
  obtain ⟨j, hj, e⟩ := (full_keys id o 64 _).1 h
  have := congrArg Prod.fst e
  simp at this
theorem full_more (id o : Int) (ho : 0 ≤ o ∧ o < 7) : (full4 id o, (0 : Int)) = waitT (full3 id o) (2, id) o := by
  unfold waitT
  rw [full3_find id o ho, if_neg (by omega), if_neg (by simp), if_neg (by rw [full3_len id o ho]; simp)]
  rfl
theorem full4_len (id o : Int) (ho : 0 ≤ o ∧ o < 7) : (full4 id o).length = 64 := by
  unfold full4
  rw [put_len, if_neg (fun h => (mem_keys (full3_ok id o ho) _).1 h (full3_find id o ho)), full3_len id o ho]
theorem tLenN (p : Nat) (T : WT) (n : Nat) (hn : T.length = n) : Triple Try.prog 10 [.pointer (some ⟨p, 0, none⟩)] [TabM p T] [] Unit (fun _ => .int .i64 (n : Nat)) (fun _ => True) (fun _ => [TabM p T]) := hn ▸ tLen p T
theorem tTakeN (p : Nat) (T T' : WT) (s i : Int) (n : Nat) (L : List Int) (hL : findT T (s, i) = L) (hn : L.length = n) (hT : delT T (s, i) = T') : Triple Try.prog 11 [.pointer (some ⟨p, 0, none⟩), .int .i64 s, .int .i64 i] [TabM p T] [] (Option Addr × Nat) (fun (A, c) => .slice A n c) (fun _ => True)
    (fun (A, c) => [TabM p T', Row 3 1 A n c (L.flatMap encN)]) := by
  subst hn hL hT
  exact (tTake p T s i).imp fun (A, n, c) hn => ⟨(A, c), by rw [show n = _ from hn], trivial, fun h q => by rw [show n = _ from hn] at q; exact q⟩
set_option maxHeartbeats 4000000 in
set_option maxRecDepth 100000 in
theorem routesFull (id : Int) (og : Nat) (hid : -2147483648 ≤ id ∧ id ≤ 2147483647) (hog : og < 256) : Triple Try.prog 3 [.int .i32 id, .int .u8 og] [] [] Unit (fun _ => .bool true) (fun _ => True) (fun _ => []) := by
  have ho : (0 : Int) ≤ ((og % 7 : Nat) : Int) ∧ ((og % 7 : Nat) : Int) < 7 := by omega
  have W1 := fun p (k : Nat) (hk : k < 64) => tWait p _ 1 (id + (k : Int)) _ ((full_ok id _ ho k).okL _) _ (full_wait id _ ho hk)
  have W2 := fun p => tWait p _ 2 id _ ((full_ok id _ ho 64).okL _) _ (full_long id _ ho)
  have W3 := fun p => tWait p _ 1 (id + 3) (-1) ((full_ok id _ ho 64).okL _) _ (full_here id _ ho)
  have W4 := fun p => tLenN p _ 64 (full2_len id ((og % 7 : Nat) : Int))
  have W5 := fun p => tTakeN p (full2 id ((og % 7 : Nat) : Int)) (full3 id ((og % 7 : Nat) : Int)) 1 (id + 3) 2 [-1, ((og % 7 : Nat) : Int)] (by rw [full2, find_put, if_pos rfl]) rfl rfl
  have W6 := fun p => tWait p _ 2 id _ ((full3_ok id _ ho).okL _) _ (full_more id _ ho)
  have W7 := fun p => tLenN p _ 64 (full4_len id _ ho)
  refine triple_intro Try.tbs_ok Try.func3 rfl [.va (.int .i32 id), .va (.int .u8 og)] [] ⟨trivial, trivial, trivial⟩ rfl (by simp) ?_
  intro E
  refine go Try.tbs_ok 1000 ?_
  refine ev_wrapN (og) (by constructor <;> omega) (by rfl) ?_
  refine ev_callF (tNew ) [] [] rfl rfl (by decide) rfl (by simp) (fun _ => (by repeat (first | exact trivial | refine ⟨rfl, ?_⟩))) (fun x0 h1 => ?_)
  refine go Try.tbs_ok 1000 ?_
  refine ev_stop (go_slot 5 _ (.va (.int .i64 ((og % 7 : Nat) : Int))) rfl rfl rfl (fun _ => trivial) ?_)
  refine go Try.tbs_ok 1000 ?_
  refine ev_stop (go_loopR [4, 7, 12, 13, 14, 15, 16, 17, 18, 19, 20, 21, 22, 23] (fun k => [(7, .va (.int .i64 (k : Nat)))]) (fun k => [(0, .fact (TabM x0 (fullT id ((og % 7 : Nat) : Int) k)))]) (fun k => k ≤ 64 ∧ 0 ≤ k) (fun k => 64 - k) (0 : Nat) ⟨Nat.zero_le _, Nat.le_refl _⟩ ⟨⟨by kernel_rfl, by kernel_rfl⟩, ⟨_, rfl⟩, ⟨_, rfl⟩, by kernel_rfl, by kernel_rfl⟩ (fun k h_ => ?_))
  obtain ⟨hk, hk0⟩ := h_
  refine go Try.tbs_ok 1000 ?_
  refine ev_if_lt (fun hlt => ?_) (fun hge => ?_)
  · have hk64 : k < 64 := by
      have : (k : Int) < 64 := hlt
      omega
    have W1' := W1 x0 k hk64
    refine go Try.tbs_ok 1000 ?_
    refine ev_w64 (by constructor <;> omega) ?_
    refine ev_w64 (by constructor <;> omega) ?_
    refine ev_callF (W1' ) [0] [] rfl rfl (by decide) rfl (by simp) (fun _ => (by repeat (first | exact trivial | refine ⟨rfl, ?_⟩))) (fun _ h20 => ?_)
    refine go Try.tbs_ok 1000 ?_
    refine ev_if_no rfl ?_
    refine go Try.tbs_ok 1000 ?_
    refine ev_wrapN (k + 1) (by constructor <;> omega) (by rfl) ?_
    refine ev_fin (round_next (k + 1) (show k + 1 ≤ 64 ∧ 0 ≤ k + 1 from (by omega)) (show 64 - (k + 1) < 64 - k from (by omega)) ⟨⟨by kernel_rfl, by kernel_rfl⟩, ⟨_, rfl⟩, ⟨_, rfl⟩, by kernel_rfl, by kernel_rfl⟩)
  · obtain rfl : k = 64 := by
      have : ¬ (k : Int) < 64 := hge
      omega
    refine go Try.tbs_ok 1000 ?_
    refine ev_fin (go Try.tbs_ok 1000 ?_)
    refine ev_w64 (by constructor <;> omega) ?_
    refine ev_callF (W2 (x0)) [0] [] rfl rfl (by decide) rfl (by simp) (fun _ => (by repeat (first | exact trivial | refine ⟨rfl, ?_⟩))) (fun _ h40 => ?_)
    refine go Try.tbs_ok 1000 ?_
    refine ev_if_no rfl ?_
    refine go Try.tbs_ok 1000 ?_
    refine ev_w64 (by constructor <;> omega) ?_
    refine ev_w64 (by constructor <;> omega) ?_
    refine ev_callF (W3 (x0)) [0] [] rfl rfl (by decide) rfl (by simp) (fun _ => (by repeat (first | exact trivial | refine ⟨rfl, ?_⟩))) (fun _ h41 => ?_)
    refine go Try.tbs_ok 1000 ?_
    refine ev_if_no rfl ?_
    refine go Try.tbs_ok 1000 ?_
    refine ev_callF (W4 (x0)) [0] [] rfl rfl (by decide) rfl (by simp) (fun _ => (by repeat (first | exact trivial | refine ⟨rfl, ?_⟩))) (fun _ h42 => ?_)
    refine go Try.tbs_ok 1000 ?_
    refine ev_if_no rfl ?_
    refine go Try.tbs_ok 1000 ?_
    refine ev_w64 (by constructor <;> omega) ?_
    refine ev_w64 (by constructor <;> omega) ?_
    refine ev_callF (W5 (x0)) [0] [] rfl rfl (by decide) rfl (by simp) (fun _ => (by repeat (first | exact trivial | refine ⟨rfl, ?_⟩))) (fun ⟨x43, x44⟩ h45 => ?_)
    refine go Try.tbs_ok 1000 ?_
    refine ev_if_yes rfl ?_
    refine go Try.tbs_ok 1000 ?_
    refine ev_w64 (by constructor <;> omega) ?_
    refine ev_callF (W6 (x0)) [0] [] rfl rfl (by decide) rfl (by simp) (fun _ => (by repeat (first | exact trivial | refine ⟨rfl, ?_⟩))) (fun _ h46 => ?_)
    refine go Try.tbs_ok 1000 ?_
    refine ev_if_yes rfl ?_
    refine go Try.tbs_ok 1000 ?_
    refine ev_callF (W7 (x0)) [0] [] rfl rfl (by decide) rfl (by simp) (fun _ => (by repeat (first | exact trivial | refine ⟨rfl, ?_⟩))) (fun _ h47 => ?_)
    refine go Try.tbs_ok 1000 ?_
    refine ev_if_yes rfl ?_
    refine go Try.tbs_ok 1000 ?_
    refine ev_callF (lives ) [] [] rfl rfl (by decide) rfl (by simp) (fun _ => (by repeat (first | exact trivial | refine ⟨rfl, ?_⟩))) (fun _ h48 => ?_)
    refine go Try.tbs_ok 1000 ?_
    refine ev_fin ⟨trivial, _, rfl, (()), rfl, (by trivial), Frm.nil _⟩
end Go.Proofs.Ytkjpfodnbjbmfaa
