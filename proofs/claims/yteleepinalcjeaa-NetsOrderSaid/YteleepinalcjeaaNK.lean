/-
  What is proved: which lists of acts are too great for a law. Conditions: none.
-/
import Derived.Test.YteleepinalcjeaaNJ
namespace Go.Proofs.Yteleepinalcjeaa
open Go.Sy

/-- an act, in memory -/
structure ActI where
  k : Int
  m : Item
  i : Int
def encA (x : ActI) : List Value := .int .u8 x.k :: (encI x.m ++ [.int .i64 x.i])
theorem encA_len (x : ActI) : (encA x).length = 20 := rfl
def cost (x : ActI) : Nat := 1 + min x.m.es.length 100000
def costs (l : List ActI) : Nat := (l.map cost).sum
theorem costs_take (l : List ActI) (i : Nat) (hi : i < l.length) : costs (l.take (i + 1)) = costs (l.take i) + cost l[i] := by
  unfold costs
  rw [List.take_add_one, List.getElem?_eq_getElem hi, List.map_append, List.sum_append]
  simp
theorem costs_le (l : List ActI) (i : Nat) : costs (l.take i) ≤ costs l := by
  have : (l.map cost).sum = ((l.take i).map cost).sum + ((l.drop i).map cost).sum := by rw [← List.sum_append, ← List.map_append, List.take_append_drop]
  simp only [costs]
  omega
theorem costs_ge (l : List ActI) : l.length ≤ costs l := by
  induction l with
  | nil => simp [costs]
  | cons x l ih => simp [costs, cost] at ih ⊢; omega
set_option maxRecDepth 100000 in
theorem great (A : Option Addr) (l : List ActI) (c : Nat) :
    Triple Try.prog 9 [.slice A l.length c] [] [Rd 20 A l.length (l.flatMap encA)] Unit (fun _ => .bool (decide (4000 < costs l) || decide (800 < l.length))) (fun _ => True) (fun _ => []) := by
  refine triple_intro Try.tbs_ok Try.func9 rfl [.va (.slice A l.length c)] [] ⟨trivial, trivial⟩ rfl (by simp) ?_
  intro E
  refine go Try.tbs_ok 1000 ?_
  refine ev_stop (go_loop (ι := Nat) [3, 4, 5, 6, 7, 8, 9, 10, 11, 12, 13, 14, 15, 16, 17, 18, 19, 20, 21, 22, 23] (fun i => [(3, .va (.int .i64 (costs (l.take i)))), (4, .va (.int .i64 i))]) (fun _ => []) (fun i => i ≤ l.length ∧ costs (l.take i) ≤ 4000) (fun i => l.length - i) 0 ⟨Nat.zero_le _, by simp [costs]⟩ ⟨⟨by kernel_rfl, by kernel_rfl⟩, ⟨_, rfl⟩, ⟨_, rfl⟩, by kernel_rfl, by kernel_rfl⟩ (fun i hi => ?_))
  have hi2 : i ≤ 4000 := by
    have := costs_ge (l.take i)
    rw [List.length_take] at this
    omega
  refine go Try.tbs_ok 1000 ?_
  refine ev_if_lt (fun hlt => ?_) (fun hge => ?_)
  · have hlt' : i < l.length := by omega
    refine go Try.tbs_ok 1000 ?_
    refine ev_w64 (by constructor <;> omega) ?_
    refine ev_stop (go_index Try.tbs_ok A l.length c .i64 i 38 20 (.inl 0) (Rd 20 A l.length (l.flatMap encA)) _ rfl rfl rfl rfl rfl hlt' rfl (fun _ h => h) (fun g o hA => ?_))
    subst hA
    refine go Try.tbs_ok 1000 ?_
    refine ev_stop (go_load Try.tbs_ok g _ o (i * 20 + 10) 20 l.length _ (.inl 0) (Rd 20 (some ⟨g, o, none⟩) l.length (l.flatMap encA)) _ [.slice l[i].m.a l[i].m.es.length l[i].m.c] rfl rfl rfl rfl (fun _ h => h) (by omega) (flat_get_at encA_len hlt' 10 rfl (by simp)) rfl (by omega) _ rfl ?_)
    refine go Try.tbs_ok 1000 ?_
    have hc := costs_take l i hlt'
    refine ev_wrap (z := ((costs (l.take (i + 1)) : Nat) : Int)) (by rw [wrap64 (by constructor <;> omega), hc]; simp only [cost]; omega) ?_
    refine ev_if_lt (fun hb => ?_) (fun hb => ?_)
    · refine go Try.tbs_ok 1000 ?_
      have h2 := costs_le l (i + 1)
      exact ev_fin ⟨trivial, _, rfl, (), congrArg Value.bool (by rw [decide_eq_true (by omega : 4000 < costs l)]; rfl), trivial, Frm.nil _⟩
    · refine go Try.tbs_ok 1000 ?_
      refine ev_w64 (by constructor <;> omega) ?_
      exact ev_fin (round_next (i + 1) ⟨by omega, by omega⟩ (by omega) ⟨⟨by kernel_rfl, by kernel_rfl⟩, ⟨_, rfl⟩, ⟨_, rfl⟩, by kernel_rfl, by kernel_rfl⟩)
  · refine go Try.tbs_ok 1000 ?_
    refine ev_fin (go Try.tbs_ok 1000 ?_)
    have h1 : costs l ≤ 4000 := by
      have h2 : i = l.length := by omega
      have h3 := hi.2
      rwa [h2, List.take_length] at h3
    refine ev_fin ⟨trivial, _, rfl, (), congrArg Value.bool ?_, trivial, Frm.nil _⟩
    rw [decide_eq_false (by omega : ¬ 4000 < costs l), Bool.false_or]
    exact decide_eq_decide.2 (by omega)
end Go.Proofs.Yteleepinalcjeaa
