/-
  What is proved: what the premises tell of clocks. Conditions: none.
-/
import Derived.Test.YtagfngobpooppaaPA
namespace Go.Proofs.Ytagfngobpooppaa
open Go.Sy

def clk (m : Nat) (l : List StepI) : List Int := (List.range m).map fun s : Nat => (ticksM l (s : Int) : Int)
theorem clk_len (m : Nat) (l : List StepI) : (clk m l).length = m := by simp [clk]
theorem clk_get {m : Nat} {l : List StepI} {s : Nat} (h : s < (clk m l).length) : (clk m l)[s] = (ticksM l s : Int) := by simp [clk]
def spread (m : Nat) (l : List StepI) : Int := maxL (clk m l) - minL (clk m l)
def wM (m : Nat) (l : List StepI) : Nat → Int
  | 0 => 0
  | k + 1 => max (wM m l k) (spread m (l.take k))
def worstM (n : Int) (l : List StepI) : Int := wM (manyM n) l (l.length + 1)
theorem maxL_ge : ∀ {L : List Int} {x : Int}, x ∈ L → x ≤ maxL L
  | y :: l, x, h => by
    have key : ∀ (l : List Int) (a : Int), a ≤ l.foldl max a ∧ ∀ x ∈ l, x ≤ l.foldl max a := by
      intro l
      induction l with
      | nil => exact fun a => ⟨Int.le_refl _, fun _ h => by cases h⟩
      | cons b l ih =>
        intro a
        obtain ⟨h1, h2⟩ := ih (max a b)
        refine ⟨by simp only [List.foldl_cons]; omega, fun x hx => ?_⟩
        rcases List.mem_cons.1 hx with rfl | hx
        · simp only [List.foldl_cons]; omega
        · exact h2 x hx
    rcases List.mem_cons.1 h with rfl | h
    · exact (key l x).1
    · exact (key l y).2 x h
theorem minL_le : ∀ {L : List Int} {x : Int}, x ∈ L → minL L ≤ x
  | y :: l, x, h => by
    have key : ∀ (l : List Int) (a : Int), l.foldl min a ≤ a ∧ ∀ x ∈ l, l.foldl min a ≤ x := by
      intro l
      induction l with
      | nil => exact fun a => ⟨Int.le_refl _, fun _ h => by cases h⟩
      | cons b l ih =>
        intro a
        obtain ⟨h1, h2⟩ := ih (min a b)
        refine ⟨by simp only [List.foldl_cons]; omega, fun x hx => ?_⟩
        rcases List.mem_cons.1 hx with rfl | hx
        · simp only [List.foldl_cons]; omega
        · exact h2 x hx
    rcases List.mem_cons.1 h with rfl | h
    · exact (key l x).1
    · exact (key l y).2 x h
theorem maxL_mem : ∀ {L : List Int}, L ≠ [] → maxL L ∈ L
  | y :: l, _ => by
    have key : ∀ (l : List Int) (a : Int), l.foldl max a = a ∨ l.foldl max a ∈ l := by
      intro l
      induction l with
      | nil => exact fun a => .inl rfl
      | cons b l ih =>
        intro a
        simp only [List.foldl_cons]
        rcases ih (max a b) with h | h
        · rw [h]
          rcases Int.le_total a b with e | e
          · exact .inr (by rw [Int.max_eq_right e]; exact List.mem_cons_self)
          · exact .inl (by rw [Int.max_eq_left e])
        · exact .inr (List.mem_cons_of_mem _ h)
    rcases key l y with h | h
    · show l.foldl max y ∈ y :: l
      rw [h]; exact List.mem_cons_self
    · exact List.mem_cons_of_mem _ h
theorem minL_mem : ∀ {L : List Int}, L ≠ [] → minL L ∈ L
  | y :: l, _ => by
    have key : ∀ (l : List Int) (a : Int), l.foldl min a = a ∨ l.foldl min a ∈ l := by
      intro l
      induction l with
      | nil => exact fun a => .inl rfl
      | cons b l ih =>
        intro a
        simp only [List.foldl_cons]
        rcases ih (min a b) with h | h
        · rw [h]
          rcases Int.le_total a b with e | e
          · exact .inl (by rw [Int.min_eq_left e])
          · exact .inr (by rw [Int.min_eq_right e]; exact List.mem_cons_self)
        · exact .inr (List.mem_cons_of_mem _ h)
    rcases key l y with h | h
    · show l.foldl min y ∈ y :: l
      rw [h]; exact List.mem_cons_self
    · exact List.mem_cons_of_mem _ h
theorem clk_mem {m : Nat} {l : List StepI} {a : Nat} (h : a < m) : (ticksM l a : Int) ∈ clk m l := List.mem_map.2 ⟨a, List.mem_range.2 h, rfl⟩
theorem spread_ge {m : Nat} {l : List StepI} {a b : Nat} (ha : a < m) (hb : b < m) : (ticksM l a : Int) - ticksM l b ≤ spread m l := by
  have h1 := maxL_ge (clk_mem (l := l) ha)
  have h2 := minL_le (clk_mem (l := l) hb)
  unfold spread
  omega
theorem spread_le {m : Nat} {l : List StepI} {w : Int} (h0 : 0 ≤ w) (h : ∀ a b : Nat, a < m → b < m → (ticksM l a : Int) - ticksM l b ≤ w) : spread m l ≤ w := by
  cases m with
  | zero => exact h0
  | succ m =>
    have hne : clk (m + 1) l ≠ [] := fun e => by have := congrArg List.length e; simp [clk] at this
    obtain ⟨a, ha, ea⟩ := List.mem_map.1 (maxL_mem hne)
    obtain ⟨b, hb, eb⟩ := List.mem_map.1 (minL_mem hne)
    show maxL ((List.range (m + 1)).map fun s : Nat => (ticksM l (s : Int) : Int)) - minL ((List.range (m + 1)).map fun s : Nat => (ticksM l (s : Int) : Int)) ≤ w
    rw [← ea, ← eb]
    exact h a b (List.mem_range.1 ha) (List.mem_range.1 hb)
theorem wM_nonneg (m : Nat) (l : List StepI) : ∀ k, 0 ≤ wM m l k
  | 0 => Int.le_refl _
  | k + 1 => by have := wM_nonneg m l k; simp only [wM]; omega
theorem wM_mono (m : Nat) (l : List StepI) {j : Nat} : ∀ {k : Nat}, j ≤ k → wM m l j ≤ wM m l k
  | 0, h => by rw [Nat.le_zero.1 h]; exact Int.le_refl _
  | k + 1, h => by
    rcases Nat.lt_or_eq_of_le h with h | rfl
    · have := wM_mono m l (j := j) (k := k) (by omega)
      simp only [wM]
      omega
    · exact Int.le_refl _
theorem wM_spread (m : Nat) (l : List StepI) (k : Nat) : spread m (l.take k) ≤ wM m l (k + 1) := by simp only [wM]; omega
theorem spread_zero (m : Nat) : spread m [] = 0 := by
  have h1 : spread m [] ≤ 0 := spread_le (Int.le_refl _) (fun a b _ _ => by simp [ticksM])
  cases m with
  | zero => rfl
  | succ m =>
    have := spread_ge (l := []) (m := m + 1) (a := 0) (b := 0) (by omega) (by omega)
    simp at this
    omega
/-- a tick moves one clock on -/
theorem clk_tick {m : Nat} {l : List StepI} {i : Nat} (hi : i < l.length) {j : Nat} (hk : l[i].k = 2) (hs : l[i].s = j) :
    clk m (l.take (i + 1)) = (clk m (l.take i)).set j ((ticksM (l.take i) j : Int) + 1) := by
  apply List.ext_getElem
  · simp [clk]
  · intro s h1 h2
    rw [clk_get, ticksM_take l s hi, List.getElem_set]
    by_cases e : j = s
    · subst e
      simp [hk, hs]
    · rw [if_neg e, clk_get, if_neg (by rw [hs]; omega)]
      simp
theorem clk_still {m : Nat} {l : List StepI} {i : Nat} (hi : i < l.length) (h : ¬ (l[i].k = 2 ∧ 0 ≤ l[i].s ∧ l[i].s < m)) :
    clk m (l.take (i + 1)) = clk m (l.take i) := by
  apply List.ext_getElem
  · simp [clk]
  · intro s h1 h2
    rw [clk_len] at h1
    rw [clk_get, clk_get, ticksM_take l s hi, if_neg (by omega)]
    rfl
theorem wM_still {m : Nat} {l : List StepI} {i : Nat} (hi : i < l.length) (h : ¬ (l[i].k = 2 ∧ 0 ≤ l[i].s ∧ l[i].s < m)) : wM m l (i + 2) = wM m l (i + 1) := by
  have h1 : spread m (l.take (i + 1)) = spread m (l.take i) := by unfold spread; rw [clk_still hi h]
  have h2 := wM_spread m l i
  show max (wM m l (i + 1)) (spread m (l.take (i + 1))) = _
  rw [h1]
  omega
end Go.Proofs.Ytagfngobpooppaa
