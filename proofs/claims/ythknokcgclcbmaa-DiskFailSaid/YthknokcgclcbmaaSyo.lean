/-
  What is proved: a group of operations whose order is open: what reads, or only reckons, may be done first, where nobody writes what it reads. Conditions: none.
-/
import Derived.Test.YthknokcgclcbmaaSy7
namespace Go.Sy
open Go.RowKit

section
variable {P : Program} {ops : Array Oper} {Q : Exit → Act → World → Prop} {S : World → Prop} {full : Bool}
/-- is S asked for, when these have come up? -/
def needS (ops : Array Oper) (full : Bool) (listed : Array Bool) : Prop := full = true ∨ ∃ k, k < ops.size ∧ listed.getD k true = false
def wpD (P : Program) (ops : Array Oper) (Q : Exit → Act → World → Prop) (S : World → Prop) (full : Bool) : Nat → Array Bool → Act → World → Prop
  | 0, listed, a, w => Region.ready .any ops listed = [] ∧ Q .normal a w
  | n + 1, listed, a, w => (Region.ready .any ops listed = [] → Q .normal a w) ∧
    ∀ i ∈ Region.ready .any ops listed, wpOp P ops Q i (fun a' w' => (needS ops full (listed.setIfInBounds i true) → S w') ∧ wpD P ops Q S full n (listed.setIfInBounds i true) a' w') a w
theorem wpAny_of_D : ∀ (n : Nat) (listed : Array Bool) (a : Act) (w : World), wpD P ops Q S full n listed a w → wpAny P .any ops Q n listed a w
  | 0, _, _, _, h => h
  | n + 1, _, _, _, h => ⟨h.1, fun i hi => wpOp_mono (fun a' w' h' => wpAny_of_D n _ a' w' h'.2) (h.2 i hi)⟩
theorem wpD_take {i : Nat} {oi : Oper} {v : Value} (hi : ops[i]? = some oi) (hsel : ∀ (j : Nat) (o : Oper) cs b, ops[j]? = some o → o.op ≠ .select cs b)
    (hQ : ∀ c a w, Q (.panic c) (a.put oi.dst v) w → Q (.panic c) a w) :
    ∀ (n : Nat) (listed : Array Bool) (a : Act) (w : World),
      (∀ j oj, ops[j]? = some oj → j ≠ i → listed.getD j true = false → (∀ e ∈ oj.after, Region.binds .any e = true → e.on ≠ i) → oi.apart ops oj = true) →
      i ∈ Region.ready .any ops listed → YieldsIf P ops S oi v a → S w →
      (full = true ∨ ∃ z oz, ops[z]? = some oz ∧ listed.getD z true = false ∧ ∃ e ∈ oz.after, Region.binds .any e = true ∧ e.on = i) →
      wpD P ops Q S full n (listed.setIfInBounds i true) (a.put oi.dst v) w → wpD P ops Q S full (n + 1) listed a w := by
  intro n
  induction n with
  | zero =>
    intro listed a w _ hr hy hS _ H
    refine ⟨fun h => (by rw [h] at hr; cases hr), fun j hj => ?_⟩
    by_cases hji : j = i
    · subst hji; exact hy.wpOp hi hS ⟨fun _ => hS, H⟩
    · have := ready_mono hj hji
      rw [H.1] at this
      cases this
  | succ n ih =>
    intro listed a w hfree hr hy hS hz H
    refine ⟨fun h => (by rw [h] at hr; cases hr), fun j hj => ?_⟩
    by_cases hji : j = i
    · subst hji; exact hy.wpOp hi hS ⟨fun _ => hS, H⟩
    · have h1 := H.2 j (ready_mono hj hji)
      obtain ⟨hjun, oj, hoj, hall⟩ := mem_ready.1 hj
      have hiun : listed.getD i false = true → False := fun h1 => by
        have h0 := (mem_ready.1 hr).1
        rcases Nat.lt_or_ge i listed.size with h' | h'
        · simp [h'] at h0 h1; rw [h0] at h1; cases h1
        · simp [Array.getElem?_eq_none h'] at h1
      have hnot : ∀ e ∈ oj.after, Region.binds .any e = true → e.on ≠ i := fun e he hb heq => by
        have h1 := hall e he hb
        rw [heq] at h1
        exact hiun h1
      have hz' : full = true ∨ ∃ z oz, ops[z]? = some oz ∧ (listed.setIfInBounds j true).getD z true = false ∧ ∃ e ∈ oz.after, Region.binds .any e = true ∧ e.on = i := by
        rcases hz with h | ⟨z, oz, hoz, hzl, e, he, hb, hei⟩
        · exact .inl h
        · refine .inr ⟨z, oz, hoz, ?_, e, he, hb, hei⟩
          have hjz : j ≠ z := fun ee => by
            subst ee
            rw [hoj] at hoz
            cases hoz
            exact hnot e he hb hei
          rw [getD_set_ne true hjz]
          exact hzl
      have hneed : needS ops full ((listed.setIfInBounds i true).setIfInBounds j true) := by
        rcases hz' with h | ⟨z, oz, hoz, hzl, e, he, hb, hei⟩
        · exact .inl h
        · refine .inr ⟨z, (Array.getElem?_eq_some_iff.1 hoz).1, ?_⟩
          rw [Array.setIfInBounds_comm _ _ (Ne.symm hji)]
          by_cases hiz : i = z
          · subst hiz
            rcases hz with h | ⟨z', oz', hoz', hzl', e', he', hb', hei'⟩
            · exact absurd h (by
                intro hf
                have hself := (mem_ready.1 hr).2
                obtain ⟨o', ho', hall'⟩ := hself
                rw [hoz] at ho'
                cases ho'
                have := hall' e he hb
                rw [hei] at this
                exact hiun this)
            · have hself := (mem_ready.1 hr).2
              obtain ⟨o', ho', hall'⟩ := hself
              rw [hoz] at ho'
              cases ho'
              have := hall' e he hb
              rw [hei] at this
              exact absurd this hiun
          · rw [getD_set_ne true hiz]
            exact hzl
      have h2 := wpOp_putIf hoj (hfree j oj hoj hji hjun hnot) (fun cs b => hsel i oi cs b hi) (fun cs b => hsel j oj cs b hoj) hQ hy h1
      have hfree' : ∀ k ok, ops[k]? = some ok → k ≠ i → (listed.setIfInBounds j true).getD k true = false →
          (∀ e ∈ ok.after, Region.binds .any e = true → e.on ≠ i) → oi.apart ops ok = true := fun k ok hk hki hun hno => by
        refine hfree k ok hk hki ?_ hno
        by_cases hjk : j = k
        · subst hjk; exact hjun
        · rw [getD_set_ne true hjk] at hun; exact hun
      refine wpOp_mono (fun a' w' h3 => ⟨fun _ => h3.2.1 hneed, ih (listed.setIfInBounds j true) a' w' hfree' (ready_mono hr (Ne.symm hji)) h3.1 (h3.2.1 hneed) hz' ?_⟩) h2
      rw [Array.setIfInBounds_comm _ _ hji]
      exact h3.2.2
end
end Go.Sy
