/-
  What is proved: plain laws of the table: lists that rise, keys that are apart. Conditions: none.
-/
import Derived.Test.YtkjpfodnbjbmfaaRH
namespace Go.Proofs.Ytkjpfodnbjbmfaa
open Go.Sy

theorem ixOf_none {κ : Type} [DecidableEq κ] {ks : List κ} {k : κ} : ixOf ks k = none ↔ k ∉ ks := by
  unfold ixOf
  rw [List.findIdx?_eq_none_iff]
  constructor
  · intro h hk
    have := h k hk
    simp at this
  · intro h q hq
    exact decide_eq_false (fun e => h (e ▸ hq))
theorem nodup_inj {α : Type} {l : List α} (h : l.Nodup) {i j : Nat} (hi : i < l.length) (hj : j < l.length) (e : l[i] = l[j]) : i = j := by
  rcases Nat.lt_trichotomy i j with h1 | h1 | h1
  · exact absurd e (List.pairwise_iff_getElem.1 h i j hi hj h1)
  · exact h1
  · exact absurd e.symm (List.pairwise_iff_getElem.1 h j i hj hi h1)
theorem ixOf_some {κ : Type} [DecidableEq κ] {ks : List κ} {k : κ} (hn : ks.Nodup) {j : Nat} (hj : j < ks.length) (hk : ks[j] = k) : ixOf ks k = some j := by
  cases h : ixOf ks k with
  | none => exact absurd (hk ▸ List.getElem_mem hj) (ixOf_none.1 h)
  | some i =>
    obtain ⟨hi, e⟩ := ixOf_lt h
    exact congrArg some (nodup_inj hn hi hj (e.trans hk.symm))
/-- the table is as it ought to be -/
structure OkT (T : WT) : Prop where
  apart : (T.map (·.1)).Nodup
  rise : ∀ e ∈ T, e.2.Pairwise (· < ·)
  few : ∀ e ∈ T, ∀ x ∈ e.2, -1 ≤ x ∧ x < 7
  some' : ∀ e ∈ T, e.2 ≠ []
theorem rise_few {L : List Int} (h1 : L.Pairwise (· < ·)) (h2 : ∀ x ∈ L, -1 ≤ x ∧ x < 7) : L.length ≤ 8 := by
  have key : ∀ (L : List Int) (a : Int), L.Pairwise (· < ·) → (∀ x ∈ L, a ≤ x ∧ x < 7) → (L.length : Int) ≤ max 0 (7 - a) := by
    intro L
    induction L with
    | nil => intro a _ _; simp only [List.length_nil]; omega
    | cons y L ih =>
      intro a h1 h2
      obtain ⟨h3, h4⟩ := List.pairwise_cons.1 h1
      have h5 := h2 y List.mem_cons_self
      have := ih (y + 1) h4 (fun x hx => ⟨by have := h3 x hx; omega, (h2 x (List.mem_cons_of_mem _ hx)).2⟩)
      simp only [List.length_cons]
      omega
  have := key L (-1) h1 h2
  omega
theorem findT_mem {T : WT} {k : Key} : findT T k = [] ∨ (k, findT T k) ∈ T := by
  unfold findT
  cases h : ixOf (T.map (·.1)) k with
  | none => exact .inl rfl
  | some j =>
    obtain ⟨hj, e⟩ := ixOf_lt h
    have hj' : j < T.length := by simpa using hj
    right
    simp only [List.getElem?_eq_getElem hj', Option.map_some, Option.getD_some]
    have e2 : T[j].1 = k := by simpa using e
    rw [← e2]
    exact List.getElem_mem hj'
theorem findT_of {T : WT} (hT : OkT T) {k : Key} {l : List Int} (h : (k, l) ∈ T) : findT T k = l := by
  obtain ⟨j, hj, e⟩ := List.getElem_of_mem h
  unfold findT
  rw [ixOf_some hT.apart (j := j) (by simpa using hj) (by simp [e])]
  simp [List.getElem?_eq_getElem hj, e]
theorem findT_none {T : WT} {k : Key} (h : k ∉ T.map (·.1)) : findT T k = [] := by
  unfold findT
  rw [ixOf_none.2 h]
theorem OkT.okL {T : WT} (hT : OkT T) (k : Key) : okL T k := by
  rcases findT_mem (T := T) (k := k) with h | h
  · unfold Proofs.Ytkjpfodnbjbmfaa.okL
    rw [h]
    exact ⟨List.Pairwise.nil, by simp⟩
  · exact ⟨hT.rise _ h, Nat.le_trans (rise_few (hT.rise _ h) (hT.few _ h)) (by decide)⟩
theorem findT_few {T : WT} (hT : OkT T) {k : Key} : ∀ x ∈ findT T k, -1 ≤ x ∧ x < 7 := by
  rcases findT_mem (T := T) (k := k) with h | h
  · rw [h]; intro x hx; cases hx
  · exact hT.few _ h
theorem OkT.nil : OkT [] := ⟨List.nodup_nil, fun _ h => (by cases h), fun _ h => (by cases h), fun _ h => (by cases h)⟩
/-! what is put in, and taken out -/
theorem find_put (T : WT) (k q : Key) (l : List Int) : findT (putT T k l) q = if q = k then l else findT T q := by
  unfold putT
  cases h : ixOf (T.map (·.1)) k with
  | some j =>
    simp only []
    obtain ⟨hj, e⟩ := ixOf_lt h
    have hj' : j < T.length := by simpa using hj
    have ek : (T.set j (k, l)).map (·.1) = T.map (·.1) := ix_set h l
    unfold findT
    rw [ek]
    by_cases hq : q = k
    · subst hq
      rw [if_pos rfl, h]
      simp [hj']
    · rw [if_neg hq]
      cases h2 : ixOf (T.map (·.1)) q with
      | none => rfl
      | some i =>
        obtain ⟨hi, e2⟩ := ixOf_lt h2
        have hne : j ≠ i := fun e3 => by subst e3; exact hq (e2.symm.trans e)
        simp [hne]
  | none =>
    simp only []
    unfold findT ixOf at *
    rw [List.map_append, List.findIdx?_append]
    by_cases hq : q = k
    · subst hq
      rw [if_pos rfl, h]
      simp
    · rw [if_neg hq]
      cases h2 : (T.map (·.1)).findIdx? (fun z => decide (q = z)) with
      | none => simp [hq, List.findIdx?_cons]
      | some i =>
        have hi : i < T.length := by
          have := (List.findIdx?_eq_some_iff_getElem.1 h2).1
          simpa using this
        simp [List.getElem?_append_left hi]
theorem put_ok {T : WT} (hT : OkT T) (k : Key) {l : List Int} (h1 : l.Pairwise (· < ·)) (h2 : ∀ x ∈ l, -1 ≤ x ∧ x < 7) (h3 : l ≠ []) : OkT (putT T k l) := by
  unfold putT
  cases h : ixOf (T.map (·.1)) k with
  | some j =>
    refine ⟨?_, fun e he => ?_, fun e he => ?_, fun e he => ?_⟩
    · show ((T.set j (k, l)).map (·.1)).Nodup
      rw [ix_set h l]
      exact hT.apart
    all_goals
      rcases List.mem_or_eq_of_mem_set he with he | rfl
      · first | exact hT.rise e he | exact hT.few e he | exact hT.some' e he
      · assumption
  | none =>
    refine ⟨?_, fun e he => ?_, fun e he => ?_, fun e he => ?_⟩
    · show ((T ++ [(k, l)]).map (·.1)).Nodup
      rw [List.map_append, List.nodup_append]
      refine ⟨hT.apart, by simp, fun a ha b hb => ?_⟩
      simp only [List.map_cons, List.map_nil, List.mem_singleton] at hb
      subst hb
      exact fun e => ixOf_none.1 h (e ▸ ha)
    all_goals
      rcases List.mem_append.1 he with he | he
      · first | exact hT.rise e he | exact hT.few e he | exact hT.some' e he
      · rw [List.mem_singleton.1 he]
        assumption
theorem put_len (T : WT) (k : Key) (l : List Int) : (putT T k l).length = if k ∈ T.map (·.1) then T.length else T.length + 1 := by
  unfold putT
  cases h : ixOf (T.map (·.1)) k with
  | some j =>
    have : k ∈ T.map (·.1) := by
      obtain ⟨hj, e⟩ := ixOf_lt h
      exact e ▸ List.getElem_mem hj
    rw [if_pos this]
    simp
  | none =>
    rw [if_neg (ixOf_none.1 h)]
    simp
theorem del_ok {T : WT} (hT : OkT T) (k : Key) : OkT (delT T k) := by
  unfold delT
  cases h : ixOf (T.map (·.1)) k with
  | some j =>
    have hs : (T.eraseIdx j).Sublist T := List.eraseIdx_sublist _ _
    exact ⟨hT.apart.sublist (hs.map _), fun e he => hT.rise e (hs.subset he), fun e he => hT.few e (hs.subset he), fun e he => hT.some' e (hs.subset he)⟩
  | none => exact hT
theorem find_del {T : WT} (hT : OkT T) (k q : Key) : findT (delT T k) q = if q = k then [] else findT T q := by
  by_cases hq : q = k
  · subst hq
    rw [if_pos rfl]
    refine findT_none fun hm => ?_
    unfold delT at hm
    cases h : ixOf (T.map (·.1)) q with
    | none => rw [h] at hm; exact ixOf_none.1 h hm
    | some j =>
      rw [h] at hm
      simp only [] at hm
      rw [List.map_eraseIdx'] at hm
      obtain ⟨hj, e⟩ := ixOf_lt h
      obtain ⟨i, hi, e2⟩ := List.getElem_of_mem hm
      rw [List.getElem_eraseIdx] at e2
      split at e2
      · have := nodup_inj hT.apart _ _ (e2.trans e.symm)
        omega
      · have := nodup_inj hT.apart _ _ (e2.trans e.symm)
        omega
  · rw [if_neg hq]
    rcases findT_mem (T := T) (k := q) with h | h
    · rw [h]
      rcases findT_mem (T := delT T k) (k := q) with h2 | h2
      · exact h2
      · have hs : (delT T k).Sublist T := by
          unfold delT
          split
          · exact List.eraseIdx_sublist _ _
          · exact List.Sublist.refl _
        have := findT_of hT (hs.subset h2)
        rw [h] at this
        exact absurd this.symm (hT.some' _ (hs.subset h2))
    · refine findT_of (del_ok hT k) ?_
      unfold delT
      cases h2 : ixOf (T.map (·.1)) k with
      | none => exact h
      | some j =>
        simp only []
        obtain ⟨hj, e⟩ := ixOf_lt h2
        have hj' : j < T.length := by simpa using hj
        obtain ⟨i, hi, e2⟩ := List.getElem_of_mem h
        have hne : i ≠ j := fun e3 => by
          subst e3
          refine hq ?_
          have : T[i].1 = k := by simpa using e
          rw [← this, e2]
        exact List.mem_eraseIdx_iff_getElem.2 ⟨i, hi, hne, e2⟩
theorem del_len {T : WT} (k : Key) : (delT T k).length = if k ∈ T.map (·.1) then T.length - 1 else T.length := by
  unfold delT
  cases h : ixOf (T.map (·.1)) k with
  | some j =>
    obtain ⟨hj, e⟩ := ixOf_lt h
    have : k ∈ T.map (·.1) := e ▸ List.getElem_mem hj
    have hj' : j < T.length := by simpa using hj
    rw [if_pos this]
    show (T.eraseIdx j).length = _
    rw [List.length_eraseIdx_of_lt hj']
  | none =>
    rw [if_neg (ixOf_none.1 h)]
theorem mem_keys {T : WT} (hT : OkT T) (k : Key) : k ∈ T.map (·.1) ↔ findT T k ≠ [] := by
  constructor
  · intro h
    obtain ⟨e, he, rfl⟩ := List.mem_map.1 h
    rw [findT_of hT (l := e.2) he]
    exact hT.some' e he
  · intro h
    rcases findT_mem (T := T) (k := k) with h2 | h2
    · exact absurd h2 h
    · exact List.mem_map.2 ⟨_, h2, rfl⟩
/-! one more in a list -/
theorem pos_split {L : List Int} (hs : L.Pairwise (· < ·)) (x : Int) : (∀ y ∈ L.take (posI L x), y < x) ∧ ∀ y ∈ L.drop (posI L x), x ≤ y := by
  induction L with
  | nil => exact ⟨fun y h => by simp at h, fun y h => by simp at h⟩
  | cons z L ih =>
    obtain ⟨h1, h2⟩ := List.pairwise_cons.1 hs
    obtain ⟨i1, i2⟩ := ih h2
    by_cases hz : z < x
    · have : posI (z :: L) x = posI L x + 1 := by unfold posI; rw [List.countP_cons]; simp [hz]
      rw [this]
      refine ⟨fun y hy => ?_, fun y hy => i2 y (by simpa using hy)⟩
      rw [List.take_succ_cons] at hy
      rcases List.mem_cons.1 hy with rfl | hy
      · exact hz
      · exact i1 y hy
    · have : posI (z :: L) x = 0 := by
        unfold posI
        exact List.countP_eq_zero.2 fun y hy => by
          rcases List.mem_cons.1 hy with rfl | hy
          · simpa using hz
          · have := h1 y hy
            simp
            omega
      rw [this]
      refine ⟨fun y hy => by simp at hy, fun y hy => ?_⟩
      rw [List.drop_zero] at hy
      rcases List.mem_cons.1 hy with rfl | hy
      · omega
      · have := h1 y hy; omega
theorem mem_ins (L : List Int) (x y : Int) : y ∈ insI L x ↔ y = x ∨ y ∈ L := by
  unfold insI
  rw [List.mem_append, List.mem_cons]
  conv => rhs; rw [← List.take_append_drop (posI L x) L, List.mem_append]
  constructor
  · rintro (h | h | h)
    · exact .inr (.inl h)
    · exact .inl h
    · exact .inr (.inr h)
  · rintro (h | h | h)
    · exact .inr (.inl h)
    · exact .inl h
    · exact .inr (.inr h)
theorem ins_rise {L : List Int} (hs : L.Pairwise (· < ·)) {x : Int} (hx : x ∉ L) : (insI L x).Pairwise (· < ·) := by
  obtain ⟨h1, h2⟩ := pos_split hs x
  unfold insI
  rw [List.pairwise_append, List.pairwise_cons]
  refine ⟨hs.sublist (List.take_sublist _ _), ⟨fun y hy => ?_, hs.sublist (List.drop_sublist _ _)⟩, fun y hy z hz => ?_⟩
  · have := h2 y hy
    have : y ≠ x := fun e => hx (e ▸ List.mem_of_mem_drop hy)
    omega
  · have h3 := h1 y hy
    rcases List.mem_cons.1 hz with rfl | hz
    · exact h3
    · have := h2 z hz; omega
theorem wait_okT {T : WT} (hT : OkT T) (k : Key) (o : Int) : OkT (waitT T k o).1 := by
  unfold waitT
  split
  · exact hT
  · split
    · exact hT
    · split
      · exact hT
      · rename_i h1 h2 h3
        refine put_ok hT k (ins_rise (hT.okL k).1 h2) (fun x hx => ?_) (fun e => ?_)
        · rcases (mem_ins _ _ _).1 hx with rfl | hx
          · omega
          · exact findT_few hT x hx
        · have : o ∈ insI (findT T k) o := (mem_ins _ _ _).2 (.inl rfl)
          rw [e] at this
          cases this
theorem drop_okT {T : WT} (hT : OkT T) (k : Key) (o : Int) : OkT (dropT T k o).1 := by
  unfold dropT
  split
  · simp only []
    split
    · exact del_ok hT k
    · rename_i h1 h2
      exact put_ok hT k ((hT.okL k).1.sublist List.filter_sublist) (fun x hx => findT_few hT x ((List.mem_filter.1 hx).1)) h2
  · exact hT
theorem wait_find {T : WT} (k q : Key) (o : Int) (h : q ≠ k) : findT (waitT T k o).1 q = findT T q := by
  unfold waitT
  split
  · rfl
  · split
    · rfl
    · split
      · rfl
      · rw [find_put, if_neg h]
theorem drop_find {T : WT} (hT : OkT T) (k q : Key) (o : Int) (h : q ≠ k) : findT (dropT T k o).1 q = findT T q := by
  unfold dropT
  split
  · simp only []
    split
    · rw [find_del hT, if_neg h]
    · rw [find_put, if_neg h]
  · rfl
end Go.Proofs.Ytkjpfodnbjbmfaa
