/-
  What is proved: plain laws of a file that is renamed; of a disk that is down. Conditions: none.
-/
import Derived.Test.YthknokcgclcbmaaDQ
namespace Go.Proofs.Ythknokcgclcbmaa
open Go.Sy

/-- a disk that is down has no failure set -/
def calm (D : DK) : Prop := D.down = true → D.fails = none
theorem chg_calm {D : DK} (hu : D.down = false) (late : Bool) (L2 : List Fl) : calm (chg D late L2).1 := by
  unfold chg
  split
  · exact fun _ => rfl
  · split
    · intro h2
      simp only [hu] at h2
      cases h2
    · exact fun _ => rfl
theorem does_calm {D : DK} (h : calm D) (x : ActD) : calm (doesD D x).1 := by
  have key : ∀ {c : Prop} [Decidable c] {a b : DK × Int}, (c → calm a.1) → (¬ c → calm b.1) → calm (if c then a else b).1 := by
    intro c _ a b h1 h2
    split
    · exact h1 ‹_›
    · exact h2 ‹_›
  have up : D.down ≠ true → D.down = false := fun h => by simpa using h
  unfold doesD syncD truncD renD remD crashD startD failD appD
  repeat' (refine key (fun _ => ?_) (fun _ => ?_))
  all_goals first | exact h | (exact chg_calm (up ‹_›) _ _) | (exact fun _ => rfl) | (intro h2; simp at h2; done) | (intro h2; exact absurd h2 (by simp_all))
theorem play_calm (m : Int) (l : List ActD) : calm (playD m l) := by
  unfold playD
  have : ∀ (l : List ActD) (D : DK), calm D → calm (l.foldl (fun D x => (doesD D x).1) D) := by
    intro l
    induction l with
    | nil => exact fun D h => h
    | cons x l ih => exact fun D h => ih _ (does_calm h x)
  exact this l _ fun h => by cases h
theorem upD_up {D : DK} : (upD D).down = false := by
  unfold upD
  cases h : D.down
  · simp only [Bool.false_eq_true, if_false]
    rw [crashD_up h, startD_down rfl]
    rfl
  · simp only [if_true]
    rw [startD_down h]
    rfl
theorem upD_fails {D : DK} (hc : calm D) : (upD D).fails = none := by
  unfold upD
  cases h : D.down
  · simp only [Bool.false_eq_true, if_false]
    rw [crashD_up h, startD_down rfl]
    rfl
  · simp only [if_true]
    rw [startD_down h]
    exact hc h
theorem upD_ok {D : DK} (h : okD D) : okD (upD D) := by
  unfold upD
  split
  · exact start_ok h
  · exact start_ok (crash_ok h _)
theorem upD_starts (D : DK) : D.starts ≤ (upD D).starts ∧ (upD D).starts ≤ D.starts + 1 ∧ (upD D).most = D.most := by
  unfold upD
  cases h : D.down
  · simp only [Bool.false_eq_true, if_false]
    rw [crashD_up h, startD_down rfl]
    exact ⟨by simp only [crashed, started]; omega, by simp only [crashed, started]; omega, rfl⟩
  · simp only [if_true]
    rw [startD_down h]
    exact ⟨by simp only [started]; omega, by simp only [started]; omega, rfl⟩
theorem chg_none {D : DK} (h : D.fails = none) (late : Bool) (L2 : List Fl) : chg D late L2 = (⟨D.most, D.starts, D.down, L2, none, D.keep⟩, 0) := by
  unfold chg
  rw [h]
/-! a file that is renamed -/
theorem name_at {L : List Fl} (hs : riseF L) {i j : Nat} (hi : i < L.length) (hj : j < L.length) (e : L[i].n = L[j].n) : i = j := by
  have h1 := (find_at hs hi).2
  have h2 := (find_at hs hj).2
  rw [e] at h1
  omega
theorem old_at {L : List Fl} (hs : riseF L) {f : Fl} (h : f ∈ L) : oldL L f.n = (f.d, true) := by
  obtain ⟨i, hi, rfl⟩ := List.getElem_of_mem h
  refine find_none_take (fun g hg e => ?_) hi rfl
  obtain ⟨j, hj, rfl⟩ := List.getElem_of_mem hg
  rw [List.length_take] at hj
  rw [List.getElem_take] at e
  have := name_at hs (by omega) hi e
  omega
theorem old_has {L : List Fl} (hs : riseF L) (x : ByteArray) : (oldL L x).2 = hasF L x := by
  cases h : hasF L x with
  | true =>
    obtain ⟨f, hf, rfl⟩ := hasF_iff.1 h
    rw [old_at hs hf]
  | false => rw [old_none (hasF_no.1 h)]
theorem mem_put {L : List Fl} (hs : riseF L) {f g : Fl} (h : f ∈ putFl L g) : f = g ∨ (f ∈ L ∧ f.n ≠ g.n) := by
  unfold putFl at h
  cases hh : hasF L g.n with
  | true =>
    rw [if_pos hh] at h
    obtain ⟨hp, e⟩ := has_pos hs hh
    obtain ⟨i, hi, rfl⟩ := List.getElem_of_mem h
    rw [List.length_set] at hi
    rw [List.getElem_set]
    split
    · exact .inl rfl
    · rename_i hne
      refine .inr ⟨List.getElem_mem hi, fun e2 => hne ?_⟩
      exact name_at hs hp hi (by rw [e, e2])
  | false =>
    rw [if_neg (by rw [hh]; decide)] at h
    rcases insF_mem h with h | h
    · exact .inl h
    · exact .inr ⟨h, hasF_no.1 hh f h⟩
theorem erase_mem {L : List Fl} (hs : riseF L) {i : Nat} (hi : i < L.length) {f : Fl} (h : f ∈ L.eraseIdx i) : f ∈ L ∧ f.n ≠ L[i].n := by
  refine ⟨(List.eraseIdx_sublist _ _).subset h, fun e => ?_⟩
  obtain ⟨j, hj, h2, rfl⟩ := List.mem_eraseIdx_iff_getElem.1 h
  exact h2 (name_at hs hj hi e)
theorem renF_eq {L : List Fl} {x y : ByteArray} (hi : posF L x < L.length) : renF L x y = putFl (L.eraseIdx (posF L x)) ⟨y, L[posF L x].d, L[posF L x].s⟩ := by
  unfold renF
  rw [List.getElem?_eq_getElem hi]
theorem mem_ren {L : List Fl} (hs : riseF L) {x y : ByteArray} (hi : posF L x < L.length) (e : L[posF L x].n = x) {f : Fl} (h : f ∈ renF L x y) : f = ⟨y, L[posF L x].d, L[posF L x].s⟩ ∨ (f ∈ L ∧ f.n ≠ y ∧ f.n ≠ x) := by
  rw [renF_eq hi] at h
  have hs2 : riseF (L.eraseIdx (posF L x)) := List.Pairwise.sublist (List.eraseIdx_sublist _ _) hs
  rcases mem_put hs2 h with h | ⟨h1, h2⟩
  · exact .inl h
  · obtain ⟨h3, h4⟩ := erase_mem hs hi h1
    exact .inr ⟨h3, h2, by rw [e] at h4; exact h4⟩
theorem ren_len {L : List Fl} (hs : riseF L) {x y : ByteArray} (hi : posF L x < L.length) (e : L[posF L x].n = x) : (renF L x y).length = if hasF L y = true ∧ x ≠ y then L.length - 1 else L.length := by
  rw [renF_eq hi]
  have hh : hasF (L.eraseIdx (posF L x)) y = true ↔ hasF L y = true ∧ x ≠ y := by
    rw [hasF_iff, hasF_iff]
    constructor
    · rintro ⟨f, hf, rfl⟩
      obtain ⟨h1, h2⟩ := erase_mem hs hi hf
      exact ⟨⟨f, h1, rfl⟩, fun e2 => h2 (by rw [e]; exact e2.symm)⟩
    · rintro ⟨⟨f, hf, rfl⟩, hne⟩
      obtain ⟨j, hj, rfl⟩ := List.getElem_of_mem hf
      refine ⟨_, List.mem_eraseIdx_iff_getElem.2 ⟨j, hj, fun e2 => hne ?_, rfl⟩, rfl⟩
      subst e2
      exact e.symm
  unfold putFl
  have hl : (L.eraseIdx (posF L x)).length = L.length - 1 := List.length_eraseIdx_of_lt hi
  by_cases h : hasF (L.eraseIdx (posF L x)) y = true
  · rw [if_pos h, if_pos (hh.1 h), List.length_set, hl]
  · rw [if_neg h, if_neg (fun h2 => h (hh.2 h2)), insF_len, hl]
    omega
end Go.Proofs.Ythknokcgclcbmaa
