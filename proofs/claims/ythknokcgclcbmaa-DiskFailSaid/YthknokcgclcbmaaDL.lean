/-
  What is proved: plain laws of files by names. Conditions: none.
-/
import Derived.Test.YthknokcgclcbmaaDK
namespace Go.Proofs.Ythknokcgclcbmaa
open Go.Sy

theorem posF_split {L : List Fl} (hs : riseF L) (x : ByteArray) : (∀ y ∈ L.take (posF L x), ltS y.n x) ∧ ∀ y ∈ L.drop (posF L x), ¬ ltS y.n x := by
  induction L with
  | nil => exact ⟨fun y h => by simp at h, fun y h => by simp at h⟩
  | cons z L ih =>
    obtain ⟨h1, h2⟩ := List.pairwise_cons.1 hs
    obtain ⟨i1, i2⟩ := ih h2
    by_cases hz : ltS z.n x
    · have : posF (z :: L) x = posF L x + 1 := by unfold posF; rw [List.countP_cons]; simp [hz]
      rw [this]
      refine ⟨fun y hy => ?_, fun y hy => i2 y (by simpa using hy)⟩
      rw [List.take_succ_cons] at hy
      rcases List.mem_cons.1 hy with rfl | hy
      · exact hz
      · exact i1 y hy
    · have hn : ∀ y ∈ z :: L, ¬ ltS y.n x := fun y hy => by
        rcases List.mem_cons.1 hy with rfl | hy
        · exact hz
        · exact fun h => hz ((h1 y hy).trans h)
      have : posF (z :: L) x = 0 := by
        unfold posF
        exact List.countP_eq_zero.2 fun y hy => by simpa using hn y hy
      rw [this]
      exact ⟨fun y hy => by simp at hy, fun y hy => hn y (by simpa using hy)⟩
theorem hasF_iff {L : List Fl} {x : ByteArray} : hasF L x = true ↔ ∃ f ∈ L, f.n = x := by
  unfold hasF
  rw [List.any_eq_true]
  simp
theorem hasF_no {L : List Fl} {x : ByteArray} : hasF L x = false ↔ ∀ f ∈ L, f.n ≠ x := by
  unfold hasF
  rw [List.any_eq_false]
  simp
theorem riseF_ins {L : List Fl} (hs : riseF L) {f : Fl} (h : hasF L f.n = false) : riseF (insF L f) := by
  obtain ⟨h1, h2⟩ := posF_split hs f.n
  unfold insF riseF
  rw [List.pairwise_append, List.pairwise_cons]
  have hlt : ∀ y ∈ L.drop (posF L f.n), ltS f.n y.n := fun y hy => by
    by_cases h3 : ltS f.n y.n
    · exact h3
    · exact absurd (ltS.total (h2 y hy) h3) (hasF_no.1 h y (List.mem_of_mem_drop hy))
  refine ⟨hs.sublist (List.take_sublist _ _), ⟨hlt, hs.sublist (List.drop_sublist _ _)⟩, fun y hy z hz => ?_⟩
  rcases List.mem_cons.1 hz with rfl | hz
  · exact h1 y hy
  · exact (h1 y hy).trans (hlt z hz)
/-- the order is one of names alone -/
theorem riseF_names {L M : List Fl} (e : M.map (·.n) = L.map (·.n)) (hs : riseF L) : riseF M := by
  unfold riseF at *
  have h1 : (L.map (·.n)).Pairwise ltS := List.pairwise_map.2 hs
  rw [← e] at h1
  exact List.pairwise_map.1 h1
theorem posF_names {L M : List Fl} (e : M.map (·.n) = L.map (·.n)) (x : ByteArray) : posF M x = posF L x := by
  have key : ∀ L : List Fl, posF L x = (L.map (·.n)).countP fun n => decide (ltS n x) := fun L => by
    unfold posF
    rw [List.countP_map]
    rfl
  rw [key, key, e]
theorem hasF_names {L M : List Fl} (e : M.map (·.n) = L.map (·.n)) (x : ByteArray) : hasF M x = hasF L x := by
  have key : ∀ L : List Fl, hasF L x = (L.map (·.n)).any fun n => decide (n = x) := fun L => by
    unfold hasF
    rw [List.any_map]
    rfl
  rw [key, key, e]
theorem set_names {L : List Fl} {i : Nat} (h : i < L.length) {f : Fl} (e : f.n = L[i].n) : (L.set i f).map (·.n) = L.map (·.n) := by
  rw [List.map_set]
  apply List.ext_getElem
  · simp
  · intro q h1 h2
    rw [List.getElem_set]
    split
    · rename_i e2; subst e2; simp [e]
    · rfl
theorem setF_names {L : List Fl} {x : ByteArray} {g : Fl → Fl} (hg : ∀ f, (g f).n = f.n) : (setF L x g).map (·.n) = L.map (·.n) := by
  unfold setF
  split
  · rename_i f hf
    obtain ⟨h, rfl⟩ := List.getElem?_eq_some_iff.1 hf
    exact set_names h (hg _)
  · rfl
theorem crashF_names (L : List Fl) (K : List Int) : (crashF L K).map (·.n) = L.map (·.n) := by
  apply List.ext_getElem
  · simp [crashF_len]
  · intro q h1 h2
    have hq : q < L.length := by simpa using h2
    rw [List.getElem_map, List.getElem_map, crashF_at L K hq]
    unfold keep1
    split <;> rfl
theorem setF_len (L : List Fl) (x : ByteArray) (g : Fl → Fl) : (setF L x g).length = L.length := by
  unfold setF
  split
  · rw [List.length_set]
  · rfl
theorem setF_mem {L : List Fl} {x : ByteArray} {g : Fl → Fl} {f : Fl} (h : f ∈ setF L x g) : f ∈ L ∨ ∃ f' ∈ L, f = g f' := by
  unfold setF at h
  split at h
  · rename_i f0 hf
    rcases List.mem_or_eq_of_mem_set h with h | h
    · exact .inl h
    · exact .inr ⟨f0, List.mem_of_getElem? hf, h⟩
  · exact .inl h
/-! how many bytes -/
theorem sumD_cons (f : Fl) (L : List Fl) : sumD (f :: L) = f.d.size + sumD L := by unfold sumD; simp
theorem sumD_append (L M : List Fl) : sumD (L ++ M) = sumD L + sumD M := by unfold sumD; simp
theorem sumD_split {L : List Fl} {i : Nat} (h : i < L.length) : sumD L = sumD (L.take i) + L[i].d.size + sumD (L.drop (i + 1)) := by
  conv => lhs; rw [← List.take_append_drop i L, List.drop_eq_getElem_cons h]
  rw [sumD_append, sumD_cons]
  omega
theorem sumD_set {L : List Fl} {i : Nat} (h : i < L.length) (f : Fl) : sumD (L.set i f) + L[i].d.size = sumD L + f.d.size := by
  have h2 : i < (L.set i f).length := by rw [List.length_set]; exact h
  rw [sumD_split h, sumD_split h2, List.getElem_set_self, List.take_set, List.drop_set_of_lt (by omega), List.set_eq_of_length_le (by rw [List.length_take]; omega)]
  omega
theorem sumD_erase {L : List Fl} {i : Nat} (h : i < L.length) : sumD (L.eraseIdx i) + L[i].d.size = sumD L := by
  rw [sumD_split h, List.eraseIdx_eq_take_drop_succ, sumD_append]
  omega
theorem sumD_ins (L : List Fl) (f : Fl) : sumD (insF L f) = sumD L + f.d.size := by
  unfold insF
  conv => rhs; rw [← List.take_append_drop (posF L f.n) L]
  rw [sumD_append, sumD_append, sumD_cons]
  omega
theorem sumD_le {L M : List Fl} (hl : M.length = L.length) (h : ∀ i (h1 : i < M.length) (h2 : i < L.length), M[i].d.size ≤ L[i].d.size) : sumD M ≤ sumD L := by
  induction L generalizing M with
  | nil => rw [List.eq_nil_of_length_eq_zero hl]; exact Nat.le_refl _
  | cons x L ih =>
    cases M with
    | nil => cases hl
    | cons y M =>
      rw [sumD_cons, sumD_cons]
      have h0 := h 0 (by simp) (by simp)
      have := ih (M := M) (by simpa using hl) fun i h1 h2 => h (i + 1) (by simpa using h1) (by simpa using h2)
      simp only [List.getElem_cons_zero] at h0
      omega
theorem keep1_ok {f : Fl} (h0 : 0 ≤ f.s) (h1 : f.s ≤ f.d.size) (k : Option Int) : 0 ≤ (keep1 k f).s ∧ (keep1 k f).s = (keep1 k f).d.size ∧ (keep1 k f).d.size ≤ f.d.size ∧ f.s ≤ (keep1 k f).s := by
  unfold keep1
  split
  · simp only [ByteArray.size_extract]
    omega
  · simp only [ByteArray.size_extract]
    omega
/-! that files stay as they ought to be -/
structure okL (m : Int) (L : List Fl) : Prop where
  rise : riseF L
  sure : ∀ f ∈ L, 0 ≤ f.s ∧ f.s ≤ f.d.size
  room : (sumD L : Int) ≤ m
  few : L.length ≤ 16
  names : ∀ f ∈ L, oddS f.n = false
theorem okD.okL {D : DK} (h : okD D) : Proofs.Ythknokcgclcbmaa.okL D.most D.files := ⟨h.rise, h.sure, h.room, h.few, h.names⟩
theorem okL.crash {m : Int} {L : List Fl} (h : okL m L) (K : List Int) : okL m (crashF L K) := by
  have hk : ∀ i (h1 : i < (crashF L K).length) (h2 : i < L.length), (crashF L K)[i].d.size ≤ L[i].d.size := fun i h1 h2 => by
    rw [crashF_at L K h2]
    have := h.sure _ (List.getElem_mem h2)
    exact (keep1_ok this.1 this.2 _).2.2.1
  refine ⟨riseF_names (crashF_names L K) h.rise, fun f hf => ?_, ?_, by rw [crashF_len]; exact h.few, fun f hf => ?_⟩
  · obtain ⟨i, hi, rfl⟩ := List.getElem_of_mem hf
    rw [crashF_len] at hi
    rw [crashF_at L K hi]
    have := h.sure _ (List.getElem_mem hi)
    have := keep1_ok this.1 this.2 K[i]?
    omega
  · have := sumD_le (crashF_len L K) hk
    have := h.room
    omega
  · have : f.n ∈ (crashF L K).map (·.n) := List.mem_map_of_mem hf
    rw [crashF_names] at this
    obtain ⟨g, hg, e⟩ := List.mem_map.1 this
    rw [← e]
    exact h.names g hg
theorem okL.set {m : Int} {L : List Fl} (h : okL m L) {x : ByteArray} {g : Fl → Fl} (hi : posF L x < L.length) (hg : (g L[posF L x]).n = L[posF L x].n) (hs : 0 ≤ (g L[posF L x]).s ∧ (g L[posF L x]).s ≤ (g L[posF L x]).d.size) (hr : (sumD L : Int) + (g L[posF L x]).d.size ≤ m + L[posF L x].d.size) : okL m (setF L x g) := by
  rw [setF_eq hi]
  refine ⟨riseF_names (set_names hi hg) h.rise, fun f hf => ?_, ?_, by rw [List.length_set]; exact h.few, fun f hf => ?_⟩
  · rcases List.mem_or_eq_of_mem_set hf with hf | rfl
    · exact h.sure f hf
    · exact hs
  · have := sumD_set hi (g L[posF L x])
    omega
  · rcases List.mem_or_eq_of_mem_set hf with hf | rfl
    · exact h.names f hf
    · rw [hg]; exact h.names _ (List.getElem_mem hi)
theorem okL.erase {m : Int} {L : List Fl} (h : okL m L) {i : Nat} (hi : i < L.length) : okL m (L.eraseIdx i) := by
  have hs : (L.eraseIdx i).Sublist L := List.eraseIdx_sublist _ _
  have := sumD_erase hi
  have hr := h.room
  exact ⟨h.rise.sublist hs, fun f hf => h.sure f (hs.subset hf), by omega, Nat.le_trans hs.length_le h.few, fun f hf => h.names f (hs.subset hf)⟩
theorem okL.put {m : Int} {L : List Fl} (h : okL m L) {f : Fl} (hl : L.length < 16) (ho : oddS f.n = false) (hs : 0 ≤ f.s ∧ f.s ≤ f.d.size) (hr : (sumD L : Int) + f.d.size ≤ m) : okL m (putFl L f) := by
  unfold putFl
  cases hh : hasF L f.n with
  | true =>
    obtain ⟨hi, e⟩ := has_pos h.rise hh
    rw [if_pos rfl]
    have := sumD_set hi f
    refine ⟨riseF_names (set_names hi e.symm) h.rise, fun g hg => ?_, by omega, by rw [List.length_set]; exact h.few, fun g hg => ?_⟩
    · rcases List.mem_or_eq_of_mem_set hg with hg | rfl
      · exact h.sure g hg
      · exact hs
    · rcases List.mem_or_eq_of_mem_set hg with hg | rfl
      · exact h.names g hg
      · exact ho
  | false =>
    rw [if_neg (by decide)]
    refine ⟨riseF_ins h.rise hh, fun g hg => ?_, by rw [sumD_ins]; omega, by rw [insF_len]; omega, fun g hg => ?_⟩
    · rcases insF_mem hg with rfl | hg
      · exact hs
      · exact h.sure g hg
    · rcases insF_mem hg with rfl | hg
      · exact ho
      · exact h.names g hg
theorem okD.of {D : DK} (h1 : 0 < D.most ∧ D.most ≤ 1048576) (h2 : Proofs.Ythknokcgclcbmaa.okL D.most D.files) (h3 : ∀ q, D.fails = some q → 0 ≤ q ∧ q ≤ 9223372036854775807) : okD D := ⟨h1, h2.rise, h2.sure, h2.room, h2.few, h2.names, h3⟩
theorem chg_ok {D : DK} (h : okD D) (late : Bool) {L2 : List Fl} (h2 : okL D.most L2) : okD (chg D late L2).1 := by
  have hf := h.fails
  unfold chg
  split
  · exact okD.of h.most h2 fun q hq => by cases hq
  · rename_i q hq
    have := hf q hq
    split
    · exact okD.of h.most h2 fun q' hq' => by cases hq'; omega
    · refine okD.of h.most ?_ fun q hq => by cases hq
      cases late
      · exact h.okL.crash _
      · exact h2.crash _
theorem sync_ok {D : DK} (h : okD D) (x : ByteArray) : okD (syncD D x).1 := by
  unfold syncD
  split
  · exact h
  · split
    · rename_i hh
      obtain ⟨hi, _⟩ := has_pos h.rise hh
      have := h.room
      exact chg_ok h _ (h.okL.set hi rfl ⟨Int.natCast_nonneg _, Int.le_refl _⟩ (by simp only; omega))
    · exact h
theorem trunc_ok {D : DK} (h : okD D) (x : ByteArray) (z : Int) : okD (truncD D x z).1 := by
  unfold truncD
  split
  · exact h
  · split
    · rename_i hh
      obtain ⟨hi, _⟩ := has_pos h.rise hh
      have hr := h.room
      have hs := h.sure _ (List.getElem_mem hi)
      split
      · exact h
      · rename_i hz
        rw [getF_eq hi] at hz
        refine chg_ok h _ (h.okL.set hi rfl ?_ ?_)
        · simp only [ByteArray.size_extract]
          omega
        · simp only [ByteArray.size_extract]
          omega
    · exact h
theorem rem_ok {D : DK} (h : okD D) (x : ByteArray) : okD (remD D x).1 := by
  unfold remD
  split
  · exact h
  · split
    · rename_i hh
      obtain ⟨hi, _⟩ := has_pos h.rise hh
      exact chg_ok h _ (h.okL.erase hi)
    · exact h
theorem renF_ok {m : Int} {L : List Fl} (h : okL m L) {x y : ByteArray} (hh : hasF L x = true) (ho : oddS y = false) : okL m (renF L x y) := by
  obtain ⟨hi, _⟩ := has_pos h.rise hh
  have hr : renF L x y = putFl (L.eraseIdx (posF L x)) ⟨y, L[posF L x].d, L[posF L x].s⟩ := by
    unfold renF
    rw [List.getElem?_eq_getElem hi]
  rw [hr]
  have h1 := sumD_erase hi
  have h2 := h.room
  have h3 := h.few
  exact (h.erase hi).put (by rw [List.length_eraseIdx_of_lt hi]; omega) ho (h.sure L[posF L x] (List.getElem_mem hi)) (by simp only; omega)
theorem ren_ok {D : DK} (h : okD D) (x y : ByteArray) : okD (renD D x y).1 := by
  unfold renD
  split
  · exact h
  · split
    · rename_i hh
      split
      · exact h
      · rename_i ho
        exact chg_ok h _ (renF_ok h.okL hh (by simpa using ho))
    · exact h
theorem appF_sum {L : List Fl} (hs : riseF L) (x y : ByteArray) : sumD (appF L x y) = sumD L + y.size := by
  unfold appF
  split
  · rename_i hh
    obtain ⟨hi, _⟩ := has_pos hs hh
    rw [setF_eq hi]
    have := sumD_set hi ⟨L[posF L x].n, L[posF L x].d ++ y, L[posF L x].s⟩
    simp only [ByteArray.size_append] at this
    omega
  · rw [sumD_ins]
theorem appF_ok {m : Int} {L : List Fl} (h : okL m L) {x y : ByteArray} (ho : oddS x = false) (hn : hasF L x = true ∨ L.length ≠ 16) (hr : (y.size : Int) ≤ m - sumD L) : okL m (appF L x y) := by
  unfold appF
  cases hh : hasF L x with
  | true =>
    obtain ⟨hi, _⟩ := has_pos h.rise hh
    have hs := h.sure _ (List.getElem_mem hi)
    rw [if_pos rfl]
    refine h.set hi rfl ?_ ?_
    · simp only [ByteArray.size_append]
      omega
    · simp only [ByteArray.size_append]
      omega
  | false =>
    rw [if_neg (by decide)]
    have h3 := h.few
    have hn : L.length ≠ 16 := by
      rcases hn with hn | hn
      · rw [hh] at hn; cases hn
      · exact hn
    have := h.put (f := ⟨x, y, 0⟩) (by omega) ho ⟨Int.le_refl _, Int.natCast_nonneg _⟩ (by simp only; omega)
    unfold putFl at this
    rwa [if_neg (by simp only [hh]; decide)] at this
theorem app_ok {D : DK} (h : okD D) (x y : ByteArray) : okD (appD D x y).1 := by
  unfold appD
  split
  · exact h
  · split
    · exact h
    · rename_i ho
      split
      · exact h
      · rename_i hf
        refine chg_ok h _ (appF_ok h.okL (by simpa using ho) ?_ (by omega))
        cases hh : hasF D.files x with
        | true => exact .inl rfl
        | false => exact .inr fun e => hf (.inl ⟨hh, e⟩)
theorem crash_ok {D : DK} (h : okD D) (K : List Int) : okD (crashD D K).1 := by
  unfold crashD
  split
  · exact h
  · exact okD.of h.most (h.okL.crash K) fun q hq => by cases hq
theorem start_ok {D : DK} (h : okD D) : okD (startD D).1 := by
  unfold startD
  split
  · exact okD.of h.most h.okL h.fails
  · exact h
theorem fail_ok {D : DK} (h : okD D) (z : Int) (hz : z ≤ 9223372036854775807) (K : List Int) : okD (failD D z K).1 := by
  unfold failD
  split
  · exact h
  · split
    · exact h
    · exact okD.of h.most h.okL fun q hq => by cases hq; omega
theorem new_ok {z : Int} (h1 : 1 ≤ z) (h2 : z ≤ 1048576) : okD ⟨z, 0, false, [], none, []⟩ :=
  okD.of ⟨by simp only; omega, h2⟩ ⟨List.Pairwise.nil, fun f h => (by cases h), by simp [sumD]; omega, Nat.zero_le _, fun f h => (by cases h)⟩ fun q hq => by cases hq
end Go.Proofs.Ythknokcgclcbmaa
