/-
  What is proved: DiskFail's walk. Conditions: none.
-/
import Derived.Test.YthknokcgclcbmaaDT
namespace Go.Proofs.Ythknokcgclcbmaa
open Go.Sy

/-- a disk with a failure set -/
def failing (D : DK) (q : Int) (K : List Int) : DK := ⟨D.most, D.starts, false, D.files, some q, K⟩
/-- what an act makes of files, if it is done; none: it is not -/
def newF (m : Int) (L : List Fl) (x : ActD) : List Fl ⊕ Int :=
  if x.k % 12 = 4 then (if hasF L x.n then .inl (setF L x.n fun f => ⟨f.n, f.d, (f.d.size : Nat)⟩) else .inr 4)
  else if x.k % 12 = 5 then (if hasF L x.n then (if x.z < 0 ∨ ((getF L x.n).size : Int) < x.z then .inr 2 else .inl (setF L x.n fun f => ⟨f.n, f.d.extract 0 x.z.toNat, min f.s x.z⟩)) else .inr 4)
  else if x.k % 12 = 6 then (if hasF L x.n then (if oddS x.o then .inr 2 else .inl (renF L x.n x.o)) else .inr 4)
  else if x.k % 12 = 7 then (if hasF L x.n then .inl (L.eraseIdx (posF L x.n)) else .inr 4)
  else if oddS x.n then .inr 2 else if (hasF L x.n = false ∧ L.length = 16) ∨ m - sumD L < (x.d.size : Int) then .inr 40 else .inl (appF L x.n x.d)
theorem does_new {D : DK} (hu : D.down = false) {x : ActD} (hk : x.k % 12 < 8) : doesD D x = match newF D.most D.files x with | .inl L2 => chg D (decide (x.k % 12 < 4)) L2 | .inr e => (D, e) := by
  unfold doesD newF
  by_cases h4 : x.k % 12 = 4
  · simp only [h4, if_true, syncD, hu, Bool.false_eq_true, if_false]
    split <;> rfl
  · simp only [h4, if_false]
    by_cases h5 : x.k % 12 = 5
    · simp only [h5, if_true, truncD, hu, Bool.false_eq_true, if_false]
      split
      · split <;> rfl
      · rfl
    · simp only [h5, if_false]
      by_cases h6 : x.k % 12 = 6
      · simp only [h6, if_true, renD, hu, Bool.false_eq_true, if_false]
        split
        · split <;> rfl
        · rfl
      · simp only [h6, if_false]
        by_cases h7 : x.k % 12 = 7
        · simp only [h7, if_true, remD, hu, Bool.false_eq_true, if_false]
          split <;> rfl
        · have h8 : ¬ x.k % 12 = 8 := by omega
          have h9 : ¬ (x.k % 12 = 9 ∨ x.k % 12 = 10) := by omega
          have hb : ¬ x.k % 12 = 11 := by omega
          have hlt : decide (x.k % 12 < 4) = true ∨ x.k % 12 < 0 := by
            left
            exact decide_eq_true (by omega)
          simp only [h7, h8, h9, hb, if_false, appD, hu, Bool.false_eq_true]
          have hlt : decide (x.k % 12 < 4) = true := decide_eq_true (by omega)
          rw [hlt]
          split
          · rfl
          · split <;> rfl
theorem newF_err {m : Int} {L : List Fl} {x : ActD} {e : Int} (h : newF m L x = .inr e) : e ≠ 0 := by
  revert h
  unfold newF
  repeat' split
  all_goals first | (intro h; cases h; done) | (intro h; cases h; decide)
theorem newF_late {m : Int} {L L2 : List Fl} {x : ActD} (hk : x.k % 12 < 4) (h : newF m L x = .inl L2) : L2 = appF L x.n x.d := by
  unfold newF at h
  simp only [show ¬ x.k % 12 = 4 by omega, show ¬ x.k % 12 = 5 by omega, show ¬ x.k % 12 = 6 by omega, show ¬ x.k % 12 = 7 by omega, if_false] at h
  split at h
  · cases h
  · split at h
    · cases h
    · cases h; rfl
theorem mem_app {L : List Fl} (hs : riseF L) {x y : ByteArray} {f : Fl} (h : f ∈ appF L x y) : (f.n = x ∧ f.d = (oldL L x).1 ++ y) ∨ (f.n ≠ x ∧ f ∈ L) := by
  unfold appF at h
  cases hh : hasF L x with
  | true =>
    obtain ⟨hp, e⟩ := has_pos hs hh
    rw [if_pos hh, setF_eq hp] at h
    obtain ⟨i, hi, rfl⟩ := List.getElem_of_mem h
    rw [List.length_set] at hi
    rw [List.getElem_set]
    split
    · left
      have := old_at hs (List.getElem_mem hp)
      rw [e] at this
      rw [this]
      exact ⟨e, rfl⟩
    · rename_i hne
      refine .inr ⟨fun e2 => hne ?_, List.getElem_mem hi⟩
      exact name_at hs hp hi (by rw [e, e2])
  | false =>
    rw [if_neg (by rw [hh]; decide)] at h
    have hno := hasF_no.1 hh
    rcases insF_mem h with rfl | h
    · left
      rw [old_none hno]
      exact ⟨rfl, (ByteArray.empty_append).symm⟩
    · exact .inr ⟨hno f h, h⟩
/-- what stays of a file is a beginning of it -/
theorem keep_front {f : Fl} (h0 : 0 ≤ f.s) (h1 : f.s ≤ f.d.size) (k : Option Int) : (keep1 k f).n = f.n ∧ (keep1 k f).d.size ≤ f.d.size ∧ (keep1 k f).d = f.d.extract 0 (keep1 k f).d.size := by
  have key : ∀ a : Nat, a ≤ f.d.size → (f.d.extract 0 a) = f.d.extract 0 (f.d.extract 0 a).size := fun a ha => by
    rw [ByteArray.size_extract, Nat.min_eq_left ha, Nat.sub_zero]
  unfold keep1
  split
  · refine ⟨rfl, ?_, key _ (by omega)⟩
    simp only [ByteArray.size_extract]
    omega
  · refine ⟨rfl, ?_, key _ (by omega)⟩
    simp only [ByteArray.size_extract]
    omega
/-- what an act has changed, when the disk fails in it -/
def failF (L : List Fl) (x : ActD) (L2 : List Fl) (K : List Int) : List Fl := crashF (if x.k % 12 < 4 then L2 else L) K
/-- what a file may be, behind it -/
def mayBe (L : List Fl) (x : ActD) (n : ByteArray) : ByteArray := if x.k % 12 < 4 ∧ n = x.n then (oldL L n).1 ++ x.d else (oldL L n).1
theorem fail_law {m : Int} {L L2 : List Fl} (hs : riseF L) (hL : ∀ f ∈ L, 0 ≤ f.s ∧ f.s ≤ f.d.size) (hL2 : ∀ f ∈ L2, 0 ≤ f.s ∧ f.s ≤ f.d.size) {x : ActD} (h : newF m L x = .inl L2) {K : List Int} {f : Fl} (hf : f ∈ failF L x L2 K) :
    ((x.k % 12 < 4 ∧ f.n = x.n) ∨ (oldL L f.n).2 = true) ∧ f.d.size ≤ (mayBe L x f.n).size ∧ (mayBe L x f.n).extract 0 f.d.size = f.d := by
  unfold failF at hf
  obtain ⟨i, hi, rfl⟩ := List.getElem_of_mem hf
  rw [crashF_len] at hi
  rw [crashF_at _ K hi]
  obtain ⟨g, hg⟩ : ∃ g, g = (if x.k % 12 < 4 then L2 else L)[i] := ⟨_, rfl⟩
  rw [← hg]
  have hgm : g ∈ (if x.k % 12 < 4 then L2 else L) := hg ▸ List.getElem_mem hi
  have hgs : 0 ≤ g.s ∧ g.s ≤ g.d.size := by
    split at hgm
    · exact hL2 g hgm
    · exact hL g hgm
  obtain ⟨k1, k2, k3⟩ := keep_front hgs.1 hgs.2 K[i]?
  rw [k1]
  have hm : ((x.k % 12 < 4 ∧ g.n = x.n) ∨ (oldL L g.n).2 = true) ∧ mayBe L x g.n = g.d := by
    unfold mayBe
    split at hgm
    · rename_i hk
      rw [newF_late hk h] at hgm
      rcases mem_app hs hgm with ⟨h1, h2⟩ | ⟨h1, h2⟩
      · refine ⟨.inl ⟨hk, h1⟩, ?_⟩
        rw [if_pos ⟨hk, h1⟩, h1, h2]
      · rw [if_neg (fun h => h1 h.2), old_at hs h2]
        exact ⟨.inr rfl, rfl⟩
    · rename_i hk
      rw [if_neg (fun h => hk h.1), old_at hs hgm]
      exact ⟨.inr rfl, rfl⟩
  rw [hm.2]
  exact ⟨hm.1, k2, k3.symm⟩
end Go.Proofs.Ythknokcgclcbmaa
