/-
  What is proved: the program's table and the document's say the same. Conditions: none.
-/
import Derived.Test.YtkjpfodnbjbmfaaRT
namespace Go.Proofs.Ytkjpfodnbjbmfaa
open Go.Sy

theorem nodup_sub {α : Type} [DecidableEq α] : ∀ {l m : List α}, l.Nodup → (∀ x ∈ l, x ∈ m) → l.length ≤ m.length
  | [], _, _, _ => Nat.zero_le _
  | x :: l, m, h, hs => by
    obtain ⟨h1, h2⟩ := List.nodup_cons.1 h
    have hx := hs x List.mem_cons_self
    have := nodup_sub (l := l) (m := m.erase x) h2 fun y hy => (List.mem_erase_of_ne (fun e : y = x => h1 (e ▸ hy))).2 (hs y (List.mem_cons_of_mem _ hy))
    rw [List.length_erase_of_mem hx] at this
    have := List.length_pos_of_mem hx
    simp only [List.length_cons]
    omega
theorem kd_nodup (W : List WR) : (kd W).Nodup := by
  have key : ∀ (n : Nat) (W : List WR), W.length = n → (kd W).Nodup := by
    intro n
    induction n with
    | zero => intro W h; rw [List.eq_nil_of_length_eq_zero h]; exact List.nodup_nil
    | succ n ih =>
      intro W h
      obtain ⟨V, x, rfl⟩ : ∃ V x, W = V ++ [x] := ⟨W.dropLast, W.getLast (fun e => by rw [e] at h; cases h), (List.dropLast_concat_getLast _).symm⟩
      have := ih V (by simpa using h)
      rw [kd_step]
      split
      · exact this
      · rename_i hx
        rw [List.nodup_append]
        refine ⟨this, by simp, fun a ha b hb e => ?_⟩
        rw [List.mem_singleton.1 hb] at e
        exact hx (e ▸ ha)
  exact key _ W rfl
/-- both tables say the same -/
structure RelT (T : WT) (W : List WR) : Prop where
  ok : OkT T
  same : ∀ s i o, o ∈ findT T (s, i) ↔ (⟨s, i, o⟩ : WR) ∈ W
theorem RelT.nil : RelT [] [] := ⟨OkT.nil, fun _ _ _ => by simp [findT, ixOf]⟩
theorem RelT.who {T : WT} {W : List WR} (h : RelT T W) (s i : Int) : whoOk W s i (findT T (s, i)) :=
  ⟨(h.ok.okL _).1, fun x => ⟨fun hx => ⟨(findT_few h.ok x hx).1, (findT_few h.ok x hx).2, (h.same _ _ _).1 hx⟩, fun hx => (h.same _ _ _).2 hx.2.2⟩⟩
theorem RelT.few {T : WT} {W : List WR} (h : RelT T W) (k : Key) : (findT T k).length ≤ 8 := rise_few (h.ok.okL k).1 (findT_few h.ok)
theorem RelT.len {T : WT} {W : List WR} (h : RelT T W) : T.length = (kd W).length := by
  have hk : ∀ k, k ∈ T.map (·.1) ↔ k ∈ kd W := by
    intro k
    rw [mem_keys h.ok, kd_mem]
    obtain ⟨s, i⟩ := k
    constructor
    · intro hne
      obtain ⟨x, hx⟩ := List.exists_mem_of_ne_nil _ hne
      exact ⟨_, (h.same s i x).1 hx, rfl⟩
    · rintro ⟨⟨a, b, c⟩, hx, e⟩ hn
      simp only [WR.key, Prod.mk.injEq] at e
      rw [e.1, e.2] at hx
      have := (h.same s i c).2 hx
      rw [hn] at this
      cases this
  have h1 := nodup_sub h.ok.apart fun x hx => (hk x).1 hx
  have h2 := nodup_sub (kd_nodup W) fun x hx => (hk x).2 hx
  rw [List.length_map] at h1 h2
  omega
/-- what the document's table is behind a Wait -/
def waitW (T : WT) (W : List WR) (s i o : Int) : List WR :=
  if o < -1 ∨ 7 ≤ o then W else if o ∈ findT T (s, i) then W else if findT T (s, i) = [] ∧ 64 ≤ T.length then W else W ++ [(⟨s, i, o⟩ : WR)]
theorem waitW_len (T : WT) (W : List WR) (s i o : Int) : (waitW T W s i o).length ≤ W.length + 1 := by
  unfold waitW
  split
  · omega
  · split
    · omega
    · split
      · omega
      · simp
theorem RelT.wait {T : WT} {W : List WR} (h : RelT T W) (s i o : Int) : RelT (waitT T (s, i) o).1 (waitW T W s i o) := by
  refine ⟨wait_okT h.ok _ _, fun a b c => ?_⟩
  unfold waitT waitW
  split
  · exact h.same a b c
  · split
    · exact h.same a b c
    · split
      · exact h.same a b c
      · simp only []
        rw [find_put, List.mem_append, List.mem_singleton]
        simp only [Prod.mk.injEq, WR.mk.injEq]
        split
        · rename_i e
          rw [mem_ins, h.same, e.1, e.2]
          simp [or_comm]
        · rename_i e
          rw [h.same]
          constructor
          · exact .inl
          · rintro (h2 | ⟨rfl, rfl, rfl⟩)
            · exact h2
            · exact absurd ⟨rfl, rfl⟩ e
theorem sWait (r : Nat) (T : WT) (W : List WR) (s i o : Int) (h : RelT T W) (h1 : W.length ≤ 1000) (R : WT × Int) (V : List WR) (hR : R = waitT T (s, i) o) (hV : V = waitW T W s i o) : Triple Try.prog 14 [.pointer (some ⟨r, 0, none⟩), .int .i64 s, .int .i64 i, .int .i64 o] [RefM r W] [] Unit (fun _ => .int .i64 R.2) (fun _ => True) (fun _ => [RefM r V]) := by
  subst hR hV
  have hw := h.who s i
  unfold waitT waitW
  by_cases c1 : o < -1 ∨ 7 ≤ o
  · rw [if_pos c1, if_pos c1]
    exact ((rWait_arg r s i o c1).frame [RefM r W]).imp fun _ _ => ⟨(), rfl, trivial, fun h q => q⟩
  · rw [if_neg c1, if_neg c1]
    by_cases c2 : o ∈ findT T (s, i)
    · rw [if_pos c2, if_pos c2]
      exact rWait_ok r W s i o c1 h1 ((h.same _ _ _).1 c2)
    · rw [if_neg c2, if_neg c2]
      have c2' := fun e => c2 ((h.same _ _ _).2 e)
      by_cases c3 : findT T (s, i) = [] ∧ 64 ≤ T.length
      · rw [if_pos c3, if_pos c3]
        exact rWait_long r W s i o c1 h1 c2' (c3.1 ▸ hw) (by rw [← h.len]; exact c3.2)
      · rw [if_neg c3, if_neg c3]
        refine Triple.pre RefM.pre fun (A, c) => (rWait_put r A W W.length c s i o (findT T (s, i)) rfl c1 h1 c2' hw ?_).imp fun (B, d) _ => ⟨(), rfl, trivial, fun h q => starH_one.2 (RefM.in (by simp) q)⟩
        rw [← h.len]
        rcases Nat.eq_zero_or_pos (findT T (s, i)).length with e | e
        · exact .inr (by
            have : ¬ 64 ≤ T.length := fun h4 => c3 ⟨List.eq_nil_of_length_eq_zero e, h4⟩
            omega)
        · exact .inl e
theorem RelT.take {T : WT} {W : List WR} (h : RelT T W) (s i : Int) : RelT (delT T (s, i)) (takeR W s i (findT T (s, i))) := by
  refine ⟨del_ok h.ok _, fun a b c => ?_⟩
  rw [find_del h.ok]
  unfold takeR
  rw [List.mem_filter]
  simp only [Prod.mk.injEq]
  split
  · rename_i e
    simp only [e.1, e.2, List.not_mem_nil, false_iff, ← h.same]
    rintro ⟨h1, h2⟩
    simp [h1] at h2
  · rename_i e
    rw [h.same]
    constructor
    · intro h1
      refine ⟨h1, ?_⟩
      simp only [not_and] at e
      simp only [Bool.not_eq_true', Bool.and_eq_false_iff, decide_eq_false_iff_not]
      by_cases ha : a = s
      · exact .inl (.inr (e ha))
      · exact .inl (.inl ha)
    · exact fun h1 => h1.1
theorem RelT.drop {T : WT} {W : List WR} (h : RelT T W) (s i o : Int) : RelT (dropT T (s, i) o).1 (dropR W ⟨s, i, o⟩) := by
  refine ⟨drop_okT h.ok _ _, fun a b c => ?_⟩
  have key : findT (dropT T (s, i) o).1 (s, i) = (findT T (s, i)).filter (· != o) := by
    unfold dropT
    split
    · simp only []
      split
      · rename_i h2
        rw [find_del h.ok, if_pos rfl, h2]
      · rw [find_put, if_pos rfl]
    · rename_i h1
      simp only []
      refine (List.filter_eq_self.2 fun x hx => ?_).symm
      simp only [bne_iff_ne]
      exact fun e => h1 (e ▸ hx)
  unfold dropR
  rw [List.mem_filter]
  by_cases e : (a, b) = (s, i)
  · simp only [Prod.mk.injEq] at e
    obtain ⟨rfl, rfl⟩ := e
    rw [key, List.mem_filter, h.same]
    simp
  · rw [drop_find h.ok _ _ _ e, h.same]
    simp only [Prod.mk.injEq] at e
    constructor
    · intro h1
      refine ⟨h1, ?_⟩
      simp only [WR.mk.injEq, Bool.not_eq_true', decide_eq_false_iff_not]
      exact fun e2 => e ⟨e2.1, e2.2.1⟩
    · exact fun h1 => h1.1
theorem drop_two (T : WT) (k : Key) (o : Int) : (dropT T k o).2 = decide (o ∈ findT T k) := by
  unfold dropT
  split
  · rename_i h; exact (decide_eq_true h).symm
  · rename_i h; exact (decide_eq_false h).symm
theorem sHasB (r : Nat) (T : WT) (W : List WR) (s i o : Int) (h : RelT T W) (h1 : W.length ≤ 1000) (b : Bool) (hb : decide (o ∈ findT T (s, i)) = b) : Triple Try.prog 20 [.pointer (some ⟨r, 0, none⟩), .int .i64 s, .int .i64 i, .int .i64 o] [RefM r W] [] Unit (fun _ => .bool b) (fun _ => True) (fun _ => [RefM r W]) := by
  have := sHas r W s i o h1
  rw [← hb, decide_eq_decide.2 (h.same s i o)]
  exact this
theorem sDropB (r : Nat) (T : WT) (W V : List WR) (s i o : Int) (h : RelT T W) (h1 : W.length ≤ 1000) (R : WT × Bool) (hR : R = dropT T (s, i) o) (hV : V = dropR W ⟨s, i, o⟩) : Triple Try.prog 17 [.pointer (some ⟨r, 0, none⟩), .int .i64 s, .int .i64 i, .int .i64 o] [RefM r W] [] Unit (fun _ => .bool R.2) (fun _ => True) (fun _ => [RefM r V]) := by
  subst hV
  have := sDrop r W s i o h1
  rw [hR, drop_two, decide_eq_decide.2 (h.same s i o)]
  exact this
theorem sLenN (r : Nat) (T : WT) (W : List WR) (h : RelT T W) (h1 : W.length ≤ 1000) : Triple Try.prog 18 [.pointer (some ⟨r, 0, none⟩)] [RefM r W] [] Unit (fun _ => .int .i64 (T.length : Nat)) (fun _ => True) (fun _ => [RefM r W]) := by
  rw [h.len]
  exact sLen r W h1
end Go.Proofs.Ytkjpfodnbjbmfaa
