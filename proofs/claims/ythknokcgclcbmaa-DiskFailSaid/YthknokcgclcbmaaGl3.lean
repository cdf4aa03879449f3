/-
  What is proved: what an argument's cells hold, leaf by leaf; what slices of them read as. Conditions: none.
-/
import Derived.Test.YthknokcgclcbmaaGl2
import Derived.Test.YthknokcgclcbmaaSyk
namespace Go.Sy
open Go.RowKit Go.ChangeShapes Go.WideShapes

/-- the leaves of a type: where, and of which type -/
def leaves (T : Tab) : Nat → TypeId → List (Nat × TypeId)
  | 0, t => [(0, t)]
  | d + 1, t => match (te T t).map (fun e : TE => e.k) with
    | some (TK.struct fs) => fs.flatMap fun f => (leaves T d f.2).map fun p => (f.1 + p.1, p.2)
    | _ => [(0, t)]
theorem sees_down {T : Tab} {w : World} : ∀ (F : Nat) {t : TypeId} {cs : List Value}, Sees T w (F + 1) t cs → Sees T w F t cs
  | 0, _, _, _ => trivial
  | F + 1, t, cs, h => by
    unfold Sees at h ⊢
    cases hk : (te T t).map (fun e : TE => e.k) with
    | none => trivial
    | some k =>
      rw [hk] at h
      cases k with
      | slice el =>
        rcases h with h | ⟨a, n, c, h1, h2, h3, h4⟩
        · exact .inl h
        · exact .inr ⟨a, n, c, h1, h2, h3, fun e' he' i hi => let ⟨vs, hv, hs⟩ := h4 e' he' i hi; ⟨vs, hv, sees_down F hs⟩⟩
      | struct fs => exact fun f hf e' he' => sees_down F (h f hf e' he')
      | _ => exact h
theorem sees_downs {T : Tab} {w : World} {F : Nat} {t : TypeId} {cs : List Value} : ∀ (d : Nat), Sees T w (F + d) t cs → Sees T w F t cs
  | 0, h => h
  | d + 1, h => sees_downs d (sees_down (F + d) h)
def oneK : TK → Bool
  | .int _ => true
  | .bool => true
  | .string => true
  | .slice _ => true
  | _ => false
theorem sees_one {T : Tab} {w : World} {F : Nat} {t : TypeId} {cs : List Value} {k : TK} (hk : (te T t).map (fun e : TE => e.k) = some k) (ho : oneK k = true) (h : Sees T w (F + 1) t cs) : ∃ v, cs = [v] := by
  unfold Sees at h
  rw [hk] at h
  cases k <;> first | (cases ho; done) | (obtain ⟨n, h1, _⟩ := h; exact ⟨_, h1⟩; done) | (obtain ⟨n, h1⟩ := h; exact ⟨_, h1⟩; done) | (rcases h with h | ⟨a, n, c, h, _⟩ <;> exact ⟨_, h⟩)
theorem sees_leaf {T : Tab} {w : World} {F : Nat} {k : TK} (ho : oneK k = true) {u : TypeId} (hk : (te T u).map (fun e : TE => e.k) = some k) : ∀ (d : Nat) {t : TypeId} {cs : List Value} {o : Nat}, (o, u) ∈ leaves T d t → (∀ p ∈ leaves T d t, (te T p.2).isSome = true) → Sees T w (F + 1 + d) t cs → ∃ v, cs[o]? = some v ∧ Sees T w (F + 1) u [v]
  | 0, t, cs, o, hm, _, h => by
    simp [leaves] at hm
    obtain ⟨rfl, rfl⟩ := hm
    obtain ⟨v, rfl⟩ := sees_one hk ho h
    exact ⟨v, rfl, h⟩
  | d + 1, t, cs, o, hm, hi, h => by
    have h0 := sees_downs (d + 1) h
    have h' : Sees T w (F + 1 + d + 1) t cs := h
    unfold leaves at hm hi
    unfold Sees at h'
    cases hkt : (te T t).map (fun e : TE => e.k) with
    | none =>
      rw [hkt] at hm
      simp at hm
      obtain ⟨rfl, rfl⟩ := hm
      rw [hk] at hkt; cases hkt
    | some kt =>
      rw [hkt] at hm hi h'
      have base : (o, u) ∈ [(0, t)] → ∃ v, cs[o]? = some v ∧ Sees T w (F + 1) u [v] := fun hm => by
        simp at hm
        obtain ⟨rfl, rfl⟩ := hm
        obtain ⟨v, rfl⟩ := sees_one hk ho h0
        exact ⟨v, rfl, h0⟩
      cases kt with
      | struct fs =>
        simp only [List.mem_flatMap, List.mem_map] at hm
        obtain ⟨f, hf, ⟨o', u'⟩, hp, he⟩ := hm
        simp only [Prod.mk.injEq] at he
        obtain ⟨rfl, rfl⟩ := he
        cases hte : te T f.2 with
        | none =>
          exfalso
          have h1 : leaves T d f.2 = [(0, f.2)] := by cases d <;> simp [leaves, hte]
          have h2 := hi (f.1 + 0, f.2) (List.mem_flatMap.2 ⟨f, hf, by rw [h1]; exact List.mem_map.2 ⟨(0, f.2), by simp, rfl⟩⟩)
          rw [hte] at h2; cases h2
        | some e' =>
          obtain ⟨v, hv, hs⟩ := sees_leaf ho hk d hp (fun p hp' => hi (f.1 + p.1, p.2) (List.mem_flatMap.2 ⟨f, hf, List.mem_map.2 ⟨p, hp', rfl⟩⟩)) (h' f hf e' hte)
          refine ⟨v, ?_, hs⟩
          rw [List.getElem?_take] at hv
          split at hv
          · rwa [List.getElem?_drop] at hv
          · cases hv
      | _ => exact base hm
theorem leaf_int {T : Tab} {w : World} {F d : Nat} {k : IntKind} {u t : TypeId} {cs : List Value} (hk : (te T u).map (fun e : TE => e.k) = some (.int k)) (hi : (leaves T d t).all (fun p => (te T p.2).isSome) = true) (h : Sees T w (F + 1 + d) t cs) (o : Nat) (hm : (o, u) ∈ leaves T d t) : ∃ n, cs[o]? = some (.int k n) ∧ (Lit.int k n).wf = true := by
  obtain ⟨v, hv, hs⟩ := sees_leaf rfl hk d hm (List.all_eq_true.1 hi) h
  unfold Sees at hs
  rw [hk] at hs
  obtain ⟨n, h1, h2⟩ := hs
  cases h1
  exact ⟨n, hv, h2⟩
theorem leaf_bool {T : Tab} {w : World} {F d : Nat} {u t : TypeId} {cs : List Value} (hk : (te T u).map (fun e : TE => e.k) = some .bool) (hi : (leaves T d t).all (fun p => (te T p.2).isSome) = true) (h : Sees T w (F + 1 + d) t cs) (o : Nat) (hm : (o, u) ∈ leaves T d t) : ∃ b, cs[o]? = some (.bool b) := by
  obtain ⟨v, hv, hs⟩ := sees_leaf rfl hk d hm (List.all_eq_true.1 hi) h
  unfold Sees at hs
  rw [hk] at hs
  obtain ⟨n, h1⟩ := hs
  cases h1
  exact ⟨n, hv⟩
theorem leaf_string {T : Tab} {w : World} {F d : Nat} {u t : TypeId} {cs : List Value} (hk : (te T u).map (fun e : TE => e.k) = some .string) (hi : (leaves T d t).all (fun p => (te T p.2).isSome) = true) (h : Sees T w (F + 1 + d) t cs) (o : Nat) (hm : (o, u) ∈ leaves T d t) : ∃ s : ByteArray, cs[o]? = some (.string s) ∧ s.size ≤ maxLen := by
  obtain ⟨v, hv, hs⟩ := sees_leaf rfl hk d hm (List.all_eq_true.1 hi) h
  unfold Sees at hs
  rw [hk] at hs
  obtain ⟨n, h1, h2⟩ := hs
  cases h1
  exact ⟨n, hv, h2⟩
/-- what a slice reads as, if each of its elements is so and so -/
theorem list_of_sees {T : Tab} {w : World} {F : Nat} {t el : TypeId} {e : TE} {cs : List Value} {α : Type} [Inhabited α] {enc : α → List Value} {G : α → Prop} (hk : (te T t).map (fun e : TE => e.k) = some (.slice el)) (he : te T el = some e) (h0 : 0 < e.size)
    (hlen : ∀ x, (enc x).length = e.size) (hone : ∀ x, (enc x).all Value.oneCell' = true)
    (hdec : ∀ vs, vs.length = e.size → Sees T w F el vs → ∃ x, vs = enc x ∧ G x) (h : Sees T w (F + 1) t cs) :
    ∃ A n c, ∃ l : List α, cs = [.slice A n c] ∧ l.length = n ∧ n ≤ c ∧ c ≤ maxLen ∧ (Rd e.size A n (l.flatMap enc)).holds (hp w) ∧ ∀ x ∈ l, G x := by
  unfold Sees at h
  rw [hk] at h
  rcases h with h | ⟨a, n, c, h1, h2, h3, h4⟩
  · exact ⟨none, 0, 0, [], h, rfl, Nat.le_refl _, Nat.zero_le _, Rd.nil _ _ _, fun _ h => by cases h⟩
  · have key : ∀ i, i < n → ∃ x, w.cells? 0 (a.add (i * e.size)) e.size = some (enc x) ∧ G x := fun i hi => by
      obtain ⟨vs, hv, hs⟩ := h4 e he i hi
      obtain ⟨x, rfl, hx⟩ := hdec vs (World.cells?_some hv).2.1 hs
      exact ⟨x, hv, hx⟩
    obtain ⟨f, hf⟩ : ∃ f : Nat → α, ∀ i, i < n → w.cells? 0 (a.add (i * e.size)) e.size = some (enc (f i)) ∧ G (f i) := by
      refine ⟨fun i => if hi : i < n then Classical.choose (key i hi) else default, fun i hi => ?_⟩
      simp only [hi, dite_true]
      exact Classical.choose_spec (key i hi)
    let l := (List.range n).map f
    have hll : l.length = n := by simp [l]
    refine ⟨some a, n, c, l, h1, hll, h2, h3, ⟨by rw [flat_len hlen, hll], fun v hv => ?_, fun hn => ?_⟩, fun x hx => ?_⟩
    · obtain ⟨x, _, hx⟩ := List.mem_flatMap.1 hv
      exact List.all_eq_true.1 (hone x) v hx
    · have hc0 := (World.cells?_some (hf 0 hn).1).2.2 0 h0
      have ha0 : a.add 0 = a := by unfold Addr.add; simp
      simp only [Nat.zero_mul, ha0] at hc0
      obtain ⟨g, o, sp⟩ := a
      have hx0 : (enc (f 0))[0]? ≠ none := by simp [hlen]; omega
      rw [← hc0] at hx0
      unfold World.cell? at hx0
      cases hw : w.heap[g]? with
      | none => simp [hw] at hx0
      | some ob =>
        cases ob <;> simp [hw] at hx0
        rename_i cur el' fz
        cases sp with
        | some s => simp at hx0
        | none =>
          refine ⟨g, o, cur, el', fz, rfl, hw, ?_⟩
          have hcell : ∀ j, w.cell? ⟨g, j, none⟩ = cur[j]? := fun j => by unfold World.cell?; simp [hw]
          have hget : ∀ k, k < n * e.size → cur[o + k]? = (l.flatMap enc)[k]? := fun k hk' => by
            have hq : k / e.size < n := by rw [Nat.div_lt_iff_lt_mul h0]; exact hk'
            have hm : k % e.size < e.size := Nat.mod_lt _ h0
            have h5 := (World.cells?_some (hf (k / e.size) hq).1).2.2 (k % e.size) hm
            rw [addr_add, addr_add, hcell, Nat.add_assoc, Nat.div_add_mod'] at h5
            rw [h5]
            have h6 : (enc (f (k / e.size)))[k % e.size]? = ((l.flatMap enc).drop (k / e.size * e.size))[k % e.size]? := by
              rw [flat_drop hlen]
              have : l.drop (k / e.size) = f (k / e.size) :: l.drop (k / e.size + 1) := by
                rw [List.drop_eq_getElem_cons (by rw [hll]; exact hq)]
                simp [l]
              rw [this, List.flatMap_cons, List.getElem?_append_left (by rw [hlen]; exact hm)]
            rw [h6, List.getElem?_drop, Nat.div_add_mod']
          have hL : (l.flatMap enc).length = n * e.size := by rw [flat_len hlen, hll]
          apply List.ext_getElem?
          intro k
          rcases Nat.lt_or_ge k (n * e.size) with hk' | hk'
          · rw [List.getElem?_take, if_pos hk', List.getElem?_drop, Array.getElem?_toList, hget k hk']
          · rw [List.getElem?_eq_none (by rw [List.length_take]; omega), List.getElem?_eq_none (by omega)]
    · obtain ⟨i, hi, rfl⟩ := List.mem_map.1 hx
      exact (hf i (List.mem_range.1 hi)).2
theorem leaf_slice {T : Tab} {w : World} {F d : Nat} {u t el : TypeId} {e : TE} {cs : List Value} {α : Type} [Inhabited α] {enc : α → List Value} {G : α → Prop} (hk : (te T u).map (fun e : TE => e.k) = some (.slice el)) (he : te T el = some e) (h0 : 0 < e.size)
    (hlen : ∀ x, (enc x).length = e.size) (hone : ∀ x, (enc x).all Value.oneCell' = true)
    (hdec : ∀ vs, vs.length = e.size → Sees T w F el vs → ∃ x, vs = enc x ∧ G x) (hi : (leaves T d t).all (fun p => (te T p.2).isSome) = true) (h : Sees T w (F + 1 + d) t cs) (o : Nat) (hm : (o, u) ∈ leaves T d t) :
    ∃ A n c, ∃ l : List α, cs[o]? = some (.slice A n c) ∧ l.length = n ∧ n ≤ c ∧ c ≤ maxLen ∧ (Rd e.size A n (l.flatMap enc)).holds (hp w) ∧ ∀ x ∈ l, G x := by
  obtain ⟨v, hv, hs⟩ := sees_leaf rfl hk d hm (List.all_eq_true.1 hi) h
  obtain ⟨A, n, c, l, h1, h2⟩ := list_of_sees hk he h0 hlen hone hdec hs
  cases h1
  exact ⟨A, n, c, l, hv, h2⟩
/-- these stand there, from k on -/
def AllAt (vs : List Value) : Nat → List Value → Prop
  | _, [] => True
  | k, x :: ws => vs[k]? = some x ∧ AllAt vs (k + 1) ws
theorem drop_of_at (vs : List Value) : ∀ (ws : List Value) (k : Nat), AllAt vs k ws → vs.length = k + ws.length → vs.drop k = ws
  | [], k, _, hl => List.drop_eq_nil_of_le (by simp at hl; omega)
  | x :: ws, k, h, hl => by
    have hk : k < vs.length := by simp at hl; omega
    have h1 := h.1
    rw [List.getElem?_eq_getElem hk] at h1
    rw [List.drop_eq_getElem_cons hk, drop_of_at vs ws (k + 1) h.2 (by simp at hl; omega)]
    simp at h1
    rw [h1]
theorem eq_of_at {vs ws : List Value} (hl : vs.length = ws.length) (h : AllAt vs 0 ws) : vs = ws := drop_of_at vs ws 0 h (by omega)
theorem wf_u8 {n : Int} (h : (Lit.int .u8 n).wf = true) : 0 ≤ n ∧ n < 256 := by
  simp only [Lit.wf, Bool.and_eq_true, decide_eq_true_eq] at h
  have h3 : IntKind.u8.min = 0 := rfl
  have h4 : IntKind.u8.max = 255 := rfl
  omega
theorem wf_u16 {n : Int} (h : (Lit.int .u16 n).wf = true) : 0 ≤ n ∧ n < 65536 := by
  simp only [Lit.wf, Bool.and_eq_true, decide_eq_true_eq] at h
  have h3 : IntKind.u16.min = 0 := rfl
  have h4 : IntKind.u16.max = 65535 := rfl
  omega
theorem wf_i64 {n : Int} (h : (Lit.int .i64 n).wf = true) : -9223372036854775808 ≤ n ∧ n ≤ 9223372036854775807 := by
  simp only [Lit.wf, Bool.and_eq_true, decide_eq_true_eq] at h
  have h3 : IntKind.i64.min = -9223372036854775808 := rfl
  have h4 : IntKind.i64.max = 9223372036854775807 := rfl
  omega
end Go.Sy
