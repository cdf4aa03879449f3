/-
  What is proved: the texts that the claims share, part 5 of 5, each text behind the other. Conditions: none.
-/
import Derived.Carry
import Derived.ChangeSame
import Derived.JoinedOf
import Derived.JoinedAt
import Derived.ChangeArms
import Derived.WideKeyArr2
import Derived.Test.YtaiialpdlobioaaGreatDoorZr4
noncomputable section
namespace Go.Sy
open Go.RowKit Go.ChangeShapes Go.WideShapes
section
variable {H : Type} {enc : TypeId × Value → H} {P : Program}
/-- arguments of these types can be read, and carried -/
def typesOk (P : Program) (ts : List TypeId) : Bool := ts.all fun t => P.readableRec t && decide (t < P.types.size)
theorem trodAll_below (hl : laidOutB P = true) {W W' : World} (hb : Below W.heap.size W W') (sp : Nat → Bool) :
    ∀ {ts : List TypeId} {vs : List Value} {ds : List (DataW H)} {ps : List MemPlace}, typesOk P ts = true → DataW.TrodAll enc P W 0 (fun _ => true) true ts vs ds ps → (∀ x ∈ ps, x.block < W.heap.size) → (∀ x ∈ ps, sp x.block = true) →
      DataW.TrodAll enc P W' 0 sp true ts vs ds ps
  | [], [], [], _, _, h, _, _ => h
  | t :: ts, v :: vs, d :: ds, _, ht, ⟨p, q, h1, h2, e⟩, hlt, hsp => by
    subst e
    simp only [typesOk, List.all_cons, Bool.and_eq_true, decide_eq_true_eq] at ht
    exact ⟨p, q, WideElems.Trod_stays hl ht.1.1 ht.1.2 h1 (fun x hx => hb.same (hlt x (List.mem_append_left _ hx))) (fun x hx => hsp x (List.mem_append_left _ hx)),
      trodAll_below hl hb sp (ts := ts) (by simpa [typesOk] using ht.2) h2 (fun x hx => hlt x (List.mem_append_right _ hx)) (fun x hx => hsp x (List.mem_append_right _ hx)), rfl⟩
  | [], [], _ :: _, _, _, h, _, _ => h.elim
  | [], _ :: _, [], _, _, h, _, _ => h.elim
  | [], _ :: _, _ :: _, _, _, h, _, _ => h.elim
  | _ :: _, [], [], _, _, h, _, _ => h.elim
  | _ :: _, [], _ :: _, _, _, h, _, _ => h.elim
  | _ :: _, _ :: _, [], _, _, h, _, _ => h.elim
/-- behind a call that answers true, below which nothing has turned -/
theorem post_true {f : Func} {s : ChangeSpec} {apart fresh handsOn again : Bool} {W W' : World} {args : Array Value} {ds gs : List (DataW H)} {before : List MemPlace} {rt : TypeId}
    (hl : laidOutB P = true) (hts : typesOk P f.params.toList = true) (hvars : s.vars = []) (hrt : f.resultTypes = #[rt]) (hbool : P.underlying rt = some .bool)
    (hW : DataW.Whole enc P f.params.toList s.vars apart W args.toList ds gs before) (hb : Below W.heap.size W W')
    (hr : (s.fn H (ds ++ gs)).results = [.lit (.bool true)]) (ha : (s.fn H (ds ++ gs)).args = ds) (hv : (s.fn H (ds ++ gs)).vars = []) :
    s.post enc P f apart fresh handsOn again W args (.bool true) W' := by
  have hlt : ∀ p ∈ before, p.block < W.heap.size := fun p hp => hW.lt p hp
  have hold : ∀ p ∈ before, (fun b => decide (b < W.heap.size)) p.block = true := fun p hp => by simpa using hlt p hp
  have hW2 := hW
  obtain ⟨p, q, hA, hV, rfl, hz, hn⟩ := hW2
  rw [hvars] at hV
  obtain ⟨rfl, rfl⟩ := trodVars_none hV
  rw [List.append_nil] at hlt hold hz hn hW
  have hres : ∀ (b : Nat) (sp : Nat → Bool) (hd : Bool), DataW.TrodAll enc P W' b sp hd f.resultTypes.toList ((Value.bool true).resultList f.resultTypes.size) (s.fn H (ds ++ [])).results [] := fun b sp hd => by
    rw [hr, hrt]
    exact trodAll_mk1 (shut_bool hbool true)
  have hargs : ∀ sp : Nat → Bool, (∀ x ∈ p, sp x.block = true) → DataW.TrodAll enc P W' 0 sp true f.params.toList args.toList (s.fn H (ds ++ [])).args p := fun sp hsp => by
    rw [ha]
    exact trodAll_below hl hb sp hts hA hlt hsp
  have hvs : ∀ sp : Nat → Bool, DataW.TrodVars enc P W' sp s.vars (s.fn H (ds ++ [])).vars [] := fun sp => by rw [hv, hvars]; rfl
  have hok : ∀ (j : Nat) (t : TypeId) (r : Value), f.resultTypes[j]? = some t → ((Value.bool true).resultList f.resultTypes.size)[j]? = some r → Value.okWide P W' .any 0 t r := by
    intro j t r hj hr'
    rw [hrt] at hj hr'
    match j, hj, hr' with
    | 0, hj, hr' =>
      simp [Value.resultList] at hj hr'
      subst hj; subst hr'
      exact okWide_bool_mk hbool true
  refine ⟨ds, [], p, [], p, [], hW, hres _ _ _, hargs _ hold, hvs _, World.keptBut_mono (fun x hx => ⟨hx, ?_⟩) (hb.frame (· ∈ p)), fun _ => ?_⟩
  · exact .inr (.inl hx)
  · refine ⟨hok, _, _, ([] ++ p) ++ [], ⟨[] ++ p, [], trodAll_append (hargs _ (fun _ _ => rfl)) (hres _ _ _), hvs _, rfl, ?_, ?_⟩, ?_⟩
    · intro b off hp
      have hin : MemPlace.cell b off ∈ p := by simpa using hp
      rw [hb.frozen (hlt _ hin)]
      exact hz b off hin
    · intro h
      simpa using hn h
    · intro x hx _
      simpa using hx
end
end Go.Sy
namespace Go.Sy
open Go.RowKit Go.ChangeShapes Go.WideShapes
/-- what cells of a type are, and what lies behind their slices; so deep -/
def Sees (T : Tab) (w : World) : Nat → TypeId → List Value → Prop
  | 0, _, _ => True
  | F + 1, t, cs => match (te T t).map (fun e : TE => e.k) with
    | some (TK.int k) => ∃ n, cs = [.int k n] ∧ (Lit.int k n).wf = true
    | some TK.bool => ∃ b, cs = [.bool b]
    | some TK.string => ∃ s : ByteArray, cs = [.string s] ∧ s.size ≤ maxLen
    | some (TK.slice el) => cs = [.slice none 0 0] ∨ ∃ a n c, cs = [.slice (some a) n c] ∧ n ≤ c ∧ (c ≤ maxLen ∧ n ≤ reachBytes) ∧
        ∀ e', te T el = some e' → ∀ i, i < n → ∃ vs, w.cells? 0 (a.add (i * e'.size)) e'.size = some vs ∧ Sees T w F el vs
    | some (TK.struct fs) => ∀ f ∈ fs, ∀ e', te T f.2 = some e' → Sees T w F f.2 ((cs.drop f.1).take e'.size)
    | _ => True
theorem cellsOf_te {P : Program} {T : Tab} (hT : TabOk P T) {t : TypeId} {e : TE} (h : te T t = some e) : P.cellsOf t = e.size := by
  obtain ⟨i, u, z, h1, _, _, _, h2, _⟩ := te_spec hT h
  simp [Program.cellsOf, h1, h2]
/-- elements of slices are no less than a byte -/
def bytesOk (P : Program) (T : Tab) : Bool := T.all fun o => match o.map (fun e : TE => e.k) with
  | some (TK.slice el) => decide (1 ≤ P.bytesOf el)
  | _ => true
theorem bytesOk_at {P : Program} {T : Tab} (h : bytesOk P T = true) {t el : TypeId} (hk : (te T t).map (fun e : TE => e.k) = some (TK.slice el)) : 1 ≤ P.bytesOf el := by
  unfold te at hk
  cases ht : T[t]? with
  | none => rw [ht] at hk; cases hk
  | some o =>
    rw [ht] at hk
    have h1 := List.all_eq_true.1 h o (List.mem_of_getElem? ht)
    rw [show o.map (fun e : TE => e.k) = some (TK.slice el) from hk] at h1
    exact of_decide_eq_true h1
theorem weightsAll_get {H : Type} (P : Program) (e : TypeId) : ∀ (l : List (DataW H)) (i : Nat) (d : DataW H), l[i]? = some d → ∀ k ∈ d.weights P e, k ∈ DataW.weightsAll P e l
  | [], _, _, h, _, _ => by cases h
  | x :: l, 0, d, h, k, hk => by
    cases h
    rw [DataW.weightsAll]
    exact List.mem_append_left _ hk
  | x :: l, i + 1, d, h, k, hk => by
    rw [DataW.weightsAll]
    exact List.mem_append_right _ (weightsAll_get P e l i d h k hk)
theorem weightsEach_get {H : Type} (P : Program) : ∀ (ts : List TypeId) (l : List (DataW H)) (i : Nat) (t : TypeId) (d : DataW H), ts[i]? = some t → l[i]? = some d → ∀ k ∈ d.weights P t, k ∈ DataW.weightsEach P ts l
  | [], _, _, _, _, h, _, _, _ => by cases h
  | _ :: _, [], _, _, _, _, h, _, _ => by cases h
  | s :: ts, x :: l, 0, t, d, h, h2, k, hk => by
    cases h
    cases h2
    rw [DataW.weightsEach]
    exact List.mem_append_left _ hk
  | s :: ts, x :: l, i + 1, t, d, h, h2, k, hk => by
    rw [DataW.weightsEach]
    exact List.mem_append_right _ (weightsEach_get P ts l i t d h h2 k hk)
theorem sees_of_trod {H : Type} {enc : TypeId × Value → H} {P : Program} {T : Tab} (hT : TabOk P T) (hB : bytesOk P T = true) {w : World} {sp : Nat → Bool} {held : Bool} :
    ∀ (F fuel : Nat) (t : TypeId) (cs : List Value) (x : DataW H × List MemPlace), DataW.trod enc P w 0 sp held fuel t cs = some x → (∀ k ∈ x.1.weights P t, k ≤ reachBytes) → Sees T w F t cs
  | 0, _, _, _, _, _, _ => trivial
  | F + 1, fuel, t, cs, x, h, hw => by
    unfold Sees
    cases ht : te T t with
    | none => trivial
    | some e =>
      obtain ⟨i, u, z, hi, hu, hz, hk, hs, _⟩ := te_spec hT ht
      simp only [Option.map_some, hk]
      cases u with
      | int k =>
        obtain ⟨n, h1, _, h2⟩ := DataW.trod_int hu h
        exact ⟨n, h1, h2⟩
      | bool =>
        obtain ⟨b, h1, _⟩ := DataW.trod_bool hu h
        exact ⟨b, h1⟩
      | string =>
        obtain ⟨s, h1, _, h2⟩ := DataW.trod_string hu h
        exact ⟨s, h1, h2⟩
      | slice el =>
        rcases DataW.trod_slice hu h with ⟨h1, _⟩ | ⟨a, n, c, elems, rest, m, _, h1, hx, _, h2, h3, h4, h5, _, _⟩
        · exact .inl h1
        · have h1b : 1 ≤ P.bytesOf el := bytesOk_at hB (by rw [ht, Option.map_some, hk]; rfl)
          have hxw : x.1.weights P t = ((elems.map (·.1)).length + (rest.map (·.1)).length) * P.bytesOf el :: (DataW.weightsAll P el (elems.map (·.1)) ++ DataW.weightsAll P el (rest.map (·.1))) := by rw [hx, DataW.weights, hu]
          rw [hxw] at hw
          have hnb : n ≤ reachBytes := by
            have h7 := hw _ List.mem_cons_self
            have h8 := Nat.le_mul_of_pos_right ((elems.map (·.1)).length + (rest.map (·.1)).length) h1b
            rw [List.length_map] at h8
            rw [List.length_map] at h7
            omega
          refine .inr ⟨a, n, c, h1, h2, ⟨h3, hnb⟩, fun e' he' j hj => ?_⟩
          have h6 := h5 j hj
          rw [cellsOf_te hT he'] at h6
          have hlt : j < elems.length := by omega
          rw [List.getElem?_eq_getElem hlt] at h6
          cases hc : w.cells? 0 (a.add (j * e'.size)) e'.size with
          | none => rw [hc] at h6; cases h6
          | some vs =>
            rw [hc] at h6
            exact ⟨vs, rfl, sees_of_trod hT hB F m el vs _ h6 fun k hk' => hw k (List.mem_cons_of_mem _ (List.mem_append_left _ (weightsAll_get P el _ j elems[j].1 (by rw [List.getElem?_map, List.getElem?_eq_getElem hlt]; rfl) k hk')))⟩
      | struct fs =>
        obtain ⟨xs, n, _, hx, hlen, hxl, hf⟩ := DataW.trod_struct hu h
        have hxw : x.1.weights P t = DataW.weightsEach P (fs.toList.map (·.type)) (xs.map (·.1)) := by rw [hx, DataW.weights, hu]
        rw [hxw] at hw
        intro f hf' e' he'
        obtain ⟨g, hg, rfl⟩ := List.mem_map.1 hf'
        obtain ⟨j, hj⟩ := List.mem_iff_getElem?.1 hg
        have h6 := hf j g (by simpa using hj)
        rw [cellsOf_te hT he'] at h6
        have hlt : j < xs.length := by
          have := (List.getElem?_eq_some_iff.1 hj).1
          simp at this
          omega
        rw [List.getElem?_eq_getElem hlt] at h6
        exact sees_of_trod hT hB F n g.type _ _ h6 fun k hk' => hw k (weightsEach_get P _ _ j g.type xs[j].1 (by rw [List.getElem?_map, hj]; rfl) (by rw [List.getElem?_map, List.getElem?_eq_getElem hlt]; rfl) k hk')
      | _ => trivial
end Go.Sy
namespace Go.Sy
open Go.RowKit Go.ChangeShapes Go.WideShapes
/-- the leaves of a type: where, and of which type -/
def leaves (T : Tab) : Nat → TypeId → List (Nat × TypeId)
  | 0, t => [(0, t)]
  | d + 1, t => match (te T t).map (fun e : TE => e.k) with
    | some (TK.struct fs) => fs.flatMap fun f => (leaves T d f.2).map fun p => (f.1 + p.1, p.2)
    | _ => [(0, t)]
theorem sees_down {T : Tab} {w : World} : ∀ (F : Nat) {t : TypeId} {cs : List Value}, Sees T w (F + 1) t cs → Sees T w F t cs
  | 0, _, _, _ => trivial
  | F + 1, t, cs, h => by
    unfold Sees at h ⊢
    cases hk : (te T t).map (fun e : TE => e.k) with
    | none => trivial
    | some k =>
      rw [hk] at h
      cases k with
      | slice el =>
        rcases h with h | ⟨a, n, c, h1, h2, h3, h4⟩
        · exact .inl h
        · exact .inr ⟨a, n, c, h1, h2, h3, fun e' he' i hi => let ⟨vs, hv, hs⟩ := h4 e' he' i hi; ⟨vs, hv, sees_down F hs⟩⟩
      | struct fs => exact fun f hf e' he' => sees_down F (h f hf e' he')
      | _ => exact h
theorem sees_downs {T : Tab} {w : World} {F : Nat} {t : TypeId} {cs : List Value} : ∀ (d : Nat), Sees T w (F + d) t cs → Sees T w F t cs
  | 0, h => h
  | d + 1, h => sees_downs d (sees_down (F + d) h)
def oneK : TK → Bool
  | .int _ => true
  | .bool => true
  | .string => true
  | .slice _ => true
  | _ => false
theorem sees_one {T : Tab} {w : World} {F : Nat} {t : TypeId} {cs : List Value} {k : TK} (hk : (te T t).map (fun e : TE => e.k) = some k) (ho : oneK k = true) (h : Sees T w (F + 1) t cs) : ∃ v, cs = [v] := by
  unfold Sees at h
  rw [hk] at h
  cases k <;> first | (cases ho; done) | (obtain ⟨n, h1, _⟩ := h; exact ⟨_, h1⟩; done) | (obtain ⟨n, h1⟩ := h; exact ⟨_, h1⟩; done) | (rcases h with h | ⟨a, n, c, h, _⟩ <;> exact ⟨_, h⟩)
theorem sees_leaf {T : Tab} {w : World} {F : Nat} {k : TK} (ho : oneK k = true) {u : TypeId} (hk : (te T u).map (fun e : TE => e.k) = some k) : ∀ (d : Nat) {t : TypeId} {cs : List Value} {o : Nat}, (o, u) ∈ leaves T d t → (∀ p ∈ leaves T d t, (te T p.2).isSome = true) → Sees T w (F + 1 + d) t cs → ∃ v, cs[o]? = some v ∧ Sees T w (F + 1) u [v]
  | 0, t, cs, o, hm, _, h => by
    simp [leaves] at hm
    obtain ⟨rfl, rfl⟩ := hm
    obtain ⟨v, rfl⟩ := sees_one hk ho h
    exact ⟨v, rfl, h⟩
  | d + 1, t, cs, o, hm, hi, h => by
    have h0 := sees_downs (d + 1) h
    have h' : Sees T w (F + 1 + d + 1) t cs := h
    unfold leaves at hm hi
    unfold Sees at h'
    cases hkt : (te T t).map (fun e : TE => e.k) with
    | none =>
      rw [hkt] at hm
      simp at hm
      obtain ⟨rfl, rfl⟩ := hm
      rw [hk] at hkt; cases hkt
    | some kt =>
      rw [hkt] at hm hi h'
      have base : (o, u) ∈ [(0, t)] → ∃ v, cs[o]? = some v ∧ Sees T w (F + 1) u [v] := fun hm => by
        simp at hm
        obtain ⟨rfl, rfl⟩ := hm
        obtain ⟨v, rfl⟩ := sees_one hk ho h0
        exact ⟨v, rfl, h0⟩
      cases kt with
      | struct fs =>
        simp only [List.mem_flatMap, List.mem_map] at hm
        obtain ⟨f, hf, ⟨o', u'⟩, hp, he⟩ := hm
        simp only [Prod.mk.injEq] at he
        obtain ⟨rfl, rfl⟩ := he
        cases hte : te T f.2 with
        | none =>
          exfalso
          have h1 : leaves T d f.2 = [(0, f.2)] := by cases d <;> simp [leaves, hte]
          have h2 := hi (f.1 + 0, f.2) (List.mem_flatMap.2 ⟨f, hf, by rw [h1]; exact List.mem_map.2 ⟨(0, f.2), by simp, rfl⟩⟩)
          rw [hte] at h2; cases h2
        | some e' =>
          obtain ⟨v, hv, hs⟩ := sees_leaf ho hk d hp (fun p hp' => hi (f.1 + p.1, p.2) (List.mem_flatMap.2 ⟨f, hf, List.mem_map.2 ⟨p, hp', rfl⟩⟩)) (h' f hf e' hte)
          refine ⟨v, ?_, hs⟩
          rw [List.getElem?_take] at hv
          split at hv
          · rwa [List.getElem?_drop] at hv
          · cases hv
      | _ => exact base hm
theorem leaf_int {T : Tab} {w : World} {F d : Nat} {k : IntKind} {u t : TypeId} {cs : List Value} (hk : (te T u).map (fun e : TE => e.k) = some (.int k)) (hi : (leaves T d t).all (fun p => (te T p.2).isSome) = true) (h : Sees T w (F + 1 + d) t cs) (o : Nat) (hm : (o, u) ∈ leaves T d t) : ∃ n, cs[o]? = some (.int k n) ∧ (Lit.int k n).wf = true := by
  obtain ⟨v, hv, hs⟩ := sees_leaf rfl hk d hm (List.all_eq_true.1 hi) h
  unfold Sees at hs
  rw [hk] at hs
  obtain ⟨n, h1, h2⟩ := hs
  cases h1
  exact ⟨n, hv, h2⟩
/-- what a slice reads as, if each of its elements is so and so -/
theorem list_of_sees {T : Tab} {w : World} {F : Nat} {t el : TypeId} {e : TE} {cs : List Value} {α : Type} [Inhabited α] {enc : α → List Value} {G : α → Prop} (hk : (te T t).map (fun e : TE => e.k) = some (.slice el)) (he : te T el = some e) (h0 : 0 < e.size)
    (hlen : ∀ x, (enc x).length = e.size) (hone : ∀ x, (enc x).all Value.oneCell' = true)
    (hdec : ∀ vs, vs.length = e.size → Sees T w F el vs → ∃ x, vs = enc x ∧ G x) (h : Sees T w (F + 1) t cs) :
    ∃ A n c, ∃ l : List α, cs = [.slice A n c] ∧ l.length = n ∧ n ≤ c ∧ (c ≤ maxLen ∧ n ≤ reachBytes) ∧ (Rd e.size A n (l.flatMap enc)).holds (hp w) ∧ ∀ x ∈ l, G x := by
  unfold Sees at h
  rw [hk] at h
  rcases h with h | ⟨a, n, c, h1, h2, h3, h4⟩
  · exact ⟨none, 0, 0, [], h, rfl, Nat.le_refl _, ⟨Nat.zero_le _, Nat.zero_le _⟩, Rd.nil _ _ _, fun _ h => by cases h⟩
  · have key : ∀ i, i < n → ∃ x, w.cells? 0 (a.add (i * e.size)) e.size = some (enc x) ∧ G x := fun i hi => by
      obtain ⟨vs, hv, hs⟩ := h4 e he i hi
      obtain ⟨x, rfl, hx⟩ := hdec vs (World.cells?_some hv).2.1 hs
      exact ⟨x, hv, hx⟩
    obtain ⟨f, hf⟩ : ∃ f : Nat → α, ∀ i, i < n → w.cells? 0 (a.add (i * e.size)) e.size = some (enc (f i)) ∧ G (f i) := by
      refine ⟨fun i => if hi : i < n then Classical.choose (key i hi) else default, fun i hi => ?_⟩
      simp only [hi, dite_true]
      exact Classical.choose_spec (key i hi)
    let l := (List.range n).map f
    have hll : l.length = n := by simp [l]
    refine ⟨some a, n, c, l, h1, hll, h2, h3, ⟨by rw [flat_len hlen, hll], fun v hv => ?_, fun hn => ?_⟩, fun x hx => ?_⟩
    · obtain ⟨x, _, hx⟩ := List.mem_flatMap.1 hv
      exact List.all_eq_true.1 (hone x) v hx
    · have hc0 := (World.cells?_some (hf 0 hn).1).2.2 0 h0
      have ha0 : a.add 0 = a := by unfold Addr.add; simp
      simp only [Nat.zero_mul, ha0] at hc0
      obtain ⟨g, o, sp⟩ := a
      have hx0 : (enc (f 0))[0]? ≠ none := by simp [hlen]; omega
      rw [← hc0] at hx0
      unfold World.cell? at hx0
      cases hw : w.heap[g]? with
      | none => simp [hw] at hx0
      | some ob =>
        cases ob <;> simp [hw] at hx0
        rename_i cur el' fz
        cases sp with
        | some s => simp at hx0
        | none =>
          refine ⟨g, o, cur, el', fz, rfl, hw, ?_⟩
          have hcell : ∀ j, w.cell? ⟨g, j, none⟩ = cur[j]? := fun j => by unfold World.cell?; simp [hw]
          have hget : ∀ k, k < n * e.size → cur[o + k]? = (l.flatMap enc)[k]? := fun k hk' => by
            have hq : k / e.size < n := by rw [Nat.div_lt_iff_lt_mul h0]; exact hk'
            have hm : k % e.size < e.size := Nat.mod_lt _ h0
            have h5 := (World.cells?_some (hf (k / e.size) hq).1).2.2 (k % e.size) hm
            rw [addr_add, addr_add, hcell, Nat.add_assoc, Nat.div_add_mod'] at h5
            rw [h5]
            have h6 : (enc (f (k / e.size)))[k % e.size]? = ((l.flatMap enc).drop (k / e.size * e.size))[k % e.size]? := by
              rw [flat_drop hlen]
              have : l.drop (k / e.size) = f (k / e.size) :: l.drop (k / e.size + 1) := by
                rw [List.drop_eq_getElem_cons (by rw [hll]; exact hq)]
                simp [l]
              rw [this, List.flatMap_cons, List.getElem?_append_left (by rw [hlen]; exact hm)]
            rw [h6, List.getElem?_drop, Nat.div_add_mod']
          have hL : (l.flatMap enc).length = n * e.size := by rw [flat_len hlen, hll]
          apply List.ext_getElem?
          intro k
          rcases Nat.lt_or_ge k (n * e.size) with hk' | hk'
          · rw [List.getElem?_take, if_pos hk', List.getElem?_drop, Array.getElem?_toList, hget k hk']
          · rw [List.getElem?_eq_none (by rw [List.length_take]; omega), List.getElem?_eq_none (by omega)]
    · obtain ⟨i, hi, rfl⟩ := List.mem_map.1 hx
      exact (hf i (List.mem_range.1 hi)).2
theorem leaf_slice {T : Tab} {w : World} {F d : Nat} {u t el : TypeId} {e : TE} {cs : List Value} {α : Type} [Inhabited α] {enc : α → List Value} {G : α → Prop} (hk : (te T u).map (fun e : TE => e.k) = some (.slice el)) (he : te T el = some e) (h0 : 0 < e.size)
    (hlen : ∀ x, (enc x).length = e.size) (hone : ∀ x, (enc x).all Value.oneCell' = true)
    (hdec : ∀ vs, vs.length = e.size → Sees T w F el vs → ∃ x, vs = enc x ∧ G x) (hi : (leaves T d t).all (fun p => (te T p.2).isSome) = true) (h : Sees T w (F + 1 + d) t cs) (o : Nat) (hm : (o, u) ∈ leaves T d t) :
    ∃ A n c, ∃ l : List α, cs[o]? = some (.slice A n c) ∧ l.length = n ∧ n ≤ c ∧ (c ≤ maxLen ∧ n ≤ reachBytes) ∧ (Rd e.size A n (l.flatMap enc)).holds (hp w) ∧ ∀ x ∈ l, G x := by
  obtain ⟨v, hv, hs⟩ := sees_leaf rfl hk d hm (List.all_eq_true.1 hi) h
  obtain ⟨A, n, c, l, h1, h2⟩ := list_of_sees hk he h0 hlen hone hdec hs
  cases h1
  exact ⟨A, n, c, l, hv, h2⟩
/-- these stand there, from k on -/
def AllAt (vs : List Value) : Nat → List Value → Prop
  | _, [] => True
  | k, x :: ws => vs[k]? = some x ∧ AllAt vs (k + 1) ws
theorem drop_of_at (vs : List Value) : ∀ (ws : List Value) (k : Nat), AllAt vs k ws → vs.length = k + ws.length → vs.drop k = ws
  | [], k, _, hl => List.drop_eq_nil_of_le (by simp at hl; omega)
  | x :: ws, k, h, hl => by
    have hk : k < vs.length := by simp at hl; omega
    have h1 := h.1
    rw [List.getElem?_eq_getElem hk] at h1
    rw [List.drop_eq_getElem_cons hk, drop_of_at vs ws (k + 1) h.2 (by simp at hl; omega)]
    simp at h1
    rw [h1]
theorem eq_of_at {vs ws : List Value} (hl : vs.length = ws.length) (h : AllAt vs 0 ws) : vs = ws := drop_of_at vs ws 0 h (by omega)
end Go.Sy
namespace Go.Proofs.YtaiialpdlobioaaGreatDoor
open Go.Sy Go.RowKit Go.ChangeShapes Go.WideShapes
theorem Tryz.own : ownKnob Tryz.prog.godebug = none := by kernel_rfl
theorem Tryz.laidOut : laidOutB Tryz.prog = true := by kernel_rfl
end Go.Proofs.YtaiialpdlobioaaGreatDoor
