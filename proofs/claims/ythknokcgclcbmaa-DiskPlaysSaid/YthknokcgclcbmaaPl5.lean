/-
  What is proved: the texts of this claim, part 5 of 7, each text behind the other. Conditions: none.
-/
import Derived.Test.YthknokcgclcbmaaPl4
namespace Go.Sy
open Go.RowKit Go.ChangeShapes Go.WideShapes
/-- the leaves of a type: where, and of which type -/
def leaves (T : Tab) : Nat → TypeId → List (Nat × TypeId)
  | 0, t => [(0, t)]
  | d + 1, t => match (te T t).map (fun e : TE => e.k) with
    | some (TK.struct fs) => fs.flatMap fun f => (leaves T d f.2).map fun p => (f.1 + p.1, p.2)
    | _ => [(0, t)]
theorem sees_down {T : Tab} {w : World} : ∀ (F : Nat) {t : TypeId} {cs : List Value}, Sees T w (F + 1) t cs → Sees T w F t cs
  | 0, _, _, _ => trivial
  | F + 1, t, cs, h => by
    unfold Sees at h ⊢
    cases hk : (te T t).map (fun e : TE => e.k) with
    | none => trivial
    | some k =>
      rw [hk] at h
      cases k with
      | slice el =>
        rcases h with h | ⟨a, n, c, h1, h2, h3, h4⟩
        · exact .inl h
        · exact .inr ⟨a, n, c, h1, h2, h3, fun e' he' i hi => let ⟨vs, hv, hs⟩ := h4 e' he' i hi; ⟨vs, hv, sees_down F hs⟩⟩
      | struct fs => exact fun f hf e' he' => sees_down F (h f hf e' he')
      | _ => exact h
theorem sees_downs {T : Tab} {w : World} {F : Nat} {t : TypeId} {cs : List Value} : ∀ (d : Nat), Sees T w (F + d) t cs → Sees T w F t cs
  | 0, h => h
  | d + 1, h => sees_downs d (sees_down (F + d) h)
def oneK : TK → Bool
  | .int _ => true
  | .bool => true
  | .string => true
  | .slice _ => true
  | _ => false
theorem sees_one {T : Tab} {w : World} {F : Nat} {t : TypeId} {cs : List Value} {k : TK} (hk : (te T t).map (fun e : TE => e.k) = some k) (ho : oneK k = true) (h : Sees T w (F + 1) t cs) : ∃ v, cs = [v] := by
  unfold Sees at h
  rw [hk] at h
  cases k <;> first | (cases ho; done) | (obtain ⟨n, h1, _⟩ := h; exact ⟨_, h1⟩; done) | (obtain ⟨n, h1⟩ := h; exact ⟨_, h1⟩; done) | (rcases h with h | ⟨a, n, c, h, _⟩ <;> exact ⟨_, h⟩)
theorem sees_leaf {T : Tab} {w : World} {F : Nat} {k : TK} (ho : oneK k = true) {u : TypeId} (hk : (te T u).map (fun e : TE => e.k) = some k) : ∀ (d : Nat) {t : TypeId} {cs : List Value} {o : Nat}, (o, u) ∈ leaves T d t → (∀ p ∈ leaves T d t, (te T p.2).isSome = true) → Sees T w (F + 1 + d) t cs → ∃ v, cs[o]? = some v ∧ Sees T w (F + 1) u [v]
  | 0, t, cs, o, hm, _, h => by
    simp [leaves] at hm
    obtain ⟨rfl, rfl⟩ := hm
    obtain ⟨v, rfl⟩ := sees_one hk ho h
    exact ⟨v, rfl, h⟩
  | d + 1, t, cs, o, hm, hi, h => by
    have h0 := sees_downs (d + 1) h
    have h' : Sees T w (F + 1 + d + 1) t cs := h
    unfold leaves at hm hi
    unfold Sees at h'
    cases hkt : (te T t).map (fun e : TE => e.k) with
    | none =>
      rw [hkt] at hm
      simp at hm
      obtain ⟨rfl, rfl⟩ := hm
      rw [hk] at hkt; cases hkt
    | some kt =>
      rw [hkt] at hm hi h'
      have base : (o, u) ∈ [(0, t)] → ∃ v, cs[o]? = some v ∧ Sees T w (F + 1) u [v] := fun hm => by
        simp at hm
        obtain ⟨rfl, rfl⟩ := hm
        obtain ⟨v, rfl⟩ := sees_one hk ho h0
        exact ⟨v, rfl, h0⟩
      cases kt with
      | struct fs =>
        simp only [List.mem_flatMap, List.mem_map] at hm
        obtain ⟨f, hf, ⟨o', u'⟩, hp, he⟩ := hm
        simp only [Prod.mk.injEq] at he
        obtain ⟨rfl, rfl⟩ := he
        cases hte : te T f.2 with
        | none =>
          exfalso
          have h1 : leaves T d f.2 = [(0, f.2)] := by cases d <;> simp [leaves, hte]
          have h2 := hi (f.1 + 0, f.2) (List.mem_flatMap.2 ⟨f, hf, by rw [h1]; exact List.mem_map.2 ⟨(0, f.2), by simp, rfl⟩⟩)
          rw [hte] at h2; cases h2
        | some e' =>
          obtain ⟨v, hv, hs⟩ := sees_leaf ho hk d hp (fun p hp' => hi (f.1 + p.1, p.2) (List.mem_flatMap.2 ⟨f, hf, List.mem_map.2 ⟨p, hp', rfl⟩⟩)) (h' f hf e' hte)
          refine ⟨v, ?_, hs⟩
          rw [List.getElem?_take] at hv
          split at hv
          · rwa [List.getElem?_drop] at hv
          · cases hv
      | _ => exact base hm
theorem leaf_int {T : Tab} {w : World} {F d : Nat} {k : IntKind} {u t : TypeId} {cs : List Value} (hk : (te T u).map (fun e : TE => e.k) = some (.int k)) (hi : (leaves T d t).all (fun p => (te T p.2).isSome) = true) (h : Sees T w (F + 1 + d) t cs) (o : Nat) (hm : (o, u) ∈ leaves T d t) : ∃ n, cs[o]? = some (.int k n) ∧ (Lit.int k n).wf = true := by
  obtain ⟨v, hv, hs⟩ := sees_leaf rfl hk d hm (List.all_eq_true.1 hi) h
  unfold Sees at hs
  rw [hk] at hs
  obtain ⟨n, h1, h2⟩ := hs
  cases h1
  exact ⟨n, hv, h2⟩
theorem leaf_string {T : Tab} {w : World} {F d : Nat} {u t : TypeId} {cs : List Value} (hk : (te T u).map (fun e : TE => e.k) = some .string) (hi : (leaves T d t).all (fun p => (te T p.2).isSome) = true) (h : Sees T w (F + 1 + d) t cs) (o : Nat) (hm : (o, u) ∈ leaves T d t) : ∃ s : ByteArray, cs[o]? = some (.string s) ∧ s.size ≤ maxLen := by
  obtain ⟨v, hv, hs⟩ := sees_leaf rfl hk d hm (List.all_eq_true.1 hi) h
  unfold Sees at hs
  rw [hk] at hs
  obtain ⟨n, h1, h2⟩ := hs
  cases h1
  exact ⟨n, hv, h2⟩
/-- what a slice reads as, if each of its elements is so and so -/
theorem list_of_sees {T : Tab} {w : World} {F : Nat} {t el : TypeId} {e : TE} {cs : List Value} {α : Type} [Inhabited α] {enc : α → List Value} {G : α → Prop} (hk : (te T t).map (fun e : TE => e.k) = some (.slice el)) (he : te T el = some e) (h0 : 0 < e.size)
    (hlen : ∀ x, (enc x).length = e.size) (hone : ∀ x, (enc x).all Value.oneCell' = true)
    (hdec : ∀ vs, vs.length = e.size → Sees T w F el vs → ∃ x, vs = enc x ∧ G x) (h : Sees T w (F + 1) t cs) :
    ∃ A n c, ∃ l : List α, cs = [.slice A n c] ∧ l.length = n ∧ n ≤ c ∧ c ≤ maxLen ∧ (Rd e.size A n (l.flatMap enc)).holds (hp w) ∧ ∀ x ∈ l, G x := by
  unfold Sees at h
  rw [hk] at h
  rcases h with h | ⟨a, n, c, h1, h2, h3, h4⟩
  · exact ⟨none, 0, 0, [], h, rfl, Nat.le_refl _, Nat.zero_le _, Rd.nil _ _ _, fun _ h => by cases h⟩
  · have key : ∀ i, i < n → ∃ x, w.cells? 0 (a.add (i * e.size)) e.size = some (enc x) ∧ G x := fun i hi => by
      obtain ⟨vs, hv, hs⟩ := h4 e he i hi
      obtain ⟨x, rfl, hx⟩ := hdec vs (World.cells?_some hv).2.1 hs
      exact ⟨x, hv, hx⟩
    obtain ⟨f, hf⟩ : ∃ f : Nat → α, ∀ i, i < n → w.cells? 0 (a.add (i * e.size)) e.size = some (enc (f i)) ∧ G (f i) := by
      refine ⟨fun i => if hi : i < n then Classical.choose (key i hi) else default, fun i hi => ?_⟩
      simp only [hi, dite_true]
      exact Classical.choose_spec (key i hi)
    let l := (List.range n).map f
    have hll : l.length = n := by simp [l]
    refine ⟨some a, n, c, l, h1, hll, h2, h3, ⟨by rw [flat_len hlen, hll], fun v hv => ?_, fun hn => ?_⟩, fun x hx => ?_⟩
    · obtain ⟨x, _, hx⟩ := List.mem_flatMap.1 hv
      exact List.all_eq_true.1 (hone x) v hx
    · have hc0 := (World.cells?_some (hf 0 hn).1).2.2 0 h0
      have ha0 : a.add 0 = a := by unfold Addr.add; simp
      simp only [Nat.zero_mul, ha0] at hc0
      obtain ⟨g, o, sp⟩ := a
      have hx0 : (enc (f 0))[0]? ≠ none := by simp [hlen]; omega
      rw [← hc0] at hx0
      unfold World.cell? at hx0
      cases hw : w.heap[g]? with
      | none => simp [hw] at hx0
      | some ob =>
        cases ob <;> simp [hw] at hx0
        rename_i cur el' fz
        cases sp with
        | some s => simp at hx0
        | none =>
          refine ⟨g, o, cur, el', fz, rfl, hw, ?_⟩
          have hcell : ∀ j, w.cell? ⟨g, j, none⟩ = cur[j]? := fun j => by unfold World.cell?; simp [hw]
          have hget : ∀ k, k < n * e.size → cur[o + k]? = (l.flatMap enc)[k]? := fun k hk' => by
            have hq : k / e.size < n := by rw [Nat.div_lt_iff_lt_mul h0]; exact hk'
            have hm : k % e.size < e.size := Nat.mod_lt _ h0
            have h5 := (World.cells?_some (hf (k / e.size) hq).1).2.2 (k % e.size) hm
            rw [addr_add, addr_add, hcell, Nat.add_assoc, Nat.div_add_mod'] at h5
            rw [h5]
            have h6 : (enc (f (k / e.size)))[k % e.size]? = ((l.flatMap enc).drop (k / e.size * e.size))[k % e.size]? := by
              rw [flat_drop hlen]
              have : l.drop (k / e.size) = f (k / e.size) :: l.drop (k / e.size + 1) := by
                rw [List.drop_eq_getElem_cons (by rw [hll]; exact hq)]
                simp [l]
              rw [this, List.flatMap_cons, List.getElem?_append_left (by rw [hlen]; exact hm)]
            rw [h6, List.getElem?_drop, Nat.div_add_mod']
          have hL : (l.flatMap enc).length = n * e.size := by rw [flat_len hlen, hll]
          apply List.ext_getElem?
          intro k
          rcases Nat.lt_or_ge k (n * e.size) with hk' | hk'
          · rw [List.getElem?_take, if_pos hk', List.getElem?_drop, Array.getElem?_toList, hget k hk']
          · rw [List.getElem?_eq_none (by rw [List.length_take]; omega), List.getElem?_eq_none (by omega)]
    · obtain ⟨i, hi, rfl⟩ := List.mem_map.1 hx
      exact (hf i (List.mem_range.1 hi)).2
theorem leaf_slice {T : Tab} {w : World} {F d : Nat} {u t el : TypeId} {e : TE} {cs : List Value} {α : Type} [Inhabited α] {enc : α → List Value} {G : α → Prop} (hk : (te T u).map (fun e : TE => e.k) = some (.slice el)) (he : te T el = some e) (h0 : 0 < e.size)
    (hlen : ∀ x, (enc x).length = e.size) (hone : ∀ x, (enc x).all Value.oneCell' = true)
    (hdec : ∀ vs, vs.length = e.size → Sees T w F el vs → ∃ x, vs = enc x ∧ G x) (hi : (leaves T d t).all (fun p => (te T p.2).isSome) = true) (h : Sees T w (F + 1 + d) t cs) (o : Nat) (hm : (o, u) ∈ leaves T d t) :
    ∃ A n c, ∃ l : List α, cs[o]? = some (.slice A n c) ∧ l.length = n ∧ n ≤ c ∧ c ≤ maxLen ∧ (Rd e.size A n (l.flatMap enc)).holds (hp w) ∧ ∀ x ∈ l, G x := by
  obtain ⟨v, hv, hs⟩ := sees_leaf rfl hk d hm (List.all_eq_true.1 hi) h
  obtain ⟨A, n, c, l, h1, h2⟩ := list_of_sees hk he h0 hlen hone hdec hs
  cases h1
  exact ⟨A, n, c, l, hv, h2⟩
/-- these stand there, from k on -/
def AllAt (vs : List Value) : Nat → List Value → Prop
  | _, [] => True
  | k, x :: ws => vs[k]? = some x ∧ AllAt vs (k + 1) ws
theorem drop_of_at (vs : List Value) : ∀ (ws : List Value) (k : Nat), AllAt vs k ws → vs.length = k + ws.length → vs.drop k = ws
  | [], k, _, hl => List.drop_eq_nil_of_le (by simp at hl; omega)
  | x :: ws, k, h, hl => by
    have hk : k < vs.length := by simp at hl; omega
    have h1 := h.1
    rw [List.getElem?_eq_getElem hk] at h1
    rw [List.drop_eq_getElem_cons hk, drop_of_at vs ws (k + 1) h.2 (by simp at hl; omega)]
    simp at h1
    rw [h1]
theorem eq_of_at {vs ws : List Value} (hl : vs.length = ws.length) (h : AllAt vs 0 ws) : vs = ws := drop_of_at vs ws 0 h (by omega)
theorem wf_u8 {n : Int} (h : (Lit.int .u8 n).wf = true) : 0 ≤ n ∧ n < 256 := by
  simp only [Lit.wf, Bool.and_eq_true, decide_eq_true_eq] at h
  have h3 : IntKind.u8.min = 0 := rfl
  have h4 : IntKind.u8.max = 255 := rfl
  omega
theorem wf_i64 {n : Int} (h : (Lit.int .i64 n).wf = true) : -9223372036854775808 ≤ n ∧ n ≤ 9223372036854775807 := by
  simp only [Lit.wf, Bool.and_eq_true, decide_eq_true_eq] at h
  have h3 : IntKind.i64.min = -9223372036854775808 := rfl
  have h4 : IntKind.i64.max = 9223372036854775807 := rfl
  omega
end Go.Sy
namespace Go.Proofs.Ythknokcgclcbmaa
open Go.Sy
/-- an act -/
structure ActD where
  k : Int
  n : ByteArray
  o : ByteArray
  d : ByteArray
  z : Int
  K : List Int
  A : Option Addr
  c : Nat
instance : Inhabited ActD := ⟨⟨0, .empty, .empty, .empty, 0, [], none, 0⟩⟩
def encA (x : ActD) : List Value := [.int .u8 x.k, .string x.n, .string x.o, .string x.d, .int .i64 x.z, .slice x.A x.K.length x.c]
theorem encA_len (x : ActD) : (encA x).length = 6 := rfl
def ActD.rd (x : ActD) : Asn := Rd 1 x.A x.K.length (x.K.flatMap encN)
def Acts (l : List ActD) : Asn := ⟨fun h => ∀ x ∈ l, x.rd.holds h, fun e p x hx => x.rd.mono e (p x hx)⟩
/-- what an act comes to -/
def doesD (D : DK) (x : ActD) : DK × Int :=
  if x.k % 12 = 4 then syncD D x.n else if x.k % 12 = 5 then truncD D x.n x.z else if x.k % 12 = 6 then renD D x.n x.o else if x.k % 12 = 7 then remD D x.n else if x.k % 12 = 8 then crashD D x.K else if x.k % 12 = 9 ∨ x.k % 12 = 10 then startD D else if x.k % 12 = 11 then failD D x.z x.K else appD D x.n x.d
/-- an act that is not too great -/
structure fineA (x : ActD) : Prop where
  k : 0 ≤ x.k ∧ x.k < 256
  z : x.z ≤ 9223372036854775807
  n : x.n.size ≤ 1000
  o : x.o.size ≤ 1000
  d : x.d.size ≤ 5000
  K : x.K.length ≤ 100
theorem chg_starts (D : DK) (late : Bool) (L2 : List Fl) : (chg D late L2).1.starts = D.starts ∧ (chg D late L2).1.most = D.most := by
  unfold chg
  split
  · exact ⟨rfl, rfl⟩
  · split <;> exact ⟨rfl, rfl⟩
theorem does_starts (D : DK) (x : ActD) : D.starts ≤ (doesD D x).1.starts ∧ (doesD D x).1.starts ≤ D.starts + 1 ∧ (doesD D x).1.most = D.most := by
  have hc := chg_starts D
  unfold doesD syncD truncD renD remD crashD startD failD appD
  repeat' split
  all_goals first | (rw [(hc _ _).1]; exact ⟨by omega, by omega, (hc _ _).2⟩) | (refine ⟨?_, ?_, rfl⟩ <;> simp only <;> omega)
theorem does_ok {D : DK} (h : okD D) {x : ActD} (hx : fineA x) : okD (doesD D x).1 := by
  unfold doesD
  repeat' split
  · exact sync_ok h _
  · exact trunc_ok h _ _
  · exact ren_ok h _ _
  · exact rem_ok h _
  · exact crash_ok h _
  · exact start_ok h
  · exact fail_ok h _ hx.z _
  · exact app_ok h _ _
set_option maxRecDepth 100000 in
theorem doesT (p : Nat) (D : DK) (x : ActD) (hD : okD D) (hx : fineA x) (h0 : 0 ≤ D.starts) (h1 : D.starts ≤ 1000000000) :
    Triple Try.prog 13 [.pointer (some ⟨p, 0, none⟩), .agg #[.int .u8 x.k, .string x.n, .string x.o, .string x.d, .int .i64 x.z, .slice x.A x.K.length x.c]] [DiskM p D] [Rd 1 x.A x.K.length (x.K.flatMap encN)] Unit (fun _ => .int .i64 (doesD D x).2) (fun _ => True) (fun _ => [DiskM p (doesD D x).1]) := by
  have hk := hx.k
  have h12 : x.k.tmod 12 = x.k % 12 := Int.tmod_eq_emod_of_nonneg hk.1
  have T1 := syncM p D x.n hD
  have T2 := truncM p D x.n x.z hD
  have T3 := renM p D x.n x.o hD
  have T4 := remM p D x.n hD
  have T5 := crashM p D x.A x.K.length x.c x.K hD rfl
  have T6 := startM p D hD h0 h1
  have T7 := failM p D x.z x.A x.K.length x.c x.K hD rfl (Nat.le_trans hx.K (by decide))
  have T8 := appM p D x.n x.d hD (Nat.le_trans hx.d (by decide))
  refine triple_intro Try.tbs_ok Try.func13 rfl [.va (.pointer (some ⟨p, 0, none⟩)), .ag [.va (.int .u8 x.k), .va (.string x.n), .va (.string x.o), .va (.string x.d), .va (.int .i64 x.z), .va (.slice x.A x.K.length x.c)]] [.fact (DiskM p D)] ⟨trivial, by simp [SV.good, SV.goodL], trivial⟩ rfl (by simp []) ?_
  intro E
  rcases show x.k % 12 = 4 ∨ x.k % 12 = 5 ∨ x.k % 12 = 6 ∨ x.k % 12 = 7 ∨ x.k % 12 = 8 ∨ (x.k % 12 = 9 ∨ x.k % 12 = 10) ∨ x.k % 12 = 11 ∨ x.k % 12 < 4 by omega with h | h | h | h | h | h | h | h
  · have e : doesD D x = syncD D x.n := by unfold doesD; rw [if_pos h]
    rw [e]
    refine go Try.tbs_ok 1000 ?_
    refine ev_new fun b20 => ?_
    refine ev_if_yes (beq_iff_eq.2 (show x.k.tmod 12 = 4 from (by omega))) ?_
    refine go Try.tbs_ok 1000 ?_
    refine ev_callF (T1 ) [0] [] rfl rfl (by decide) rfl (by simp) (fun _ => (by repeat (first | exact trivial | refine ⟨rfl, ?_⟩))) (fun _ h21 => ?_)
    refine go Try.tbs_ok 1000 ?_
    refine ev_fin ⟨trivial, _, rfl, (()), rfl, (by trivial), Frm.sel [0] rfl (by decide)⟩
  · have e : doesD D x = truncD D x.n x.z := by unfold doesD; rw [if_neg (by omega), if_pos h]
    rw [e]
    refine go Try.tbs_ok 1000 ?_
    refine ev_new fun b20 => ?_
    refine ev_if_no (beq_eq_false_iff_ne.2 (show ¬x.k.tmod 12 = 4 from (by omega))) ?_
    refine go Try.tbs_ok 1000 ?_
    refine ev_if_yes (beq_iff_eq.2 (show x.k.tmod 12 = 5 from (by omega))) ?_
    refine go Try.tbs_ok 1000 ?_
    refine ev_callF (T2 ) [0] [] rfl rfl (by decide) rfl (by simp) (fun _ => (by repeat (first | exact trivial | refine ⟨rfl, ?_⟩))) (fun _ h21 => ?_)
    refine go Try.tbs_ok 1000 ?_
    refine ev_fin ⟨trivial, _, rfl, (()), rfl, (by trivial), Frm.sel [0] rfl (by decide)⟩
  · have e : doesD D x = renD D x.n x.o := by unfold doesD; rw [if_neg (by omega), if_neg (by omega), if_pos h]
    rw [e]
    refine go Try.tbs_ok 1000 ?_
    refine ev_new fun b20 => ?_
    refine ev_if_no (beq_eq_false_iff_ne.2 (show ¬x.k.tmod 12 = 4 from (by omega))) ?_
    refine go Try.tbs_ok 1000 ?_
    refine ev_if_no (beq_eq_false_iff_ne.2 (show ¬x.k.tmod 12 = 5 from (by omega))) ?_
    refine go Try.tbs_ok 1000 ?_
    refine ev_if_yes (beq_iff_eq.2 (show x.k.tmod 12 = 6 from (by omega))) ?_
    refine go Try.tbs_ok 1000 ?_
    refine ev_callF (T3 ) [0] [] rfl rfl (by decide) rfl (by simp) (fun _ => (by repeat (first | exact trivial | refine ⟨rfl, ?_⟩))) (fun _ h21 => ?_)
    refine go Try.tbs_ok 1000 ?_
    refine ev_fin ⟨trivial, _, rfl, (()), rfl, (by trivial), Frm.sel [0] rfl (by decide)⟩
  · have e : doesD D x = remD D x.n := by unfold doesD; rw [if_neg (by omega), if_neg (by omega), if_neg (by omega), if_pos h]
    rw [e]
    refine go Try.tbs_ok 1000 ?_
    refine ev_new fun b20 => ?_
    refine ev_if_no (beq_eq_false_iff_ne.2 (show ¬x.k.tmod 12 = 4 from (by omega))) ?_
    refine go Try.tbs_ok 1000 ?_
    refine ev_if_no (beq_eq_false_iff_ne.2 (show ¬x.k.tmod 12 = 5 from (by omega))) ?_
    refine go Try.tbs_ok 1000 ?_
    refine ev_if_no (beq_eq_false_iff_ne.2 (show ¬x.k.tmod 12 = 6 from (by omega))) ?_
    refine go Try.tbs_ok 1000 ?_
    refine ev_if_yes (beq_iff_eq.2 (show x.k.tmod 12 = 7 from (by omega))) ?_
    refine go Try.tbs_ok 1000 ?_
    refine ev_callF (T4 ) [0] [] rfl rfl (by decide) rfl (by simp) (fun _ => (by repeat (first | exact trivial | refine ⟨rfl, ?_⟩))) (fun _ h21 => ?_)
    refine go Try.tbs_ok 1000 ?_
    refine ev_fin ⟨trivial, _, rfl, (()), rfl, (by trivial), Frm.sel [0] rfl (by decide)⟩
  · have e : doesD D x = crashD D x.K := by unfold doesD; rw [if_neg (by omega), if_neg (by omega), if_neg (by omega), if_neg (by omega), if_pos h]
    rw [e]
    refine go Try.tbs_ok 1000 ?_
    refine ev_new fun b20 => ?_
    refine ev_if_no (beq_eq_false_iff_ne.2 (show ¬x.k.tmod 12 = 4 from (by omega))) ?_
    refine go Try.tbs_ok 1000 ?_
    refine ev_if_no (beq_eq_false_iff_ne.2 (show ¬x.k.tmod 12 = 5 from (by omega))) ?_
    refine go Try.tbs_ok 1000 ?_
    refine ev_if_no (beq_eq_false_iff_ne.2 (show ¬x.k.tmod 12 = 6 from (by omega))) ?_
    refine go Try.tbs_ok 1000 ?_
    refine ev_if_no (beq_eq_false_iff_ne.2 (show ¬x.k.tmod 12 = 7 from (by omega))) ?_
    refine go Try.tbs_ok 1000 ?_
    refine ev_if_yes (beq_iff_eq.2 (show x.k.tmod 12 = 8 from (by omega))) ?_
    refine go Try.tbs_ok 1000 ?_
    refine ev_callF (T5 ) [0] [.inl 0] rfl rfl (by decide) rfl (by simp) (fun _ => (by repeat (first | exact trivial | refine ⟨rfl, ?_⟩))) (fun _ h21 => ?_)
    refine go Try.tbs_ok 1000 ?_
    refine ev_fin ⟨trivial, _, rfl, (()), rfl, (by trivial), Frm.sel [0] rfl (by decide)⟩
  · have e : doesD D x = startD D := by unfold doesD; rw [if_neg (by omega), if_neg (by omega), if_neg (by omega), if_neg (by omega), if_neg (by omega), if_pos h]
    rw [e]
    refine go Try.tbs_ok 1000 ?_
    refine ev_new fun b20 => ?_
    refine ev_if_no (beq_eq_false_iff_ne.2 (show ¬x.k.tmod 12 = 4 from (by omega))) ?_
    refine go Try.tbs_ok 1000 ?_
    refine ev_if_no (beq_eq_false_iff_ne.2 (show ¬x.k.tmod 12 = 5 from (by omega))) ?_
    refine go Try.tbs_ok 1000 ?_
    refine ev_if_no (beq_eq_false_iff_ne.2 (show ¬x.k.tmod 12 = 6 from (by omega))) ?_
    refine go Try.tbs_ok 1000 ?_
    refine ev_if_no (beq_eq_false_iff_ne.2 (show ¬x.k.tmod 12 = 7 from (by omega))) ?_
    refine go Try.tbs_ok 1000 ?_
    refine ev_if_no (beq_eq_false_iff_ne.2 (show ¬x.k.tmod 12 = 8 from (by omega))) ?_
    refine go Try.tbs_ok 1000 ?_
    refine ev_if_eq (fun h21 => ?_) (fun h21 => ?_)
    refine go Try.tbs_ok 1000 ?_
    refine ev_if_yes (beq_iff_eq.2 (by with_reducible assumption)) ?_
    refine go Try.tbs_ok 1000 ?_
    refine ev_callF (T6 ) [0] [] rfl rfl (by decide) rfl (by simp) (fun _ => (by repeat (first | exact trivial | refine ⟨rfl, ?_⟩))) (fun _ h22 => ?_)
    refine go Try.tbs_ok 1000 ?_
    refine ev_fin ⟨trivial, _, rfl, (()), rfl, (by trivial), Frm.sel [0] rfl (by decide)⟩
    refine go Try.tbs_ok 1000 ?_
    refine ev_if_yes (beq_iff_eq.2 (show x.k.tmod 12 = 10 from (by omega))) ?_
    refine go Try.tbs_ok 1000 ?_
    refine ev_callF (T6 ) [0] [] rfl rfl (by decide) rfl (by simp) (fun _ => (by repeat (first | exact trivial | refine ⟨rfl, ?_⟩))) (fun _ h23 => ?_)
    refine go Try.tbs_ok 1000 ?_
    refine ev_fin ⟨trivial, _, rfl, (()), rfl, (by trivial), Frm.sel [0] rfl (by decide)⟩
  · have e : doesD D x = failD D x.z x.K := by unfold doesD; rw [if_neg (by omega), if_neg (by omega), if_neg (by omega), if_neg (by omega), if_neg (by omega), if_neg (by omega), if_pos h]
    rw [e]
    refine go Try.tbs_ok 1000 ?_
    refine ev_new fun b20 => ?_
    refine ev_if_no (beq_eq_false_iff_ne.2 (show ¬x.k.tmod 12 = 4 from (by omega))) ?_
    refine go Try.tbs_ok 1000 ?_
    refine ev_if_no (beq_eq_false_iff_ne.2 (show ¬x.k.tmod 12 = 5 from (by omega))) ?_
    refine go Try.tbs_ok 1000 ?_
    refine ev_if_no (beq_eq_false_iff_ne.2 (show ¬x.k.tmod 12 = 6 from (by omega))) ?_
    refine go Try.tbs_ok 1000 ?_
    refine ev_if_no (beq_eq_false_iff_ne.2 (show ¬x.k.tmod 12 = 7 from (by omega))) ?_
    refine go Try.tbs_ok 1000 ?_
    refine ev_if_no (beq_eq_false_iff_ne.2 (show ¬x.k.tmod 12 = 8 from (by omega))) ?_
    refine go Try.tbs_ok 1000 ?_
    refine ev_if_no (beq_eq_false_iff_ne.2 (show ¬x.k.tmod 12 = 9 from (by omega))) ?_
    refine go Try.tbs_ok 1000 ?_
    refine ev_if_no (beq_eq_false_iff_ne.2 (show ¬x.k.tmod 12 = 10 from (by omega))) ?_
    refine go Try.tbs_ok 1000 ?_
    refine ev_if_yes (beq_iff_eq.2 (show x.k.tmod 12 = 11 from (by omega))) ?_
    refine go Try.tbs_ok 1000 ?_
    refine ev_callF (T7 ) [0] [.inl 0] rfl rfl (by decide) rfl (by simp) (fun _ => (by repeat (first | exact trivial | refine ⟨rfl, ?_⟩))) (fun _ h21 => ?_)
    refine go Try.tbs_ok 1000 ?_
    refine ev_fin ⟨trivial, _, rfl, (()), rfl, (by trivial), Frm.sel [0] rfl (by decide)⟩
  · have e : doesD D x = appD D x.n x.d := by unfold doesD; rw [if_neg (by omega), if_neg (by omega), if_neg (by omega), if_neg (by omega), if_neg (by omega), if_neg (by omega), if_neg (by omega)]
    rw [e]
    refine go Try.tbs_ok 1000 ?_
    refine ev_new fun b20 => ?_
    refine ev_if_no (beq_eq_false_iff_ne.2 (show ¬x.k.tmod 12 = 4 from (by omega))) ?_
    refine go Try.tbs_ok 1000 ?_
    refine ev_if_no (beq_eq_false_iff_ne.2 (show ¬x.k.tmod 12 = 5 from (by omega))) ?_
    refine go Try.tbs_ok 1000 ?_
    refine ev_if_no (beq_eq_false_iff_ne.2 (show ¬x.k.tmod 12 = 6 from (by omega))) ?_
    refine go Try.tbs_ok 1000 ?_
    refine ev_if_no (beq_eq_false_iff_ne.2 (show ¬x.k.tmod 12 = 7 from (by omega))) ?_
    refine go Try.tbs_ok 1000 ?_
    refine ev_if_no (beq_eq_false_iff_ne.2 (show ¬x.k.tmod 12 = 8 from (by omega))) ?_
    refine go Try.tbs_ok 1000 ?_
    refine ev_if_no (beq_eq_false_iff_ne.2 (show ¬x.k.tmod 12 = 9 from (by omega))) ?_
    refine go Try.tbs_ok 1000 ?_
    refine ev_if_no (beq_eq_false_iff_ne.2 (show ¬x.k.tmod 12 = 10 from (by omega))) ?_
    refine go Try.tbs_ok 1000 ?_
    refine ev_if_no (beq_eq_false_iff_ne.2 (show ¬x.k.tmod 12 = 11 from (by omega))) ?_
    refine go Try.tbs_ok 1000 ?_
    refine ev_callF (T8 ) [0] [] rfl rfl (by decide) rfl (by simp) (fun _ => (by repeat (first | exact trivial | refine ⟨rfl, ?_⟩))) (fun _ h21 => ?_)
    refine go Try.tbs_ok 1000 ?_
    refine ev_fin ⟨trivial, _, rfl, (()), rfl, (by trivial), Frm.sel [0] rfl (by decide)⟩
set_option maxRecDepth 100000 in
theorem sameInts (A B : Option Addr) (L M : List Int) (m c n d : Nat) (hm : m = L.length) (hn : n = M.length) (h1 : m ≤ 1000000) :
    Triple Try.prog 19 [.slice A m c, .slice B n d] [] [Rd 1 A m (L.flatMap encN), Rd 1 B n (M.flatMap encN)] Unit (fun _ => .bool (decide (L = M))) (fun _ => True) (fun _ => []) := by
  refine triple_intro Try.tbs_ok Try.func19 rfl [.va (.slice A m c), .va (.slice B n d)] [] ⟨trivial, trivial, trivial⟩ rfl (by simp) ?_
  intro E
  refine go Try.tbs_ok 1000 ?_
  refine ev_if_ne (fun h0 => ?_) (fun h0 => ?_)
  refine go Try.tbs_ok 1000 ?_
  refine ev_fin ⟨trivial, _, rfl, (()), ?_, (by trivial), Frm.nil _⟩
  rotate_left
  refine go Try.tbs_ok 1000 ?_
  rotate_left
  · exact congrArg Value.bool (decide_eq_false (fun e => by rw [e] at hm; omega)).symm
  · have hmn : m = n := by omega
    refine ev_stop (go_loopR [4, 5, 11, 12, 13, 14, 15, 16, 17, 18, 19, 20, 21, 22, 23, 24, 25] (fun i => [(5, .va (.int .i64 (i : Nat)))]) (fun _ => []) (fun i => i ≤ m ∧ L.take i = M.take i) (fun i => m - i) (0 : Nat) ⟨Nat.zero_le _, rfl⟩ ⟨⟨by kernel_rfl, by kernel_rfl⟩, ⟨_, rfl⟩, ⟨_, rfl⟩, by kernel_rfl, by kernel_rfl⟩ (fun i h_ => ?_))
    obtain ⟨hi, hi2⟩ := h_
    refine go Try.tbs_ok 1000 ?_
    refine ev_if_lt (fun h20 => ?_) (fun h20 => ?_)
    refine go Try.tbs_ok 1000 ?_
    refine ev_stop (go_draw Try.tbs_ok true [] [(0,true),(1,true),(2,true),(3,true),(4,true),(5,true),(6,true),(7,true),(8,true)] rfl ?_)
    refine go Try.tbs_ok 1000 ?_
    refine ev_need ⟨⟨(by repeat (first | exact trivial | refine ⟨rfl, ?_⟩)), rfl⟩, by kernel_rfl⟩ ?_
    refine ev_stop (tk_indexE (sz := 1) Try.tbs_ok (.inl 0) (i) ⟨⟨(by repeat (first | exact trivial | refine ⟨rfl, ?_⟩)), rfl⟩, by kernel_rfl⟩ rfl rfl rfl rfl rfl rfl rfl (by omega) rfl (fun _ h => h) (fun g21 o23 e22 => ?_))
    subst e22
    refine go Try.tbs_ok 1000 ?_
    refine ev_need ⟨⟨(by repeat (first | exact trivial | refine ⟨rfl, ?_⟩)), rfl⟩, by kernel_rfl⟩ ?_
    have l24 : i < (L).length := (by omega)
    refine ev_stop (tk_loadE Try.tbs_ok (.inl 0) (i) 0 ⟨⟨(by repeat (first | exact trivial | refine ⟨rfl, ?_⟩)), rfl⟩, by kernel_rfl⟩ rfl rfl rfl rfl rfl (fun _ h => h) (by omega) (fun _ => rfl) (by omega) l24 (by decide) ?_)
    refine go Try.tbs_ok 1000 ?_
    refine ev_need ⟨⟨(by repeat (first | exact trivial | refine ⟨rfl, ?_⟩)), rfl⟩, by kernel_rfl⟩ ?_
    refine ev_stop (tk_indexE (sz := 1) Try.tbs_ok (.inl 1) (i) ⟨⟨(by repeat (first | exact trivial | refine ⟨rfl, ?_⟩)), rfl⟩, by kernel_rfl⟩ rfl rfl rfl rfl rfl rfl rfl (by omega) rfl (fun _ h => h) (fun g25 o27 e26 => ?_))
    subst e26
    refine go Try.tbs_ok 1000 ?_
    refine ev_need ⟨⟨(by repeat (first | exact trivial | refine ⟨rfl, ?_⟩)), rfl⟩, by kernel_rfl⟩ ?_
    have l28 : i < (M).length := (by omega)
    refine ev_stop (tk_loadE Try.tbs_ok (.inl 1) (i) 0 ⟨⟨(by repeat (first | exact trivial | refine ⟨rfl, ?_⟩)), rfl⟩, by kernel_rfl⟩ rfl rfl rfl rfl rfl (fun _ h => h) (by omega) (fun _ => rfl) (by omega) l28 (by decide) ?_)
    refine go Try.tbs_ok 1000 ?_
    refine ev_need ⟨⟨(by repeat (first | exact trivial | refine ⟨rfl, ?_⟩)), rfl⟩, by kernel_rfl⟩ ?_
    refine ev_if_ne (fun h29 => ?_) (fun h29 => ?_)
    refine go Try.tbs_ok 1000 ?_
    refine ev_fin ⟨trivial, _, rfl, (()), ?_, (by trivial), Frm.nil _⟩
    rotate_left
    refine go Try.tbs_ok 1000 ?_
    refine ev_wrapN (i + 1) (by constructor <;> omega) (by rfl) ?_
    refine ev_fin (round_next (i + 1) (?_ : i + 1 ≤ m ∧ List.take (i + 1) L = List.take (i + 1) M) (show m - (i + 1) < m - i from (by omega)) ⟨⟨by kernel_rfl, by kernel_rfl⟩, ⟨_, rfl⟩, ⟨_, rfl⟩, by kernel_rfl, by kernel_rfl⟩)
    rotate_left
    refine go Try.tbs_ok 1000 ?_
    refine ev_fin (go Try.tbs_ok 1000 ?_)
    refine ev_fin ⟨trivial, _, rfl, (()), ?_, (by trivial), Frm.nil _⟩
    rotate_left
    · exact congrArg Value.bool (decide_eq_false (fun e => by subst e; exact h29 rfl)).symm
    · refine ⟨by omega, ?_⟩
      rw [← List.take_append_getElem l24, ← List.take_append_getElem l28, hi2]
      rw [h29]
    · refine congrArg Value.bool (decide_eq_true ?_).symm
      rw [List.take_of_length_le (by omega), List.take_of_length_le (by omega)] at hi2
      exact hi2
set_option maxRecDepth 100000 in
theorem sameTexts (A B : Option Addr) (L M : List ByteArray) (m c n d : Nat) (hm : m = L.length) (hn : n = M.length) (h1 : m ≤ 1000000) :
    Triple Try.prog 14 [.slice A m c, .slice B n d] [] [Rd 1 A m (L.flatMap encS), Rd 1 B n (M.flatMap encS)] Unit (fun _ => .bool (decide (L = M))) (fun _ => True) (fun _ => []) := by
  refine triple_intro Try.tbs_ok Try.func14 rfl [.va (.slice A m c), .va (.slice B n d)] [] ⟨trivial, trivial, trivial⟩ rfl (by simp) ?_
  intro E
  refine go Try.tbs_ok 1000 ?_
  refine ev_if_ne (fun h0 => ?_) (fun h0 => ?_)
  refine go Try.tbs_ok 1000 ?_
  refine ev_fin ⟨trivial, _, rfl, (()), ?_, (by trivial), Frm.nil _⟩
  rotate_left
  refine go Try.tbs_ok 1000 ?_
  rotate_left
  · exact congrArg Value.bool (decide_eq_false (fun e => by rw [e] at hm; omega)).symm
  · have hmn : m = n := by omega
    refine ev_stop (go_loopR [4, 5, 11, 12, 13, 14, 15, 16, 17, 18, 19, 20, 21, 22, 23, 24, 25] (fun i => [(5, .va (.int .i64 (i : Nat)))]) (fun _ => []) (fun i => i ≤ m ∧ L.take i = M.take i) (fun i => m - i) (0 : Nat) ⟨Nat.zero_le _, rfl⟩ ⟨⟨by kernel_rfl, by kernel_rfl⟩, ⟨_, rfl⟩, ⟨_, rfl⟩, by kernel_rfl, by kernel_rfl⟩ (fun i h_ => ?_))
    obtain ⟨hi, hi2⟩ := h_
    refine go Try.tbs_ok 1000 ?_
    refine ev_if_lt (fun h20 => ?_) (fun h20 => ?_)
    refine go Try.tbs_ok 1000 ?_
    refine ev_stop (go_draw Try.tbs_ok true [] [(0,true),(1,true),(2,true),(3,true),(4,true),(5,true),(6,true),(7,true),(8,true)] rfl ?_)
    refine go Try.tbs_ok 1000 ?_
    refine ev_need ⟨⟨(by repeat (first | exact trivial | refine ⟨rfl, ?_⟩)), rfl⟩, by kernel_rfl⟩ ?_
    refine ev_stop (tk_indexE (sz := 1) Try.tbs_ok (.inl 0) (i) ⟨⟨(by repeat (first | exact trivial | refine ⟨rfl, ?_⟩)), rfl⟩, by kernel_rfl⟩ rfl rfl rfl rfl rfl rfl rfl (by omega) rfl (fun _ h => h) (fun g21 o23 e22 => ?_))
    subst e22
    refine go Try.tbs_ok 1000 ?_
    refine ev_need ⟨⟨(by repeat (first | exact trivial | refine ⟨rfl, ?_⟩)), rfl⟩, by kernel_rfl⟩ ?_
    have l24 : i < (L).length := (by omega)
    refine ev_stop (tk_loadE Try.tbs_ok (.inl 0) (i) 0 ⟨⟨(by repeat (first | exact trivial | refine ⟨rfl, ?_⟩)), rfl⟩, by kernel_rfl⟩ rfl rfl rfl rfl rfl (fun _ h => h) (by omega) (fun _ => rfl) (by omega) l24 (by decide) ?_)
    refine go Try.tbs_ok 1000 ?_
    refine ev_need ⟨⟨(by repeat (first | exact trivial | refine ⟨rfl, ?_⟩)), rfl⟩, by kernel_rfl⟩ ?_
    refine ev_stop (tk_indexE (sz := 1) Try.tbs_ok (.inl 1) (i) ⟨⟨(by repeat (first | exact trivial | refine ⟨rfl, ?_⟩)), rfl⟩, by kernel_rfl⟩ rfl rfl rfl rfl rfl rfl rfl (by omega) rfl (fun _ h => h) (fun g25 o27 e26 => ?_))
    subst e26
    refine go Try.tbs_ok 1000 ?_
    refine ev_need ⟨⟨(by repeat (first | exact trivial | refine ⟨rfl, ?_⟩)), rfl⟩, by kernel_rfl⟩ ?_
    have l28 : i < (M).length := (by omega)
    refine ev_stop (tk_loadE Try.tbs_ok (.inl 1) (i) 0 ⟨⟨(by repeat (first | exact trivial | refine ⟨rfl, ?_⟩)), rfl⟩, by kernel_rfl⟩ rfl rfl rfl rfl rfl (fun _ h => h) (by omega) (fun _ => rfl) (by omega) l28 (by decide) ?_)
    refine go Try.tbs_ok 1000 ?_
    refine ev_need ⟨⟨(by repeat (first | exact trivial | refine ⟨rfl, ?_⟩)), rfl⟩, by kernel_rfl⟩ ?_
    refine ev_if_nd (fun h29 => ?_) (fun h29 => ?_)
    refine go Try.tbs_ok 1000 ?_
    refine ev_fin ⟨trivial, _, rfl, (()), ?_, (by trivial), Frm.nil _⟩
    rotate_left
    refine go Try.tbs_ok 1000 ?_
    refine ev_wrapN (i + 1) (by constructor <;> omega) (by rfl) ?_
    refine ev_fin (round_next (i + 1) (?_ : i + 1 ≤ m ∧ List.take (i + 1) L = List.take (i + 1) M) (show m - (i + 1) < m - i from (by omega)) ⟨⟨by kernel_rfl, by kernel_rfl⟩, ⟨_, rfl⟩, ⟨_, rfl⟩, by kernel_rfl, by kernel_rfl⟩)
    rotate_left
    refine go Try.tbs_ok 1000 ?_
    refine ev_fin (go Try.tbs_ok 1000 ?_)
    refine ev_fin ⟨trivial, _, rfl, (()), ?_, (by trivial), Frm.nil _⟩
    rotate_left
    · exact congrArg Value.bool (decide_eq_false (fun e => by subst e; exact h29 rfl)).symm
    · refine ⟨by omega, ?_⟩
      rw [← List.take_append_getElem l24, ← List.take_append_getElem l28, hi2]
      rw [h29]
    · refine congrArg Value.bool (decide_eq_true ?_).symm
      rw [List.take_of_length_le (by omega), List.take_of_length_le (by omega)] at hi2
      exact hi2
end Go.Proofs.Ythknokcgclcbmaa
namespace Go.Proofs.Ythknokcgclcbmaa
open Go.Sy
theorem sameIntsL (A : Option Addr) (L : List Int) (m c b n : Nat) (vs : List Int) (hm : m = L.length) (hn : n = vs.length) (h1 : m ≤ 1000000) :
    Triple Try.prog 19 [.slice A m c, .slice (some ⟨b, 0, none⟩) n n] [] [Row 3 1 A m c (L.flatMap encN), Pt b 3 (vs.flatMap encN)] Unit (fun _ => .bool (decide (L = vs))) (fun _ => True) (fun _ => []) :=
  (sameInts A (some ⟨b, 0, none⟩) L vs m c n n hm hn h1).reads fun X hX => by
    simp only [List.mem_cons, List.not_mem_nil, or_false] at hX
    rcases hX with rfl | rfl
    · exact ⟨_, List.mem_cons_self, fun _ q => Row.rd q⟩
    · exact ⟨_, List.mem_cons_of_mem _ List.mem_cons_self, fun _ q => Pt.rd q (by rw [hn, flat_len (sz := 1) (fun _ => rfl)])⟩
theorem sameTextsL (A : Option Addr) (L : List ByteArray) (m c b n : Nat) (vs : List ByteArray) (hm : m = L.length) (hn : n = vs.length) (h1 : m ≤ 1000000) :
    Triple Try.prog 14 [.slice A m c, .slice (some ⟨b, 0, none⟩) n n] [] [Row 9 1 A m c (L.flatMap encS), Pt b 9 (vs.flatMap encS)] Unit (fun _ => .bool (decide (L = vs))) (fun _ => True) (fun _ => []) :=
  (sameTexts A (some ⟨b, 0, none⟩) L vs m c n n hm hn h1).reads fun X hX => by
    simp only [List.mem_cons, List.not_mem_nil, or_false] at hX
    rcases hX with rfl | rfl
    · exact ⟨_, List.mem_cons_self, fun _ q => Row.rd q⟩
    · exact ⟨_, List.mem_cons_of_mem _ List.mem_cons_self, fun _ q => Pt.rd q (by rw [hn, flat_len (sz := 1) (fun _ => rfl)])⟩
def wD0 : DK := ⟨10, 0, false, [], none, []⟩
theorem wO0 : okD wD0 := new_ok (by decide) (by decide)
def wD1 : DK := ⟨10, 0, false, [⟨⟨#[98]⟩, ⟨#[120, 121, 122]⟩, 0⟩], none, []⟩
theorem wE1 : appD wD0 ⟨#[98]⟩ ⟨#[120, 121, 122]⟩ = (wD1, 0) := by decide +kernel
theorem wO1 : okD wD1 := by
  have := app_ok wO0 ⟨#[98]⟩ ⟨#[120, 121, 122]⟩
  rwa [wE1] at this
theorem wT1 (p : Nat) : Triple Try.prog 34 [.pointer (some ⟨p, 0, none⟩), .string ⟨#[98]⟩, .string ⟨#[120, 121, 122]⟩] [DiskM p wD0] [] Unit (fun _ => .int .i64 0) (fun _ => True) (fun _ => [DiskM p wD1]) := by
  have := appM p wD0 ⟨#[98]⟩ ⟨#[120, 121, 122]⟩ wO0 (by decide)
  rwa [wE1] at this
def wD2 : DK := ⟨10, 0, false, [⟨⟨#[98]⟩, ⟨#[120, 121, 122]⟩, 3⟩], none, []⟩
theorem wE2 : syncD wD1 ⟨#[98]⟩ = (wD2, 0) := by decide +kernel
theorem wO2 : okD wD2 := by
  have := sync_ok wO1 ⟨#[98]⟩
  rwa [wE2] at this
theorem wT2 (p : Nat) : Triple Try.prog 40 [.pointer (some ⟨p, 0, none⟩), .string ⟨#[98]⟩] [DiskM p wD1] [] Unit (fun _ => .int .i64 0) (fun _ => True) (fun _ => [DiskM p wD2]) := by
  have := syncM p wD1 ⟨#[98]⟩ wO1
  rwa [wE2] at this
def wD3 : DK := ⟨10, 0, false, [⟨⟨#[98]⟩, ⟨#[120, 121, 122, 117, 118]⟩, 3⟩], none, []⟩
theorem wE3 : appD wD2 ⟨#[98]⟩ ⟨#[117, 118]⟩ = (wD3, 0) := by decide +kernel
theorem wO3 : okD wD3 := by
  have := app_ok wO2 ⟨#[98]⟩ ⟨#[117, 118]⟩
  rwa [wE3] at this
theorem wT3 (p : Nat) : Triple Try.prog 34 [.pointer (some ⟨p, 0, none⟩), .string ⟨#[98]⟩, .string ⟨#[117, 118]⟩] [DiskM p wD2] [] Unit (fun _ => .int .i64 0) (fun _ => True) (fun _ => [DiskM p wD3]) := by
  have := appM p wD2 ⟨#[98]⟩ ⟨#[117, 118]⟩ wO2 (by decide)
  rwa [wE3] at this
def wD4 : DK := ⟨10, 0, false, [⟨⟨#[97]⟩, ⟨#[49, 50, 51, 52, 53]⟩, 0⟩, ⟨⟨#[98]⟩, ⟨#[120, 121, 122, 117, 118]⟩, 3⟩], none, []⟩
theorem wE4 : appD wD3 ⟨#[97]⟩ ⟨#[49, 50, 51, 52, 53]⟩ = (wD4, 0) := by decide +kernel
theorem wO4 : okD wD4 := by
  have := app_ok wO3 ⟨#[97]⟩ ⟨#[49, 50, 51, 52, 53]⟩
  rwa [wE4] at this
theorem wT4 (p : Nat) : Triple Try.prog 34 [.pointer (some ⟨p, 0, none⟩), .string ⟨#[97]⟩, .string ⟨#[49, 50, 51, 52, 53]⟩] [DiskM p wD3] [] Unit (fun _ => .int .i64 0) (fun _ => True) (fun _ => [DiskM p wD4]) := by
  have := appM p wD3 ⟨#[97]⟩ ⟨#[49, 50, 51, 52, 53]⟩ wO3 (by decide)
  rwa [wE4] at this
def wD5 : DK := ⟨10, 0, false, [⟨⟨#[97]⟩, ⟨#[49, 50, 51, 52, 53]⟩, 0⟩, ⟨⟨#[98]⟩, ⟨#[120, 121, 122, 117, 118]⟩, 3⟩], none, []⟩
theorem wE5 : appD wD4 ⟨#[97]⟩ ⟨#[54]⟩ = (wD5, 40) := by decide +kernel
theorem wO5 : okD wD5 := by
  have := app_ok wO4 ⟨#[97]⟩ ⟨#[54]⟩
  rwa [wE5] at this
theorem wT5 (p : Nat) : Triple Try.prog 34 [.pointer (some ⟨p, 0, none⟩), .string ⟨#[97]⟩, .string ⟨#[54]⟩] [DiskM p wD4] [] Unit (fun _ => .int .i64 40) (fun _ => True) (fun _ => [DiskM p wD5]) := by
  have := appM p wD4 ⟨#[97]⟩ ⟨#[54]⟩ wO4 (by decide)
  rwa [wE5] at this
theorem wLeft (p : Nat) : Triple Try.prog 15 [.pointer (some ⟨p, 0, none⟩)] [DiskM p wD5] [] (Option Addr × Nat) (fun (C, e) => .slice C 2 e) (fun _ => True) (fun (C, e) => [DiskM p wD5, Row 3 1 C 2 e (([5, 2] : List Int).flatMap encN)]) := leftM p wD5 wO5
theorem wNames (p : Nat) : Triple Try.prog 12 [.pointer (some ⟨p, 0, none⟩)] [DiskM p wD5] [] (Option Addr × Nat) (fun (C, e) => .slice C 2 e) (fun _ => True) (fun (C, e) => [DiskM p wD5, Row 9 1 C 2 e (([⟨#[97]⟩, ⟨#[98]⟩] : List ByteArray).flatMap encS)]) := namesM p wD5 wO5
theorem wSame1 (A : Option Addr) (c b : Nat) : Triple Try.prog 19 [.slice A 2 c, .slice (some ⟨b, 0, none⟩) 2 2] [] [Row 3 1 A 2 c (([5, 2] : List Int).flatMap encN), Pt b 3 [.int .i64 5, .int .i64 2]] Unit (fun _ => .bool true) (fun _ => True) (fun _ => []) := sameIntsL A [5, 2] 2 c b 2 [5, 2] rfl rfl (by decide)
theorem wSame2 (A : Option Addr) (c b : Nat) : Triple Try.prog 14 [.slice A 2 c, .slice (some ⟨b, 0, none⟩) 2 2] [] [Row 9 1 A 2 c (([⟨#[97]⟩, ⟨#[98]⟩] : List ByteArray).flatMap encS), Pt b 9 [.string ⟨#[97]⟩, .string ⟨#[98]⟩]] Unit (fun _ => .bool true) (fun _ => True) (fun _ => []) := sameTextsL A [⟨#[97]⟩, ⟨#[98]⟩] 2 c b 2 [⟨#[97]⟩, ⟨#[98]⟩] rfl rfl (by decide)
def wD6 : DK := ⟨10, 0, true, [⟨⟨#[97]⟩, ⟨#[49, 50, 51]⟩, 3⟩, ⟨⟨#[98]⟩, ⟨#[120, 121, 122, 117]⟩, 4⟩], none, []⟩
theorem wE6 : crashD wD5 [3, 1] = (wD6, 0) := by decide +kernel
theorem wO6 : okD wD6 := by
  have := crash_ok wO5 [3, 1]
  rwa [wE6] at this
theorem wT6 (p : Nat) (b : Nat) : Triple Try.prog 30 [.pointer (some ⟨p, 0, none⟩), .slice (some ⟨b, 0, none⟩) 2 2] [DiskM p wD5] [Pt b 3 [.int .i64 3, .int .i64 1]] Unit (fun _ => .int .i64 0) (fun _ => True) (fun _ => [DiskM p wD6]) := by
  have := (crashM p wD5 (some ⟨b, 0, none⟩) 2 2 [3, 1] wO5 rfl).reads (N' := [Pt b 3 [.int .i64 3, .int .i64 1]]) (fun X hX => ⟨_, List.mem_cons_self, fun _ q => by rw [List.mem_singleton.1 hX]; exact Pt.rd q rfl⟩)
  rwa [wE6] at this
theorem wR1 (p : Nat) : Triple Try.prog 20 [.pointer (some ⟨p, 0, none⟩), .string ⟨#[98]⟩] [DiskM p wD6] [] Unit (fun _ => .tuple #[.string .empty, .int .i64 41]) (fun _ => True) (fun _ => [DiskM p wD6]) := by
  have := readM p wD6 ⟨#[98]⟩ wO6
  rwa [show readD wD6 ⟨#[98]⟩ = (.empty, 41) from by decide +kernel] at this
def wD7 : DK := ⟨10, 1, false, [⟨⟨#[97]⟩, ⟨#[49, 50, 51]⟩, 3⟩, ⟨⟨#[98]⟩, ⟨#[120, 121, 122, 117]⟩, 4⟩], none, []⟩
theorem wE7 : startD wD6  = (wD7, 0) := by decide +kernel
theorem wO7 : okD wD7 := by
  have := start_ok wO6
  rwa [wE7] at this
theorem wT7 (p : Nat) : Triple Try.prog 28 [.pointer (some ⟨p, 0, none⟩)] [DiskM p wD6] [] Unit (fun _ => .int .i64 0) (fun _ => True) (fun _ => [DiskM p wD7]) := by
  have := startM p wD6 wO6 (by decide) (by decide)
  rwa [wE7] at this
theorem wR2 (p : Nat) : Triple Try.prog 20 [.pointer (some ⟨p, 0, none⟩), .string ⟨#[98]⟩] [DiskM p wD7] [] Unit (fun _ => .tuple #[.string ⟨#[120, 121, 122, 117]⟩, .int .i64 0]) (fun _ => True) (fun _ => [DiskM p wD7]) := by
  have := readM p wD7 ⟨#[98]⟩ wO7
  rwa [show readD wD7 ⟨#[98]⟩ = (⟨#[120, 121, 122, 117]⟩, 0) from by decide +kernel] at this
def wD8 : DK := ⟨10, 1, false, [⟨⟨#[97]⟩, ⟨#[49, 50, 51]⟩, 3⟩, ⟨⟨#[98]⟩, ⟨#[120, 121, 122, 117]⟩, 4⟩], some 1, [0, 1]⟩
theorem wE8 : failD wD7 1 [0, 1] = (wD8, 0) := by decide +kernel
theorem wO8 : okD wD8 := by
  have := fail_ok wO7 1 (by decide) [0, 1]
  rwa [wE8] at this
theorem wT8 (p : Nat) (b : Nat) : Triple Try.prog 32 [.pointer (some ⟨p, 0, none⟩), .int .i64 1, .slice (some ⟨b, 0, none⟩) 2 2] [DiskM p wD7] [Pt b 3 [.int .i64 0, .int .i64 1]] Unit (fun _ => .int .i64 0) (fun _ => True) (fun _ => [DiskM p wD8]) := by
  have := (failM p wD7 1 (some ⟨b, 0, none⟩) 2 2 [0, 1] wO7 rfl (by decide)).reads (N' := [Pt b 3 [.int .i64 0, .int .i64 1]]) (fun X hX => ⟨_, List.mem_cons_self, fun _ q => by rw [List.mem_singleton.1 hX]; exact Pt.rd q rfl⟩)
  rwa [wE8] at this
def wD9 : DK := ⟨10, 1, false, [⟨⟨#[97]⟩, ⟨#[49, 50, 51]⟩, 3⟩, ⟨⟨#[98]⟩, ⟨#[120, 121, 122, 117, 113]⟩, 4⟩], some 0, [0, 1]⟩
theorem wE9 : appD wD8 ⟨#[98]⟩ ⟨#[113]⟩ = (wD9, 0) := by decide +kernel
theorem wO9 : okD wD9 := by
  have := app_ok wO8 ⟨#[98]⟩ ⟨#[113]⟩
  rwa [wE9] at this
theorem wT9 (p : Nat) : Triple Try.prog 34 [.pointer (some ⟨p, 0, none⟩), .string ⟨#[98]⟩, .string ⟨#[113]⟩] [DiskM p wD8] [] Unit (fun _ => .int .i64 0) (fun _ => True) (fun _ => [DiskM p wD9]) := by
  have := appM p wD8 ⟨#[98]⟩ ⟨#[113]⟩ wO8 (by decide)
  rwa [wE9] at this
def wD10 : DK := ⟨10, 1, true, [⟨⟨#[97]⟩, ⟨#[49, 50, 51]⟩, 3⟩, ⟨⟨#[98]⟩, ⟨#[120, 121, 122, 117, 113]⟩, 5⟩], none, [0, 1]⟩
theorem wE10 : appD wD9 ⟨#[98]⟩ ⟨#[114, 115]⟩ = (wD10, 41) := by decide +kernel
theorem wO10 : okD wD10 := by
  have := app_ok wO9 ⟨#[98]⟩ ⟨#[114, 115]⟩
  rwa [wE10] at this
theorem wT10 (p : Nat) : Triple Try.prog 34 [.pointer (some ⟨p, 0, none⟩), .string ⟨#[98]⟩, .string ⟨#[114, 115]⟩] [DiskM p wD9] [] Unit (fun _ => .int .i64 41) (fun _ => True) (fun _ => [DiskM p wD10]) := by
  have := appM p wD9 ⟨#[98]⟩ ⟨#[114, 115]⟩ wO9 (by decide)
  rwa [wE10] at this
def wD11 : DK := ⟨10, 2, false, [⟨⟨#[97]⟩, ⟨#[49, 50, 51]⟩, 3⟩, ⟨⟨#[98]⟩, ⟨#[120, 121, 122, 117, 113]⟩, 5⟩], none, [0, 1]⟩
theorem wE11 : startD wD10  = (wD11, 0) := by decide +kernel
theorem wO11 : okD wD11 := by
  have := start_ok wO10
  rwa [wE11] at this
theorem wT11 (p : Nat) : Triple Try.prog 28 [.pointer (some ⟨p, 0, none⟩)] [DiskM p wD10] [] Unit (fun _ => .int .i64 0) (fun _ => True) (fun _ => [DiskM p wD11]) := by
  have := startM p wD10 wO10 (by decide) (by decide)
  rwa [wE11] at this
theorem wR3 (p : Nat) : Triple Try.prog 20 [.pointer (some ⟨p, 0, none⟩), .string ⟨#[98]⟩] [DiskM p wD11] [] Unit (fun _ => .tuple #[.string ⟨#[120, 121, 122, 117, 113]⟩, .int .i64 0]) (fun _ => True) (fun _ => [DiskM p wD11]) := by
  have := readM p wD11 ⟨#[98]⟩ wO11
  rwa [show readD wD11 ⟨#[98]⟩ = (⟨#[120, 121, 122, 117, 113]⟩, 0) from by decide +kernel] at this
theorem wNew : Triple Try.prog 10 [.int .i64 10] [] [] Nat (fun p => .tuple #[.pointer (some ⟨p, 0, none⟩), .int .i64 0]) (fun _ => True) (fun p => [DiskM p wD0]) := newM 10 (by decide) (by decide)
theorem wStarts (p : Nat) : Triple Try.prog 26 [.pointer (some ⟨p, 0, none⟩)] [DiskM p wD11] [] Unit (fun _ => .int .i64 2) (fun _ => True) (fun _ => [DiskM p wD11]) := startsM p wD11 wO11
set_option maxHeartbeats 4000000 in
set_option maxRecDepth 100000 in
theorem works : Triple Try.prog 16 [] [] [] Unit (fun _ => .bool true) (fun _ => True) (fun _ => []) := by
  refine triple_intro Try.tbs_ok Try.func16 rfl [] [] trivial rfl (by simp) ?_
  intro E
  refine go Try.tbs_ok 1000 ?_
  refine ev_callF (wNew ) [] [] rfl rfl (by decide) rfl (by simp) (fun _ => (by repeat (first | exact trivial | refine ⟨rfl, ?_⟩))) (fun x0 h1 => ?_)
  refine go Try.tbs_ok 1000 ?_
  refine ev_if_no rfl ?_
  refine go Try.tbs_ok 1000 ?_
  refine ev_callF (wT1 (x0)) [0] [] rfl rfl (by decide) rfl (by simp) (fun _ => (by repeat (first | exact trivial | refine ⟨rfl, ?_⟩))) (fun _ h2 => ?_)
  refine go Try.tbs_ok 1000 ?_
  refine ev_callF (wT2 (x0)) [0] [] rfl rfl (by decide) rfl (by simp) (fun _ => (by repeat (first | exact trivial | refine ⟨rfl, ?_⟩))) (fun _ h3 => ?_)
  refine go Try.tbs_ok 1000 ?_
  refine ev_callF (wT3 (x0)) [0] [] rfl rfl (by decide) rfl (by simp) (fun _ => (by repeat (first | exact trivial | refine ⟨rfl, ?_⟩))) (fun _ h4 => ?_)
  refine go Try.tbs_ok 1000 ?_
  refine ev_callF (wT4 (x0)) [0] [] rfl rfl (by decide) rfl (by simp) (fun _ => (by repeat (first | exact trivial | refine ⟨rfl, ?_⟩))) (fun _ h5 => ?_)
  refine go Try.tbs_ok 1000 ?_
  refine ev_callF (wT5 (x0)) [0] [] rfl rfl (by decide) rfl (by simp) (fun _ => (by repeat (first | exact trivial | refine ⟨rfl, ?_⟩))) (fun _ h6 => ?_)
  refine go Try.tbs_ok 1000 ?_
  refine ev_if_no rfl ?_
  refine go Try.tbs_ok 1000 ?_
  refine ev_if_no rfl ?_
  refine go Try.tbs_ok 1000 ?_
  refine ev_if_no rfl ?_
  refine go Try.tbs_ok 1000 ?_
  refine ev_if_no rfl ?_
  refine go Try.tbs_ok 1000 ?_
  refine ev_if_no rfl ?_
  refine go Try.tbs_ok 1000 ?_
  refine ev_callF (wLeft (x0)) [0] [] rfl rfl (by decide) rfl (by simp) (fun _ => (by repeat (first | exact trivial | refine ⟨rfl, ?_⟩))) (fun ⟨x7, x8⟩ h9 => ?_)
  refine go Try.tbs_ok 1000 ?_
  refine ev_new fun b10 => ?_
  refine ev_callF (wSame1 (x7) (x8) (b10)) [] [.inr 1, .inr 2] rfl rfl (by decide) rfl (by simp) (fun _ => (by repeat (first | exact trivial | refine ⟨rfl, ?_⟩))) (fun _ h11 => ?_)
  refine go Try.tbs_ok 1000 ?_
  refine ev_if_no rfl ?_
  refine go Try.tbs_ok 1000 ?_
  refine ev_callF (wNames (x0)) [0] [] rfl rfl (by decide) rfl (by simp) (fun _ => (by repeat (first | exact trivial | refine ⟨rfl, ?_⟩))) (fun ⟨x12, x13⟩ h14 => ?_)
  refine go Try.tbs_ok 1000 ?_
  refine ev_new fun b15 => ?_
  refine ev_callF (wSame2 (x12) (x13) (b15)) [] [.inr 3, .inr 4] rfl rfl (by decide) rfl (by simp) (fun _ => (by repeat (first | exact trivial | refine ⟨rfl, ?_⟩))) (fun _ h16 => ?_)
  refine go Try.tbs_ok 1000 ?_
  refine ev_if_no rfl ?_
  refine go Try.tbs_ok 1000 ?_
  refine ev_new fun b17 => ?_
  refine ev_callF (wT6 (x0) (b17)) [0] [.inr 5] rfl rfl (by decide) rfl (by simp) (fun _ => (by repeat (first | exact trivial | refine ⟨rfl, ?_⟩))) (fun _ h18 => ?_)
  refine go Try.tbs_ok 1000 ?_
  refine ev_callF (wR1 (x0)) [0] [] rfl rfl (by decide) rfl (by simp) (fun _ => (by repeat (first | exact trivial | refine ⟨rfl, ?_⟩))) (fun _ h19 => ?_)
  refine go Try.tbs_ok 1000 ?_
  refine ev_callF (wT7 (x0)) [0] [] rfl rfl (by decide) rfl (by simp) (fun _ => (by repeat (first | exact trivial | refine ⟨rfl, ?_⟩))) (fun _ h20 => ?_)
  refine go Try.tbs_ok 1000 ?_
  refine ev_callF (wR2 (x0)) [0] [] rfl rfl (by decide) rfl (by simp) (fun _ => (by repeat (first | exact trivial | refine ⟨rfl, ?_⟩))) (fun _ h21 => ?_)
  refine go Try.tbs_ok 1000 ?_
  refine ev_new fun b22 => ?_
  refine ev_callF (wT8 (x0) (b22)) [0] [.inr 6] rfl rfl (by decide) rfl (by simp) (fun _ => (by repeat (first | exact trivial | refine ⟨rfl, ?_⟩))) (fun _ h23 => ?_)
  refine go Try.tbs_ok 1000 ?_
  refine ev_callF (wT9 (x0)) [0] [] rfl rfl (by decide) rfl (by simp) (fun _ => (by repeat (first | exact trivial | refine ⟨rfl, ?_⟩))) (fun _ h24 => ?_)
  refine go Try.tbs_ok 1000 ?_
  refine ev_callF (wT10 (x0)) [0] [] rfl rfl (by decide) rfl (by simp) (fun _ => (by repeat (first | exact trivial | refine ⟨rfl, ?_⟩))) (fun _ h25 => ?_)
  refine go Try.tbs_ok 1000 ?_
  refine ev_callF (wT11 (x0)) [0] [] rfl rfl (by decide) rfl (by simp) (fun _ => (by repeat (first | exact trivial | refine ⟨rfl, ?_⟩))) (fun _ h26 => ?_)
  refine go Try.tbs_ok 1000 ?_
  refine ev_callF (wR3 (x0)) [0] [] rfl rfl (by decide) rfl (by simp) (fun _ => (by repeat (first | exact trivial | refine ⟨rfl, ?_⟩))) (fun _ h27 => ?_)
  refine go Try.tbs_ok 1000 ?_
  refine ev_if_yes rfl ?_
  refine go Try.tbs_ok 1000 ?_
  refine ev_if_yes rfl ?_
  refine go Try.tbs_ok 1000 ?_
  refine ev_if_yes rfl ?_
  refine go Try.tbs_ok 1000 ?_
  refine ev_if_yes rfl ?_
  refine go Try.tbs_ok 1000 ?_
  refine ev_if_yes rfl ?_
  refine go Try.tbs_ok 1000 ?_
  refine ev_if_yes rfl ?_
  refine go Try.tbs_ok 1000 ?_
  refine ev_if_yes rfl ?_
  refine go Try.tbs_ok 1000 ?_
  refine ev_if_yes rfl ?_
  refine go Try.tbs_ok 1000 ?_
  refine ev_if_yes rfl ?_
  refine go Try.tbs_ok 1000 ?_
  refine ev_if_yes rfl ?_
  refine go Try.tbs_ok 1000 ?_
  refine ev_if_yes rfl ?_
  refine go Try.tbs_ok 1000 ?_
  refine ev_callF (wStarts (x0)) [0] [] rfl rfl (by decide) rfl (by simp) (fun _ => (by repeat (first | exact trivial | refine ⟨rfl, ?_⟩))) (fun _ h28 => ?_)
  refine go Try.tbs_ok 1000 ?_
  refine ev_fin ⟨trivial, _, rfl, (()), rfl, (by trivial), Frm.nil _⟩
end Go.Proofs.Ythknokcgclcbmaa
namespace Go.Proofs.Ythknokcgclcbmaa
open Go.Sy
/-- an act within bounds -/
def boundA (x : ActD) : Prop := x.n.size ≤ 1000 ∧ x.o.size ≤ 1000 ∧ x.d.size ≤ 5000 ∧ x.K.length ≤ 100
set_option maxRecDepth 100000 in
theorem greatT (A : Option Addr) (l : List ActD) (n c : Nat) (hn : n = l.length) (h1 : n ≤ 9223372036854775807) :
    Triple Try.prog 9 [.slice A n c] [] [Rd 6 A n (l.flatMap encA)] Bool (fun b => .bool b) (fun b => b = false → n ≤ 150 ∧ ∀ x ∈ l, boundA x) (fun _ => []) := by
  refine triple_intro Try.tbs_ok Try.func9 rfl [.va (.slice A n c)] [] ⟨trivial, trivial⟩ rfl (by simp) ?_
  intro E
  refine go Try.tbs_ok 1000 ?_
  refine ev_stop (go_loopR [2, 3, 4, 5, 6, 7, 8, 9, 10, 11, 12, 13, 14, 15, 16, 17, 18, 19, 20, 21, 22, 23, 24, 25, 26, 27, 28, 29, 30, 31, 32, 33, 34, 35, 36, 37, 38, 39, 40, 41, 42, 43, 44] (fun (i, s) => [(3, .va (.int .i64 (s : Nat))), (4, .va (.int .i64 (i : Nat)))]) (fun _ => []) (fun (i, s) => i ≤ n ∧ s ≤ 100000 ∧ ∀ x ∈ l.take i, boundA x) (fun (i, _) => n - i) ((0, 0) : Nat × Nat) ⟨Nat.zero_le _, Nat.zero_le _, by simp⟩ ⟨⟨by kernel_rfl, by kernel_rfl⟩, ⟨_, rfl⟩, ⟨_, rfl⟩, by kernel_rfl, by kernel_rfl⟩ (fun x_ h_ => ?_))
  obtain ⟨i, s⟩ := x_
  obtain ⟨hi, hs, h0⟩ := h_
  refine go Try.tbs_ok 1000 ?_
  refine ev_if_lt (fun h20 => ?_) (fun h20 => ?_)
  refine go Try.tbs_ok 1000 ?_
  refine ev_stop (go_indexE (sz := 6) Try.tbs_ok (.inl 0) (i) rfl rfl rfl rfl rfl rfl (by omega) rfl (fun _ h => h) (fun g21 o23 e22 => ?_))
  subst e22
  refine go Try.tbs_ok 1000 ?_
  have l24 : i < (l).length := (by omega)
  refine ev_stop (go_loadE Try.tbs_ok (.inl 0) (i) 0 rfl rfl rfl rfl (fun _ h => h) (by omega) (fun _ => rfl) (by omega) l24 (by decide) ?_)
  refine go Try.tbs_ok 1000 ?_
  refine ev_new fun b25 => ?_
  refine ev_if_lt (fun h26 => ?_) (fun h26 => ?_)
  refine go Try.tbs_ok 1000 ?_
  refine ev_fin ⟨trivial, _, rfl, (true), rfl, (by simp [*]), Frm.nil _⟩
  refine go Try.tbs_ok 1000 ?_
  refine ev_if_lt (fun h27 => ?_) (fun h27 => ?_)
  refine go Try.tbs_ok 1000 ?_
  refine ev_fin ⟨trivial, _, rfl, (true), rfl, (by simp [*]), Frm.nil _⟩
  refine go Try.tbs_ok 1000 ?_
  refine ev_if_lt (fun h28 => ?_) (fun h28 => ?_)
  refine go Try.tbs_ok 1000 ?_
  refine ev_fin ⟨trivial, _, rfl, (true), rfl, (by simp [*]), Frm.nil _⟩
  refine go Try.tbs_ok 1000 ?_
  refine ev_if_lt (fun h29 => ?_) (fun h29 => ?_)
  refine go Try.tbs_ok 1000 ?_
  refine ev_fin ⟨trivial, _, rfl, (true), rfl, (by simp [*]), Frm.nil _⟩
  refine go Try.tbs_ok 1000 ?_
  refine ev_wrapN (s + l[i].d.size) (by constructor <;> omega) (by rfl) ?_
  refine ev_if_lt (fun h30 => ?_) (fun h30 => ?_)
  refine go Try.tbs_ok 1000 ?_
  refine ev_fin ⟨trivial, _, rfl, (true), rfl, (by simp [*]), Frm.nil _⟩
  refine go Try.tbs_ok 1000 ?_
  refine ev_wrapN (i + 1) (by constructor <;> omega) (by rfl) ?_
  refine ev_fin (round_next ((i + 1, s + l[i].d.size)) (?_ : i + 1 ≤ n ∧ s + l[i].d.size ≤ 100000 ∧ ∀ (x : ActD), x ∈ List.take (i + 1) l → boundA x) (show n - (i + 1) < n - i from (by omega)) ⟨⟨by kernel_rfl, by kernel_rfl⟩, ⟨_, rfl⟩, ⟨_, rfl⟩, by kernel_rfl, by kernel_rfl⟩)
  rotate_left
  refine go Try.tbs_ok 1000 ?_
  refine ev_fin (go Try.tbs_ok 1000 ?_)
  refine ev_fin ⟨trivial, _, rfl, (decide ((↑n : Int) > 150)), rfl, ?_, Frm.nil _⟩
  rotate_left
  · refine ⟨by omega, by omega, fun x hx => ?_⟩
    rw [← List.take_append_getElem (show i < l.length by omega)] at hx
    rcases List.mem_append.1 hx with hx | hx
    · exact h0 x hx
    · rw [List.mem_singleton.1 hx]
      exact ⟨by omega, by omega, by omega, by omega⟩
  · intro h
    rw [decide_eq_false_iff_not] at h
    rw [List.take_of_length_le (by omega)] at h0
    exact ⟨by omega, h0⟩
theorem find_at {L : List Fl} (hs : riseF L) {i : Nat} (hi : i < L.length) : hasF L L[i].n = true ∧ posF L L[i].n = i := by
  have h1 : hasF L L[i].n = true := hasF_iff.2 ⟨_, List.getElem_mem hi, rfl⟩
  refine ⟨h1, ?_⟩
  obtain ⟨h2, h3⟩ := has_pos hs h1
  rcases Nat.lt_trichotomy (posF L L[i].n) i with h | h | h
  · exact absurd (List.pairwise_iff_getElem.1 hs _ _ h2 hi h) (by rw [h3]; exact ltS.irrefl _)
  · exact h
  · exact absurd (List.pairwise_iff_getElem.1 hs _ _ hi h2 h) (by rw [h3]; exact ltS.irrefl _)
structure fineD (m : Int) (k : Nat) (D : DK) : Prop where
  good : okD D
  most : D.most = m
  lo : 0 ≤ D.starts
  hi : D.starts ≤ k
end Go.Proofs.Ythknokcgclcbmaa
namespace Go.Proofs.Ythknokcgclcbmaa
open Go.Sy
theorem sameTextsR (A B : Option Addr) (L M : List ByteArray) (m c n d : Nat) (hm : m = L.length) (hn : n = M.length) (h1 : m ≤ 1000000) :
    Triple Try.prog 14 [.slice A m c, .slice B n d] [] [Row 9 1 A m c (L.flatMap encS), Row 9 1 B n d (M.flatMap encS)] Unit (fun _ => .bool (decide (L = M))) (fun _ => True) (fun _ => []) :=
  (sameTexts A B L M m c n d hm hn h1).reads fun X hX => by
    simp only [List.mem_cons, List.not_mem_nil, or_false] at hX
    rcases hX with rfl | rfl
    · exact ⟨_, List.mem_cons_self, fun _ q => Row.rd q⟩
    · exact ⟨_, List.mem_cons_of_mem _ List.mem_cons_self, fun _ q => Row.rd q⟩
theorem sameIntsR (A B : Option Addr) (L M : List Int) (m c n d : Nat) (hm : m = L.length) (hn : n = M.length) (h1 : m ≤ 1000000) :
    Triple Try.prog 19 [.slice A m c, .slice B n d] [] [Row 3 1 A m c (L.flatMap encN), Row 3 1 B n d (M.flatMap encN)] Unit (fun _ => .bool (decide (L = M))) (fun _ => True) (fun _ => []) :=
  (sameInts A B L M m c n d hm hn h1).reads fun X hX => by
    simp only [List.mem_cons, List.not_mem_nil, or_false] at hX
    rcases hX with rfl | rfl
    · exact ⟨_, List.mem_cons_self, fun _ q => Row.rd q⟩
    · exact ⟨_, List.mem_cons_of_mem _ List.mem_cons_self, fun _ q => Row.rd q⟩
/-- an act, as it is handed in -/
structure inA (x : ActD) : Prop where
  k : 0 ≤ x.k ∧ x.k < 256
  z : x.z ≤ 9223372036854775807
theorem fineA.of {x : ActD} (h : inA x) (b : boundA x) : fineA x := ⟨h.k, h.z, b.1, b.2.1, b.2.2.1, b.2.2.2⟩
end Go.Proofs.Ythknokcgclcbmaa
namespace Go.Proofs.Ythknokcgclcbmaa
open Go.Sy
/-! a file that is renamed -/
theorem name_at {L : List Fl} (hs : riseF L) {i j : Nat} (hi : i < L.length) (hj : j < L.length) (e : L[i].n = L[j].n) : i = j := by
  have h1 := (find_at hs hi).2
  have h2 := (find_at hs hj).2
  rw [e] at h1
  omega
theorem erase_mem {L : List Fl} (hs : riseF L) {i : Nat} (hi : i < L.length) {f : Fl} (h : f ∈ L.eraseIdx i) : f ∈ L ∧ f.n ≠ L[i].n := by
  refine ⟨(List.eraseIdx_sublist _ _).subset h, fun e => ?_⟩
  obtain ⟨j, hj, h2, rfl⟩ := List.mem_eraseIdx_iff_getElem.1 h
  exact h2 (name_at hs hj hi e)
theorem renF_eq {L : List Fl} {x y : ByteArray} (hi : posF L x < L.length) : renF L x y = putFl (L.eraseIdx (posF L x)) ⟨y, L[posF L x].d, L[posF L x].s⟩ := by
  unfold renF
  rw [List.getElem?_eq_getElem hi]
end Go.Proofs.Ythknokcgclcbmaa
namespace Go.Proofs.Ythknokcgclcbmaa
open Go.Sy
/-- where a file of that name is; -1: nowhere -/
def ixF (L : List Fl) (x : ByteArray) : Int := if hasF L x then (posF L x : Nat) else -1
theorem ixF_at {L : List Fl} (hs : riseF L) {x : ByteArray} {i : Nat} (hi : i < L.length) (e : L[i].n = x) : ixF L x = (i : Nat) := by
  subst e
  obtain ⟨h1, h2⟩ := find_at hs hi
  unfold ixF
  rw [if_pos h1, h2]
theorem ixF_no {L : List Fl} {x : ByteArray} (h : ∀ f ∈ L, f.n ≠ x) : ixF L x = -1 := by
  unfold ixF
  rw [if_neg (by rw [hasF_no.2 h]; decide)]
set_option maxRecDepth 100000 in
theorem rFind (r : Nat) (m s : Int) (dn : Bool) (A : Option Addr) (n c : Nat) (st : Bool) (lf : Int) (B : Option Addr) (k d : Nat) (L : List Fl) (hn : n = L.length) (h1 : n ≤ 1000) (x : ByteArray) (hs : riseF L) : Triple Try.prog 76 [.pointer (some ⟨r, 0, none⟩), .string x] [Pt r 49 [.int .i64 m, .int .i64 s, .bool dn, .slice A n c, .bool st, .int .i64 lf, .slice B k d], Row 82 3 A n c (L.flatMap encF)] [] Unit (fun _ => .int .i64 (ixF L x)) (fun _ => True) (fun _ => [Pt r 49 [.int .i64 m, .int .i64 s, .bool dn, .slice A n c, .bool st, .int .i64 lf, .slice B k d], Row 82 3 A n c (L.flatMap encF)]) := by
  refine triple_intro Try.tbs_ok Try.func76 rfl [.pt 0 r 0, .va (.string x)] [.box r 49 [.va (.int .i64 m), .va (.int .i64 s), .va (.bool dn), .va (.slice A n c), .va (.bool st), .va (.int .i64 lf), .va (.slice B k d)], .fact (Row 82 3 A n c (L.flatMap encF))] ⟨rfl, trivial, trivial⟩ rfl (by simp [SV.good, SV.goodL]) ?_
  intro E
  refine go Try.tbs_ok 1000 ?_
  refine ev_stop (go_loopR [4, 5, 6, 7, 8, 9, 10, 11, 12, 13, 14, 15, 16, 17, 18, 19, 20, 21, 22, 23, 24, 25] (fun i => [(5, .va (.int .i64 (i : Nat)))]) (fun _ => []) (fun i => i ≤ n ∧ ∀ f ∈ L.take i, f.n ≠ x) (fun i => n - i) (0 : Nat) ⟨Nat.zero_le _, by simp⟩ ⟨⟨by kernel_rfl, by kernel_rfl⟩, ⟨_, rfl⟩, ⟨_, rfl⟩, by kernel_rfl, by kernel_rfl⟩ (fun i h_ => ?_))
  obtain ⟨hi, h0⟩ := h_
  refine go Try.tbs_ok 1000 ?_
  refine ev_if_lt (fun h20 => ?_) (fun h20 => ?_)
  refine go Try.tbs_ok 1000 ?_
  refine ev_stop (go_index0 (sz := 3) Try.tbs_ok (.inr 1) (i) rfl rfl rfl rfl rfl rfl (by omega) rfl Row.at0 (fun g21 e22 => ?_))
  subst e22
  refine go Try.tbs_ok 1000 ?_
  have l23 : i < (L).length := (by omega)
  refine ev_stop (go_loadE Try.tbs_ok (.inr 1) (i) 0 rfl rfl rfl rfl (fun _ h => Row.rd h) (by omega) (fun _ => rfl) (by omega) l23 (by decide) ?_)
  refine go Try.tbs_ok 1000 ?_
  refine ev_if_lt (fun h24 => ?_) (fun h24 => ?_)
  refine go Try.tbs_ok 1000 ?_
  refine ev_fin ⟨trivial, _, rfl, (()), ?_, (by trivial), Frm.sel [0, 1] rfl (by decide)⟩
  rotate_left
  refine go Try.tbs_ok 1000 ?_
  refine ev_wrapN (i + 1) (by constructor <;> omega) (by rfl) ?_
  refine ev_fin (round_next (i + 1) (?_ : i + 1 ≤ n ∧ ∀ (f : Fl), f ∈ List.take (i + 1) L → f.n ≠ x) (show n - (i + 1) < n - i from (by omega)) ⟨⟨by kernel_rfl, by kernel_rfl⟩, ⟨_, rfl⟩, ⟨_, rfl⟩, by kernel_rfl, by kernel_rfl⟩)
  rotate_left
  refine go Try.tbs_ok 1000 ?_
  refine ev_fin (go Try.tbs_ok 1000 ?_)
  refine ev_fin ⟨trivial, _, rfl, (()), ?_, (by trivial), Frm.sel [0, 1] rfl (by decide)⟩
  rotate_left
  · rw [ixF_at hs (by omega) h24]
    rfl
  · refine ⟨by omega, fun f hf => ?_⟩
    rw [← List.take_append_getElem (show i < L.length by omega)] at hf
    rcases List.mem_append.1 hf with hf | hf
    · exact h0 f hf
    · rw [List.mem_singleton.1 hf]
      exact h24
  · rw [List.take_of_length_le (by omega)] at h0
    rw [ixF_no h0]
    rfl
theorem erase_step {L : List Fl} {i kk : Nat} (hi : i < L.length) (h : i ≠ kk) : (L.take (i + 1)).eraseIdx kk = (L.take i).eraseIdx kk ++ [L[i]] := by
  rw [← List.take_append_getElem hi]
  rcases Nat.lt_or_ge kk i with h1 | h1
  · rw [List.eraseIdx_append_of_lt_length (by rw [List.length_take]; omega)]
  · rw [List.eraseIdx_append_of_length_le (by rw [List.length_take]; omega), List.eraseIdx_of_length_le (show (L.take i).length ≤ kk by rw [List.length_take]; omega), List.eraseIdx_of_length_le (by rw [List.length_take]; simp only [List.length_singleton]; omega)]
theorem erase_stay {L : List Fl} {i : Nat} (hi : i < L.length) : (L.take (i + 1)).eraseIdx i = (L.take i).eraseIdx i := by
  rw [← List.take_append_getElem hi, List.eraseIdx_append_of_length_le (by rw [List.length_take]; omega), List.eraseIdx_of_length_le (show (L.take i).length ≤ i by rw [List.length_take]; omega), List.length_take, Nat.min_eq_left (by omega), Nat.sub_self]
  simp
set_option maxRecDepth 100000 in
theorem rWithout (r : Nat) (m s : Int) (dn : Bool) (A : Option Addr) (n c : Nat) (st : Bool) (lf : Int) (B : Option Addr) (k d : Nat) (L : List Fl) (hn : n = L.length) (h1 : n ≤ 1000) (kk : Nat) (hk : kk < n) : Triple Try.prog 75 [.pointer (some ⟨r, 0, none⟩), .int .i64 (kk : Nat)] [Pt r 49 [.int .i64 m, .int .i64 s, .bool dn, .slice A n c, .bool st, .int .i64 lf, .slice B k d], Row 82 3 A n c (L.flatMap encF)] [] (Option Addr × Nat) (fun (C, e) => .slice C (n - 1) e) (fun _ => True) (fun (C, e) => [Pt r 49 [.int .i64 m, .int .i64 s, .bool dn, .slice A n c, .bool st, .int .i64 lf, .slice B k d], Row 82 3 A n c (L.flatMap encF), Row 82 3 C (n - 1) e ((L.eraseIdx kk).flatMap encF)]) := by
  refine triple_intro Try.tbs_ok Try.func75 rfl [.pt 0 r 0, .va (.int .i64 (kk : Nat))] [.box r 49 [.va (.int .i64 m), .va (.int .i64 s), .va (.bool dn), .va (.slice A n c), .va (.bool st), .va (.int .i64 lf), .va (.slice B k d)], .fact (Row 82 3 A n c (L.flatMap encF))] ⟨rfl, trivial, trivial⟩ rfl (by simp [SV.good, SV.goodL]) ?_
  intro E
  refine go Try.tbs_ok 1000 ?_
  refine ev_stop (go_fact (Row 82 3 none 0 0 (([] : List Fl).flatMap encF)) (Row.nilE _ _) ?_)
  refine go Try.tbs_ok 1000 ?_
  refine ev_stop (go_loopR [5, 6, 7, 8, 9, 10, 11, 12, 13, 14, 15, 16, 17, 18, 19, 20, 21, 22, 23, 24, 25, 26, 27, 28] (fun (i, C, q, e, _) => [(5, .va (.slice C q e)), (6, .va (.int .i64 (i : Nat)))]) (fun (_, C, q, e, M) => [(2, .fact (Row 82 3 C q e (M.flatMap encF)))]) (fun (i, _, q, _, M) => i ≤ n ∧ q = M.length ∧ M = (L.take i).eraseIdx kk) (fun (i, _, _, _, _) => n - i) ((0, none, 0, 0, []) : Nat × Option Addr × Nat × Nat × List Fl) ⟨Nat.zero_le _, rfl, rfl⟩ ⟨⟨by kernel_rfl, by kernel_rfl⟩, ⟨_, rfl⟩, ⟨_, rfl⟩, by kernel_rfl, by kernel_rfl⟩ (fun x_ h_ => ?_))
  obtain ⟨i, C, q, e, M⟩ := x_
  obtain ⟨hi, hq, hM⟩ := h_
  refine go Try.tbs_ok 1000 ?_
  refine ev_if_lt (fun hlt => ?_) (fun hge => ?_)
  · have hil : i < L.length := by
      have : (i : Int) < (n : Int) := hlt
      omega
    have hq2 : q ≤ n := by
      rw [hq, hM]
      exact Nat.le_trans (List.eraseIdx_sublist _ _).length_le (by rw [List.length_take]; omega)
    by_cases hik : i = kk
    · have hst := erase_stay hil
      subst hik
      refine go Try.tbs_ok 1000 ?_
      refine ev_if_no (ne_no (show (↑i : Int) = (↑i : Int) from (by omega))) ?_
      refine go Try.tbs_ok 1000 ?_
      refine ev_wrapN (i + 1) (by constructor <;> omega) (by rfl) ?_
      refine ev_fin (round_next ((i + 1, C, q, e, M)) (?_ : i + 1 ≤ n ∧ q = M.length ∧ M = (List.take (i + 1) L).eraseIdx i) (show n - (i + 1) < n - i from (by omega)) ⟨⟨by kernel_rfl, by kernel_rfl⟩, ⟨_, rfl⟩, ⟨_, rfl⟩, by kernel_rfl, by kernel_rfl⟩)
      exact ⟨by omega, hq, by rw [hst]; exact hM⟩
    · have hst := erase_step hil hik
      refine go Try.tbs_ok 1000 ?_
      refine ev_if_yes (ne_yes (show ¬(↑i : Int) = (↑kk : Int) from (by omega))) ?_
      refine go Try.tbs_ok 1000 ?_
      refine ev_stop (go_index0 (sz := 3) Try.tbs_ok (.inr 1) (i) rfl rfl rfl rfl rfl rfl (by omega) rfl Row.at0 (fun g60 e61 => ?_))
      subst e61
      refine go Try.tbs_ok 1000 ?_
      have l62 : i < (L).length := (by omega)
      refine ev_stop (go_loadE Try.tbs_ok (.inr 1) (i) 0 rfl rfl rfl rfl (fun _ h => Row.rd h) (by omega) (fun _ => rfl) (by omega) l62 (by decide) ?_)
      refine go Try.tbs_ok 1000 ?_
      refine ev_new fun b63 => ?_
      refine ev_stop (go_appendE (sz := 3) (M := [_]) (enc := encF) Try.tbs_ok [2] [] (.inr 3) (M) ([L[i]]) ((M) ++ ([L[i]])) (q + 1) rfl rfl rfl rfl rfl rfl rfl (by decide) rfl (by decide) (fun _ p => starH_one.1 p) rfl (fun _ p => Pt.rd p rfl) (by first | rfl | simp) (by first | rfl | omega) (le_app (s := q + 1) (by omega) (by first | rfl | omega)) (le_appb (s := q + 1) (by omega) (by first | rfl | omega) (by decide)) (fun _ _ => (by repeat (first | exact trivial | refine ⟨rfl, ?_⟩))) (fun A64 c65 h66 => ?_))
      refine go Try.tbs_ok 1000 ?_
      refine ev_wrapN (i + 1) (by constructor <;> omega) (by rfl) ?_
      refine ev_fin (round_next ((i + 1, A64, q + 1, c65, M ++ [L[i]])) (?_ : i + 1 ≤ n ∧ q + 1 = (M ++ [L[i]]).length ∧ M ++ [L[i]] = (List.take (i + 1) L).eraseIdx kk) (show n - (i + 1) < n - i from (by omega)) ⟨⟨by kernel_rfl, by kernel_rfl⟩, ⟨_, rfl⟩, ⟨_, rfl⟩, by kernel_rfl, by kernel_rfl⟩)
      exact ⟨by omega, by rw [List.length_append, ← hq]; rfl, by rw [hst, ← hM]⟩
  · rw [List.take_of_length_le (by omega)] at hM
    have hq3 : q = n - 1 := by rw [hq, hM, List.length_eraseIdx_of_lt (by omega)]; omega
    subst hM hq3
    refine go Try.tbs_ok 1000 ?_
    refine ev_fin (go Try.tbs_ok 1000 ?_)
    refine ev_fin ⟨trivial, _, rfl, ((C, e)), rfl, (by trivial), Frm.sel [0, 1, 2] rfl (by decide)⟩
/-- what is put down so far -/
def putM (L : List Fl) (f : Fl) (i : Nat) : List Fl := if i ≤ posF L f.n then L.take i else L.take (posF L f.n) ++ f :: (L.take i).drop (posF L f.n)
theorem putM_lt {L : List Fl} {f : Fl} {i : Nat} (hi : i < L.length) (h : i ≠ posF L f.n) : putM L f (i + 1) = putM L f i ++ [L[i]] := by
  unfold putM
  rcases Nat.lt_or_ge i (posF L f.n) with h1 | h1
  · rw [if_pos (by omega), if_pos (by omega), List.take_append_getElem hi]
  · rw [if_neg (by omega), if_neg (by omega), ← List.take_append_getElem hi, List.drop_append_of_le_length (by rw [List.length_take]; omega)]
    simp
theorem putM_at {L : List Fl} {f : Fl} {i : Nat} (hi : i < L.length) (h : i = posF L f.n) : putM L f (i + 1) = (putM L f i ++ [f]) ++ [L[i]] := by
  unfold putM
  rw [if_neg (by omega), if_pos (by omega), ← List.take_append_getElem hi, ← h, List.drop_append_of_le_length (by rw [List.length_take]; omega), List.drop_of_length_le (by rw [List.length_take]; omega)]
  simp
theorem putM_len {L : List Fl} (f : Fl) {i : Nat} (hi : i ≤ L.length) : (putM L f i).length = if i ≤ posF L f.n then i else i + 1 := by
  unfold putM
  split
  · rw [List.length_take]; omega
  · simp only [List.length_append, List.length_take, List.length_cons, List.length_drop]
    omega
theorem putM_end {L : List Fl} (f : Fl) (h : posF L f.n < L.length) : putM L f L.length = insF L f := by
  unfold putM insF
  rw [if_neg (by omega), List.take_length]
theorem putM_end2 {L : List Fl} (f : Fl) (h : posF L f.n = L.length) : putM L f L.length ++ [f] = insF L f := by
  unfold putM insF
  rw [if_pos (by omega), h, List.take_length, List.drop_length]
theorem put_lt {L : List Fl} (hs : riseF L) {f : Fl} (hh : hasF L f.n = false) {i : Nat} (hi : i < L.length) : (i < posF L f.n → ¬ ltS f.n L[i].n) ∧ (i = posF L f.n → ltS f.n L[i].n) := by
  obtain ⟨h1, h2⟩ := posF_split hs f.n
  refine ⟨fun h => (h1 _ (List.mem_take_iff_getElem.2 ⟨i, by omega, rfl⟩)).asymm, fun h => ?_⟩
  have h3 := h2 _ (List.mem_drop_iff_getElem.2 ⟨0, by omega, rfl⟩)
  simp only [Nat.add_zero] at h3
  have h4 : ¬ ltS L[i].n f.n := by
    have e : L[posF L f.n]'(by omega) = L[i] := by congr 1; exact h.symm
    rwa [e] at h3
  by_cases h5 : ltS f.n L[i].n
  · exact h5
  · exact absurd (ltS.total h4 h5) (hasF_no.1 hh _ (List.getElem_mem hi))
set_option maxHeartbeats 1000000 in
set_option maxRecDepth 100000 in
theorem rPut (r : Nat) (m s : Int) (dn : Bool) (A : Option Addr) (n c : Nat) (st : Bool) (lf : Int) (B : Option Addr) (k d : Nat) (L : List Fl) (hn : n = L.length) (h1 : n ≤ 1000) (f : Fl) (hs : riseF L) (hh : hasF L f.n = false) : Triple Try.prog 77 [.pointer (some ⟨r, 0, none⟩), .agg #[.string f.n, .string f.d, .int .i64 f.s]] [Pt r 49 [.int .i64 m, .int .i64 s, .bool dn, .slice A n c, .bool st, .int .i64 lf, .slice B k d], Row 82 3 A n c (L.flatMap encF)] [] (Option Addr × Nat) (fun _ => .tuple #[]) (fun _ => True) (fun (C, e) => [Pt r 49 [.int .i64 m, .int .i64 s, .bool dn, .slice C (n + 1) e, .bool st, .int .i64 lf, .slice B k d], Row 82 3 C (n + 1) e ((insF L f).flatMap encF)]) := by
  refine triple_intro Try.tbs_ok Try.func77 rfl [.pt 0 r 0, .ag [.va (.string f.n), .va (.string f.d), .va (.int .i64 f.s)]] [.box r 49 [.va (.int .i64 m), .va (.int .i64 s), .va (.bool dn), .va (.slice A n c), .va (.bool st), .va (.int .i64 lf), .va (.slice B k d)], .fact (Row 82 3 A n c (L.flatMap encF))] ⟨rfl, by simp [SV.good, SV.goodL], trivial⟩ rfl (by simp [SV.good, SV.goodL]) ?_
  intro E
  have hp := posF_le L f.n
  refine go Try.tbs_ok 1000 ?_
  refine ev_new fun b0 => ?_
  refine ev_stop (go_fact (Row 82 3 none 0 0 (([] : List Fl).flatMap encF)) (Row.nilE _ _) ?_)
  refine go_slot 5 _ (.bq false) rfl rfl rfl (fun _ => trivial) ?_
  refine go Try.tbs_ok 1000 ?_
  refine ev_stop (go_loopR [1, 4, 5, 6, 7, 8, 9, 10, 11, 12, 13, 14, 15, 16, 17, 18, 19, 20, 21, 22, 23, 24, 25, 26, 27, 28, 29, 30, 31, 32, 33, 34, 35, 36, 37, 38, 39, 40, 41, 42, 43, 44] (fun (i, C, q, e, _, b) => [(4, .va (.slice C q e)), (5, .bq b), (6, .va (.int .i64 (i : Nat)))]) (fun (_, C, q, e, M, _) => [(3, .fact (Row 82 3 C q e (M.flatMap encF)))]) (fun (i, _, q, _, M, b) => i ≤ n ∧ q = M.length ∧ M = putM L f i ∧ b = decide (posF L f.n < i)) (fun (i, _, _, _, _, _) => n - i) ((0, none, 0, 0, [], false) : Nat × Option Addr × Nat × Nat × List Fl × Bool) ⟨Nat.zero_le _, rfl, by simp [putM], (decide_eq_false (by omega)).symm⟩ ⟨⟨by kernel_rfl, by kernel_rfl⟩, ⟨_, rfl⟩, ⟨_, rfl⟩, by kernel_rfl, by kernel_rfl⟩ (fun x_ h_ => ?_))
  obtain ⟨i, C, q, e, M, b⟩ := x_
  obtain ⟨hi, hq, hM, hb⟩ := h_
  refine go Try.tbs_ok 1000 ?_
  refine ev_if_lt (fun hlt => ?_) (fun hge => ?_)
  · have hil : i < L.length := by
      have : (i : Int) < (n : Int) := hlt
      omega
    have hql := putM_len f (Nat.le_of_lt hil)
    rw [← hM, ← hq] at hql
    have hq2 : q ≤ n + 1 := by split at hql <;> omega
    obtain ⟨g1, g2⟩ := put_lt hs hh hil
    rcases Nat.lt_trichotomy i (posF L f.n) with h | h | h
    · have hb0 : b = false := by rw [hb]; exact decide_eq_false (by omega)
      have hst := putM_lt hil (show i ≠ posF L f.n by omega)
      have g := g1 h
      subst hb0
      refine go Try.tbs_ok 1000 ?_
      refine ev_stop (go_draw Try.tbs_ok true [0, 1, 2, 3] [(0,true),(1,true),(2,true),(3,true),(4,true),(5,true),(6,true),(7,true),(8,true),(9,true),(10,true),(11,true),(12,true),(13,true),(14,true)] rfl ?_)
      refine go Try.tbs_ok 1000 ?_
      refine ev_need ⟨⟨(by repeat (first | exact trivial | refine ⟨rfl, ?_⟩)), rfl⟩, by kernel_rfl⟩ ?_
      refine ev_if_yes rfl ?_
      refine go Try.tbs_ok 1000 ?_
      refine ev_need ⟨⟨(by repeat (first | exact trivial | refine ⟨rfl, ?_⟩)), rfl⟩, by kernel_rfl⟩ ?_
      refine ev_stop (tk_index0 (sz := 3) Try.tbs_ok (.inr 1) (i) ⟨⟨(by repeat (first | exact trivial | refine ⟨rfl, ?_⟩)), rfl⟩, by kernel_rfl⟩ rfl rfl rfl rfl rfl rfl rfl (by omega) rfl Row.at0 (fun g40 e41 => ?_))
      subst e41
      refine go Try.tbs_ok 1000 ?_
      refine ev_need ⟨⟨(by repeat (first | exact trivial | refine ⟨rfl, ?_⟩)), rfl⟩, by kernel_rfl⟩ ?_
      have l42 : i < (L).length := (by omega)
      refine ev_stop (tk_loadE Try.tbs_ok (.inr 1) (i) 0 ⟨⟨(by repeat (first | exact trivial | refine ⟨rfl, ?_⟩)), rfl⟩, by kernel_rfl⟩ rfl rfl rfl rfl rfl (fun _ h => Row.rd h) (by omega) (fun _ => rfl) (by omega) l42 (by decide) ?_)
      refine go Try.tbs_ok 1000 ?_
      refine ev_need ⟨⟨(by repeat (first | exact trivial | refine ⟨rfl, ?_⟩)), rfl⟩, by kernel_rfl⟩ ?_
      refine ev_stop (tk_bin (.bq (decide (ltS (f.n) (L[i].n)))) trivial ⟨⟨(by repeat (first | exact trivial | refine ⟨rfl, ?_⟩)), rfl⟩, by kernel_rfl⟩ rfl rfl rfl rfl rfl rfl (by decide) (by decide) (fun w => lss_runS w) ?_)
      refine go Try.tbs_ok 1000 ?_
      refine ev_need ⟨⟨(by repeat (first | exact trivial | refine ⟨rfl, ?_⟩)), rfl⟩, by kernel_rfl⟩ ?_
      refine ev_if_no (decide_eq_false (by with_reducible assumption)) ?_
      refine go Try.tbs_ok 1000 ?_
      refine ev_stop (go_atE (sz := 3) Try.tbs_ok (i) rfl rfl rfl rfl rfl rfl (by omega) ?_)
      refine go Try.tbs_ok 1000 ?_
      have l43 : i < (L).length := (by omega)
      refine ev_stop (go_loadE Try.tbs_ok (.inr 1) (i) 0 rfl rfl rfl rfl (fun _ h => Row.rd h) (by omega) (fun _ => rfl) (by omega) l43 (by decide) ?_)
      refine go Try.tbs_ok 1000 ?_
      refine ev_new fun b44 => ?_
      refine ev_stop (go_appendE (sz := 3) (M := [_]) (enc := encF) Try.tbs_ok [3] [] (.inr 4) (M) ([L[i]]) ((M) ++ ([L[i]])) (q + 1) rfl rfl rfl rfl rfl rfl rfl (by decide) rfl (by decide) (fun _ p => starH_one.1 p) rfl (fun _ p => Pt.rd p rfl) (by first | rfl | simp) (by first | rfl | omega) (le_app (s := q + 1) (by omega) (by first | rfl | omega)) (le_appb (s := q + 1) (by omega) (by first | rfl | omega) (by decide)) (fun _ _ => (by repeat (first | exact trivial | refine ⟨rfl, ?_⟩))) (fun A45 c46 h47 => ?_))
      refine go Try.tbs_ok 1000 ?_
      refine ev_wrapN (i + 1) (by constructor <;> omega) (by rfl) ?_
      refine ev_fin (round_next ((i + 1, A45, q + 1, c46, M ++ [L[i]], false)) (?_ : i + 1 ≤ n ∧ q + 1 = (M ++ [L[i]]).length ∧ M ++ [L[i]] = putM L f (i + 1) ∧ false = decide (posF L f.n < i + 1)) (show n - (i + 1) < n - i from (by omega)) ⟨⟨by kernel_rfl, by kernel_rfl⟩, ⟨_, rfl⟩, ⟨_, rfl⟩, by kernel_rfl, by kernel_rfl⟩)
      exact ⟨by omega, by rw [List.length_append, ← hq]; rfl, by rw [hst, ← hM], (decide_eq_false (by omega)).symm⟩
    · have hb0 : b = false := by rw [hb]; exact decide_eq_false (by omega)
      have hst := putM_at hil h
      have g := g2 h
      subst hb0
      refine go Try.tbs_ok 1000 ?_
      refine ev_stop (go_draw Try.tbs_ok true [0, 1, 2, 3] [(0,true),(1,true),(2,true),(3,true),(4,true),(5,true),(6,true),(7,true),(8,true),(9,true),(10,true),(11,true),(12,true),(13,true),(14,true)] rfl ?_)
      refine go Try.tbs_ok 1000 ?_
      refine ev_need ⟨⟨(by repeat (first | exact trivial | refine ⟨rfl, ?_⟩)), rfl⟩, by kernel_rfl⟩ ?_
      refine ev_if_yes rfl ?_
      refine go Try.tbs_ok 1000 ?_
      refine ev_need ⟨⟨(by repeat (first | exact trivial | refine ⟨rfl, ?_⟩)), rfl⟩, by kernel_rfl⟩ ?_
      refine ev_stop (tk_index0 (sz := 3) Try.tbs_ok (.inr 1) (i) ⟨⟨(by repeat (first | exact trivial | refine ⟨rfl, ?_⟩)), rfl⟩, by kernel_rfl⟩ rfl rfl rfl rfl rfl rfl rfl (by omega) rfl Row.at0 (fun g60 e61 => ?_))
      subst e61
      refine go Try.tbs_ok 1000 ?_
      refine ev_need ⟨⟨(by repeat (first | exact trivial | refine ⟨rfl, ?_⟩)), rfl⟩, by kernel_rfl⟩ ?_
      have l62 : i < (L).length := (by omega)
      refine ev_stop (tk_loadE Try.tbs_ok (.inr 1) (i) 0 ⟨⟨(by repeat (first | exact trivial | refine ⟨rfl, ?_⟩)), rfl⟩, by kernel_rfl⟩ rfl rfl rfl rfl rfl (fun _ h => Row.rd h) (by omega) (fun _ => rfl) (by omega) l62 (by decide) ?_)
      refine go Try.tbs_ok 1000 ?_
      refine ev_need ⟨⟨(by repeat (first | exact trivial | refine ⟨rfl, ?_⟩)), rfl⟩, by kernel_rfl⟩ ?_
      refine ev_stop (tk_bin (.bq (decide (ltS (f.n) (L[i].n)))) trivial ⟨⟨(by repeat (first | exact trivial | refine ⟨rfl, ?_⟩)), rfl⟩, by kernel_rfl⟩ rfl rfl rfl rfl rfl rfl (by decide) (by decide) (fun w => lss_runS w) ?_)
      refine go Try.tbs_ok 1000 ?_
      refine ev_need ⟨⟨(by repeat (first | exact trivial | refine ⟨rfl, ?_⟩)), rfl⟩, by kernel_rfl⟩ ?_
      refine ev_if_yes (decide_eq_true (by with_reducible assumption)) ?_
      refine go Try.tbs_ok 1000 ?_
      refine ev_new fun b63 => ?_
      refine ev_stop (go_appendE (sz := 3) (M := [_]) (enc := encF) Try.tbs_ok [3] [] (.inr 4) (M) ([f]) ((M) ++ ([f])) (q + 1) rfl rfl rfl rfl rfl rfl rfl (by decide) rfl (by decide) (fun _ p => starH_one.1 p) rfl (fun _ p => Pt.rd p rfl) (by first | rfl | simp) (by first | rfl | omega) (le_app (s := q + 1) (by omega) (by first | rfl | omega)) (le_appb (s := q + 1) (by omega) (by first | rfl | omega) (by decide)) (fun _ _ => (by repeat (first | exact trivial | refine ⟨rfl, ?_⟩))) (fun A64 c65 h66 => ?_))
      refine go Try.tbs_ok 1000 ?_
      refine ev_stop (go_atE (sz := 3) Try.tbs_ok (i) rfl rfl rfl rfl rfl rfl (by omega) ?_)
      refine go Try.tbs_ok 1000 ?_
      have l67 : i < (L).length := (by omega)
      refine ev_stop (go_loadE Try.tbs_ok (.inr 1) (i) 0 rfl rfl rfl rfl (fun _ h => Row.rd h) (by omega) (fun _ => rfl) (by omega) l67 (by decide) ?_)
      refine go Try.tbs_ok 1000 ?_
      refine ev_new fun b68 => ?_
      refine ev_stop (go_appendE (sz := 3) (M := [_]) (enc := encF) Try.tbs_ok [3] [] (.inr 5) (M ++ [f]) ([L[i]]) ((M ++ [f]) ++ ([L[i]])) (q + 1 + 1) rfl rfl rfl rfl rfl rfl rfl (by decide) rfl (by decide) (fun _ p => starH_one.1 p) rfl (fun _ p => Pt.rd p rfl) (by first | rfl | simp) (by first | rfl | omega) (le_app (s := q + 1 + 1) (by omega) (by first | rfl | omega)) (le_appb (s := q + 1 + 1) (by omega) (by first | rfl | omega) (by decide)) (fun _ _ => (by repeat (first | exact trivial | refine ⟨rfl, ?_⟩))) (fun A69 c70 h71 => ?_))
      refine go Try.tbs_ok 1000 ?_
      refine ev_wrapN (i + 1) (by constructor <;> omega) (by rfl) ?_
      refine ev_slot 5 _ (.bq true) rfl rfl rfl (fun _ => trivial) ?_
      refine ev_fin (round_next ((i + 1, A69, q + 1 + 1, c70, M ++ [f] ++ [L[i]], true)) (?_ : i + 1 ≤ n ∧ q + 1 + 1 = (M ++ [f] ++ [L[i]]).length ∧ M ++ [f] ++ [L[i]] = putM L f (i + 1) ∧ true = decide (posF L f.n < i + 1)) (show n - (i + 1) < n - i from (by omega)) ⟨⟨by kernel_rfl, by kernel_rfl⟩, ⟨_, rfl⟩, ⟨_, rfl⟩, by kernel_rfl, by kernel_rfl⟩)
      exact ⟨by omega, by rw [List.length_append, List.length_append, ← hq]; rfl, by rw [hst, ← hM], (decide_eq_true (by omega)).symm⟩
    · have hb0 : b = true := by rw [hb]; exact decide_eq_true (by omega)
      have hst := putM_lt hil (show i ≠ posF L f.n by omega)
      subst hb0
      refine go Try.tbs_ok 1000 ?_
      refine ev_stop (go_draw Try.tbs_ok true [0, 1, 2, 3] [(0,true),(1,true),(2,true),(3,true),(4,true),(5,true),(6,true),(7,true),(8,true),(9,true),(10,true),(11,true),(12,true),(13,true),(14,true)] rfl ?_)
      refine go Try.tbs_ok 1000 ?_
      refine ev_need ⟨⟨(by repeat (first | exact trivial | refine ⟨rfl, ?_⟩)), rfl⟩, by kernel_rfl⟩ ?_
      refine ev_if_no rfl ?_
      refine go Try.tbs_ok 1000 ?_
      refine ev_need ⟨⟨(by repeat (first | exact trivial | refine ⟨rfl, ?_⟩)), rfl⟩, by kernel_rfl⟩ ?_
      refine ev_stop (go_index0 (sz := 3) Try.tbs_ok (.inr 1) (i) rfl rfl rfl rfl rfl rfl (by omega) rfl Row.at0 (fun g80 e81 => ?_))
      subst e81
      refine go Try.tbs_ok 1000 ?_
      have l82 : i < (L).length := (by omega)
      refine ev_stop (go_loadE Try.tbs_ok (.inr 1) (i) 0 rfl rfl rfl rfl (fun _ h => Row.rd h) (by omega) (fun _ => rfl) (by omega) l82 (by decide) ?_)
      refine go Try.tbs_ok 1000 ?_
      refine ev_new fun b83 => ?_
      refine ev_stop (go_appendE (sz := 3) (M := [_]) (enc := encF) Try.tbs_ok [3] [] (.inr 4) (M) ([L[i]]) ((M) ++ ([L[i]])) (q + 1) rfl rfl rfl rfl rfl rfl rfl (by decide) rfl (by decide) (fun _ p => starH_one.1 p) rfl (fun _ p => Pt.rd p rfl) (by first | rfl | simp) (by first | rfl | omega) (le_app (s := q + 1) (by omega) (by first | rfl | omega)) (le_appb (s := q + 1) (by omega) (by first | rfl | omega) (by decide)) (fun _ _ => (by repeat (first | exact trivial | refine ⟨rfl, ?_⟩))) (fun A84 c85 h86 => ?_))
      refine go Try.tbs_ok 1000 ?_
      refine ev_wrapN (i + 1) (by constructor <;> omega) (by rfl) ?_
      refine ev_fin (round_next ((i + 1, A84, q + 1, c85, M ++ [L[i]], true)) (?_ : i + 1 ≤ n ∧ q + 1 = (M ++ [L[i]]).length ∧ M ++ [L[i]] = putM L f (i + 1) ∧ true = decide (posF L f.n < i + 1)) (show n - (i + 1) < n - i from (by omega)) ⟨⟨by kernel_rfl, by kernel_rfl⟩, ⟨_, rfl⟩, ⟨_, rfl⟩, by kernel_rfl, by kernel_rfl⟩)
      exact ⟨by omega, by rw [List.length_append, ← hq]; rfl, by rw [hst, ← hM], (decide_eq_true (by omega)).symm⟩
  · obtain rfl : i = n := by
      have : ¬ (i : Int) < (n : Int) := hge
      omega
    have hql := putM_len f (show i ≤ L.length by omega)
    rw [← hM, ← hq] at hql
    by_cases h : posF L f.n < i
    · have hb0 : b = true := by rw [hb]; exact decide_eq_true h
      subst hb0
      rw [if_neg (by omega)] at hql
      have hM2 : M = insF L f := by rw [hM, hn]; exact putM_end f (by omega)
      subst hM2 hql
      refine go Try.tbs_ok 1000 ?_
      refine ev_fin (go Try.tbs_ok 1000 ?_)
      refine ev_if_no rfl ?_
      refine go Try.tbs_ok 1000 ?_
      refine ev_fin ⟨trivial, _, rfl, ((C, e)), rfl, (by trivial), Frm.sel [0, 3] rfl (by decide)⟩
    · have hb0 : b = false := by rw [hb]; exact decide_eq_false h
      subst hb0
      rw [if_pos (by omega)] at hql
      have hM2 : M ++ [f] = insF L f := by rw [hM, hn]; exact putM_end2 f (by omega)
      subst hql
      refine go Try.tbs_ok 1000 ?_
      refine ev_fin (go Try.tbs_ok 1000 ?_)
      refine ev_if_yes rfl ?_
      refine go Try.tbs_ok 1000 ?_
      refine ev_new fun b120 => ?_
      refine ev_stop (go_appendE (sz := 3) (M := [_]) (enc := encF) Try.tbs_ok [3] [] (.inr 4) (M) ([f]) ((M) ++ ([f])) (q + 1) rfl rfl rfl rfl rfl rfl rfl (by decide) rfl (by decide) (fun _ p => starH_one.1 p) rfl (fun _ p => Pt.rd p rfl) (by first | rfl | simp) (by first | rfl | omega) (le_app (s := q + 1) (by omega) (by first | rfl | omega)) (le_appb (s := q + 1) (by omega) (by first | rfl | omega) (by decide)) (fun _ _ => (by repeat (first | exact trivial | refine ⟨rfl, ?_⟩))) (fun A121 c122 h123 => ?_))
      refine go Try.tbs_ok 1000 ?_
      rw [hM2]
      refine ev_fin ⟨trivial, _, rfl, ((A121, c122)), rfl, (by trivial), Frm.sel [0, 3] rfl (by decide)⟩
set_option maxRecDepth 100000 in
theorem rSize (r : Nat) (m s : Int) (dn : Bool) (A : Option Addr) (n c : Nat) (st : Bool) (lf : Int) (B : Option Addr) (k d : Nat) (L : List Fl) (hn : n = L.length) (h1 : n ≤ 1000) (hb : sumD L ≤ 1000000000) : Triple Try.prog 24 [.pointer (some ⟨r, 0, none⟩)] [Pt r 49 [.int .i64 m, .int .i64 s, .bool dn, .slice A n c, .bool st, .int .i64 lf, .slice B k d], Row 82 3 A n c (L.flatMap encF)] [] Unit (fun _ => .int .i64 (sumD L : Nat)) (fun _ => True) (fun _ => [Pt r 49 [.int .i64 m, .int .i64 s, .bool dn, .slice A n c, .bool st, .int .i64 lf, .slice B k d], Row 82 3 A n c (L.flatMap encF)]) := by
  refine triple_intro Try.tbs_ok Try.func24 rfl [.pt 0 r 0] [.box r 49 [.va (.int .i64 m), .va (.int .i64 s), .va (.bool dn), .va (.slice A n c), .va (.bool st), .va (.int .i64 lf), .va (.slice B k d)], .fact (Row 82 3 A n c (L.flatMap encF))] ⟨rfl, trivial⟩ rfl (by simp [SV.good, SV.goodL]) ?_
  intro E
  refine go Try.tbs_ok 1000 ?_
  refine ev_stop (go_loopR [3, 4, 5, 6, 7, 8, 9, 10, 11, 12, 13, 14, 15, 16, 17, 18, 19, 20, 21, 22, 23, 24] (fun (j, q) => [(3, .va (.int .i64 q)), (4, .va (.int .i64 (j : Nat)))]) (fun _ => []) (fun (j, q) => j ≤ n ∧ q = ((sumD (L.take j) : Nat) : Int)) (fun (j, _) => n - j) ((0, 0) : Nat × Int) ⟨Nat.zero_le _, rfl⟩ ⟨⟨by kernel_rfl, by kernel_rfl⟩, ⟨_, rfl⟩, ⟨_, rfl⟩, by kernel_rfl, by kernel_rfl⟩ (fun x_ h_ => ?_))
  obtain ⟨j, q⟩ := x_
  obtain ⟨hj, hq⟩ := h_
  refine go Try.tbs_ok 1000 ?_
  refine ev_if_lt (fun hlt => ?_) (fun hge => ?_)
  · have hjn : j < L.length := by
      have : (j : Int) < (n : Int) := hlt
      omega
    have hs1 := sumD_step hjn
    have hs2 := sumD_take L (j + 1)
    refine go Try.tbs_ok 1000 ?_
    refine ev_stop (go_index0 (sz := 3) Try.tbs_ok (.inr 1) (j) rfl rfl rfl rfl rfl rfl (by omega) rfl Row.at0 (fun g40 e41 => ?_))
    subst e41
    refine go Try.tbs_ok 1000 ?_
    have l42 : j < (L).length := (by omega)
    refine ev_stop (go_loadE Try.tbs_ok (.inr 1) (j) 1 rfl rfl rfl rfl (fun _ h => Row.rd h) (by omega) (fun _ => rfl) (by omega) l42 (by decide) ?_)
    refine go Try.tbs_ok 1000 ?_
    refine ev_w64 (by constructor <;> omega) ?_
    refine ev_wrapN (j + 1) (by constructor <;> omega) (by rfl) ?_
    refine ev_fin (round_next ((j + 1, q + (↑L[j].d.size : Int))) (show j + 1 ≤ n ∧ q + (↑L[j].d.size : Int) = (↑(sumD (List.take (j + 1) L)) : Int) from (by omega)) (show n - (j + 1) < n - j from (by omega)) ⟨⟨by kernel_rfl, by kernel_rfl⟩, ⟨_, rfl⟩, ⟨_, rfl⟩, by kernel_rfl, by kernel_rfl⟩)
  · refine go Try.tbs_ok 1000 ?_
    refine ev_fin (go Try.tbs_ok 1000 ?_)
    refine ev_fin ⟨trivial, _, rfl, (()), ?_, (by trivial), Frm.sel [0, 1] rfl (by decide)⟩
    rw [hq, List.take_of_length_le (by omega)]
    rfl
set_option maxRecDepth 100000 in
theorem rNames (r : Nat) (m s : Int) (dn : Bool) (A : Option Addr) (n c : Nat) (st : Bool) (lf : Int) (B : Option Addr) (k d : Nat) (L : List Fl) (hn : n = L.length) (h1 : n ≤ 1000) : Triple Try.prog 22 [.pointer (some ⟨r, 0, none⟩)] [Pt r 49 [.int .i64 m, .int .i64 s, .bool dn, .slice A n c, .bool st, .int .i64 lf, .slice B k d], Row 82 3 A n c (L.flatMap encF)] [] (Option Addr × Nat) (fun (C, e) => .slice C n e) (fun _ => True) (fun (C, e) => [Pt r 49 [.int .i64 m, .int .i64 s, .bool dn, .slice A n c, .bool st, .int .i64 lf, .slice B k d], Row 82 3 A n c (L.flatMap encF), Row 9 1 C n e ((L.map nameEG).flatMap encS)]) := by
  refine triple_intro Try.tbs_ok Try.func22 rfl [.pt 0 r 0] [.box r 49 [.va (.int .i64 m), .va (.int .i64 s), .va (.bool dn), .va (.slice A n c), .va (.bool st), .va (.int .i64 lf), .va (.slice B k d)], .fact (Row 82 3 A n c (L.flatMap encF))] ⟨rfl, trivial⟩ rfl (by simp [SV.good, SV.goodL]) ?_
  intro E
  refine go Try.tbs_ok 1000 ?_
  refine ev_stop (go_fact (Row 9 1 none 0 0 (([] : List ByteArray).flatMap encS)) (Row.nilE _ _) ?_)
  refine go Try.tbs_ok 1000 ?_
  refine ev_stop (go_loopR [3, 4, 5, 6, 7, 8, 9, 10, 11, 12, 13, 14, 15, 16, 17, 18, 19, 20, 21, 22, 23, 24] (fun (j, C, q, e, _) => [(3, .va (.slice C q e)), (4, .va (.int .i64 (j : Nat)))]) (fun (_, C, q, e, M) => [(2, .fact (Row 9 1 C q e (M.flatMap encS)))]) (fun (j, _, q, _, M) => j ≤ n ∧ q = M.length ∧ q = j ∧ M = (L.take j).map nameEG) (fun (j, _, _, _, _) => n - j) ((0, none, 0, 0, []) : Nat × Option Addr × Nat × Nat × List ByteArray) ⟨Nat.zero_le _, rfl, rfl, rfl⟩ ⟨⟨by kernel_rfl, by kernel_rfl⟩, ⟨_, rfl⟩, ⟨_, rfl⟩, by kernel_rfl, by kernel_rfl⟩ (fun x_ h_ => ?_))
  obtain ⟨j, C, q, e, M⟩ := x_
  obtain ⟨hj, hq, hqj, hM⟩ := h_
  refine go Try.tbs_ok 1000 ?_
  refine ev_if_lt (fun hlt => ?_) (fun hge => ?_)
  · have hjn : j < L.length := by
      have : (j : Int) < (n : Int) := hlt
      omega
    refine go Try.tbs_ok 1000 ?_
    refine ev_stop (go_index0 (sz := 3) Try.tbs_ok (.inr 1) (j) rfl rfl rfl rfl rfl rfl (by omega) rfl Row.at0 (fun g40 e41 => ?_))
    subst e41
    refine go Try.tbs_ok 1000 ?_
    have l42 : j < (L).length := (by omega)
    refine ev_stop (go_loadE Try.tbs_ok (.inr 1) (j) 0 rfl rfl rfl rfl (fun _ h => Row.rd h) (by omega) (fun _ => rfl) (by omega) l42 (by decide) ?_)
    refine go Try.tbs_ok 1000 ?_
    refine ev_new fun b43 => ?_
    refine ev_stop (go_appendE (sz := 1) (M := [_]) (enc := encS) Try.tbs_ok [2] [] (.inr 3) (M) ([L[j].n]) ((M) ++ ([L[j].n])) (q + 1) rfl rfl rfl rfl rfl rfl rfl (by decide) rfl (by decide) (fun _ p => starH_one.1 p) rfl (fun _ p => Pt.rd p rfl) (by first | rfl | simp) (by first | rfl | omega) (le_app (s := q + 1) (by omega) (by first | rfl | omega)) (le_appb (s := q + 1) (by omega) (by first | rfl | omega) (by decide)) (fun _ _ => (by repeat (first | exact trivial | refine ⟨rfl, ?_⟩))) (fun A44 c45 h46 => ?_))
    refine go Try.tbs_ok 1000 ?_
    refine ev_wrapN (j + 1) (by constructor <;> omega) (by rfl) ?_
    refine ev_fin (round_next ((j + 1, A44, q + 1, c45, M ++ [L[j].n])) (?_ : j + 1 ≤ n ∧ q + 1 = (M ++ [L[j].n]).length ∧ q + 1 = j + 1 ∧ M ++ [L[j].n] = List.map nameEG (List.take (j + 1) L)) (show n - (j + 1) < n - j from (by omega)) ⟨⟨by kernel_rfl, by kernel_rfl⟩, ⟨_, rfl⟩, ⟨_, rfl⟩, by kernel_rfl, by kernel_rfl⟩)
    refine ⟨by omega, by rw [List.length_append, ← hq]; rfl, by omega, ?_⟩
    rw [hM, ← List.take_append_getElem hjn, List.map_append]
    rfl
  · obtain rfl : j = n := by
      have : ¬ (j : Int) < (n : Int) := hge
      omega
    obtain rfl := hqj
    rw [List.take_of_length_le (by omega)] at hM
    subst hM
    refine go Try.tbs_ok 1000 ?_
    refine ev_fin (go Try.tbs_ok 1000 ?_)
    refine ev_fin ⟨trivial, _, rfl, ((C, e)), rfl, (by trivial), Frm.sel [0, 1, 2] rfl (by decide)⟩
set_option maxRecDepth 100000 in
theorem rLeft (r : Nat) (m s : Int) (dn : Bool) (A : Option Addr) (n c : Nat) (st : Bool) (lf : Int) (B : Option Addr) (k d : Nat) (L : List Fl) (hn : n = L.length) (h1 : n ≤ 1000) (hL : okF L) : Triple Try.prog 23 [.pointer (some ⟨r, 0, none⟩)] [Pt r 49 [.int .i64 m, .int .i64 s, .bool dn, .slice A n c, .bool st, .int .i64 lf, .slice B k d], Row 82 3 A n c (L.flatMap encF)] [] (Option Addr × Nat) (fun (C, e) => .slice C n e) (fun _ => True) (fun (C, e) => [Pt r 49 [.int .i64 m, .int .i64 s, .bool dn, .slice A n c, .bool st, .int .i64 lf, .slice B k d], Row 82 3 A n c (L.flatMap encF), Row 3 1 C n e ((L.map leftEG).flatMap encN)]) := by
  refine triple_intro Try.tbs_ok Try.func23 rfl [.pt 0 r 0] [.box r 49 [.va (.int .i64 m), .va (.int .i64 s), .va (.bool dn), .va (.slice A n c), .va (.bool st), .va (.int .i64 lf), .va (.slice B k d)], .fact (Row 82 3 A n c (L.flatMap encF))] ⟨rfl, trivial⟩ rfl (by simp [SV.good, SV.goodL]) ?_
  intro E
  refine go Try.tbs_ok 1000 ?_
  refine ev_stop (go_fact (Row 3 1 none 0 0 (([] : List Int).flatMap encN)) (Row.nilE _ _) ?_)
  refine go Try.tbs_ok 1000 ?_
  refine ev_stop (go_loopR [3, 4, 5, 6, 7, 8, 9, 10, 11, 12, 13, 14, 15, 16, 17, 18, 19, 20, 21, 22, 23, 24, 25, 26, 27, 28, 29, 30, 31, 32, 33, 34] (fun (j, C, q, e, _) => [(3, .va (.slice C q e)), (4, .va (.int .i64 (j : Nat)))]) (fun (_, C, q, e, M) => [(2, .fact (Row 3 1 C q e (M.flatMap encN)))]) (fun (j, _, q, _, M) => j ≤ n ∧ q = M.length ∧ q = j ∧ M = (L.take j).map leftEG) (fun (j, _, _, _, _) => n - j) ((0, none, 0, 0, []) : Nat × Option Addr × Nat × Nat × List Int) ⟨Nat.zero_le _, rfl, rfl, rfl⟩ ⟨⟨by kernel_rfl, by kernel_rfl⟩, ⟨_, rfl⟩, ⟨_, rfl⟩, by kernel_rfl, by kernel_rfl⟩ (fun x_ h_ => ?_))
  obtain ⟨j, C, q, e, M⟩ := x_
  obtain ⟨hj, hq, hqj, hM⟩ := h_
  refine go Try.tbs_ok 1000 ?_
  refine ev_if_lt (fun hlt => ?_) (fun hge => ?_)
  · have hjn : j < L.length := by
      have : (j : Int) < (n : Int) := hlt
      omega
    have hf := hL _ (List.getElem_mem hjn)
    refine go Try.tbs_ok 1000 ?_
    refine ev_stop (go_draw Try.tbs_ok false [0, 1] [(0,true),(1,true),(2,true),(3,true),(4,true),(5,true),(6,true),(7,true),(8,true),(9,true),(10,true),(11,true),(12,true),(13,true),(14,true),(15,true),(16,true),(17,true),(18,true),(19,false),(20,false),(21,false)] rfl ?_)
    refine go Try.tbs_ok 1000 ?_
    refine ev_need ⟨⟨(by repeat (first | exact trivial | refine ⟨rfl, ?_⟩)), rfl⟩, by kernel_rfl⟩ ?_
    refine ev_stop (tk_index0 (sz := 3) Try.tbs_ok (.inr 1) (j) ⟨⟨(by repeat (first | exact trivial | refine ⟨rfl, ?_⟩)), rfl⟩, by kernel_rfl⟩ rfl rfl rfl rfl rfl rfl rfl (by omega) rfl Row.at0 (fun g40 e41 => ?_))
    subst e41
    refine go Try.tbs_ok 1000 ?_
    refine ev_need ⟨⟨(by repeat (first | exact trivial | refine ⟨rfl, ?_⟩)), rfl⟩, by kernel_rfl⟩ ?_
    have l42 : j < (L).length := (by omega)
    refine ev_stop (tk_loadE Try.tbs_ok (.inr 1) (j) 1 ⟨⟨(by repeat (first | exact trivial | refine ⟨rfl, ?_⟩)), rfl⟩, by kernel_rfl⟩ rfl rfl rfl rfl rfl (fun _ h => Row.rd h) (by omega) (fun _ => rfl) (by omega) l42 (by decide) ?_)
    refine go Try.tbs_ok 1000 ?_
    refine ev_need ⟨⟨(by repeat (first | exact trivial | refine ⟨rfl, ?_⟩)), rfl⟩, by kernel_rfl⟩ ?_
    refine ev_stop (tk_atE (sz := 3) Try.tbs_ok (j) ⟨⟨(by repeat (first | exact trivial | refine ⟨rfl, ?_⟩)), rfl⟩, by kernel_rfl⟩ rfl rfl rfl rfl rfl rfl rfl (by omega) ?_)
    refine go Try.tbs_ok 1000 ?_
    refine ev_need ⟨⟨(by repeat (first | exact trivial | refine ⟨rfl, ?_⟩)), rfl⟩, by kernel_rfl⟩ ?_
    have l43 : j < (L).length := (by omega)
    refine ev_stop (tk_loadE Try.tbs_ok (.inr 1) (j) 2 ⟨⟨(by repeat (first | exact trivial | refine ⟨rfl, ?_⟩)), rfl⟩, by kernel_rfl⟩ rfl rfl rfl rfl rfl (fun _ h => Row.rd h) (by omega) (fun _ => rfl) (by omega) l43 (by decide) ?_)
    refine go Try.tbs_ok 1000 ?_
    refine ev_need ⟨⟨(by repeat (first | exact trivial | refine ⟨rfl, ?_⟩)), rfl⟩, by kernel_rfl⟩ ?_
    refine ev_w64 (by constructor <;> omega) ?_
    refine ev_new fun b44 => ?_
    refine ev_need ⟨⟨(by repeat (first | exact trivial | refine ⟨rfl, ?_⟩)), rfl⟩, by kernel_rfl⟩ ?_
    refine ev_stop (go_appendE (sz := 1) (M := [_]) (enc := encN) Try.tbs_ok [2] [] (.inr 3) (M) ([(↑L[j].d.size : Int) - L[j].s]) ((M) ++ ([(↑L[j].d.size : Int) - L[j].s])) (q + 1) rfl rfl rfl rfl rfl rfl rfl (by decide) rfl (by decide) (fun _ p => starH_one.1 p) rfl (fun _ p => Pt.rd p rfl) (by first | rfl | simp) (by first | rfl | omega) (le_app (s := q + 1) (by omega) (by first | rfl | omega)) (le_appb (s := q + 1) (by omega) (by first | rfl | omega) (by decide)) (fun _ _ => (by repeat (first | exact trivial | refine ⟨rfl, ?_⟩))) (fun A45 c46 h47 => ?_))
    refine go Try.tbs_ok 1000 ?_
    refine ev_need ⟨⟨(by repeat (first | exact trivial | refine ⟨rfl, ?_⟩)), rfl⟩, by kernel_rfl⟩ ?_
    refine ev_need (by kernel_rfl) ?_
    refine ev_wrapN (j + 1) (by constructor <;> omega) (by rfl) ?_
    refine ev_fin (round_next ((j + 1, A45, q + 1, c46, M ++ [(↑L[j].d.size : Int) - L[j].s])) (?_ : j + 1 ≤ n ∧ q + 1 = (M ++ [(↑L[j].d.size : Int) - L[j].s]).length ∧ q + 1 = j + 1 ∧ M ++ [(↑L[j].d.size : Int) - L[j].s] = List.map leftEG (List.take (j + 1) L)) (show n - (j + 1) < n - j from (by omega)) ⟨⟨by kernel_rfl, by kernel_rfl⟩, ⟨_, rfl⟩, ⟨_, rfl⟩, by kernel_rfl, by kernel_rfl⟩)
    refine ⟨by omega, by rw [List.length_append, ← hq]; rfl, by omega, ?_⟩
    rw [hM, ← List.take_append_getElem hjn, List.map_append]
    rfl
  · obtain rfl : j = n := by
      have : ¬ (j : Int) < (n : Int) := hge
      omega
    obtain rfl := hqj
    rw [List.take_of_length_le (by omega)] at hM
    subst hM
    refine go Try.tbs_ok 1000 ?_
    refine ev_fin (go Try.tbs_ok 1000 ?_)
    refine ev_fin ⟨trivial, _, rfl, ((C, e)), rfl, (by trivial), Frm.sel [0, 1, 2] rfl (by decide)⟩
set_option maxRecDepth 100000 in
theorem rFailsN (r : Nat) (m s : Int) (dn : Bool) (A : Option Addr) (n c : Nat) (lf : Int) (B : Option Addr) (k d : Nat) : Triple Try.prog 78 [.pointer (some ⟨r, 0, none⟩)] [Pt r 49 [.int .i64 m, .int .i64 s, .bool dn, .slice A n c, .bool false, .int .i64 lf, .slice B k d]] [] Unit (fun _ => .bool false) (fun _ => True) (fun _ => [Pt r 49 [.int .i64 m, .int .i64 s, .bool dn, .slice A n c, .bool false, .int .i64 lf, .slice B k d]]) := by
  refine triple_intro Try.tbs_ok Try.func78 rfl [.pt 0 r 0] [.box r 49 [.va (.int .i64 m), .va (.int .i64 s), .va (.bool dn), .va (.slice A n c), .va (.bool false), .va (.int .i64 lf), .va (.slice B k d)]] ⟨rfl, trivial⟩ rfl (by simp [SV.good, SV.goodL]) ?_
  intro E
  refine go Try.tbs_ok 1000 ?_
  refine ev_if_yes rfl ?_
  refine go Try.tbs_ok 1000 ?_
  refine ev_fin ⟨trivial, _, rfl, (()), rfl, (by trivial), Frm.sel [0] rfl (by decide)⟩
set_option maxRecDepth 100000 in
theorem rFailsG (r : Nat) (m s : Int) (dn : Bool) (A : Option Addr) (n c : Nat) (lf : Int) (B : Option Addr) (k d : Nat) (hq : 0 < lf) (hq2 : lf ≤ 9223372036854775807) : Triple Try.prog 78 [.pointer (some ⟨r, 0, none⟩)] [Pt r 49 [.int .i64 m, .int .i64 s, .bool dn, .slice A n c, .bool true, .int .i64 lf, .slice B k d]] [] Unit (fun _ => .bool false) (fun _ => True) (fun _ => [Pt r 49 [.int .i64 m, .int .i64 s, .bool dn, .slice A n c, .bool true, .int .i64 (lf - 1), .slice B k d]]) := by
  refine triple_intro Try.tbs_ok Try.func78 rfl [.pt 0 r 0] [.box r 49 [.va (.int .i64 m), .va (.int .i64 s), .va (.bool dn), .va (.slice A n c), .va (.bool true), .va (.int .i64 lf), .va (.slice B k d)]] ⟨rfl, trivial⟩ rfl (by simp [SV.good, SV.goodL]) ?_
  intro E
  refine go Try.tbs_ok 1000 ?_
  refine ev_if_no rfl ?_
  refine go Try.tbs_ok 1000 ?_
  refine ev_if_no (beq_eq_false_iff_ne.2 (show ¬lf = 0 from (by omega))) ?_
  refine go Try.tbs_ok 1000 ?_
  refine ev_w64 (by constructor <;> omega) ?_
  refine ev_fin ⟨trivial, _, rfl, (()), rfl, (by trivial), Frm.sel [0] rfl (by decide)⟩
set_option maxRecDepth 100000 in
theorem rFailsS (r : Nat) (m s : Int) (dn : Bool) (A : Option Addr) (n c : Nat) (lf : Int) (B : Option Addr) (k d : Nat) (hq : lf = 0) : Triple Try.prog 78 [.pointer (some ⟨r, 0, none⟩)] [Pt r 49 [.int .i64 m, .int .i64 s, .bool dn, .slice A n c, .bool true, .int .i64 lf, .slice B k d]] [] Unit (fun _ => .bool true) (fun _ => True) (fun _ => [Pt r 49 [.int .i64 m, .int .i64 s, .bool dn, .slice A n c, .bool true, .int .i64 lf, .slice B k d]]) := by
  refine triple_intro Try.tbs_ok Try.func78 rfl [.pt 0 r 0] [.box r 49 [.va (.int .i64 m), .va (.int .i64 s), .va (.bool dn), .va (.slice A n c), .va (.bool true), .va (.int .i64 lf), .va (.slice B k d)]] ⟨rfl, trivial⟩ rfl (by simp [SV.good, SV.goodL]) ?_
  intro E
  refine go Try.tbs_ok 1000 ?_
  refine ev_if_no rfl ?_
  refine go Try.tbs_ok 1000 ?_
  refine ev_if_yes (beq_iff_eq.2 (by with_reducible assumption)) ?_
  refine go Try.tbs_ok 1000 ?_
  refine ev_fin ⟨trivial, _, rfl, (()), rfl, (by trivial), Frm.sel [0] rfl (by decide)⟩
set_option maxRecDepth 100000 in
theorem rCrashDown (r : Nat) (m s : Int) (A : Option Addr) (n c : Nat) (st : Bool) (lf : Int) (B : Option Addr) (k d : Nat) (Q : Option Addr) (kq dq : Nat) : Triple Try.prog 48 [.pointer (some ⟨r, 0, none⟩), .slice Q kq dq] [Pt r 49 [.int .i64 m, .int .i64 s, .bool true, .slice A n c, .bool st, .int .i64 lf, .slice B k d]] [] Unit (fun _ => .int .i64 41) (fun _ => True) (fun _ => [Pt r 49 [.int .i64 m, .int .i64 s, .bool true, .slice A n c, .bool st, .int .i64 lf, .slice B k d]]) := by
  refine triple_intro Try.tbs_ok Try.func48 rfl [.pt 0 r 0, .va (.slice Q kq dq)] [.box r 49 [.va (.int .i64 m), .va (.int .i64 s), .va (.bool true), .va (.slice A n c), .va (.bool st), .va (.int .i64 lf), .va (.slice B k d)]] ⟨rfl, trivial, trivial⟩ rfl (by simp [SV.good, SV.goodL]) ?_
  intro E
  refine go Try.tbs_ok 1000 ?_
  refine ev_if_yes rfl ?_
  refine go Try.tbs_ok 1000 ?_
  refine ev_fin ⟨trivial, _, rfl, (()), rfl, (by trivial), Frm.sel [0] rfl (by decide)⟩
set_option maxHeartbeats 1000000 in
set_option maxRecDepth 100000 in
theorem rCrash (r : Nat) (m s : Int) (A : Option Addr) (n c : Nat) (st : Bool) (lf : Int) (B : Option Addr) (k d : Nat) (L : List Fl) (hn : n = L.length) (h1 : n ≤ 1000) (Q : Option Addr) (kq dq : Nat) (K : List Int) (hq : kq = K.length) (hL : okF L) : Triple Try.prog 48 [.pointer (some ⟨r, 0, none⟩), .slice Q kq dq] [Pt r 49 [.int .i64 m, .int .i64 s, .bool false, .slice A n c, .bool st, .int .i64 lf, .slice B k d], Row 82 3 A n c (L.flatMap encF)] [Rd 1 Q kq (K.flatMap encN)] Unit (fun _ => .int .i64 0) (fun _ => True) (fun _ => [Pt r 49 [.int .i64 m, .int .i64 s, .bool true, .slice A n c, .bool false, .int .i64 lf, .slice B k d], Row 82 3 A n c ((crashF L K).flatMap encF)]) := by
  refine triple_intro Try.tbs_ok Try.func48 rfl [.pt 0 r 0, .va (.slice Q kq dq)] [.box r 49 [.va (.int .i64 m), .va (.int .i64 s), .va (.bool false), .va (.slice A n c), .va (.bool st), .va (.int .i64 lf), .va (.slice B k d)], .fact (Row 82 3 A n c (L.flatMap encF))] ⟨rfl, trivial, trivial⟩ rfl (by simp [SV.good, SV.goodL]) ?_
  intro E
  refine go Try.tbs_ok 1000 ?_
  refine ev_if_no rfl ?_
  refine go Try.tbs_ok 1000 ?_
  refine ev_stop (go_loopR [5, 6, 17, 18, 19, 20, 21, 22, 23, 24, 25, 26, 27, 28, 29, 30, 31, 32, 33, 34, 35, 36, 37, 38, 39, 40, 41, 42, 43, 44, 45, 46, 47, 48, 49, 50, 51, 52, 53, 54, 55, 56, 57, 58, 59, 60, 61, 62, 63, 64, 65, 66, 67, 68, 69, 70, 71, 72, 73, 74, 75, 76, 77, 78, 79, 80, 81, 82, 83, 84, 85, 86, 87, 88, 89, 90, 91, 92, 93, 94] (fun j => [(5, .va (.int .i64 (j : Nat)))]) (fun j => [(1, .fact (Row 82 3 A n c (((crashF L K).take j ++ L.drop j).flatMap encF)))]) (fun j => j ≤ n) (fun j => n - j) (0 : Nat) (Nat.zero_le _) ⟨⟨by kernel_rfl, by kernel_rfl⟩, ⟨_, rfl⟩, ⟨_, rfl⟩, by kernel_rfl, by kernel_rfl⟩ (fun j hj => ?_))
  refine go Try.tbs_ok 1000 ?_
  refine ev_if_lt (fun hlt => ?_) (fun hge => ?_)
  · have hjn : j < L.length := by
      have : (j : Int) < (n : Int) := hlt
      omega
    have hf := hL _ (List.getElem_mem hjn)
    obtain ⟨C, hC⟩ : ∃ C, C = (crashF L K).take j ++ L.drop j := ⟨_, rfl⟩
    have hCl : C.length = n := by rw [hC, List.length_append, List.length_take, crashF_len, List.length_drop]; omega
    have hCj : C[j]'(by omega) = L[j] := by simp only [hC]; exact crashF_get hjn
    rw [← hCj] at hf
    rw [← hC]
    have hj2 : j < C.length := by omega
    by_cases hK : j < K.length
    · have e1 : C.set j (⟨C[j].n, C[j].d.extract 0 (C[j].s + max 0 (min K[j] ((C[j].d.size : Int) - C[j].s))).toNat, C[j].s + max 0 (min K[j] ((C[j].d.size : Int) - C[j].s))⟩ : Fl) = (crashF L K).take (j + 1) ++ L.drop (j + 1) := by
        rw [hCj, hC]
        exact crashF_step hjn _ (by rw [List.getElem?_eq_getElem hK]; rfl)
      refine go Try.tbs_ok 1000 ?_
      refine ev_if_yes (decide_eq_true (show (↑j : Int) < (↑kq : Int) from (by omega))) ?_
      refine go Try.tbs_ok 1000 ?_
      refine ev_stop (go_draw Try.tbs_ok false [0, 1] [(0,true),(1,true),(2,true),(3,true),(4,true),(5,true),(6,true),(7,true),(8,true),(9,true),(10,true),(11,true),(12,true),(13,true),(14,true),(15,true),(16,true),(17,true),(18,true),(19,true),(20,true),(21,true),(22,true),(23,true),(24,false)] rfl ?_)
      refine go Try.tbs_ok 1000 ?_
      refine ev_need ⟨⟨(by repeat (first | exact trivial | refine ⟨rfl, ?_⟩)), rfl⟩, by kernel_rfl⟩ ?_
      refine ev_stop (tk_indexE (sz := 1) Try.tbs_ok (.inl 0) (j) ⟨⟨(by repeat (first | exact trivial | refine ⟨rfl, ?_⟩)), rfl⟩, by kernel_rfl⟩ rfl rfl rfl rfl rfl rfl rfl (by omega) rfl (fun _ h => h) (fun g40 o42 e41 => ?_))
      subst e41
      refine go Try.tbs_ok 1000 ?_
      refine ev_need ⟨⟨(by repeat (first | exact trivial | refine ⟨rfl, ?_⟩)), rfl⟩, by kernel_rfl⟩ ?_
      have l43 : j < (K).length := (by omega)
      refine ev_stop (tk_loadE Try.tbs_ok (.inl 0) (j) 0 ⟨⟨(by repeat (first | exact trivial | refine ⟨rfl, ?_⟩)), rfl⟩, by kernel_rfl⟩ rfl rfl rfl rfl rfl (fun _ h => h) (by omega) (fun _ => rfl) (by omega) l43 (by decide) ?_)
      refine go Try.tbs_ok 1000 ?_
      refine ev_need ⟨⟨(by repeat (first | exact trivial | refine ⟨rfl, ?_⟩)), rfl⟩, by kernel_rfl⟩ ?_
      refine ev_stop (tk_index0 (sz := 3) Try.tbs_ok (.inr 1) (j) ⟨⟨(by repeat (first | exact trivial | refine ⟨rfl, ?_⟩)), rfl⟩, by kernel_rfl⟩ rfl rfl rfl rfl rfl rfl rfl (by omega) rfl Row.at0 (fun g44 e45 => ?_))
      subst e45
      refine go Try.tbs_ok 1000 ?_
      refine ev_need ⟨⟨(by repeat (first | exact trivial | refine ⟨rfl, ?_⟩)), rfl⟩, by kernel_rfl⟩ ?_
      have l46 : j < (C).length := (by omega)
      refine ev_stop (tk_loadE Try.tbs_ok (.inr 1) (j) 1 ⟨⟨(by repeat (first | exact trivial | refine ⟨rfl, ?_⟩)), rfl⟩, by kernel_rfl⟩ rfl rfl rfl rfl rfl (fun _ h => Row.rd h) (by omega) (fun _ => rfl) (by omega) l46 (by decide) ?_)
      refine go Try.tbs_ok 1000 ?_
      refine ev_need ⟨⟨(by repeat (first | exact trivial | refine ⟨rfl, ?_⟩)), rfl⟩, by kernel_rfl⟩ ?_
      refine ev_stop (tk_atE (sz := 3) Try.tbs_ok (j) ⟨⟨(by repeat (first | exact trivial | refine ⟨rfl, ?_⟩)), rfl⟩, by kernel_rfl⟩ rfl rfl rfl rfl rfl rfl rfl (by omega) ?_)
      refine go Try.tbs_ok 1000 ?_
      refine ev_need ⟨⟨(by repeat (first | exact trivial | refine ⟨rfl, ?_⟩)), rfl⟩, by kernel_rfl⟩ ?_
      have l47 : j < (C).length := (by omega)
      refine ev_stop (tk_loadE Try.tbs_ok (.inr 1) (j) 2 ⟨⟨(by repeat (first | exact trivial | refine ⟨rfl, ?_⟩)), rfl⟩, by kernel_rfl⟩ rfl rfl rfl rfl rfl (fun _ h => Row.rd h) (by omega) (fun _ => rfl) (by omega) l47 (by decide) ?_)
      refine go Try.tbs_ok 1000 ?_
      refine ev_need ⟨⟨(by repeat (first | exact trivial | refine ⟨rfl, ?_⟩)), rfl⟩, by kernel_rfl⟩ ?_
      refine ev_w64 (by constructor <;> omega) ?_
      refine ev_need (by kernel_rfl) ?_
      refine ev_stop (go_draw Try.tbs_ok false [0, 1] [(0,true),(1,true),(2,true),(3,true),(4,true),(5,true),(6,true),(7,true),(8,true),(9,true),(10,true),(11,true),(12,true),(13,true),(14,true),(15,true),(16,true),(17,false)] rfl ?_)
      refine go Try.tbs_ok 1000 ?_
      refine ev_need ⟨⟨(by repeat (first | exact trivial | refine ⟨rfl, ?_⟩)), rfl⟩, by kernel_rfl⟩ ?_
      refine ev_stop (tk_atE (sz := 3) Try.tbs_ok (j) ⟨⟨(by repeat (first | exact trivial | refine ⟨rfl, ?_⟩)), rfl⟩, by kernel_rfl⟩ rfl rfl rfl rfl rfl rfl rfl (by omega) ?_)
      refine go Try.tbs_ok 1000 ?_
      refine ev_need ⟨⟨(by repeat (first | exact trivial | refine ⟨rfl, ?_⟩)), rfl⟩, by kernel_rfl⟩ ?_
      have l48 : j < (C).length := (by omega)
      refine ev_stop (tk_loadE Try.tbs_ok (.inr 1) (j) 2 ⟨⟨(by repeat (first | exact trivial | refine ⟨rfl, ?_⟩)), rfl⟩, by kernel_rfl⟩ rfl rfl rfl rfl rfl (fun _ h => Row.rd h) (by omega) (fun _ => rfl) (by omega) l48 (by decide) ?_)
      refine go Try.tbs_ok 1000 ?_
      refine ev_need ⟨⟨(by repeat (first | exact trivial | refine ⟨rfl, ?_⟩)), rfl⟩, by kernel_rfl⟩ ?_
      refine ev_w64 (by constructor <;> omega) ?_
      refine ev_stop (tk_atE (sz := 3) Try.tbs_ok (j) ⟨⟨(by repeat (first | exact trivial | refine ⟨rfl, ?_⟩)), rfl⟩, by kernel_rfl⟩ rfl rfl rfl rfl rfl rfl rfl (by omega) ?_)
      refine go Try.tbs_ok 1000 ?_
      refine ev_need ⟨⟨(by repeat (first | exact trivial | refine ⟨rfl, ?_⟩)), rfl⟩, by kernel_rfl⟩ ?_
      have l49 : j < (C).length := (by omega)
      refine ev_stop (go_storeR Try.tbs_ok 1 (j) 2 ({ n := C[j].n, d := C[j].d, s := C[j].s + max 0 (min K[j] ((↑C[j].d.size : Int) - C[j].s)) : Fl }) rfl rfl rfl rfl rfl (by omega) (fun _ => rfl) (ones_of rfl) (by omega) l49 rfl (by decide) (ones_of rfl) rfl ?_)
      refine go Try.tbs_ok 1000 ?_
      refine ev_need (by kernel_rfl) ?_
      refine ev_stop (go_draw Try.tbs_ok false [0, 1] [(0,true),(1,true),(2,true),(3,true),(4,true),(5,true),(6,true),(7,true),(8,true),(9,true),(10,true),(11,true),(12,true),(13,true),(14,true),(15,true),(16,true),(17,true),(18,true),(19,true),(20,true),(21,true),(22,true),(23,true),(24,false)] rfl ?_)
      refine go Try.tbs_ok 1000 ?_
      refine ev_need ⟨⟨(by repeat (first | exact trivial | refine ⟨rfl, ?_⟩)), rfl⟩, by kernel_rfl⟩ ?_
      refine ev_stop (tk_atE (sz := 3) Try.tbs_ok (j) ⟨⟨(by repeat (first | exact trivial | refine ⟨rfl, ?_⟩)), rfl⟩, by kernel_rfl⟩ rfl rfl rfl rfl rfl rfl rfl (by omega) ?_)
      refine go Try.tbs_ok 1000 ?_
      refine ev_need ⟨⟨(by repeat (first | exact trivial | refine ⟨rfl, ?_⟩)), rfl⟩, by kernel_rfl⟩ ?_
      have l50 : j < (C.set j { n := C[j].n, d := C[j].d, s := C[j].s + max 0 (min K[j] ((↑C[j].d.size : Int) - C[j].s)) : Fl }).length := (by (simp only [List.length_set, List.length_append, List.length_cons, List.length_nil, List.length_map, List.length_take, List.length_drop, List.length_replicate] <;> omega))
      refine ev_stop (tk_loadE Try.tbs_ok (.inr 1) (j) 1 ⟨⟨(by repeat (first | exact trivial | refine ⟨rfl, ?_⟩)), rfl⟩, by kernel_rfl⟩ rfl rfl rfl rfl rfl (fun _ h => Row.rd h) (by omega) (fun _ => rfl) (by omega) l50 (by decide) ?_)
      refine go Try.tbs_ok 1000 ?_
      refine ev_need ⟨⟨(by repeat (first | exact trivial | refine ⟨rfl, ?_⟩)), rfl⟩, by kernel_rfl⟩ ?_
      refine ev_stop (tk_atE (sz := 3) Try.tbs_ok (j) ⟨⟨(by repeat (first | exact trivial | refine ⟨rfl, ?_⟩)), rfl⟩, by kernel_rfl⟩ rfl rfl rfl rfl rfl rfl rfl (by omega) ?_)
      refine go Try.tbs_ok 1000 ?_
      refine ev_need ⟨⟨(by repeat (first | exact trivial | refine ⟨rfl, ?_⟩)), rfl⟩, by kernel_rfl⟩ ?_
      have l51 : j < (C.set j { n := C[j].n, d := C[j].d, s := C[j].s + max 0 (min K[j] ((↑C[j].d.size : Int) - C[j].s)) : Fl }).length := (by omega)
      refine ev_stop (tk_loadE Try.tbs_ok (.inr 1) (j) 2 ⟨⟨(by repeat (first | exact trivial | refine ⟨rfl, ?_⟩)), rfl⟩, by kernel_rfl⟩ rfl rfl rfl rfl rfl (fun _ h => Row.rd h) (by omega) (fun _ => rfl) (by omega) l51 (by decide) ?_)
      refine go Try.tbs_ok 1000 ?_
      refine ev_need ⟨⟨(by repeat (first | exact trivial | refine ⟨rfl, ?_⟩)), rfl⟩, by kernel_rfl⟩ ?_
      refine ev_stop (go_slot 91 _ (.va (.int IntKind.i64 (((C.set j { n := C[j].n, d := C[j].d, s := C[j].s + max 0 (min K[j] ((↑C[j].d.size : Int) - C[j].s)) : Fl })[j].s.toNat : Nat) : Int))) rfl rfl (congrArg (fun z => Value.int IntKind.i64 z) (show (C.set j { n := C[j].n, d := C[j].d, s := C[j].s + max 0 (min K[j] ((↑C[j].d.size : Int) - C[j].s)) : Fl })[j].s = (((C.set j { n := C[j].n, d := C[j].d, s := C[j].s + max 0 (min K[j] ((↑C[j].d.size : Int) - C[j].s)) : Fl })[j].s.toNat : Nat) : Int) by first | omega | (simp only [List.getElem_set_self]; omega))) (fun _ => trivial) ?_)
      refine go Try.tbs_ok 1000 ?_
      refine ev_need ⟨⟨(by repeat (first | exact trivial | refine ⟨rfl, ?_⟩)), rfl⟩, by kernel_rfl⟩ ?_
      refine ev_stop (tk_sliceS Try.tbs_ok (0) ((C.set j { n := C[j].n, d := C[j].d, s := C[j].s + max 0 (min K[j] ((↑C[j].d.size : Int) - C[j].s)) : Fl })[j].s.toNat) ⟨⟨(by repeat (first | exact trivial | refine ⟨rfl, ?_⟩)), rfl⟩, by kernel_rfl⟩ rfl rfl rfl rfl rfl rfl ⟨_, rfl⟩ (by omega) (by (simp only [List.getElem_set_self]; omega)) ?_)
      refine go Try.tbs_ok 1000 ?_
      refine ev_need ⟨⟨(by repeat (first | exact trivial | refine ⟨rfl, ?_⟩)), rfl⟩, by kernel_rfl⟩ ?_
      refine ev_stop (tk_atE (sz := 3) Try.tbs_ok (j) ⟨⟨(by repeat (first | exact trivial | refine ⟨rfl, ?_⟩)), rfl⟩, by kernel_rfl⟩ rfl rfl rfl rfl rfl rfl rfl (by omega) ?_)
      refine go Try.tbs_ok 1000 ?_
      refine ev_need ⟨⟨(by repeat (first | exact trivial | refine ⟨rfl, ?_⟩)), rfl⟩, by kernel_rfl⟩ ?_
      have l52 : j < (C.set j { n := C[j].n, d := C[j].d, s := C[j].s + max 0 (min K[j] ((↑C[j].d.size : Int) - C[j].s)) : Fl }).length := (by omega)
      refine ev_stop (go_storeR Try.tbs_ok 1 (j) 1 ({ n := (C.set j { n := C[j].n, d := C[j].d, s := C[j].s + max 0 (min K[j] ((↑C[j].d.size : Int) - C[j].s)) : Fl })[j].n, d := (C.set j { n := C[j].n, d := C[j].d, s := C[j].s + max 0 (min K[j] ((↑C[j].d.size : Int) - C[j].s)) : Fl })[j].d.extract 0 (C.set j { n := C[j].n, d := C[j].d, s := C[j].s + max 0 (min K[j] ((↑C[j].d.size : Int) - C[j].s)) : Fl })[j].s.toNat, s := (C.set j { n := C[j].n, d := C[j].d, s := C[j].s + max 0 (min K[j] ((↑C[j].d.size : Int) - C[j].s)) : Fl })[j].s : Fl }) rfl rfl rfl rfl rfl (by omega) (fun _ => rfl) (ones_of rfl) (by omega) l52 rfl (by decide) (ones_of rfl) rfl ?_)
      refine go Try.tbs_ok 1000 ?_
      refine ev_need (by kernel_rfl) ?_
      refine ev_wrapN (j + 1) (by constructor <;> omega) (by rfl) ?_
      simp only [List.getElem_set_self, List.set_set]
      rw [e1]
      refine ev_fin (round_next (j + 1) (show j + 1 ≤ n from (by omega)) (show n - (j + 1) < n - j from (by omega)) ⟨⟨by kernel_rfl, by kernel_rfl⟩, ⟨_, rfl⟩, ⟨_, rfl⟩, by kernel_rfl, by kernel_rfl⟩)
    · have e2 : C.set j (⟨C[j].n, C[j].d.extract 0 (C[j].s + 0).toNat, C[j].s + 0⟩ : Fl) = (crashF L K).take (j + 1) ++ L.drop (j + 1) := by
        rw [hCj, hC, Int.add_zero]
        exact crashF_step hjn _ (by rw [List.getElem?_eq_none (by omega)]; rfl)
      refine go Try.tbs_ok 1000 ?_
      refine ev_if_no (decide_eq_false (show ¬(↑j : Int) < (↑kq : Int) from (by omega))) ?_
      refine go Try.tbs_ok 1000 ?_
      refine ev_stop (go_draw Try.tbs_ok false [0, 1] [(0,true),(1,true),(2,true),(3,true),(4,true),(5,true),(6,true),(7,true),(8,true),(9,true),(10,true),(11,true),(12,true),(13,true),(14,true),(15,true),(16,true),(17,false)] rfl ?_)
      refine go Try.tbs_ok 1000 ?_
      refine ev_need ⟨⟨(by repeat (first | exact trivial | refine ⟨rfl, ?_⟩)), rfl⟩, by kernel_rfl⟩ ?_
      refine ev_stop (tk_index0 (sz := 3) Try.tbs_ok (.inr 1) (j) ⟨⟨(by repeat (first | exact trivial | refine ⟨rfl, ?_⟩)), rfl⟩, by kernel_rfl⟩ rfl rfl rfl rfl rfl rfl rfl (by omega) rfl Row.at0 (fun g40 e41 => ?_))
      subst e41
      refine go Try.tbs_ok 1000 ?_
      refine ev_need ⟨⟨(by repeat (first | exact trivial | refine ⟨rfl, ?_⟩)), rfl⟩, by kernel_rfl⟩ ?_
      have l42 : j < (C).length := (by omega)
      refine ev_stop (tk_loadE Try.tbs_ok (.inr 1) (j) 2 ⟨⟨(by repeat (first | exact trivial | refine ⟨rfl, ?_⟩)), rfl⟩, by kernel_rfl⟩ rfl rfl rfl rfl rfl (fun _ h => Row.rd h) (by omega) (fun _ => rfl) (by omega) l42 (by decide) ?_)
      refine go Try.tbs_ok 1000 ?_
      refine ev_need ⟨⟨(by repeat (first | exact trivial | refine ⟨rfl, ?_⟩)), rfl⟩, by kernel_rfl⟩ ?_
      refine ev_w64 (by constructor <;> omega) ?_
      refine ev_stop (tk_atE (sz := 3) Try.tbs_ok (j) ⟨⟨(by repeat (first | exact trivial | refine ⟨rfl, ?_⟩)), rfl⟩, by kernel_rfl⟩ rfl rfl rfl rfl rfl rfl rfl (by omega) ?_)
      refine go Try.tbs_ok 1000 ?_
      refine ev_need ⟨⟨(by repeat (first | exact trivial | refine ⟨rfl, ?_⟩)), rfl⟩, by kernel_rfl⟩ ?_
      have l43 : j < (C).length := (by omega)
      refine ev_stop (go_storeR Try.tbs_ok 1 (j) 2 ({ n := C[j].n, d := C[j].d, s := C[j].s + 0 : Fl }) rfl rfl rfl rfl rfl (by omega) (fun _ => rfl) (ones_of rfl) (by omega) l43 rfl (by decide) (ones_of rfl) rfl ?_)
      refine go Try.tbs_ok 1000 ?_
      refine ev_need (by kernel_rfl) ?_
      refine ev_stop (go_draw Try.tbs_ok false [0, 1] [(0,true),(1,true),(2,true),(3,true),(4,true),(5,true),(6,true),(7,true),(8,true),(9,true),(10,true),(11,true),(12,true),(13,true),(14,true),(15,true),(16,true),(17,true),(18,true),(19,true),(20,true),(21,true),(22,true),(23,true),(24,false)] rfl ?_)
      refine go Try.tbs_ok 1000 ?_
      refine ev_need ⟨⟨(by repeat (first | exact trivial | refine ⟨rfl, ?_⟩)), rfl⟩, by kernel_rfl⟩ ?_
      refine ev_stop (tk_atE (sz := 3) Try.tbs_ok (j) ⟨⟨(by repeat (first | exact trivial | refine ⟨rfl, ?_⟩)), rfl⟩, by kernel_rfl⟩ rfl rfl rfl rfl rfl rfl rfl (by omega) ?_)
      refine go Try.tbs_ok 1000 ?_
      refine ev_need ⟨⟨(by repeat (first | exact trivial | refine ⟨rfl, ?_⟩)), rfl⟩, by kernel_rfl⟩ ?_
      have l44 : j < (C.set j { n := C[j].n, d := C[j].d, s := C[j].s + 0 : Fl }).length := (by (simp only [List.length_set, List.length_append, List.length_cons, List.length_nil, List.length_map, List.length_take, List.length_drop, List.length_replicate] <;> omega))
      refine ev_stop (tk_loadE Try.tbs_ok (.inr 1) (j) 1 ⟨⟨(by repeat (first | exact trivial | refine ⟨rfl, ?_⟩)), rfl⟩, by kernel_rfl⟩ rfl rfl rfl rfl rfl (fun _ h => Row.rd h) (by omega) (fun _ => rfl) (by omega) l44 (by decide) ?_)
      refine go Try.tbs_ok 1000 ?_
      refine ev_need ⟨⟨(by repeat (first | exact trivial | refine ⟨rfl, ?_⟩)), rfl⟩, by kernel_rfl⟩ ?_
      refine ev_stop (tk_atE (sz := 3) Try.tbs_ok (j) ⟨⟨(by repeat (first | exact trivial | refine ⟨rfl, ?_⟩)), rfl⟩, by kernel_rfl⟩ rfl rfl rfl rfl rfl rfl rfl (by omega) ?_)
      refine go Try.tbs_ok 1000 ?_
      refine ev_need ⟨⟨(by repeat (first | exact trivial | refine ⟨rfl, ?_⟩)), rfl⟩, by kernel_rfl⟩ ?_
      have l45 : j < (C.set j { n := C[j].n, d := C[j].d, s := C[j].s + 0 : Fl }).length := (by omega)
      refine ev_stop (tk_loadE Try.tbs_ok (.inr 1) (j) 2 ⟨⟨(by repeat (first | exact trivial | refine ⟨rfl, ?_⟩)), rfl⟩, by kernel_rfl⟩ rfl rfl rfl rfl rfl (fun _ h => Row.rd h) (by omega) (fun _ => rfl) (by omega) l45 (by decide) ?_)
      refine go Try.tbs_ok 1000 ?_
      refine ev_need ⟨⟨(by repeat (first | exact trivial | refine ⟨rfl, ?_⟩)), rfl⟩, by kernel_rfl⟩ ?_
      refine ev_stop (go_slot 91 _ (.va (.int IntKind.i64 (((C.set j { n := C[j].n, d := C[j].d, s := C[j].s + 0 : Fl })[j].s.toNat : Nat) : Int))) rfl rfl (congrArg (fun z => Value.int IntKind.i64 z) (show (C.set j { n := C[j].n, d := C[j].d, s := C[j].s + 0 : Fl })[j].s = (((C.set j { n := C[j].n, d := C[j].d, s := C[j].s + 0 : Fl })[j].s.toNat : Nat) : Int) by first | omega | (simp only [List.getElem_set_self]; omega))) (fun _ => trivial) ?_)
      refine go Try.tbs_ok 1000 ?_
      refine ev_need ⟨⟨(by repeat (first | exact trivial | refine ⟨rfl, ?_⟩)), rfl⟩, by kernel_rfl⟩ ?_
      refine ev_stop (tk_sliceS Try.tbs_ok (0) ((C.set j { n := C[j].n, d := C[j].d, s := C[j].s + 0 : Fl })[j].s.toNat) ⟨⟨(by repeat (first | exact trivial | refine ⟨rfl, ?_⟩)), rfl⟩, by kernel_rfl⟩ rfl rfl rfl rfl rfl rfl ⟨_, rfl⟩ (by omega) (by (simp only [List.getElem_set_self]; omega)) ?_)
      refine go Try.tbs_ok 1000 ?_
      refine ev_need ⟨⟨(by repeat (first | exact trivial | refine ⟨rfl, ?_⟩)), rfl⟩, by kernel_rfl⟩ ?_
      refine ev_stop (tk_atE (sz := 3) Try.tbs_ok (j) ⟨⟨(by repeat (first | exact trivial | refine ⟨rfl, ?_⟩)), rfl⟩, by kernel_rfl⟩ rfl rfl rfl rfl rfl rfl rfl (by omega) ?_)
      refine go Try.tbs_ok 1000 ?_
      refine ev_need ⟨⟨(by repeat (first | exact trivial | refine ⟨rfl, ?_⟩)), rfl⟩, by kernel_rfl⟩ ?_
      have l46 : j < (C.set j { n := C[j].n, d := C[j].d, s := C[j].s + 0 : Fl }).length := (by omega)
      refine ev_stop (go_storeR Try.tbs_ok 1 (j) 1 ({ n := (C.set j { n := C[j].n, d := C[j].d, s := C[j].s + 0 : Fl })[j].n, d := (C.set j { n := C[j].n, d := C[j].d, s := C[j].s + 0 : Fl })[j].d.extract 0 (C.set j { n := C[j].n, d := C[j].d, s := C[j].s + 0 : Fl })[j].s.toNat, s := (C.set j { n := C[j].n, d := C[j].d, s := C[j].s + 0 : Fl })[j].s : Fl }) rfl rfl rfl rfl rfl (by omega) (fun _ => rfl) (ones_of rfl) (by omega) l46 rfl (by decide) (ones_of rfl) rfl ?_)
      refine go Try.tbs_ok 1000 ?_
      refine ev_need (by kernel_rfl) ?_
      refine ev_wrapN (j + 1) (by constructor <;> omega) (by rfl) ?_
      simp only [List.getElem_set_self, List.set_set]
      rw [e2]
      refine ev_fin (round_next (j + 1) (show j + 1 ≤ n from (by omega)) (show n - (j + 1) < n - j from (by omega)) ⟨⟨by kernel_rfl, by kernel_rfl⟩, ⟨_, rfl⟩, ⟨_, rfl⟩, by kernel_rfl, by kernel_rfl⟩)
  · obtain rfl : j = n := by
      have : ¬ (j : Int) < (n : Int) := hge
      omega
    have e : (crashF L K).take j ++ L.drop j = crashF L K := by
      rw [List.take_of_length_le (by rw [crashF_len]; omega), List.drop_of_length_le (by omega), List.append_nil]
    rw [e]
    refine go Try.tbs_ok 1000 ?_
    refine ev_fin (go Try.tbs_ok 1000 ?_)
    refine ev_fin ⟨trivial, _, rfl, (()), rfl, (by trivial), Frm.sel [0, 1] rfl (by decide)⟩
end Go.Proofs.Ythknokcgclcbmaa
namespace Go.Proofs.Ythknokcgclcbmaa
open Go.Sy
set_option maxRecDepth 100000 in
theorem rThereDown (r : Nat) (m s : Int) (A : Option Addr) (n c : Nat) (st : Bool) (lf : Int) (B : Option Addr) (k d : Nat) (x : ByteArray) : Triple Try.prog 54 [.pointer (some ⟨r, 0, none⟩), .string x] [Pt r 49 [.int .i64 m, .int .i64 s, .bool true, .slice A n c, .bool st, .int .i64 lf, .slice B k d]] [] Unit (fun _ => .tuple #[.int .i64 0, .int .i64 41]) (fun _ => True) (fun _ => [Pt r 49 [.int .i64 m, .int .i64 s, .bool true, .slice A n c, .bool st, .int .i64 lf, .slice B k d]]) := by
  refine triple_intro Try.tbs_ok Try.func54 rfl [.pt 0 r 0, .va (.string x)] [.box r 49 [.va (.int .i64 m), .va (.int .i64 s), .va (.bool true), .va (.slice A n c), .va (.bool st), .va (.int .i64 lf), .va (.slice B k d)]] ⟨rfl, trivial, trivial⟩ rfl (by simp [SV.good, SV.goodL]) ?_
  intro E
  refine go Try.tbs_ok 1000 ?_
  refine ev_if_yes rfl ?_
  refine go Try.tbs_ok 1000 ?_
  refine ev_fin ⟨trivial, _, rfl, (()), rfl, (by trivial), Frm.sel [0] rfl (by decide)⟩
set_option maxRecDepth 100000 in
theorem rThereNo (r : Nat) (m s : Int) (A : Option Addr) (n c : Nat) (st : Bool) (lf : Int) (B : Option Addr) (k d : Nat) (L : List Fl) (hn : n = L.length) (h1 : n ≤ 1000) (x : ByteArray) (hs : riseF L) (hh : hasF L x = false) : Triple Try.prog 54 [.pointer (some ⟨r, 0, none⟩), .string x] [Pt r 49 [.int .i64 m, .int .i64 s, .bool false, .slice A n c, .bool st, .int .i64 lf, .slice B k d], Row 82 3 A n c (L.flatMap encF)] [] Unit (fun _ => .tuple #[.int .i64 0, .int .i64 4]) (fun _ => True) (fun _ => [Pt r 49 [.int .i64 m, .int .i64 s, .bool false, .slice A n c, .bool st, .int .i64 lf, .slice B k d], Row 82 3 A n c (L.flatMap encF)]) := by
  have T1 := rFind r m s false A n c st lf B k d L hn h1 x hs
  rw [show ixF L x = -1 from by unfold ixF; rw [hh]; rfl] at T1
  refine triple_intro Try.tbs_ok Try.func54 rfl [.pt 0 r 0, .va (.string x)] [.box r 49 [.va (.int .i64 m), .va (.int .i64 s), .va (.bool false), .va (.slice A n c), .va (.bool st), .va (.int .i64 lf), .va (.slice B k d)], .fact (Row 82 3 A n c (L.flatMap encF))] ⟨rfl, trivial, trivial⟩ rfl (by simp [SV.good, SV.goodL]) ?_
  intro E
  refine go Try.tbs_ok 1000 ?_
  refine ev_if_no rfl ?_
  refine go Try.tbs_ok 1000 ?_
  refine ev_call (T1 ) [0, 1] [] (fun v0_ => [.box (r) 49 [.va (Value.int IntKind.i64 m), .va (Value.int IntKind.i64 s), .bl false, .va (Value.slice A n c), .bq (st), .va (Value.int IntKind.i64 lf), .va (Value.slice B k d)], .fact (Row 82 3 A n c (List.flatMap encF L))]) rfl rfl (by decide) rfl (by simp) (fun _ => rfl) (fun _ => (newsOk_box (by simp [SV.good, SV.goodL]) (newsOk_fact (newsOk_nil _)))) (fun _ => (by repeat (first | exact trivial | refine ⟨rfl, ?_⟩))) (fun _ h0 => ?_)
  refine go Try.tbs_ok 1000 ?_
  refine ev_if_yes rfl ?_
  refine go Try.tbs_ok 1000 ?_
  refine ev_fin ⟨trivial, _, rfl, (()), rfl, (by trivial), Frm.sel [0, 1] rfl (by decide)⟩
set_option maxRecDepth 100000 in
theorem rThereOk (r : Nat) (m s : Int) (A : Option Addr) (n c : Nat) (st : Bool) (lf : Int) (B : Option Addr) (k d : Nat) (L : List Fl) (hn : n = L.length) (h1 : n ≤ 1000) (x : ByteArray) (hs : riseF L) (hh : hasF L x = true) : Triple Try.prog 54 [.pointer (some ⟨r, 0, none⟩), .string x] [Pt r 49 [.int .i64 m, .int .i64 s, .bool false, .slice A n c, .bool st, .int .i64 lf, .slice B k d], Row 82 3 A n c (L.flatMap encF)] [] Unit (fun _ => .tuple #[.int .i64 (posF L x : Nat), .int .i64 0]) (fun _ => True) (fun _ => [Pt r 49 [.int .i64 m, .int .i64 s, .bool false, .slice A n c, .bool st, .int .i64 lf, .slice B k d], Row 82 3 A n c (L.flatMap encF)]) := by
  have T1 := rFind r m s false A n c st lf B k d L hn h1 x hs
  rw [show ixF L x = (posF L x : Nat) from by unfold ixF; rw [hh]; rfl] at T1
  refine triple_intro Try.tbs_ok Try.func54 rfl [.pt 0 r 0, .va (.string x)] [.box r 49 [.va (.int .i64 m), .va (.int .i64 s), .va (.bool false), .va (.slice A n c), .va (.bool st), .va (.int .i64 lf), .va (.slice B k d)], .fact (Row 82 3 A n c (L.flatMap encF))] ⟨rfl, trivial, trivial⟩ rfl (by simp [SV.good, SV.goodL]) ?_
  intro E
  refine go Try.tbs_ok 1000 ?_
  refine ev_if_no rfl ?_
  refine go Try.tbs_ok 1000 ?_
  refine ev_call (T1 ) [0, 1] [] (fun v0_ => [.box (r) 49 [.va (Value.int IntKind.i64 m), .va (Value.int IntKind.i64 s), .bl false, .va (Value.slice A n c), .bq (st), .va (Value.int IntKind.i64 lf), .va (Value.slice B k d)], .fact (Row 82 3 A n c (List.flatMap encF L))]) rfl rfl (by decide) rfl (by simp) (fun _ => rfl) (fun _ => (newsOk_box (by simp [SV.good, SV.goodL]) (newsOk_fact (newsOk_nil _)))) (fun _ => (by repeat (first | exact trivial | refine ⟨rfl, ?_⟩))) (fun _ h0 => ?_)
  refine go Try.tbs_ok 1000 ?_
  refine ev_if_no rfl ?_
  refine go Try.tbs_ok 1000 ?_
  refine ev_fin ⟨trivial, _, rfl, (()), rfl, (by trivial), Frm.sel [0, 1] rfl (by decide)⟩
set_option maxRecDepth 100000 in
theorem rChangeN (r : Nat) (m s : Int) (A : Option Addr) (n c : Nat) (lf : Int) (B : Option Addr) (k d : Nat) : Triple Try.prog 73 [.pointer (some ⟨r, 0, none⟩)] [Pt r 49 [.int .i64 m, .int .i64 s, .bool false, .slice A n c, .bool false, .int .i64 lf, .slice B k d]] [] Unit (fun _ => .int .i64 0) (fun _ => True) (fun _ => [Pt r 49 [.int .i64 m, .int .i64 s, .bool false, .slice A n c, .bool false, .int .i64 lf, .slice B k d]]) := by
  have TF := rFailsN r m s false A n c lf B k d
  refine triple_intro Try.tbs_ok Try.func73 rfl [.pt 0 r 0] [.box r 49 [.va (.int .i64 m), .va (.int .i64 s), .va (.bool false), .va (.slice A n c), .va (.bool false), .va (.int .i64 lf), .va (.slice B k d)]] ⟨rfl, trivial⟩ rfl (by simp [SV.good, SV.goodL]) ?_
  intro E
  refine go Try.tbs_ok 1000 ?_
  refine ev_call (TF ) [0] [] (fun v0_ => [.box (r) 49 [.va (Value.int IntKind.i64 m), .va (Value.int IntKind.i64 s), .bl false, .va (Value.slice A n c), .bl false, .va (Value.int IntKind.i64 lf), .va (Value.slice B k d)]]) rfl rfl (by decide) rfl (by simp) (fun _ => rfl) (fun _ => (newsOk_box (by simp [SV.good, SV.goodL]) (newsOk_nil _))) (fun _ => (by repeat (first | exact trivial | refine ⟨rfl, ?_⟩))) (fun _ h0 => ?_)
  refine go Try.tbs_ok 1000 ?_
  refine ev_if_no rfl ?_
  refine go Try.tbs_ok 1000 ?_
  refine ev_fin ⟨trivial, _, rfl, (()), rfl, (by trivial), Frm.sel [0] rfl (by decide)⟩
set_option maxRecDepth 100000 in
theorem rChangeG (r : Nat) (m s : Int) (A : Option Addr) (n c : Nat) (lf : Int) (B : Option Addr) (k d : Nat) (hq : 0 < lf) (hq2 : lf ≤ 9223372036854775807) : Triple Try.prog 73 [.pointer (some ⟨r, 0, none⟩)] [Pt r 49 [.int .i64 m, .int .i64 s, .bool false, .slice A n c, .bool true, .int .i64 lf, .slice B k d]] [] Unit (fun _ => .int .i64 0) (fun _ => True) (fun _ => [Pt r 49 [.int .i64 m, .int .i64 s, .bool false, .slice A n c, .bool true, .int .i64 (lf - 1), .slice B k d]]) := by
  have TF := rFailsG r m s false A n c lf B k d hq hq2
  refine triple_intro Try.tbs_ok Try.func73 rfl [.pt 0 r 0] [.box r 49 [.va (.int .i64 m), .va (.int .i64 s), .va (.bool false), .va (.slice A n c), .va (.bool true), .va (.int .i64 lf), .va (.slice B k d)]] ⟨rfl, trivial⟩ rfl (by simp [SV.good, SV.goodL]) ?_
  intro E
  refine go Try.tbs_ok 1000 ?_
  refine ev_call (TF ) [0] [] (fun v0_ => [.box (r) 49 [.va (Value.int IntKind.i64 m), .va (Value.int IntKind.i64 s), .bl false, .va (Value.slice A n c), .bl true, .va (Value.int IntKind.i64 (lf - 1)), .va (Value.slice B k d)]]) rfl rfl (by decide) rfl (by simp) (fun _ => rfl) (fun _ => (newsOk_box (by simp [SV.good, SV.goodL]) (newsOk_nil _))) (fun _ => (by repeat (first | exact trivial | refine ⟨rfl, ?_⟩))) (fun _ h0 => ?_)
  refine go Try.tbs_ok 1000 ?_
  refine ev_if_no rfl ?_
  refine go Try.tbs_ok 1000 ?_
  refine ev_fin ⟨trivial, _, rfl, (()), rfl, (by trivial), Frm.sel [0] rfl (by decide)⟩
set_option maxRecDepth 100000 in
theorem rChangeS (r : Nat) (m s : Int) (A : Option Addr) (n c : Nat) (lf : Int) (B : Option Addr) (k d : Nat) (L : List Fl) (hn : n = L.length) (h1 : n ≤ 1000) (hq : lf = 0) (K : List Int) (hk : k = K.length) (hL : okF L) : Triple Try.prog 73 [.pointer (some ⟨r, 0, none⟩)] [Pt r 49 [.int .i64 m, .int .i64 s, .bool false, .slice A n c, .bool true, .int .i64 lf, .slice B k d], Row 82 3 A n c (L.flatMap encF), Row 3 1 B k d (K.flatMap encN)] [] Unit (fun _ => .int .i64 41) (fun _ => True) (fun _ => [Pt r 49 [.int .i64 m, .int .i64 s, .bool true, .slice A n c, .bool false, .int .i64 lf, .slice B k d], Row 82 3 A n c ((crashF L K).flatMap encF), Row 3 1 B k d (K.flatMap encN)]) := by
  have TF := rFailsS r m s false A n c lf B k d hq
  have TC := (rCrash r m s A n c true lf B k d L hn h1 B k d K hk hL).reads (N' := [Row 3 1 B k d (K.flatMap encN)]) (fun X hX => ⟨_, List.mem_cons_self, fun _ q => by rw [List.mem_singleton.1 hX]; exact Row.rd q⟩)
  refine triple_intro Try.tbs_ok Try.func73 rfl [.pt 0 r 0] [.box r 49 [.va (.int .i64 m), .va (.int .i64 s), .va (.bool false), .va (.slice A n c), .va (.bool true), .va (.int .i64 lf), .va (.slice B k d)], .fact (Row 82 3 A n c (L.flatMap encF)), .fact (Row 3 1 B k d (K.flatMap encN))] ⟨rfl, trivial⟩ rfl (by simp [SV.good, SV.goodL]) ?_
  intro E
  refine go Try.tbs_ok 1000 ?_
  refine ev_call (TF ) [0] [] (fun v0_ => [.box (r) 49 [.va (Value.int IntKind.i64 m), .va (Value.int IntKind.i64 s), .bl false, .va (Value.slice A n c), .bl true, .va (Value.int IntKind.i64 lf), .va (Value.slice B k d)]]) rfl rfl (by decide) rfl (by simp) (fun _ => rfl) (fun _ => (newsOk_box (by simp [SV.good, SV.goodL]) (newsOk_nil _))) (fun _ => (by repeat (first | exact trivial | refine ⟨rfl, ?_⟩))) (fun _ h0 => ?_)
  refine go Try.tbs_ok 1000 ?_
  refine ev_if_yes rfl ?_
  refine go Try.tbs_ok 1000 ?_
  refine ev_call (TC ) [0, 1] [.inr 2] (fun v0_ => [.box (r) 49 [.va (Value.int IntKind.i64 m), .va (Value.int IntKind.i64 s), .bl true, .va (Value.slice A n c), .bl false, .va (Value.int IntKind.i64 lf), .va (Value.slice B k d)], .fact (Row 82 3 A n c (List.flatMap encF (crashF L K)))]) rfl rfl (by decide) rfl (by simp) (fun _ => rfl) (fun _ => (newsOk_box (by simp [SV.good, SV.goodL]) (newsOk_fact (newsOk_nil _)))) (fun _ => (by repeat (first | exact trivial | refine ⟨rfl, ?_⟩))) (fun _ h1 => ?_)
  refine go Try.tbs_ok 1000 ?_
  refine ev_fin ⟨trivial, _, rfl, (()), rfl, (by trivial), Frm.sel [0, 1, 2] rfl (by decide)⟩
set_option maxRecDepth 100000 in
theorem rSyncN (r : Nat) (m s : Int) (A : Option Addr) (n c : Nat) (lf : Int) (B : Option Addr) (k d : Nat) (L : List Fl) (hn : n = L.length) (h1 : n ≤ 1000) (x : ByteArray) (hs : riseF L) (hh : hasF L x = true) (hi : posF L x < L.length) : Triple Try.prog 44 [.pointer (some ⟨r, 0, none⟩), .string x] [Pt r 49 [.int .i64 m, .int .i64 s, .bool false, .slice A n c, .bool false, .int .i64 lf, .slice B k d], Row 82 3 A n c (L.flatMap encF)] [] Unit (fun _ => .int .i64 0) (fun _ => True) (fun _ => [Pt r 49 [.int .i64 m, .int .i64 s, .bool false, .slice A n c, .bool false, .int .i64 lf, .slice B k d], Row 82 3 A n c ((L.set (posF L x) ⟨(L[posF L x]'hi).n, (L[posF L x]'hi).d, ((L[posF L x]'hi).d.size : Nat)⟩).flatMap encF)]) := by
  have TT := rThereOk r m s A n c false lf B k d L hn h1 x hs hh
  have TC := rChangeN r m s A n c lf B k d
  refine triple_intro Try.tbs_ok Try.func44 rfl [.pt 0 r 0, .va (.string x)] [.box r 49 [.va (.int .i64 m), .va (.int .i64 s), .va (.bool false), .va (.slice A n c), .va (.bool false), .va (.int .i64 lf), .va (.slice B k d)], .fact (Row 82 3 A n c (L.flatMap encF))] ⟨rfl, trivial, trivial⟩ rfl (by simp [SV.good, SV.goodL]) ?_
  intro E
  refine go Try.tbs_ok 1000 ?_
  refine ev_call (TT ) [0, 1] [] (fun v0_ => [.box (r) 49 [.va (Value.int IntKind.i64 m), .va (Value.int IntKind.i64 s), .bl false, .va (Value.slice A n c), .bl false, .va (Value.int IntKind.i64 lf), .va (Value.slice B k d)], .fact (Row 82 3 A n c (List.flatMap encF L))]) rfl rfl (by decide) rfl (by simp) (fun _ => rfl) (fun _ => (newsOk_box (by simp [SV.good, SV.goodL]) (newsOk_fact (newsOk_nil _)))) (fun _ => (by repeat (first | exact trivial | refine ⟨rfl, ?_⟩))) (fun _ h0 => ?_)
  refine go Try.tbs_ok 1000 ?_
  refine ev_if_yes rfl ?_
  refine go Try.tbs_ok 1000 ?_
  refine ev_call (TC ) [0] [] (fun v0_ => [.box (r) 49 [.va (Value.int IntKind.i64 m), .va (Value.int IntKind.i64 s), .bl false, .va (Value.slice A n c), .bl false, .va (Value.int IntKind.i64 lf), .va (Value.slice B k d)]]) rfl rfl (by decide) rfl (by simp) (fun _ => rfl) (fun _ => (newsOk_box (by simp [SV.good, SV.goodL]) (newsOk_nil _))) (fun _ => (by repeat (first | exact trivial | refine ⟨rfl, ?_⟩))) (fun _ h1 => ?_)
  refine go Try.tbs_ok 1000 ?_
  refine ev_if_yes rfl ?_
  refine go Try.tbs_ok 1000 ?_
  refine ev_stop (go_draw Try.tbs_ok false [0, 1] [(0,true),(1,true),(2,true),(3,true),(4,true),(5,true),(6,true),(7,true),(8,true),(9,true),(10,true),(11,true),(12,true),(13,true),(14,true),(15,true),(16,false)] rfl ?_)
  refine go Try.tbs_ok 1000 ?_
  refine ev_need ⟨⟨(by repeat (first | exact trivial | refine ⟨rfl, ?_⟩)), rfl⟩, by kernel_rfl⟩ ?_
  refine ev_stop (tk_index0 (sz := 3) Try.tbs_ok (.inr 1) (posF L x) ⟨⟨(by repeat (first | exact trivial | refine ⟨rfl, ?_⟩)), rfl⟩, by kernel_rfl⟩ rfl rfl rfl rfl rfl rfl rfl (by omega) rfl Row.at0 (fun g2 e3 => ?_))
  subst e3
  refine go Try.tbs_ok 1000 ?_
  refine ev_need ⟨⟨(by repeat (first | exact trivial | refine ⟨rfl, ?_⟩)), rfl⟩, by kernel_rfl⟩ ?_
  have l4 : posF L x < (L).length := (by omega)
  refine ev_stop (tk_loadE Try.tbs_ok (.inr 1) (posF L x) 1 ⟨⟨(by repeat (first | exact trivial | refine ⟨rfl, ?_⟩)), rfl⟩, by kernel_rfl⟩ rfl rfl rfl rfl rfl (fun _ h => Row.rd h) (by omega) (fun _ => rfl) (by omega) l4 (by decide) ?_)
  refine go Try.tbs_ok 1000 ?_
  refine ev_need ⟨⟨(by repeat (first | exact trivial | refine ⟨rfl, ?_⟩)), rfl⟩, by kernel_rfl⟩ ?_
  refine ev_stop (tk_atE (sz := 3) Try.tbs_ok (posF L x) ⟨⟨(by repeat (first | exact trivial | refine ⟨rfl, ?_⟩)), rfl⟩, by kernel_rfl⟩ rfl rfl rfl rfl rfl rfl rfl (by omega) ?_)
  refine go Try.tbs_ok 1000 ?_
  refine ev_need ⟨⟨(by repeat (first | exact trivial | refine ⟨rfl, ?_⟩)), rfl⟩, by kernel_rfl⟩ ?_
  have l5 : posF L x < (L).length := (by omega)
  refine ev_stop (go_storeR Try.tbs_ok 1 (posF L x) 2 ({ n := L[posF L x].n, d := L[posF L x].d, s := (↑L[posF L x].d.size : Int) : Fl }) rfl rfl rfl rfl rfl (by omega) (fun _ => rfl) (ones_of rfl) (by omega) l5 rfl (by decide) (ones_of rfl) rfl ?_)
  refine go Try.tbs_ok 1000 ?_
  refine ev_need (by kernel_rfl) ?_
  refine ev_fin ⟨trivial, _, rfl, (()), rfl, (by trivial), Frm.sel [0, 1] rfl (by decide)⟩
set_option maxRecDepth 100000 in
theorem rSyncG (r : Nat) (m s : Int) (A : Option Addr) (n c : Nat) (lf : Int) (B : Option Addr) (k d : Nat) (L : List Fl) (hn : n = L.length) (h1 : n ≤ 1000) (x : ByteArray) (hs : riseF L) (hh : hasF L x = true) (hi : posF L x < L.length) (hq : 0 < lf) (hq2 : lf ≤ 9223372036854775807) : Triple Try.prog 44 [.pointer (some ⟨r, 0, none⟩), .string x] [Pt r 49 [.int .i64 m, .int .i64 s, .bool false, .slice A n c, .bool true, .int .i64 lf, .slice B k d], Row 82 3 A n c (L.flatMap encF)] [] Unit (fun _ => .int .i64 0) (fun _ => True) (fun _ => [Pt r 49 [.int .i64 m, .int .i64 s, .bool false, .slice A n c, .bool true, .int .i64 (lf - 1), .slice B k d], Row 82 3 A n c ((L.set (posF L x) ⟨(L[posF L x]'hi).n, (L[posF L x]'hi).d, ((L[posF L x]'hi).d.size : Nat)⟩).flatMap encF)]) := by
  have TT := rThereOk r m s A n c true lf B k d L hn h1 x hs hh
  have TC := rChangeG r m s A n c lf B k d hq hq2
  refine triple_intro Try.tbs_ok Try.func44 rfl [.pt 0 r 0, .va (.string x)] [.box r 49 [.va (.int .i64 m), .va (.int .i64 s), .va (.bool false), .va (.slice A n c), .va (.bool true), .va (.int .i64 lf), .va (.slice B k d)], .fact (Row 82 3 A n c (L.flatMap encF))] ⟨rfl, trivial, trivial⟩ rfl (by simp [SV.good, SV.goodL]) ?_
  intro E
  refine go Try.tbs_ok 1000 ?_
  refine ev_call (TT ) [0, 1] [] (fun v0_ => [.box (r) 49 [.va (Value.int IntKind.i64 m), .va (Value.int IntKind.i64 s), .bl false, .va (Value.slice A n c), .bl true, .va (Value.int IntKind.i64 lf), .va (Value.slice B k d)], .fact (Row 82 3 A n c (List.flatMap encF L))]) rfl rfl (by decide) rfl (by simp) (fun _ => rfl) (fun _ => (newsOk_box (by simp [SV.good, SV.goodL]) (newsOk_fact (newsOk_nil _)))) (fun _ => (by repeat (first | exact trivial | refine ⟨rfl, ?_⟩))) (fun _ h0 => ?_)
  refine go Try.tbs_ok 1000 ?_
  refine ev_if_yes rfl ?_
  refine go Try.tbs_ok 1000 ?_
  refine ev_call (TC ) [0] [] (fun v0_ => [.box (r) 49 [.va (Value.int IntKind.i64 m), .va (Value.int IntKind.i64 s), .bl false, .va (Value.slice A n c), .bl true, .va (Value.int IntKind.i64 (lf - 1)), .va (Value.slice B k d)]]) rfl rfl (by decide) rfl (by simp) (fun _ => rfl) (fun _ => (newsOk_box (by simp [SV.good, SV.goodL]) (newsOk_nil _))) (fun _ => (by repeat (first | exact trivial | refine ⟨rfl, ?_⟩))) (fun _ h1 => ?_)
  refine go Try.tbs_ok 1000 ?_
  refine ev_if_yes rfl ?_
  refine go Try.tbs_ok 1000 ?_
  refine ev_stop (go_draw Try.tbs_ok false [0, 1] [(0,true),(1,true),(2,true),(3,true),(4,true),(5,true),(6,true),(7,true),(8,true),(9,true),(10,true),(11,true),(12,true),(13,true),(14,true),(15,true),(16,false)] rfl ?_)
  refine go Try.tbs_ok 1000 ?_
  refine ev_need ⟨⟨(by repeat (first | exact trivial | refine ⟨rfl, ?_⟩)), rfl⟩, by kernel_rfl⟩ ?_
  refine ev_stop (tk_index0 (sz := 3) Try.tbs_ok (.inr 1) (posF L x) ⟨⟨(by repeat (first | exact trivial | refine ⟨rfl, ?_⟩)), rfl⟩, by kernel_rfl⟩ rfl rfl rfl rfl rfl rfl rfl (by omega) rfl Row.at0 (fun g2 e3 => ?_))
  subst e3
  refine go Try.tbs_ok 1000 ?_
  refine ev_need ⟨⟨(by repeat (first | exact trivial | refine ⟨rfl, ?_⟩)), rfl⟩, by kernel_rfl⟩ ?_
  have l4 : posF L x < (L).length := (by omega)
  refine ev_stop (tk_loadE Try.tbs_ok (.inr 1) (posF L x) 1 ⟨⟨(by repeat (first | exact trivial | refine ⟨rfl, ?_⟩)), rfl⟩, by kernel_rfl⟩ rfl rfl rfl rfl rfl (fun _ h => Row.rd h) (by omega) (fun _ => rfl) (by omega) l4 (by decide) ?_)
  refine go Try.tbs_ok 1000 ?_
  refine ev_need ⟨⟨(by repeat (first | exact trivial | refine ⟨rfl, ?_⟩)), rfl⟩, by kernel_rfl⟩ ?_
  refine ev_stop (tk_atE (sz := 3) Try.tbs_ok (posF L x) ⟨⟨(by repeat (first | exact trivial | refine ⟨rfl, ?_⟩)), rfl⟩, by kernel_rfl⟩ rfl rfl rfl rfl rfl rfl rfl (by omega) ?_)
  refine go Try.tbs_ok 1000 ?_
  refine ev_need ⟨⟨(by repeat (first | exact trivial | refine ⟨rfl, ?_⟩)), rfl⟩, by kernel_rfl⟩ ?_
  have l5 : posF L x < (L).length := (by omega)
  refine ev_stop (go_storeR Try.tbs_ok 1 (posF L x) 2 ({ n := L[posF L x].n, d := L[posF L x].d, s := (↑L[posF L x].d.size : Int) : Fl }) rfl rfl rfl rfl rfl (by omega) (fun _ => rfl) (ones_of rfl) (by omega) l5 rfl (by decide) (ones_of rfl) rfl ?_)
  refine go Try.tbs_ok 1000 ?_
  refine ev_need (by kernel_rfl) ?_
  refine ev_fin ⟨trivial, _, rfl, (()), rfl, (by trivial), Frm.sel [0, 1] rfl (by decide)⟩
set_option maxRecDepth 100000 in
theorem rSyncS (r : Nat) (m s : Int) (A : Option Addr) (n c : Nat) (lf : Int) (B : Option Addr) (k d : Nat) (L : List Fl) (hn : n = L.length) (h1 : n ≤ 1000) (x : ByteArray) (hs : riseF L) (hh : hasF L x = true) (hi : posF L x < L.length) (hq : lf = 0) (K : List Int) (hk : k = K.length) (hL : okF L) : Triple Try.prog 44 [.pointer (some ⟨r, 0, none⟩), .string x] [Pt r 49 [.int .i64 m, .int .i64 s, .bool false, .slice A n c, .bool true, .int .i64 lf, .slice B k d], Row 82 3 A n c (L.flatMap encF), Row 3 1 B k d (K.flatMap encN)] [] Unit (fun _ => .int .i64 41) (fun _ => True) (fun _ => [Pt r 49 [.int .i64 m, .int .i64 s, .bool true, .slice A n c, .bool false, .int .i64 lf, .slice B k d], Row 82 3 A n c ((crashF L K).flatMap encF), Row 3 1 B k d (K.flatMap encN)]) := by
  have TT := rThereOk r m s A n c true lf B k d L hn h1 x hs hh
  have TC := rChangeS r m s A n c lf B k d L hn h1 hq K hk hL
  refine triple_intro Try.tbs_ok Try.func44 rfl [.pt 0 r 0, .va (.string x)] [.box r 49 [.va (.int .i64 m), .va (.int .i64 s), .va (.bool false), .va (.slice A n c), .va (.bool true), .va (.int .i64 lf), .va (.slice B k d)], .fact (Row 82 3 A n c (L.flatMap encF)), .fact (Row 3 1 B k d (K.flatMap encN))] ⟨rfl, trivial, trivial⟩ rfl (by simp [SV.good, SV.goodL]) ?_
  intro E
  refine go Try.tbs_ok 1000 ?_
  refine ev_call (TT ) [0, 1] [] (fun v0_ => [.box (r) 49 [.va (Value.int IntKind.i64 m), .va (Value.int IntKind.i64 s), .bl false, .va (Value.slice A n c), .bl true, .va (Value.int IntKind.i64 lf), .va (Value.slice B k d)], .fact (Row 82 3 A n c (List.flatMap encF L))]) rfl rfl (by decide) rfl (by simp) (fun _ => rfl) (fun _ => (newsOk_box (by simp [SV.good, SV.goodL]) (newsOk_fact (newsOk_nil _)))) (fun _ => (by repeat (first | exact trivial | refine ⟨rfl, ?_⟩))) (fun _ h0 => ?_)
  refine go Try.tbs_ok 1000 ?_
  refine ev_if_yes rfl ?_
  refine go Try.tbs_ok 1000 ?_
  refine ev_call (TC ) [0, 1, 2] [] (fun v0_ => [.box (r) 49 [.va (Value.int IntKind.i64 m), .va (Value.int IntKind.i64 s), .bl true, .va (Value.slice A n c), .bl false, .va (Value.int IntKind.i64 lf), .va (Value.slice B k d)], .fact (Row 82 3 A n c (List.flatMap encF (crashF L K))), .fact (Row 3 1 B k d (List.flatMap encN K))]) rfl rfl (by decide) rfl (by simp) (fun _ => rfl) (fun _ => (newsOk_box (by simp [SV.good, SV.goodL]) (newsOk_fact (newsOk_fact (newsOk_nil _))))) (fun _ => (by repeat (first | exact trivial | refine ⟨rfl, ?_⟩))) (fun _ h1 => ?_)
  refine go Try.tbs_ok 1000 ?_
  refine ev_if_no rfl ?_
  refine go Try.tbs_ok 1000 ?_
  refine ev_fin ⟨trivial, _, rfl, (()), rfl, (by trivial), Frm.sel [0, 1, 2] rfl (by decide)⟩
set_option maxRecDepth 100000 in
theorem rTruncN (r : Nat) (m s : Int) (A : Option Addr) (n c : Nat) (lf : Int) (B : Option Addr) (k d : Nat) (L : List Fl) (hn : n = L.length) (h1 : n ≤ 1000) (x : ByteArray) (z : Int) (hs : riseF L) (hh : hasF L x = true) (hi : posF L x < L.length) (hz1 : 0 ≤ z) (hz2 : z ≤ (L[posF L x]'hi).d.size) : Triple Try.prog 45 [.pointer (some ⟨r, 0, none⟩), .string x, .int .i64 z] [Pt r 49 [.int .i64 m, .int .i64 s, .bool false, .slice A n c, .bool false, .int .i64 lf, .slice B k d], Row 82 3 A n c (L.flatMap encF)] [] Unit (fun _ => .int .i64 0) (fun _ => True) (fun _ => [Pt r 49 [.int .i64 m, .int .i64 s, .bool false, .slice A n c, .bool false, .int .i64 lf, .slice B k d], Row 82 3 A n c ((L.set (posF L x) ⟨(L[posF L x]'hi).n, (L[posF L x]'hi).d.extract 0 z.toNat, min (L[posF L x]'hi).s z⟩).flatMap encF)]) := by
  have TT := rThereOk r m s A n c false lf B k d L hn h1 x hs hh
  have TC := rChangeN r m s A n c lf B k d
  refine triple_intro Try.tbs_ok Try.func45 rfl [.pt 0 r 0, .va (.string x), .va (.int .i64 z)] [.box r 49 [.va (.int .i64 m), .va (.int .i64 s), .va (.bool false), .va (.slice A n c), .va (.bool false), .va (.int .i64 lf), .va (.slice B k d)], .fact (Row 82 3 A n c (L.flatMap encF))] ⟨rfl, trivial, trivial, trivial⟩ rfl (by simp [SV.good, SV.goodL]) ?_
  intro E
  refine go Try.tbs_ok 1000 ?_
  refine ev_call (TT ) [0, 1] [] (fun v0_ => [.box (r) 49 [.va (Value.int IntKind.i64 m), .va (Value.int IntKind.i64 s), .bl false, .va (Value.slice A n c), .bl false, .va (Value.int IntKind.i64 lf), .va (Value.slice B k d)], .fact (Row 82 3 A n c (List.flatMap encF L))]) rfl rfl (by decide) rfl (by simp) (fun _ => rfl) (fun _ => (newsOk_box (by simp [SV.good, SV.goodL]) (newsOk_fact (newsOk_nil _)))) (fun _ => (by repeat (first | exact trivial | refine ⟨rfl, ?_⟩))) (fun _ h0 => ?_)
  refine go Try.tbs_ok 1000 ?_
  refine ev_if_no rfl ?_
  refine go Try.tbs_ok 1000 ?_
  refine ev_if_no (decide_eq_false (show ¬z < 0 from (by omega))) ?_
  refine go Try.tbs_ok 1000 ?_
  refine ev_stop (go_index0 (sz := 3) Try.tbs_ok (.inr 1) (posF L x) rfl rfl rfl rfl rfl rfl (by omega) rfl Row.at0 (fun g1 e2 => ?_))
  subst e2
  refine go Try.tbs_ok 1000 ?_
  have l3 : posF L x < (L).length := (by omega)
  refine ev_stop (go_loadE Try.tbs_ok (.inr 1) (posF L x) 1 rfl rfl rfl rfl (fun _ h => Row.rd h) (by omega) (fun _ => rfl) (by omega) l3 (by decide) ?_)
  refine go Try.tbs_ok 1000 ?_
  refine ev_if_no (decide_eq_false (show ¬z > (↑L[posF L x].d.size : Int) from (by omega))) ?_
  refine go Try.tbs_ok 1000 ?_
  refine ev_call (TC ) [0] [] (fun v0_ => [.box (r) 49 [.va (Value.int IntKind.i64 m), .va (Value.int IntKind.i64 s), .bl false, .va (Value.slice (some { block := g1, off := 0 : Addr }) n c), .bl false, .va (Value.int IntKind.i64 lf), .va (Value.slice B k d)]]) rfl rfl (by decide) rfl (by simp) (fun _ => rfl) (fun _ => (newsOk_box (by simp [SV.good, SV.goodL]) (newsOk_nil _))) (fun _ => (by repeat (first | exact trivial | refine ⟨rfl, ?_⟩))) (fun _ h4 => ?_)
  refine go Try.tbs_ok 1000 ?_
  refine ev_if_no rfl ?_
  refine go Try.tbs_ok 1000 ?_
  refine ev_stop (go_draw Try.tbs_ok false [0, 1] [(0,true),(1,true),(2,true),(3,true),(4,true),(5,true),(6,true),(7,true),(8,true),(9,true),(10,true),(11,true),(12,true),(13,true),(14,true),(15,true),(16,true),(17,false)] rfl ?_)
  refine go Try.tbs_ok 1000 ?_
  refine ev_need ⟨⟨(by repeat (first | exact trivial | refine ⟨rfl, ?_⟩)), rfl⟩, by kernel_rfl⟩ ?_
  refine ev_stop (tk_atE (sz := 3) Try.tbs_ok (posF L x) ⟨⟨(by repeat (first | exact trivial | refine ⟨rfl, ?_⟩)), rfl⟩, by kernel_rfl⟩ rfl rfl rfl rfl rfl rfl rfl (by omega) ?_)
  refine go Try.tbs_ok 1000 ?_
  refine ev_need ⟨⟨(by repeat (first | exact trivial | refine ⟨rfl, ?_⟩)), rfl⟩, by kernel_rfl⟩ ?_
  have l5 : posF L x < (L).length := (by omega)
  refine ev_stop (tk_loadE Try.tbs_ok (.inr 1) (posF L x) 1 ⟨⟨(by repeat (first | exact trivial | refine ⟨rfl, ?_⟩)), rfl⟩, by kernel_rfl⟩ rfl rfl rfl rfl rfl (fun _ h => Row.rd h) (by omega) (fun _ => rfl) (by omega) l5 (by decide) ?_)
  refine go Try.tbs_ok 1000 ?_
  refine ev_need ⟨⟨(by repeat (first | exact trivial | refine ⟨rfl, ?_⟩)), rfl⟩, by kernel_rfl⟩ ?_
  refine ev_stop (go_slot 51 _ (.va (.int IntKind.i64 ((z.toNat : Nat) : Int))) rfl rfl (congrArg (fun z => Value.int IntKind.i64 z) (show z = ((z.toNat : Nat) : Int) by first | omega | (simp only [List.getElem_set_self]; omega))) (fun _ => trivial) ?_)
  refine go Try.tbs_ok 1000 ?_
  refine ev_need ⟨⟨(by repeat (first | exact trivial | refine ⟨rfl, ?_⟩)), rfl⟩, by kernel_rfl⟩ ?_
  refine ev_stop (tk_sliceS Try.tbs_ok (0) (z.toNat) ⟨⟨(by repeat (first | exact trivial | refine ⟨rfl, ?_⟩)), rfl⟩, by kernel_rfl⟩ rfl rfl rfl rfl rfl rfl ⟨_, rfl⟩ (by omega) (by omega) ?_)
  refine go Try.tbs_ok 1000 ?_
  refine ev_need ⟨⟨(by repeat (first | exact trivial | refine ⟨rfl, ?_⟩)), rfl⟩, by kernel_rfl⟩ ?_
  refine ev_stop (tk_atE (sz := 3) Try.tbs_ok (posF L x) ⟨⟨(by repeat (first | exact trivial | refine ⟨rfl, ?_⟩)), rfl⟩, by kernel_rfl⟩ rfl rfl rfl rfl rfl rfl rfl (by omega) ?_)
  refine go Try.tbs_ok 1000 ?_
  refine ev_need ⟨⟨(by repeat (first | exact trivial | refine ⟨rfl, ?_⟩)), rfl⟩, by kernel_rfl⟩ ?_
  have l6 : posF L x < (L).length := (by omega)
  refine ev_stop (go_storeR Try.tbs_ok 1 (posF L x) 1 ({ n := L[posF L x].n, d := L[posF L x].d.extract 0 z.toNat, s := L[posF L x].s : Fl }) rfl rfl rfl rfl rfl (by omega) (fun _ => rfl) (ones_of rfl) (by omega) l6 rfl (by decide) (ones_of rfl) rfl ?_)
  refine go Try.tbs_ok 1000 ?_
  refine ev_need (by kernel_rfl) ?_
  refine ev_stop (go_draw Try.tbs_ok false [0, 1] [(0,true),(1,true),(2,true),(3,true),(4,true),(5,true),(6,true),(7,true),(8,true),(9,true),(10,true),(11,true),(12,true),(13,true),(14,true),(15,true),(16,true),(17,false)] rfl ?_)
  refine go Try.tbs_ok 1000 ?_
  refine ev_need ⟨⟨(by repeat (first | exact trivial | refine ⟨rfl, ?_⟩)), rfl⟩, by kernel_rfl⟩ ?_
  refine ev_stop (tk_atE (sz := 3) Try.tbs_ok (posF L x) ⟨⟨(by repeat (first | exact trivial | refine ⟨rfl, ?_⟩)), rfl⟩, by kernel_rfl⟩ rfl rfl rfl rfl rfl rfl rfl (by omega) ?_)
  refine go Try.tbs_ok 1000 ?_
  refine ev_need ⟨⟨(by repeat (first | exact trivial | refine ⟨rfl, ?_⟩)), rfl⟩, by kernel_rfl⟩ ?_
  have l7 : posF L x < (L.set (posF L x) { n := L[posF L x].n, d := L[posF L x].d.extract 0 z.toNat, s := L[posF L x].s : Fl }).length := (by (simp only [List.length_set, List.length_append, List.length_cons, List.length_nil, List.length_map, List.length_take, List.length_drop, List.length_replicate] <;> omega))
  refine ev_stop (tk_loadE Try.tbs_ok (.inr 1) (posF L x) 2 ⟨⟨(by repeat (first | exact trivial | refine ⟨rfl, ?_⟩)), rfl⟩, by kernel_rfl⟩ rfl rfl rfl rfl rfl (fun _ h => Row.rd h) (by omega) (fun _ => rfl) (by omega) l7 (by decide) ?_)
  refine go Try.tbs_ok 1000 ?_
  refine ev_need ⟨⟨(by repeat (first | exact trivial | refine ⟨rfl, ?_⟩)), rfl⟩, by kernel_rfl⟩ ?_
  refine ev_stop (tk_atE (sz := 3) Try.tbs_ok (posF L x) ⟨⟨(by repeat (first | exact trivial | refine ⟨rfl, ?_⟩)), rfl⟩, by kernel_rfl⟩ rfl rfl rfl rfl rfl rfl rfl (by omega) ?_)
  refine go Try.tbs_ok 1000 ?_
  refine ev_need ⟨⟨(by repeat (first | exact trivial | refine ⟨rfl, ?_⟩)), rfl⟩, by kernel_rfl⟩ ?_
  have l8 : posF L x < (L.set (posF L x) { n := L[posF L x].n, d := L[posF L x].d.extract 0 z.toNat, s := L[posF L x].s : Fl }).length := (by omega)
  refine ev_stop (go_storeR Try.tbs_ok 1 (posF L x) 2 ({ n := (L.set (posF L x) { n := L[posF L x].n, d := L[posF L x].d.extract 0 z.toNat, s := L[posF L x].s : Fl })[posF L x].n, d := (L.set (posF L x) { n := L[posF L x].n, d := L[posF L x].d.extract 0 z.toNat, s := L[posF L x].s : Fl })[posF L x].d, s := min (L.set (posF L x) { n := L[posF L x].n, d := L[posF L x].d.extract 0 z.toNat, s := L[posF L x].s : Fl })[posF L x].s z : Fl }) rfl rfl rfl rfl rfl (by omega) (fun _ => rfl) (ones_of rfl) (by omega) l8 rfl (by decide) (ones_of rfl) rfl ?_)
  refine go Try.tbs_ok 1000 ?_
  refine ev_need (by kernel_rfl) ?_
  simp only [List.getElem_set_self, List.set_set]
  refine ev_fin ⟨trivial, _, rfl, (()), rfl, (by trivial), Frm.sel [0, 1] rfl (by decide)⟩
set_option maxRecDepth 100000 in
theorem rTruncG (r : Nat) (m s : Int) (A : Option Addr) (n c : Nat) (lf : Int) (B : Option Addr) (k d : Nat) (L : List Fl) (hn : n = L.length) (h1 : n ≤ 1000) (x : ByteArray) (z : Int) (hs : riseF L) (hh : hasF L x = true) (hi : posF L x < L.length) (hz1 : 0 ≤ z) (hz2 : z ≤ (L[posF L x]'hi).d.size) (hq : 0 < lf) (hq2 : lf ≤ 9223372036854775807) : Triple Try.prog 45 [.pointer (some ⟨r, 0, none⟩), .string x, .int .i64 z] [Pt r 49 [.int .i64 m, .int .i64 s, .bool false, .slice A n c, .bool true, .int .i64 lf, .slice B k d], Row 82 3 A n c (L.flatMap encF)] [] Unit (fun _ => .int .i64 0) (fun _ => True) (fun _ => [Pt r 49 [.int .i64 m, .int .i64 s, .bool false, .slice A n c, .bool true, .int .i64 (lf - 1), .slice B k d], Row 82 3 A n c ((L.set (posF L x) ⟨(L[posF L x]'hi).n, (L[posF L x]'hi).d.extract 0 z.toNat, min (L[posF L x]'hi).s z⟩).flatMap encF)]) := by
  have TT := rThereOk r m s A n c true lf B k d L hn h1 x hs hh
  have TC := rChangeG r m s A n c lf B k d hq hq2
  refine triple_intro Try.tbs_ok Try.func45 rfl [.pt 0 r 0, .va (.string x), .va (.int .i64 z)] [.box r 49 [.va (.int .i64 m), .va (.int .i64 s), .va (.bool false), .va (.slice A n c), .va (.bool true), .va (.int .i64 lf), .va (.slice B k d)], .fact (Row 82 3 A n c (L.flatMap encF))] ⟨rfl, trivial, trivial, trivial⟩ rfl (by simp [SV.good, SV.goodL]) ?_
  intro E
  refine go Try.tbs_ok 1000 ?_
  refine ev_call (TT ) [0, 1] [] (fun v0_ => [.box (r) 49 [.va (Value.int IntKind.i64 m), .va (Value.int IntKind.i64 s), .bl false, .va (Value.slice A n c), .bl true, .va (Value.int IntKind.i64 lf), .va (Value.slice B k d)], .fact (Row 82 3 A n c (List.flatMap encF L))]) rfl rfl (by decide) rfl (by simp) (fun _ => rfl) (fun _ => (newsOk_box (by simp [SV.good, SV.goodL]) (newsOk_fact (newsOk_nil _)))) (fun _ => (by repeat (first | exact trivial | refine ⟨rfl, ?_⟩))) (fun _ h0 => ?_)
  refine go Try.tbs_ok 1000 ?_
  refine ev_if_no rfl ?_
  refine go Try.tbs_ok 1000 ?_
  refine ev_if_no (decide_eq_false (show ¬z < 0 from (by omega))) ?_
  refine go Try.tbs_ok 1000 ?_
  refine ev_stop (go_index0 (sz := 3) Try.tbs_ok (.inr 1) (posF L x) rfl rfl rfl rfl rfl rfl (by omega) rfl Row.at0 (fun g1 e2 => ?_))
  subst e2
  refine go Try.tbs_ok 1000 ?_
  have l3 : posF L x < (L).length := (by omega)
  refine ev_stop (go_loadE Try.tbs_ok (.inr 1) (posF L x) 1 rfl rfl rfl rfl (fun _ h => Row.rd h) (by omega) (fun _ => rfl) (by omega) l3 (by decide) ?_)
  refine go Try.tbs_ok 1000 ?_
  refine ev_if_no (decide_eq_false (show ¬z > (↑L[posF L x].d.size : Int) from (by omega))) ?_
  refine go Try.tbs_ok 1000 ?_
  refine ev_call (TC ) [0] [] (fun v0_ => [.box (r) 49 [.va (Value.int IntKind.i64 m), .va (Value.int IntKind.i64 s), .bl false, .va (Value.slice (some { block := g1, off := 0 : Addr }) n c), .bl true, .va (Value.int IntKind.i64 (lf - 1)), .va (Value.slice B k d)]]) rfl rfl (by decide) rfl (by simp) (fun _ => rfl) (fun _ => (newsOk_box (by simp [SV.good, SV.goodL]) (newsOk_nil _))) (fun _ => (by repeat (first | exact trivial | refine ⟨rfl, ?_⟩))) (fun _ h4 => ?_)
  refine go Try.tbs_ok 1000 ?_
  refine ev_if_no rfl ?_
  refine go Try.tbs_ok 1000 ?_
  refine ev_stop (go_draw Try.tbs_ok false [0, 1] [(0,true),(1,true),(2,true),(3,true),(4,true),(5,true),(6,true),(7,true),(8,true),(9,true),(10,true),(11,true),(12,true),(13,true),(14,true),(15,true),(16,true),(17,false)] rfl ?_)
  refine go Try.tbs_ok 1000 ?_
  refine ev_need ⟨⟨(by repeat (first | exact trivial | refine ⟨rfl, ?_⟩)), rfl⟩, by kernel_rfl⟩ ?_
  refine ev_stop (tk_atE (sz := 3) Try.tbs_ok (posF L x) ⟨⟨(by repeat (first | exact trivial | refine ⟨rfl, ?_⟩)), rfl⟩, by kernel_rfl⟩ rfl rfl rfl rfl rfl rfl rfl (by omega) ?_)
  refine go Try.tbs_ok 1000 ?_
  refine ev_need ⟨⟨(by repeat (first | exact trivial | refine ⟨rfl, ?_⟩)), rfl⟩, by kernel_rfl⟩ ?_
  have l5 : posF L x < (L).length := (by omega)
  refine ev_stop (tk_loadE Try.tbs_ok (.inr 1) (posF L x) 1 ⟨⟨(by repeat (first | exact trivial | refine ⟨rfl, ?_⟩)), rfl⟩, by kernel_rfl⟩ rfl rfl rfl rfl rfl (fun _ h => Row.rd h) (by omega) (fun _ => rfl) (by omega) l5 (by decide) ?_)
  refine go Try.tbs_ok 1000 ?_
  refine ev_need ⟨⟨(by repeat (first | exact trivial | refine ⟨rfl, ?_⟩)), rfl⟩, by kernel_rfl⟩ ?_
  refine ev_stop (go_slot 51 _ (.va (.int IntKind.i64 ((z.toNat : Nat) : Int))) rfl rfl (congrArg (fun z => Value.int IntKind.i64 z) (show z = ((z.toNat : Nat) : Int) by first | omega | (simp only [List.getElem_set_self]; omega))) (fun _ => trivial) ?_)
  refine go Try.tbs_ok 1000 ?_
  refine ev_need ⟨⟨(by repeat (first | exact trivial | refine ⟨rfl, ?_⟩)), rfl⟩, by kernel_rfl⟩ ?_
  refine ev_stop (tk_sliceS Try.tbs_ok (0) (z.toNat) ⟨⟨(by repeat (first | exact trivial | refine ⟨rfl, ?_⟩)), rfl⟩, by kernel_rfl⟩ rfl rfl rfl rfl rfl rfl ⟨_, rfl⟩ (by omega) (by omega) ?_)
  refine go Try.tbs_ok 1000 ?_
  refine ev_need ⟨⟨(by repeat (first | exact trivial | refine ⟨rfl, ?_⟩)), rfl⟩, by kernel_rfl⟩ ?_
  refine ev_stop (tk_atE (sz := 3) Try.tbs_ok (posF L x) ⟨⟨(by repeat (first | exact trivial | refine ⟨rfl, ?_⟩)), rfl⟩, by kernel_rfl⟩ rfl rfl rfl rfl rfl rfl rfl (by omega) ?_)
  refine go Try.tbs_ok 1000 ?_
  refine ev_need ⟨⟨(by repeat (first | exact trivial | refine ⟨rfl, ?_⟩)), rfl⟩, by kernel_rfl⟩ ?_
  have l6 : posF L x < (L).length := (by omega)
  refine ev_stop (go_storeR Try.tbs_ok 1 (posF L x) 1 ({ n := L[posF L x].n, d := L[posF L x].d.extract 0 z.toNat, s := L[posF L x].s : Fl }) rfl rfl rfl rfl rfl (by omega) (fun _ => rfl) (ones_of rfl) (by omega) l6 rfl (by decide) (ones_of rfl) rfl ?_)
  refine go Try.tbs_ok 1000 ?_
  refine ev_need (by kernel_rfl) ?_
  refine ev_stop (go_draw Try.tbs_ok false [0, 1] [(0,true),(1,true),(2,true),(3,true),(4,true),(5,true),(6,true),(7,true),(8,true),(9,true),(10,true),(11,true),(12,true),(13,true),(14,true),(15,true),(16,true),(17,false)] rfl ?_)
  refine go Try.tbs_ok 1000 ?_
  refine ev_need ⟨⟨(by repeat (first | exact trivial | refine ⟨rfl, ?_⟩)), rfl⟩, by kernel_rfl⟩ ?_
  refine ev_stop (tk_atE (sz := 3) Try.tbs_ok (posF L x) ⟨⟨(by repeat (first | exact trivial | refine ⟨rfl, ?_⟩)), rfl⟩, by kernel_rfl⟩ rfl rfl rfl rfl rfl rfl rfl (by omega) ?_)
  refine go Try.tbs_ok 1000 ?_
  refine ev_need ⟨⟨(by repeat (first | exact trivial | refine ⟨rfl, ?_⟩)), rfl⟩, by kernel_rfl⟩ ?_
  have l7 : posF L x < (L.set (posF L x) { n := L[posF L x].n, d := L[posF L x].d.extract 0 z.toNat, s := L[posF L x].s : Fl }).length := (by (simp only [List.length_set, List.length_append, List.length_cons, List.length_nil, List.length_map, List.length_take, List.length_drop, List.length_replicate] <;> omega))
  refine ev_stop (tk_loadE Try.tbs_ok (.inr 1) (posF L x) 2 ⟨⟨(by repeat (first | exact trivial | refine ⟨rfl, ?_⟩)), rfl⟩, by kernel_rfl⟩ rfl rfl rfl rfl rfl (fun _ h => Row.rd h) (by omega) (fun _ => rfl) (by omega) l7 (by decide) ?_)
  refine go Try.tbs_ok 1000 ?_
  refine ev_need ⟨⟨(by repeat (first | exact trivial | refine ⟨rfl, ?_⟩)), rfl⟩, by kernel_rfl⟩ ?_
  refine ev_stop (tk_atE (sz := 3) Try.tbs_ok (posF L x) ⟨⟨(by repeat (first | exact trivial | refine ⟨rfl, ?_⟩)), rfl⟩, by kernel_rfl⟩ rfl rfl rfl rfl rfl rfl rfl (by omega) ?_)
  refine go Try.tbs_ok 1000 ?_
  refine ev_need ⟨⟨(by repeat (first | exact trivial | refine ⟨rfl, ?_⟩)), rfl⟩, by kernel_rfl⟩ ?_
  have l8 : posF L x < (L.set (posF L x) { n := L[posF L x].n, d := L[posF L x].d.extract 0 z.toNat, s := L[posF L x].s : Fl }).length := (by omega)
  refine ev_stop (go_storeR Try.tbs_ok 1 (posF L x) 2 ({ n := (L.set (posF L x) { n := L[posF L x].n, d := L[posF L x].d.extract 0 z.toNat, s := L[posF L x].s : Fl })[posF L x].n, d := (L.set (posF L x) { n := L[posF L x].n, d := L[posF L x].d.extract 0 z.toNat, s := L[posF L x].s : Fl })[posF L x].d, s := min (L.set (posF L x) { n := L[posF L x].n, d := L[posF L x].d.extract 0 z.toNat, s := L[posF L x].s : Fl })[posF L x].s z : Fl }) rfl rfl rfl rfl rfl (by omega) (fun _ => rfl) (ones_of rfl) (by omega) l8 rfl (by decide) (ones_of rfl) rfl ?_)
  refine go Try.tbs_ok 1000 ?_
  refine ev_need (by kernel_rfl) ?_
  simp only [List.getElem_set_self, List.set_set]
  refine ev_fin ⟨trivial, _, rfl, (()), rfl, (by trivial), Frm.sel [0, 1] rfl (by decide)⟩
set_option maxRecDepth 100000 in
theorem rTruncS (r : Nat) (m s : Int) (A : Option Addr) (n c : Nat) (lf : Int) (B : Option Addr) (k d : Nat) (L : List Fl) (hn : n = L.length) (h1 : n ≤ 1000) (x : ByteArray) (z : Int) (hs : riseF L) (hh : hasF L x = true) (hi : posF L x < L.length) (hz1 : 0 ≤ z) (hz2 : z ≤ (L[posF L x]'hi).d.size) (hq : lf = 0) (K : List Int) (hk : k = K.length) (hL : okF L) : Triple Try.prog 45 [.pointer (some ⟨r, 0, none⟩), .string x, .int .i64 z] [Pt r 49 [.int .i64 m, .int .i64 s, .bool false, .slice A n c, .bool true, .int .i64 lf, .slice B k d], Row 82 3 A n c (L.flatMap encF), Row 3 1 B k d (K.flatMap encN)] [] Unit (fun _ => .int .i64 41) (fun _ => True) (fun _ => [Pt r 49 [.int .i64 m, .int .i64 s, .bool true, .slice A n c, .bool false, .int .i64 lf, .slice B k d], Row 82 3 A n c ((crashF L K).flatMap encF), Row 3 1 B k d (K.flatMap encN)]) := by
  have TT := rThereOk r m s A n c true lf B k d L hn h1 x hs hh
  have TC := rChangeS r m s A n c lf B k d L hn h1 hq K hk hL
  refine triple_intro Try.tbs_ok Try.func45 rfl [.pt 0 r 0, .va (.string x), .va (.int .i64 z)] [.box r 49 [.va (.int .i64 m), .va (.int .i64 s), .va (.bool false), .va (.slice A n c), .va (.bool true), .va (.int .i64 lf), .va (.slice B k d)], .fact (Row 82 3 A n c (L.flatMap encF)), .fact (Row 3 1 B k d (K.flatMap encN))] ⟨rfl, trivial, trivial, trivial⟩ rfl (by simp [SV.good, SV.goodL]) ?_
  intro E
  refine go Try.tbs_ok 1000 ?_
  refine ev_call (TT ) [0, 1] [] (fun v0_ => [.box (r) 49 [.va (Value.int IntKind.i64 m), .va (Value.int IntKind.i64 s), .bl false, .va (Value.slice A n c), .bl true, .va (Value.int IntKind.i64 lf), .va (Value.slice B k d)], .fact (Row 82 3 A n c (List.flatMap encF L))]) rfl rfl (by decide) rfl (by simp) (fun _ => rfl) (fun _ => (newsOk_box (by simp [SV.good, SV.goodL]) (newsOk_fact (newsOk_nil _)))) (fun _ => (by repeat (first | exact trivial | refine ⟨rfl, ?_⟩))) (fun _ h0 => ?_)
  refine go Try.tbs_ok 1000 ?_
  refine ev_if_no rfl ?_
  refine go Try.tbs_ok 1000 ?_
  refine ev_if_no (decide_eq_false (show ¬z < 0 from (by omega))) ?_
  refine go Try.tbs_ok 1000 ?_
  refine ev_stop (go_index0 (sz := 3) Try.tbs_ok (.inr 1) (posF L x) rfl rfl rfl rfl rfl rfl (by omega) rfl Row.at0 (fun g1 e2 => ?_))
  subst e2
  refine go Try.tbs_ok 1000 ?_
  have l3 : posF L x < (L).length := (by omega)
  refine ev_stop (go_loadE Try.tbs_ok (.inr 1) (posF L x) 1 rfl rfl rfl rfl (fun _ h => Row.rd h) (by omega) (fun _ => rfl) (by omega) l3 (by decide) ?_)
  refine go Try.tbs_ok 1000 ?_
  refine ev_if_no (decide_eq_false (show ¬z > (↑L[posF L x].d.size : Int) from (by omega))) ?_
  refine go Try.tbs_ok 1000 ?_
  refine ev_call (TC ) [0, 1, 2] [] (fun v0_ => [.box (r) 49 [.va (Value.int IntKind.i64 m), .va (Value.int IntKind.i64 s), .bl true, .va (Value.slice (some { block := g1, off := 0 : Addr }) n c), .bl false, .va (Value.int IntKind.i64 lf), .va (Value.slice B k d)], .fact (Row 82 3 (some { block := g1, off := 0 : Addr }) n c (List.flatMap encF (crashF L K))), .fact (Row 3 1 B k d (List.flatMap encN K))]) rfl rfl (by decide) rfl (by simp) (fun _ => rfl) (fun _ => (newsOk_box (by simp [SV.good, SV.goodL]) (newsOk_fact (newsOk_fact (newsOk_nil _))))) (fun _ => (by repeat (first | exact trivial | refine ⟨rfl, ?_⟩))) (fun _ h4 => ?_)
  refine go Try.tbs_ok 1000 ?_
  refine ev_if_yes rfl ?_
  refine go Try.tbs_ok 1000 ?_
  refine ev_fin ⟨trivial, _, rfl, (()), rfl, (by trivial), Frm.sel [0, 1, 2] rfl (by decide)⟩
set_option maxRecDepth 100000 in
theorem rRemN (r : Nat) (m s : Int) (A : Option Addr) (n c : Nat) (lf : Int) (B : Option Addr) (k d : Nat) (L : List Fl) (hn : n = L.length) (h1 : n ≤ 1000) (x : ByteArray) (hs : riseF L) (hh : hasF L x = true) (hi : posF L x < L.length) : Triple Try.prog 47 [.pointer (some ⟨r, 0, none⟩), .string x] [Pt r 49 [.int .i64 m, .int .i64 s, .bool false, .slice A n c, .bool false, .int .i64 lf, .slice B k d], Row 82 3 A n c (L.flatMap encF)] [] (Option Addr × Nat) (fun _ => .int .i64 0) (fun _ => True) (fun (C, e) => [Pt r 49 [.int .i64 m, .int .i64 s, .bool false, .slice C (n - 1) e, .bool false, .int .i64 lf, .slice B k d], Row 82 3 C (n - 1) e ((L.eraseIdx (posF L x)).flatMap encF)]) := by
  have TT := rThereOk r m s A n c false lf B k d L hn h1 x hs hh
  have TC := rChangeN r m s A n c lf B k d
  have TW := rWithout r m s false A n c false lf B k d L hn h1 (posF L x) (by omega)
  refine triple_intro Try.tbs_ok Try.func47 rfl [.pt 0 r 0, .va (.string x)] [.box r 49 [.va (.int .i64 m), .va (.int .i64 s), .va (.bool false), .va (.slice A n c), .va (.bool false), .va (.int .i64 lf), .va (.slice B k d)], .fact (Row 82 3 A n c (L.flatMap encF))] ⟨rfl, trivial, trivial⟩ rfl (by simp [SV.good, SV.goodL]) ?_
  intro E
  refine go Try.tbs_ok 1000 ?_
  refine ev_call (TT ) [0, 1] [] (fun v0_ => [.box (r) 49 [.va (Value.int IntKind.i64 m), .va (Value.int IntKind.i64 s), .bl false, .va (Value.slice A n c), .bl false, .va (Value.int IntKind.i64 lf), .va (Value.slice B k d)], .fact (Row 82 3 A n c (List.flatMap encF L))]) rfl rfl (by decide) rfl (by simp) (fun _ => rfl) (fun _ => (newsOk_box (by simp [SV.good, SV.goodL]) (newsOk_fact (newsOk_nil _)))) (fun _ => (by repeat (first | exact trivial | refine ⟨rfl, ?_⟩))) (fun _ h0 => ?_)
  refine go Try.tbs_ok 1000 ?_
  refine ev_if_yes rfl ?_
  refine go Try.tbs_ok 1000 ?_
  refine ev_call (TC ) [0] [] (fun v0_ => [.box (r) 49 [.va (Value.int IntKind.i64 m), .va (Value.int IntKind.i64 s), .bl false, .va (Value.slice A n c), .bl false, .va (Value.int IntKind.i64 lf), .va (Value.slice B k d)]]) rfl rfl (by decide) rfl (by simp) (fun _ => rfl) (fun _ => (newsOk_box (by simp [SV.good, SV.goodL]) (newsOk_nil _))) (fun _ => (by repeat (first | exact trivial | refine ⟨rfl, ?_⟩))) (fun _ h1 => ?_)
  refine go Try.tbs_ok 1000 ?_
  refine ev_if_yes rfl ?_
  refine go Try.tbs_ok 1000 ?_
  refine ev_call (TW ) [0, 1] [] (fun (v0_, v1_) => [.box (r) 49 [.va (Value.int IntKind.i64 m), .va (Value.int IntKind.i64 s), .bl false, .va (Value.slice A n c), .bl false, .va (Value.int IntKind.i64 lf), .va (Value.slice B k d)], .fact (Row 82 3 A n c (List.flatMap encF L)), .fact (Row 82 3 v0_ (n - 1) v1_ (List.flatMap encF (L.eraseIdx (posF L x))))]) rfl rfl (by decide) rfl (by simp) (fun _ => rfl) (fun _ => (newsOk_box (by simp [SV.good, SV.goodL]) (newsOk_fact (newsOk_fact (newsOk_nil _))))) (fun _ => (by repeat (first | exact trivial | refine ⟨rfl, ?_⟩))) (fun ⟨x2, x3⟩ h4 => ?_)
  refine go Try.tbs_ok 1000 ?_
  refine ev_fin ⟨trivial, _, rfl, ((x2, x3)), rfl, (by trivial), Frm.sel [0, 2] rfl (by decide)⟩
set_option maxRecDepth 100000 in
theorem rRemG (r : Nat) (m s : Int) (A : Option Addr) (n c : Nat) (lf : Int) (B : Option Addr) (k d : Nat) (L : List Fl) (hn : n = L.length) (h1 : n ≤ 1000) (x : ByteArray) (hs : riseF L) (hh : hasF L x = true) (hi : posF L x < L.length) (hq : 0 < lf) (hq2 : lf ≤ 9223372036854775807) : Triple Try.prog 47 [.pointer (some ⟨r, 0, none⟩), .string x] [Pt r 49 [.int .i64 m, .int .i64 s, .bool false, .slice A n c, .bool true, .int .i64 lf, .slice B k d], Row 82 3 A n c (L.flatMap encF)] [] (Option Addr × Nat) (fun _ => .int .i64 0) (fun _ => True) (fun (C, e) => [Pt r 49 [.int .i64 m, .int .i64 s, .bool false, .slice C (n - 1) e, .bool true, .int .i64 (lf - 1), .slice B k d], Row 82 3 C (n - 1) e ((L.eraseIdx (posF L x)).flatMap encF)]) := by
  have TT := rThereOk r m s A n c true lf B k d L hn h1 x hs hh
  have TC := rChangeG r m s A n c lf B k d hq hq2
  have TW := rWithout r m s false A n c true (lf - 1) B k d L hn h1 (posF L x) (by omega)
  refine triple_intro Try.tbs_ok Try.func47 rfl [.pt 0 r 0, .va (.string x)] [.box r 49 [.va (.int .i64 m), .va (.int .i64 s), .va (.bool false), .va (.slice A n c), .va (.bool true), .va (.int .i64 lf), .va (.slice B k d)], .fact (Row 82 3 A n c (L.flatMap encF))] ⟨rfl, trivial, trivial⟩ rfl (by simp [SV.good, SV.goodL]) ?_
  intro E
  refine go Try.tbs_ok 1000 ?_
  refine ev_call (TT ) [0, 1] [] (fun v0_ => [.box (r) 49 [.va (Value.int IntKind.i64 m), .va (Value.int IntKind.i64 s), .bl false, .va (Value.slice A n c), .bl true, .va (Value.int IntKind.i64 lf), .va (Value.slice B k d)], .fact (Row 82 3 A n c (List.flatMap encF L))]) rfl rfl (by decide) rfl (by simp) (fun _ => rfl) (fun _ => (newsOk_box (by simp [SV.good, SV.goodL]) (newsOk_fact (newsOk_nil _)))) (fun _ => (by repeat (first | exact trivial | refine ⟨rfl, ?_⟩))) (fun _ h0 => ?_)
  refine go Try.tbs_ok 1000 ?_
  refine ev_if_yes rfl ?_
  refine go Try.tbs_ok 1000 ?_
  refine ev_call (TC ) [0] [] (fun v0_ => [.box (r) 49 [.va (Value.int IntKind.i64 m), .va (Value.int IntKind.i64 s), .bl false, .va (Value.slice A n c), .bl true, .va (Value.int IntKind.i64 (lf - 1)), .va (Value.slice B k d)]]) rfl rfl (by decide) rfl (by simp) (fun _ => rfl) (fun _ => (newsOk_box (by simp [SV.good, SV.goodL]) (newsOk_nil _))) (fun _ => (by repeat (first | exact trivial | refine ⟨rfl, ?_⟩))) (fun _ h1 => ?_)
  refine go Try.tbs_ok 1000 ?_
  refine ev_if_yes rfl ?_
  refine go Try.tbs_ok 1000 ?_
  refine ev_call (TW ) [0, 1] [] (fun (v0_, v1_) => [.box (r) 49 [.va (Value.int IntKind.i64 m), .va (Value.int IntKind.i64 s), .bl false, .va (Value.slice A n c), .bl true, .va (Value.int IntKind.i64 (lf - 1)), .va (Value.slice B k d)], .fact (Row 82 3 A n c (List.flatMap encF L)), .fact (Row 82 3 v0_ (n - 1) v1_ (List.flatMap encF (L.eraseIdx (posF L x))))]) rfl rfl (by decide) rfl (by simp) (fun _ => rfl) (fun _ => (newsOk_box (by simp [SV.good, SV.goodL]) (newsOk_fact (newsOk_fact (newsOk_nil _))))) (fun _ => (by repeat (first | exact trivial | refine ⟨rfl, ?_⟩))) (fun ⟨x2, x3⟩ h4 => ?_)
  refine go Try.tbs_ok 1000 ?_
  refine ev_fin ⟨trivial, _, rfl, ((x2, x3)), rfl, (by trivial), Frm.sel [0, 2] rfl (by decide)⟩
set_option maxRecDepth 100000 in
theorem rRemS (r : Nat) (m s : Int) (A : Option Addr) (n c : Nat) (lf : Int) (B : Option Addr) (k d : Nat) (L : List Fl) (hn : n = L.length) (h1 : n ≤ 1000) (x : ByteArray) (hs : riseF L) (hh : hasF L x = true) (hi : posF L x < L.length) (hq : lf = 0) (K : List Int) (hk : k = K.length) (hL : okF L) : Triple Try.prog 47 [.pointer (some ⟨r, 0, none⟩), .string x] [Pt r 49 [.int .i64 m, .int .i64 s, .bool false, .slice A n c, .bool true, .int .i64 lf, .slice B k d], Row 82 3 A n c (L.flatMap encF), Row 3 1 B k d (K.flatMap encN)] [] Unit (fun _ => .int .i64 41) (fun _ => True) (fun _ => [Pt r 49 [.int .i64 m, .int .i64 s, .bool true, .slice A n c, .bool false, .int .i64 lf, .slice B k d], Row 82 3 A n c ((crashF L K).flatMap encF), Row 3 1 B k d (K.flatMap encN)]) := by
  have TT := rThereOk r m s A n c true lf B k d L hn h1 x hs hh
  have TC := rChangeS r m s A n c lf B k d L hn h1 hq K hk hL
  refine triple_intro Try.tbs_ok Try.func47 rfl [.pt 0 r 0, .va (.string x)] [.box r 49 [.va (.int .i64 m), .va (.int .i64 s), .va (.bool false), .va (.slice A n c), .va (.bool true), .va (.int .i64 lf), .va (.slice B k d)], .fact (Row 82 3 A n c (L.flatMap encF)), .fact (Row 3 1 B k d (K.flatMap encN))] ⟨rfl, trivial, trivial⟩ rfl (by simp [SV.good, SV.goodL]) ?_
  intro E
  refine go Try.tbs_ok 1000 ?_
  refine ev_call (TT ) [0, 1] [] (fun v0_ => [.box (r) 49 [.va (Value.int IntKind.i64 m), .va (Value.int IntKind.i64 s), .bl false, .va (Value.slice A n c), .bl true, .va (Value.int IntKind.i64 lf), .va (Value.slice B k d)], .fact (Row 82 3 A n c (List.flatMap encF L))]) rfl rfl (by decide) rfl (by simp) (fun _ => rfl) (fun _ => (newsOk_box (by simp [SV.good, SV.goodL]) (newsOk_fact (newsOk_nil _)))) (fun _ => (by repeat (first | exact trivial | refine ⟨rfl, ?_⟩))) (fun _ h0 => ?_)
  refine go Try.tbs_ok 1000 ?_
  refine ev_if_yes rfl ?_
  refine go Try.tbs_ok 1000 ?_
  refine ev_call (TC ) [0, 1, 2] [] (fun v0_ => [.box (r) 49 [.va (Value.int IntKind.i64 m), .va (Value.int IntKind.i64 s), .bl true, .va (Value.slice A n c), .bl false, .va (Value.int IntKind.i64 lf), .va (Value.slice B k d)], .fact (Row 82 3 A n c (List.flatMap encF (crashF L K))), .fact (Row 3 1 B k d (List.flatMap encN K))]) rfl rfl (by decide) rfl (by simp) (fun _ => rfl) (fun _ => (newsOk_box (by simp [SV.good, SV.goodL]) (newsOk_fact (newsOk_fact (newsOk_nil _))))) (fun _ => (by repeat (first | exact trivial | refine ⟨rfl, ?_⟩))) (fun _ h1 => ?_)
  refine go Try.tbs_ok 1000 ?_
  refine ev_if_no rfl ?_
  refine go Try.tbs_ok 1000 ?_
  refine ev_fin ⟨trivial, _, rfl, (()), rfl, (by trivial), Frm.sel [0, 1, 2] rfl (by decide)⟩
end Go.Proofs.Ythknokcgclcbmaa
