/-
  What is proved: maps. Conditions: none.
-/
import Derived.Test.YthknokcgclcbmaaSyp
import Derived.MapKept
namespace Go.Sy
open Go Go.RowKit
variable {κ : Type}

/-- where a key is among some -/
def ixOf [DecidableEq κ] (ks : List κ) (k : κ) : Option Nat := ks.findIdx? fun q => decide (k = q)
/-- what the run asks of keys -/
structure KeyOk [DecidableEq κ] (P : Program) (kt : TypeId) (encK : κ → Value) : Prop where
  check : ∀ (e : Bool) (k : κ) (w : World), (Instr.checkKey e 10000 kt (encK k)).run P w = .ok () w
  find : ∀ (k : κ) (es : List MapEntry) (ks : List κ) (w : World), es.map (·.key) = ks.map encK → (Instr.findKey kt (encK k) es).run P w = .ok ((ixOf ks k).bind fun i => (es[i]?).map fun e => (i, e.val)) w
  bits : ∀ k, Instr.sameBits 10000 (encK k) (encK k) = true
theorem asking [DecidableEq κ] {P : Program} {kt : TypeId} {encK : κ → Value} (heq : ∀ (a b : κ) (w : World), (Op.equal kt (encK a) (encK b)).run P w = .ok (decide (a = b)) w) (k : κ) (w : World) : ∀ (es : List MapEntry) (ks : List κ) (i : Nat), es.map (·.key) = ks.map encK →
    (Instr.findAsking kt (encK k) es i).run P w = .ok ((ixOf ks k).bind fun j => (es[j]?).map fun e => (i + j, e.val)) w
  | [], [], i, _ => rfl
  | [], _ :: _, _, h => by cases h
  | _ :: _, [], _, h => by cases h
  | e :: es, q :: ks, i, h => by
    simp only [List.map_cons, List.cons.injEq] at h
    obtain ⟨h1, h2⟩ := h
    rw [Instr.findAsking, Sem.run_bind, h1, heq]
    simp only [Result.andThen_ok]
    by_cases hk : k = q
    · simp [hk, ixOf, List.findIdx?_cons]
    · have := asking heq k w es ks (i + 1) h2
      simp only [hk, decide_false, Bool.false_eq_true, if_false, this]
      unfold ixOf
      rw [List.findIdx?_cons]
      simp only [hk, decide_false, Bool.false_eq_true, if_false]
      cases List.findIdx? (fun q => decide (k = q)) ks with
      | none => rfl
      | some j =>
        simp only [Option.map_some, Option.bind_some, List.getElem?_cons_succ]
        rw [show i + 1 + j = i + (j + 1) by omega]
theorem keyOk_of [DecidableEq κ] {P : Program} {kt : TypeId} {encK : κ → Value} {d : TypeDesc} (hu : P.underlying kt = some d) (hnow : ∀ a b, Instr.sameNow d (encK a) (encK b) = none)
    (hcheck : ∀ (e : Bool) (k : κ) (w : World), (Instr.checkKey e 10000 kt (encK k)).run P w = .ok () w) (heq : ∀ (a b : κ) (w : World), (Op.equal kt (encK a) (encK b)).run P w = .ok (decide (a = b)) w)
    (hbits : ∀ k, Instr.sameBits 10000 (encK k) (encK k) = true) : KeyOk P kt encK where
  check := hcheck
  bits := hbits
  find k es ks w h := by
    unfold Instr.findKey
    rw [Sem.run_bind, run_underlying hu]
    simp only [Result.andThen_ok]
    cases es with
    | nil =>
      cases ks with
      | nil => rfl
      | cons q ks => cases h
    | cons e es =>
      cases ks with
      | nil => cases h
      | cons q ks =>
        have h1 : e.key = encK q := by simpa using congrArg (fun l => l.head?) h
        have h2 : Instr.findNow d (encK k) (e :: es) 0 = none := by
          simp only [Instr.findNow, h1, hnow]
        rw [h2]
        have := asking heq k w (e :: es) (q :: ks) 0 h
        simpa using this
/-- a map -/
def MapA (encK : κ → Value) (b : Nat) (es : List (κ × Value)) : Asn :=
  ⟨fun h => ∃ (arr : Array MapEntry) (clock : Nat), h b = some (.map arr clock) ∧ arr.toList.map (fun e => e.key) = es.map (fun p => encK p.1) ∧ arr.toList.map (fun e => e.val) = es.map (·.2),
   fun e ⟨a, c, h1, h2, h3⟩ => ⟨a, c, e _ _ h1, h2, h3⟩⟩
def lookE [DecidableEq κ] (es : List (κ × Value)) (k : κ) (z : Value) : Value := match ixOf (es.map (·.1)) k with | some j => ((es[j]?).map (·.2)).getD z | none => z
def putE [DecidableEq κ] (es : List (κ × Value)) (k : κ) (v : Value) : List (κ × Value) := match ixOf (es.map (·.1)) k with | some j => es.set j (k, v) | none => es ++ [(k, v)]
def delE [DecidableEq κ] (es : List (κ × Value)) (k : κ) : List (κ × Value) := match ixOf (es.map (·.1)) k with | some j => es.eraseIdx j | none => es

section
variable {P : Program} {T : Tbs} {E : Entry} {Q : Exit → St → Prop} {ops : Array Oper} {l : List Oper} {r : List It} {st : St} {encK : κ → Value}
theorem lookup_run [DecidableEq κ] (hT : TbsOk P T) {t kt et : TypeId} {b : Nat} {es : List (κ × Value)} (K : KeyOk P kt encK) (k : κ) (z : Value) {w : World} (hB : (MapA encK b es).holds (hp w))
    (ht : (te T.tab t).map (·.k) = some (.map kt et)) (hz : ∀ w, (zeroValue et).run P w = .ok z w) :
    (Instr.lookup t (.map (some b)) (encK k) false).run P w = .ok (lookE es k z) w := by
  obtain ⟨arr, clock, h1, h2, h3⟩ := hB
  have h1 : w.heap[b]? = some (.map arr clock) := h1
  cases htt : te T.tab t with
  | none => rw [htt] at ht; cases ht
  | some et' =>
    rw [htt] at ht
    simp at ht
    obtain ⟨ii, u, zz, hii, hu, hz', hk, _⟩ := te_spec hT.tab htt
    rw [ht] at hk
    cases u <;> simp [tkOf] at hk
    obtain ⟨rfl, rfl⟩ := hk
    have hf := K.find k arr.toList (es.map (·.1)) w (by rw [h2, List.map_map]; rfl)
    unfold lookE
    have hlen : arr.toList.length = es.length := by simpa using congrArg List.length h3
    cases hix : ixOf (es.map (·.1)) k with
    | none =>
      rw [hix] at hf
      simp [Instr.lookup, run_underlying hu, MapKept.run_getObj_map h1, K.check, hf, hz, Result.andThen]
    | some j =>
      rw [hix] at hf
      have hj : j < es.length := by
        have := List.findIdx?_eq_some_iff_getElem.1 hix
        obtain ⟨hj, _⟩ := this
        simpa using hj
      have hj2 : j < arr.toList.length := by omega
      have e1 : arr.toList[j].val = es[j].2 := by
        have : (arr.toList.map (fun e => e.val))[j]? = (es.map (·.2))[j]? := by rw [h3]
        rw [List.getElem?_map, List.getElem?_map, List.getElem?_eq_getElem hj, List.getElem?_eq_getElem hj2] at this
        simpa using this
      simp only [Option.bind_some] at hf
      rw [List.getElem?_eq_getElem hj2] at hf
      simp only [Option.map_some] at hf
      simp [Instr.lookup, run_underlying hu, MapKept.run_getObj_map h1, K.check, hf, Result.andThen, List.getElem?_eq_getElem hj]
      simpa using e1
theorem go_lookup [DecidableEq κ] (hT : TbsOk P T) {dst : Option Tmp} {t kt et : TypeId} {x ix : Operand} {ty : TypeId} {pos : String} {after : Array Edge} {gd : Option (Nat × Bool)} {b : Nat} {B : Asn} (es : List (κ × Value)) (K : KeyOk P kt encK) (k : κ) (z v : Value) (s : Sum Nat Nat)
    (hg : guardS ops st.fr ⟨dst, .lookup t x ix false, ty, pos, after, gd⟩ = .run) (hx : (ev st.fr x).den = .map (some b)) (hxno : (ev st.fr x).isNo = false) (hk : (ev st.fr ix).den = encK k) (hkno : (ev st.fr ix).isNo = false)
    (ht : (te T.tab t).map (·.k) = some (.map kt et)) (hz : ∀ w, (zeroValue et).run P w = .ok z w) (hs : has st s B) (hB : ∀ h, B.holds h → (MapA encK b es).holds h) (hv : lookE es k z = v)
    (h : Go P E (.o ops l :: r) (st.put dst (.va v)) Q) : Go P E (.o ops (⟨dst, .lookup t x ix false, ty, pos, after, gd⟩ :: l) :: r) st Q :=
  go_val (o := ⟨dst, .lookup t x ix false, ty, pos, after, gd⟩) hg (.va v) trivial (fun a w hR => by
    obtain ⟨hs', hi', hres⟩ := hR.res
    have e1 : a.eval x = .map (some b) := by rw [ev_denv hR.fr rfl hxno, hx]
    have e2 : a.eval ix = encK k := by rw [ev_denv hR.fr rfl hkno, hk]
    have := lookup_run hT K k z (hB _ (has_holds hs hres)) ht hz
    simp [execOp, e1, e2, this, hv, SV.den]) h
theorem tk_lookup [DecidableEq κ] (hT : TbsOk P T) {full : Bool} {held : List (Nat × Res)} {ro0 : List Asn} {q : Nat} {p : List (Nat × Bool)} {listed : List Bool} {dst : Option Tmp} {t kt et : TypeId} {x ix : Operand} {ty : TypeId} {pos : String} {after : Array Edge} {gd : Option (Nat × Bool)} {b : Nat} {B : Asn} (es : List (κ × Value)) (K : KeyOk P kt encK) (k : κ) (z v : Value) (s : Sum Nat Nat)
    (hchk : (heldOk held st.res ∧ ro0 = st.ro) ∧ planOk ops full ((q, true) :: p) listed = true) (ho : ops.toList[q]? = some ⟨dst, .lookup t x ix false, ty, pos, after, gd⟩)
    (hg : guardS ops st.fr ⟨dst, .lookup t x ix false, ty, pos, after, gd⟩ = .run) (hx : (ev st.fr x).den = .map (some b)) (hxno : (ev st.fr x).isNo = false) (hk : (ev st.fr ix).den = encK k) (hkno : (ev st.fr ix).isNo = false)
    (ht : (te T.tab t).map (·.k) = some (.map kt et)) (hz : ∀ w, (zeroValue et).run P w = .ok z w) (hs : hasD held ro0 s B) (hB : ∀ h, B.holds h → (MapA encK b es).holds h) (hv : lookE es k z = v)
    (h : Go P E (.d ops full held ro0 p (listed.set q true) :: r) (st.put dst (.va v)) Q) : Go P E (.d ops full held ro0 ((q, true) :: p) listed :: r) st Q :=
  tk_val (o := ⟨dst, .lookup t x ix false, ty, pos, after, gd⟩) hchk ho hg (.va v) trivial (fun a w hF hW => by
    have e1 : a.eval x = .map (some b) := by rw [ev_denv hF rfl hxno, hx]
    have e2 : a.eval ix = encK k := by rw [ev_denv hF rfl hkno, hk]
    have := lookup_run hT K k z (hB _ (hasD_holds hs hW)) ht hz
    simp [execOp, e1, e2, this, hv, SV.den]) h
theorem go_lenMap (hT : TbsOk P T) {dst : Option Tmp} {t kt et : TypeId} {x : Operand} {ty : TypeId} {pos : String} {after : Array Edge} {gd : Option (Nat × Bool)} {b : Nat} {B : Asn} (es : List (κ × Value)) (s : Sum Nat Nat)
    (hg : guardS ops st.fr ⟨dst, .call { callee := .builtin .len, args := #[x], argTypes := #[t] }, ty, pos, after, gd⟩ = .run) (hx : (ev st.fr x).den = .map (some b)) (hxno : (ev st.fr x).isNo = false)
    (ht : (te T.tab t).map (·.k) = some (.map kt et)) (hs : has st s B) (hB : ∀ h, B.holds h → (MapA encK b es).holds h)
    (h : Go P E (.o ops l :: r) (st.put dst (.va (.int .i64 (es.length : Nat)))) Q) : Go P E (.o ops (⟨dst, .call { callee := .builtin .len, args := #[x], argTypes := #[t] }, ty, pos, after, gd⟩ :: l) :: r) st Q :=
  go_val (o := ⟨dst, .call { callee := .builtin .len, args := #[x], argTypes := #[t] }, ty, pos, after, gd⟩) hg (.va (.int .i64 (es.length : Nat))) trivial (fun a w hR => by
    obtain ⟨hs', hi', hres⟩ := hR.res
    obtain ⟨arr, clock, h1, h2, h3⟩ := hB _ (has_holds hs hres)
    have h1 : w.heap[b]? = some (.map arr clock) := h1
    have hlen : arr.toList.length = es.length := by simpa using congrArg List.length h3
    have e1 : a.eval x = .map (some b) := by rw [ev_denv hR.fr rfl hxno, hx]
    cases htt : te T.tab t with
    | none => rw [htt] at ht; cases ht
    | some et' =>
      rw [htt] at ht
      simp at ht
      obtain ⟨ii, u, zz, hii, hu, hz', hk, _⟩ := te_spec hT.tab htt
      rw [ht] at hk
      cases u <;> simp [tkOf] at hk
      have hsz : arr.size = es.length := by simpa using hlen
      simp [execOp, resolve, invoke, builtin, Builtin.len_, e1, run_underlying hu, MapKept.run_getObj_map h1, goInt, SV.den, hsz]) h
/-- a map is written -/
theorem map_res {res : List Res} {ro : List Asn} {w : World} {hs : Nat → Hp} {hi : Hp} (hres : ResOk E res ro w hs hi) (i b : Nat) (es : List (κ × Value)) (hi' : asnAt res i = some (MapA encK b es)) :
    ∃ (arr : Array MapEntry) (clock : Nat), w.heap[b]? = some (.map arr clock) ∧ arr.toList.map (fun e => e.key) = es.map (fun p => encK p.1) ∧ arr.toList.map (fun e => e.val) = es.map (·.2) ∧
      ∀ (es' : List (κ × Value)) (arr' : Array MapEntry) (clock' : Nat), arr'.toList.map (fun e => e.key) = es'.map (fun p => encK p.1) → arr'.toList.map (fun e => e.val) = es'.map (·.2) → blkLe res (place res [i] [.fact (MapA encK b es')]) →
        ∃ hs', ResOk E (place res [i] [.fact (MapA encK b es')]) ro { w with heap := w.heap.setIfInBounds b (.map arr' clock') } hs' hi := by
  have hM := selH_star hres.le hres.dis hres.holds (sel := [i]) (M := [MapA encK b es]) (by simp [hi']) (by simp)
  obtain ⟨arr, clock, hg, h2, h3⟩ := starH_one.1 hM
  have hw : w.heap[b]? = some (.map arr clock) := selH_le _ _ _ _ _ hg
  have hlt : b < w.heap.size := (Array.getElem?_eq_some_iff.1 hw).1
  refine ⟨arr, clock, hw, h2, h3, fun es' arr' clock' k1 k2 hb => ?_⟩
  have hrow : ({ w with heap := w.heap.setIfInBounds b (.map arr' clock') } : World).heap[b]? = some (.map arr' clock') := by simp [hlt]
  refine place_ok (w' := { w with heap := w.heap.setIfInBounds b (.map arr' clock') }) hres [i] (selH w hs [i]) selH_C [.fact (MapA encK b es')] (Hp.one b (.map arr' clock')) (starH_one.2 ⟨arr', clock', Hp.one_self _ _, k1, k2⟩) (Hp.one_le hrow) ⟨rfl, rfl, rfl, by simp, fun b' _ hn => ?_⟩ (fun b' hne => ?_) (newsOk_fact (newsOk_nil _)) hb
  · have hne : b' ≠ b := fun e => by subst e; rw [hg] at hn; cases hn
    simp [Ne.symm hne]
  · left
    by_cases e : b' = b
    · subst e; rw [hg]; simp
    · exact absurd (Hp.one_none e) hne
theorem List.map_eraseIdx' {α β : Type} (f : α → β) (l : List α) (j : Nat) : (l.eraseIdx j).map f = (l.map f).eraseIdx j := by
  rw [List.eraseIdx_eq_take_drop_succ, List.eraseIdx_eq_take_drop_succ, List.map_append, List.map_take, List.map_drop]
theorem ixOf_lt [DecidableEq κ] {ks : List κ} {k : κ} {j : Nat} (h : ixOf ks k = some j) : ∃ hj : j < ks.length, ks[j] = k := by
  obtain ⟨hj, h1, _⟩ := List.findIdx?_eq_some_iff_getElem.1 h
  exact ⟨hj, (of_decide_eq_true h1).symm⟩
theorem go_mapUpdate [DecidableEq κ] (hT : TbsOk P T) {t kt et : TypeId} {x ix y : Operand} {ty : TypeId} {pos : String} {after : Array Edge} {gd : Option (Nat × Bool)} {b : Nat} (i : Nat) (es es' : List (κ × Value)) (K : KeyOk P kt encK) (k : κ) (v : Value)
    (hg : guardS ops st.fr ⟨none, .mapUpdate t x ix y, ty, pos, after, gd⟩ = .run) (hx : (ev st.fr x).den = .map (some b)) (hxno : (ev st.fr x).isNo = false) (hk : (ev st.fr ix).den = encK k) (hkno : (ev st.fr ix).isNo = false) (hy : (ev st.fr y).den = v) (hyno : (ev st.fr y).isNo = false)
    (ht : (te T.tab t).map (·.k) = some (.map kt et)) (hi : st.res[i]? = some (.fact (MapA encK b es))) (hes : putE es k v = es')
    (h : Go P E (.o ops l :: r) ⟨st.fr, st.res.set i (.fact (MapA encK b es')), st.ro⟩ Q) : Go P E (.o ops (⟨none, .mapUpdate t x ix y, ty, pos, after, gd⟩ :: l) :: r) st Q := by
  subst hes
  refine Go.step fun a w hR => ⟨by have := guard_spec hR.fr (ops := ops) ⟨none, .mapUpdate t x ix y, ty, pos, after, gd⟩; rw [hg] at this; exact this, ?_⟩
  obtain ⟨hs, hi0, hres⟩ := hR.res
  have hlt := (List.getElem?_eq_some_iff.1 hi).1
  obtain ⟨arr, clock, hw, h2, h3, hup⟩ := map_res hres i b es (asnAt_fact hi)
  have e1 : a.eval x = .map (some b) := by rw [ev_denv hR.fr rfl hxno, hx]
  have e2 : a.eval ix = encK k := by rw [ev_denv hR.fr rfl hkno, hk]
  have e3 : a.eval y = v := by rw [ev_denv hR.fr rfl hyno, hy]
  have hlen : arr.toList.length = es.length := by simpa using congrArg List.length h3
  have hsz : arr.size = es.length := by simpa using hlen
  cases htt : te T.tab t with
  | none => rw [htt] at ht; cases ht
  | some et' =>
    rw [htt] at ht
    simp at ht
    obtain ⟨ii, u, zz, hii, hu, hz', hk', _⟩ := te_spec hT.tab htt
    rw [ht] at hk'
    cases u <;> simp [tkOf] at hk'
    obtain ⟨rfl, rfl⟩ := hk'
    have hf := K.find k arr.toList (es.map (·.1)) w (by rw [h2, List.map_map]; rfl)
    cases hix : ixOf (es.map (·.1)) k with
    | none =>
      rw [hix] at hf
      obtain ⟨hs2, hres2⟩ := hup (es ++ [(k, v)]) (arr.push { key := encK k, val := v, born := clock }) (clock + 1) (by simp [h2]) (by simp [h3]) (by rw [place_one hlt]; exact blkLe_set _ hi)
      rw [place_one hlt] at hres2
      have hp : putE es k v = es ++ [(k, v)] := by unfold putE; rw [hix]
      rw [hp] at h
      refine wp_skip' (w' := _) ?_ (h _ _ ⟨hR.fr.mono (blkLe_spec (blkLe_set _ hi)), hs2, hi0, hres2⟩)
      simp [execOp, e1, e2, e3, Instr.mapUpdate, run_underlying hu, MapKept.run_getObj_map hw, K.check, hf, MapKept.run_setObj_map _ hw, Result.andThen]
    | some j =>
      obtain ⟨hj, hkj⟩ := ixOf_lt hix
      rw [hix] at hf
      simp only [Option.bind_some] at hf
      have hj1 : j < es.length := by simpa using hj
      have hj2 : j < arr.toList.length := by omega
      have hj3 : j < arr.size := by omega
      rw [List.getElem?_eq_getElem hj2] at hf
      simp only [Option.map_some] at hf
      have ekey : arr[j].key = encK k := by
        have : (arr.toList.map (fun e => e.key))[j]? = (es.map (fun p => encK p.1))[j]? := by rw [h2]
        rw [List.getElem?_map, List.getElem?_map, List.getElem?_eq_getElem hj2, List.getElem?_eq_getElem hj1] at this
        simp only [Option.map_some, Option.some.injEq, Array.getElem_toList] at this
        rw [this]
        congr 1
        simpa using hkj
      obtain ⟨hs2, hres2⟩ := hup (es.set j (k, v)) (arr.modify j fun e => { e with key := encK k, val := v }) clock (by
        apply List.ext_getElem?
        intro q
        have := congrArg (fun l => l[q]?) h2
        simp only [List.getElem?_map] at this ⊢
        rw [Array.toList_modify, List.getElem?_modify, List.getElem?_set]
        by_cases e : j = q
        · subst e; simp [hj1, hj3]
        · simpa [e] using this) (by
        apply List.ext_getElem?
        intro q
        have := congrArg (fun l => l[q]?) h3
        simp only [List.getElem?_map] at this ⊢
        rw [Array.toList_modify, List.getElem?_modify, List.getElem?_set]
        by_cases e : j = q
        · subst e; simp [hj1, hj3]
        · simpa [e] using this) (by rw [place_one hlt]; exact blkLe_set _ hi)
      rw [place_one hlt] at hres2
      have hp : putE es k v = es.set j (k, v) := by unfold putE; rw [hix]
      rw [hp] at h
      refine wp_skip' (w' := _) ?_ (h _ _ ⟨hR.fr.mono (blkLe_spec (blkLe_set _ hi)), hs2, hi0, hres2⟩)
      simp [execOp, e1, e2, e3, Instr.mapUpdate, run_underlying hu, MapKept.run_getObj_map hw, K.check, hf, MapKept.run_setObj_map _ hw, Result.andThen, Array.getElem?_eq_getElem hj3, ekey, Instr.keyThatStays, K.bits]
theorem go_delete [DecidableEq κ] (hT : TbsOk P T) {t tk kt et : TypeId} {x ix : Operand} {ty : TypeId} {pos : String} {after : Array Edge} {gd : Option (Nat × Bool)} {b : Nat} (i : Nat) (es es' : List (κ × Value)) (K : KeyOk P kt encK) (k : κ)
    (hg : guardS ops st.fr ⟨none, .call { callee := .builtin .delete, args := #[x, ix], argTypes := #[t, tk] }, ty, pos, after, gd⟩ = .run) (hx : (ev st.fr x).den = .map (some b)) (hxno : (ev st.fr x).isNo = false) (hk : (ev st.fr ix).den = encK k) (hkno : (ev st.fr ix).isNo = false)
    (ht : (te T.tab t).map (·.k) = some (.map kt et)) (hi : st.res[i]? = some (.fact (MapA encK b es))) (hes : delE es k = es')
    (h : Go P E (.o ops l :: r) ⟨st.fr, st.res.set i (.fact (MapA encK b es')), st.ro⟩ Q) : Go P E (.o ops (⟨none, .call { callee := .builtin .delete, args := #[x, ix], argTypes := #[t, tk] }, ty, pos, after, gd⟩ :: l) :: r) st Q := by
  subst hes
  refine Go.step fun a w hR => ⟨by have := guard_spec hR.fr (ops := ops) ⟨none, .call { callee := .builtin .delete, args := #[x, ix], argTypes := #[t, tk] }, ty, pos, after, gd⟩; rw [hg] at this; exact this, ?_⟩
  obtain ⟨hs, hi0, hres⟩ := hR.res
  have hlt := (List.getElem?_eq_some_iff.1 hi).1
  obtain ⟨arr, clock, hw, h2, h3, hup⟩ := map_res hres i b es (asnAt_fact hi)
  have e1 : a.eval x = .map (some b) := by rw [ev_denv hR.fr rfl hxno, hx]
  have e2 : a.eval ix = encK k := by rw [ev_denv hR.fr rfl hkno, hk]
  have hlen : arr.toList.length = es.length := by simpa using congrArg List.length h3
  have hsz : arr.size = es.length := by simpa using hlen
  cases htt : te T.tab t with
  | none => rw [htt] at ht; cases ht
  | some et' =>
    rw [htt] at ht
    simp at ht
    obtain ⟨ii, u, zz, hii, hu, hz', hk', _⟩ := te_spec hT.tab htt
    rw [ht] at hk'
    cases u <;> simp [tkOf] at hk'
    obtain ⟨rfl, rfl⟩ := hk'
    have hf := K.find k arr.toList (es.map (·.1)) w (by rw [h2, List.map_map]; rfl)
    cases hix : ixOf (es.map (·.1)) k with
    | none =>
      rw [hix] at hf
      have hp : delE es k = es := by unfold delE; rw [hix]
      obtain ⟨hs2, hres2⟩ := hup es arr clock h2 h3 (by rw [place_one hlt]; exact blkLe_set _ hi)
      rw [place_one hlt] at hres2
      rw [hp] at h
      refine wp_value (v := .tuple #[]) (w' := _) ?_ (h _ _ ⟨hR.fr.mono (blkLe_spec (blkLe_set _ hi)), hs2, hi0, hres2⟩)
      simp [execOp, resolve, invoke, builtin, Builtin.delete_, e1, e2, run_underlying hu, MapKept.run_getObj_map hw, K.check, hf, MapKept.run_setObj_map _ hw, Result.andThen]
    | some j =>
      obtain ⟨hj, hkj⟩ := ixOf_lt hix
      rw [hix] at hf
      simp only [Option.bind_some] at hf
      have hj1 : j < es.length := by simpa using hj
      have hj2 : j < arr.toList.length := by omega
      have hj3 : j < arr.size := by omega
      rw [List.getElem?_eq_getElem hj2] at hf
      simp only [Option.map_some] at hf
      have hp : delE es k = es.eraseIdx j := by unfold delE; rw [hix]
      obtain ⟨hs2, hres2⟩ := hup (es.eraseIdx j) (arr.eraseIdxIfInBounds j) clock (by
        rw [Array.toList_eraseIdxIfInBounds, List.map_eraseIdx', List.map_eraseIdx', h2]) (by
        rw [Array.toList_eraseIdxIfInBounds, List.map_eraseIdx', List.map_eraseIdx', h3]) (by rw [place_one hlt]; exact blkLe_set _ hi)
      rw [place_one hlt] at hres2
      rw [hp] at h
      refine wp_value (v := .tuple #[]) (w' := _) ?_ (h _ _ ⟨hR.fr.mono (blkLe_spec (blkLe_set _ hi)), hs2, hi0, hres2⟩)
      simp [execOp, resolve, invoke, builtin, Builtin.delete_, e1, e2, run_underlying hu, MapKept.run_getObj_map hw, K.check, hf, MapKept.run_setObj_map _ hw, Result.andThen]
theorem go_makeMap {dst : Option Tmp} {t : TypeId} {ty : TypeId} {pos : String} {after : Array Edge} {gd : Option (Nat × Bool)} (encK : κ → Value)
    (hg : guardS ops st.fr ⟨dst, .makeMap t none, ty, pos, after, gd⟩ = .run)
    (hb : ∀ b, blkLe st.res (place st.res [] [.fact (MapA encK b [])]))
    (h : ∀ b, Go P E (.o ops l :: r) (St.put ⟨st.fr, place st.res [] [.fact (MapA encK b [])], st.ro⟩ dst (.va (.map (some b)))) Q) : Go P E (.o ops (⟨dst, .makeMap t none, ty, pos, after, gd⟩ :: l) :: r) st Q := by
  refine Go.step fun a w hR => ⟨by have := guard_spec hR.fr (ops := ops) ⟨dst, .makeMap t none, ty, pos, after, gd⟩; rw [hg] at this; exact this, ?_⟩
  obtain ⟨hs', hi', hres⟩ := hR.res
  obtain ⟨hs2, hres2⟩ := place_ok hres [] Hp.emp (fun b hb => absurd rfl hb) [.fact (MapA encK w.heap.size [])] (Hp.one w.heap.size (.map #[] 0)) (starH_one.2 ⟨#[], 0, Hp.one_self _ _, rfl, rfl⟩) (Hp.one_le (hp_alloc w _)) (Ext.alloc w _) (fun b hb' => by
    right
    by_cases e : b = w.heap.size
    · omega
    · exact absurd (Hp.one_none e) hb') (newsOk_fact (newsOk_nil _)) (hb _)
  refine wp_value (v := .map (some w.heap.size)) (w' := w.alloc (.map #[] 0)) ?_ (h w.heap.size _ _ (R.put (st := ⟨st.fr, place st.res [] [.fact (MapA encK w.heap.size [])], st.ro⟩) ⟨hR.fr.mono (blkLe_spec (hb _)), hs2, hi', hres2⟩ dst (x := .va (.map (some w.heap.size))) rfl trivial))
  simp [execOp, Instr.makeMap]
end
end Go.Sy
