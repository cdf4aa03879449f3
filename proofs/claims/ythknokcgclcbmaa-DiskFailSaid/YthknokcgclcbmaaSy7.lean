/-
  What is proved: literals, lengths, indexes that are constants; the machine's step. Conditions: none.
-/
import Derived.Test.YthknokcgclcbmaaSy6
namespace Go.Sy
open Go.RowKit

def allSome {α : Type} : List (Option α) → Option (List α)
  | [] => some []
  | some x :: l => match allSome l with | some r => some (x :: r) | none => none
  | none :: _ => none
def placesOf (T : Tab) (t : TypeId) : Option (List (Nat × Nat)) :=
  match te T t with
  | some e => match e.k with
    | .struct fs => allSome (fs.map fun p => match te T p.2 with | some e => some (p.1, e.size) | none => none)
    | _ => none
  | none => none
theorem allSome_get {α : Type} : ∀ {l : List (Option α)} {r : List α}, allSome l = some r → l = r.map some := by
  intro l
  induction l with
  | nil => intro r h; simp only [allSome] at h; cases h; rfl
  | cons x l ih =>
    intro r h
    cases x with
    | none => simp only [allSome] at h; cases h
    | some x =>
      simp only [allSome] at h
      split at h
      · rename_i r' hr'; cases h; simp [ih hr']
      · cases h
theorem mapM_places {P : Program} {T : Tab} (hT : TabOk P T) (w : World) (fs : List Field) : ∀ {r : List (Nat × Nat)},
    allSome ((fs.map fun f => (f.offset, f.type)).map fun p => match te T p.2 with | some e => some (p.1, e.size) | none => none) = some r →
    (fs.mapM fun f => (do pure (f.offset, ← sizeOf f.type) : Sem (Nat × Nat))).run P w = .ok r w := by
  induction fs with
  | nil => intro r h; simp only [List.map_nil, allSome] at h; cases h; rfl
  | cons f fs ih =>
    intro r h
    simp only [List.map_cons, List.mapM_cons] at h ⊢
    cases ht : te T f.type with
    | none => rw [ht] at h; simp only [allSome] at h; cases h
    | some e =>
      rw [ht] at h
      simp only [allSome] at h
      split at h
      · rename_i r' hr'
        cases h
        obtain ⟨i, u, z, hi, hu, hz, hk, hs, _, _⟩ := te_spec hT ht
        have hsz : (sizeOf f.type).run P w = .ok i.size w := by simp [sizeOf, typeInfo, hi]
        have := ih hr'
        simp only [Sem.run_bind, hsz, Result.andThen_ok, Sem.run_pure, this, hs]
      · cases h

def buildOp (T : Tab) (t : TypeId) (parts : List (Nat × SV)) : StepR :=
  match zeroS T t, placesOf T t with
  | some z, some pl => match fillS (fun i => pl[i]?) z parts with
    | some l => .ok (.ag l)
    | none => .no
  | _, _ => .no
def evP (fr : List SV) (parts : Array (Nat × Operand)) : List (Nat × SV) := parts.toList.map fun p => (p.1, ev fr p.2)
theorem fillS_no (place : Nat → Option (Nat × Nat)) (parts : List (Nat × SV)) : ∀ {cells out : List SV}, fillS place cells parts = some out → ∀ p ∈ parts, p.2 ≠ .no := by
  induction parts with
  | nil => intro _ _ _ p hp; cases hp
  | cons q parts ih =>
    obtain ⟨i, x⟩ := q
    intro cells out h p hp
    simp only [fillS] at h
    split at h
    · cases h
    · split at h
      · cases h
      · rename_i hno
        split at h
        · split at h
          · rcases List.mem_cons.1 hp with rfl | hp
            · exact hno
            · exact ih h p hp
          · cases h
        · cases h
theorem parts_den {st : St} {a : Act} (h : FrOk st.fr st.res a) (parts : Array (Nat × Operand)) (hno : ∀ p ∈ evP st.fr parts, p.2 ≠ .no) :
    (parts.map fun p => (p.1, a.eval p.2)).toList = (evP st.fr parts).map fun p => (p.1, p.2.den) := by
  simp only [evP, Array.toList_map, List.map_map]
  refine List.map_congr_left fun p hp => ?_
  simp only [Function.comp_apply]
  rw [ev_den h rfl (hno (p.1, ev st.fr p.2) (by simp only [evP, List.mem_map]; exact ⟨p, hp, rfl⟩))]
theorem buildOp_ok {P : Program} {T : Tab} (hT : TabOk P T) {o : Oper} {t : TypeId} {parts : Array (Nat × Operand)} (ho : o.op = .build t parts) (st : St) : (buildOp T t (evP st.fr parts)).Sound P o st := by
  unfold buildOp
  split
  · rename_i z pl hz hpl
    split
    · rename_i l hl
      refine ok_of fun a w h => ?_
      obtain ⟨zv, hzv, hzc, hzg⟩ := zeroS_ok hT hz w
      unfold placesOf at hpl
      split at hpl
      · rename_i e he
        obtain ⟨i, u, zz, hi, hu, hz', hk, _⟩ := te_spec hT he
        split at hpl
        · rename_i fs hfs
          rw [hk] at hfs
          cases u <;> simp [tkOf] at hfs
          rename_i fa
          subst hfs
          have hm := mapM_places hT w fa.toList hpl
          have hf := fillS_ok _ hl
          have hp := parts_den h parts (fillS_no _ _ hl)
          refine ⟨(SV.ag l).den, ?_, SV.is_den _, ?_⟩
          · have hplace : ((fun x : Nat => (pl.toArray)[x]?) : Nat → Option (Nat × Nat)) = fun i => pl[i]? := by funext i; simp
            simp only [execOp, ho, Instr.build, Sem.run_bind, hzv, Result.andThen_ok, run_underlying hu]
            rw [Array.mapM_eq_mapM_toList]
            simp only [Sem.run_map, hm, Result.andThen_ok]
            rw [hplace, hzc, hp, hf]
            rfl
          · refine fillS_good _ hl (hzg _) (fun p hp => ?_)
            simp only [evP, List.mem_map] at hp
            obtain ⟨q, _, rfl⟩ := hp
            exact ev_good h q.2
        · cases hpl
      · cases hpl
    · trivial
  · trivial

def repl (n : Nat) (z : List SV) : List SV := match n with | 0 => [] | n + 1 => z ++ repl n z
theorem repl_get (z : List SV) (_ : 0 < z.length) : ∀ (n i : Nat), i < n * z.length → (repl n z)[i]? = z[i % z.length]? := by
  intro n
  induction n with
  | zero => intro i h; simp at h
  | succ n ih =>
    intro i h
    simp only [repl]
    by_cases hl : i < z.length
    · rw [List.getElem?_append_left hl, Nat.mod_eq_of_lt hl]
    · rw [List.getElem?_append_right (by omega), ih (i - z.length) (by rw [Nat.add_mul] at h; omega)]
      congr 1
      rw [← Nat.sub_add_cancel (show z.length ≤ i by omega), Nat.add_mod_right, Nat.add_sub_cancel]
theorem repl_length (z : List SV) (n : Nat) : (repl n z).length = n * z.length := by
  induction n with
  | zero => simp [repl]
  | succ n ih => simp [repl, ih, Nat.add_mul]; omega
theorem repl_den (n : Nat) (z : List SV) (zc : Array Value) (hzz : zc = (SV.denL z).toArray) : ((Array.range (n * z.length)).map fun i => zc[i % zc.size]!) = (SV.denL (repl n z)).toArray := by
  apply Array.ext
  · simp [SV.denL_eq, repl_length]
  · intro i h1 h2
    have hi : i < n * z.length := by simpa using h1
    have hzl : 0 < z.length := by
      rcases Nat.eq_zero_or_pos z.length with h | h
      · rw [h] at hi; simp at hi
      · exact h
    subst hzz
    have hm : i % z.length < z.length := Nat.mod_lt _ hzl
    have hr := repl_get z hzl n i hi
    rw [List.getElem?_eq_getElem hm] at hr
    simp only [Array.getElem_map, Array.getElem_range, SV.denL_eq, List.size_toArray, List.length_map, List.getElem_toArray, List.getElem_map]
    rw [getElem!_pos _ _ (by simpa using hm)]
    simp only [List.getElem_toArray, List.getElem_map]
    congr 1
    have h3 := (List.getElem?_eq_some_iff.1 hr)
    obtain ⟨_, h4⟩ := h3
    exact h4.symm
theorem repl_good {β : Nat → Option Nat} {z : List SV} (h : SV.goodL β z) (n : Nat) : SV.goodL β (repl n z) := by
  induction n with
  | zero => trivial
  | succ n ih =>
    refine (SV.goodL_iff _ _).2 fun x hx => ?_
    rcases List.mem_append.1 hx with hx | hx
    · exact (SV.goodL_iff _ _).1 h x hx
    · exact (SV.goodL_iff _ _).1 ih x hx

/-- elements that are all told, in order -/
def catS (size : Nat) : Nat → List (Nat × SV) → Option (List SV)
  | _, [] => some []
  | i, (j, x) :: r => if j = i then match x with
    | .no => none
    | x => if x.cells.length = size then match catS size (i + 1) r with | some l => some (x.cells ++ l) | none => none else none else none
theorem overlay_pre : ∀ (pre : List SV) (cs rest : List SV), overlay pre.length cs (pre ++ rest) = pre ++ overlay 0 cs rest
  | [], _, _ => rfl
  | x :: pre, cs, rest => by simp only [List.length_cons, List.cons_append, overlay, overlay_pre pre cs rest]
theorem overlay_zero : ∀ (cs rest : List SV), cs.length ≤ rest.length → overlay 0 cs rest = cs ++ rest.drop cs.length
  | [], rest, _ => by cases rest <;> simp [overlay]
  | c :: cs, [], h => by simp at h
  | c :: cs, x :: rest, h => by simp only [overlay, overlay_zero cs rest (by simpa using h), List.length_cons, List.drop_succ_cons, List.cons_append]
theorem catS_fill {size : Nat} : ∀ {parts : List (Nat × SV)} {i : Nat} {l : List SV} (pre rest : List SV), catS size i parts = some l → pre.length = i * size → rest.length = parts.length * size → fillS (fun i => some (i * size, size)) (pre ++ rest) parts = some (pre ++ l)
  | [], i, l, pre, rest, h, _, h2 => by
    simp only [catS, Option.some.injEq] at h
    subst h
    simp only [fillS, List.eq_nil_of_length_eq_zero (show rest.length = 0 by simpa using h2)]
  | (j, x) :: r, i, l, pre, rest, h, h1, h2 => by
    simp only [catS] at h
    split at h
    · rename_i hj
      subst hj
      have hx : ∀ x : SV, x.cells.length = size → (match catS size (j + 1) r with | some l => some (x.cells ++ l) | none => none) = some l → (if x.cells.length = size then if j * size + x.cells.length ≤ (pre ++ rest).length then fillS (fun i => some (i * size, size)) (overlay (j * size) x.cells (pre ++ rest)) r else none else none) = some (pre ++ l) := fun x hc h => by
        split at h
        · rename_i l' hl'
          cases h
          have h3 : (j + 1) * size = j * size + size := by rw [Nat.add_mul, Nat.one_mul]
          have h4 : rest.length = r.length * size + size := by rw [h2, List.length_cons, Nat.add_mul, Nat.one_mul]
          rw [if_pos hc, if_pos (by rw [List.length_append]; omega), ← h1, overlay_pre, overlay_zero _ _ (by omega), ← List.append_assoc, ← List.append_assoc]
          exact catS_fill (pre ++ x.cells) (rest.drop x.cells.length) hl' (by rw [List.length_append]; omega) (by rw [List.length_drop]; omega)
        · cases h
      split at h
      · cases h
      · rename_i hno
        split at h
        · rename_i hc
          unfold fillS
          split
          · rename_i h5; cases h5
          · rename_i o s h5
            cases h5
            split
            · exact absurd rfl hno
            · exact hx _ hc h
        · cases h
    · cases h
def fillL (size : Nat) (cells : List SV) (parts : List (Nat × SV)) : Option (List SV) :=
  match catS size 0 parts with
  | some l => if cells.length = parts.length * size then some l else none
  | none => fillS (fun i => some (i * size, size)) cells parts
theorem fillL_eq {size : Nat} {cells l : List SV} {parts : List (Nat × SV)} (h : fillL size cells parts = some l) : fillS (fun i => some (i * size, size)) cells parts = some l := by
  unfold fillL at h
  split at h
  · rename_i l' hl
    split at h
    · rename_i hc
      cases h
      exact catS_fill [] cells hl (by simp) hc
    · cases h
  · exact h
def buildSliceOp (T : Tab) (t : TypeId) (len : Nat) (parts : List (Nat × SV)) : StepR :=
  match te T t with
  | some e => match e.k with
    | .slice et => match te T et, zeroS T et with
      | some ee, some z => if z.length = ee.size then if len * ee.size ≤ 16777216 then
          (match fillL ee.size (repl len z) parts with
           | some l => if l.all SV.one = true then .new et l (some len) else .no
           | none => .no) else .no else .no
      | _, _ => .no
    | _ => .no
  | none => .no
theorem buildSliceOp_ok {P : Program} {T : Tab} (hT : TabOk P T) {o : Oper} {t : TypeId} {len : Nat} {parts : Array (Nat × Operand)} (ho : o.op = .buildSlice t len parts) (st : St) : (buildSliceOp T t len (evP st.fr parts)).Sound P o st := by
  unfold buildSliceOp
  split
  · rename_i e he
    obtain ⟨i, u, zz, hi, hu, hz', hk, _⟩ := te_spec hT he
    split
    · rename_i et het
      rw [hk] at het
      cases u <;> simp [tkOf] at het
      subst het
      rename_i et
      split
      · rename_i ee z hee hz
        split
        · rename_i hzl
          split
          · rename_i hb
            split
            · rename_i l hl
              replace hl := fillL_eq hl
              split
              · rename_i h1
                intro E a w h
                obtain ⟨zv, hzv, hzc, hzg⟩ := zeroS_ok hT hz w
                obtain ⟨i', u', zz', hi', hu', hz'', hk', hs', _⟩ := te_spec hT hee
                have hsz : (sizeOf et).run P w = .ok ee.size w := by simp [sizeOf, typeInfo, hi', hs']
                have hp := parts_den h.fr parts (fillS_no _ _ hl)
                have hf := fillS_ok _ hl
                have hgood : SV.goodL (blkAt st.res) l := fillS_good _ hl (repl_good (hzg _) len) (fun p hp => by
                  simp only [evP, List.mem_map] at hp
                  obtain ⟨q, _, rfl⟩ := hp
                  exact ev_good h.fr q.2)
                obtain ⟨h2, h3⟩ := new_sound (P := P) h et hgood h1 _ rfl
                refine ⟨_, w.heap.size, ?_, h3⟩
                simp only [execOp, ho, Instr.buildSlice, Sem.run_bind, run_underlying hu, Result.andThen_ok, hsz, hp]
                rw [if_neg (by omega)]
                split
                · rename_i h0
                  have hr0 : repl len z = [] := List.eq_nil_of_length_eq_zero (by rw [repl_length, hzl, h0])
                  rw [hr0] at hf
                  have he : (Array.range (len * ee.size)).map (fun x => (#[] : Array Value)[x % (#[] : Array Value).size]!) = (SV.denL []).toArray := by rw [h0]; simp [SV.denL]
                  simp only [Sem.run_bind, Sem.run_pure, Result.andThen_ok, he, hf, h2]
                · have he := repl_den len z zv.cells hzc
                  rw [hzl] at he
                  simp only [Sem.run_bind, Sem.run_pure, Result.andThen_ok, hzv, he, hf, h2]
              · trivial
            · trivial
          · trivial
        · trivial
      · trivial
    · trivial
  · trivial

/-! built-in functions on plain values -/
def lenS (T : Tab) (t : TypeId) (x : SV) : StepR :=
  match te T t with
  | some e => match e.k, x with
    | .string, .va (.string s) => .ok (.va (.int .i64 s.size))
    | .slice _, .va (.slice _ n _) => .ok (.va (.int .i64 n))
    | .slice _, .sl _ _ _ n _ => .ok (.va (.int .i64 n))
    | .map _ _, .va (.map none) => .ok (.va (.int .i64 0))
    | _, _ => .no
  | none => .no
def builtinS (T : Tab) (b : Builtin) (fr : List SV) (args : Array Operand) (ts : Array TypeId) : StepR :=
  match b, args.toList, ts.toList with
  | .len, [x], [t] => lenS T t (ev fr x)
  | .min, [x, y], _ => (match ev fr x, ev fr y with
    | .va (.int k a), .va (.int _ b) => .ok (.va (.int k (min a b)))
    | _, _ => .no)
  | .max, [x, y], _ => (match ev fr x, ev fr y with
    | .va (.int k a), .va (.int _ b) => .ok (.va (.int k (max a b)))
    | _, _ => .no)
  | _, _, _ => .no
theorem lenS_ok {P : Program} {T : Tab} (hT : TabOk P T) {o : Oper} {x : Operand} {t : TypeId} (ho : o.op = .call { callee := .builtin .len, args := #[x], argTypes := #[t] }) (st : St) : (lenS T t (ev st.fr x)).Sound P o st := by
  unfold lenS
  split
  · rename_i e he
    obtain ⟨i, u, zz, hi, hu, hz', hk, _⟩ := te_spec hT he
    split
    all_goals first
      | trivial
      | (rename_i hkk hx
         rw [hk] at hkk
         cases u <;> simp [tkOf] at hkk
         refine ok_of fun a w h => ?_
         refine ⟨_, ?_, SV.is_den _, trivial⟩
         simp [execOp, ho, resolve, invoke, builtin, Builtin.len_, ev_den h hx (by simp), SV.den, run_underlying hu, goInt]
         done)
  · trivial
theorem builtinS_ok {P : Program} {T : Tab} (hT : TabOk P T) {o : Oper} {b : Builtin} {args : Array Operand} {ts : Array TypeId} (ho : o.op = .call { callee := .builtin b, args := args, argTypes := ts }) (st : St) : (builtinS T b st.fr args ts).Sound P o st := by
  unfold builtinS
  split
  · rename_i x t h1 h2
    obtain ⟨args⟩ := args
    obtain ⟨ts⟩ := ts
    simp at h1 h2
    subst h1; subst h2
    exact lenS_ok hT ho st
  · rename_i x y _ h1
    obtain ⟨args⟩ := args
    simp at h1
    subst h1
    split
    · rename_i k p _ q hx hy
      refine ok_of fun a w h => ?_
      refine ⟨_, ?_, SV.is_den _, trivial⟩
      have : min p q = if q < p then q else p := by omega
      simp [execOp, ho, resolve, invoke, builtin, Builtin.min_, Builtin.min2, ev_den h hx (by simp), ev_den h hy (by simp), SV.den, this]
    · trivial
  · rename_i x y _ h1
    obtain ⟨args⟩ := args
    simp at h1
    subst h1
    split
    · rename_i k p _ q hx hy
      refine ok_of fun a w h => ?_
      refine ⟨_, ?_, SV.is_den _, trivial⟩
      have : max p q = if q > p then q else p := by omega
      simp [execOp, ho, resolve, invoke, builtin, Builtin.max_, Builtin.max2, ev_den h hx (by simp), ev_den h hy (by simp), SV.den, this]
    · trivial
  · trivial

/-! indexes that are constants -/
def idxConst (T : Tab) (fr : List SV) (t : TypeId) (x i : Operand) : StepR :=
  match constInt i, te T t with
  | some n, some e => if 0 ≤ n then match e.k with
    | .slice et => (match te T et, ev fr x with
      | some ee, .sl r b off len _ => if n.toNat < len then .ok (.pt r b (off + n.toNat * ee.size)) else .no
      | _, _ => .no)
    | .arr len et => (match te T et with
      | some ee => if n.toNat < len then (match addPt (ev fr x) (n.toNat * ee.size) with | some y => .ok y | none => .no) else .no
      | none => .no)
    | _ => .no else .no
  | _, _ => .no
theorem idxConst_ok {P : Program} {T : Tab} (hT : TabOk P T) {o : Oper} {t : TypeId} {x i : Operand} (ho : o.op = .indexAddr t x i) (st : St) : (idxConst T st.fr t x i).Sound P o st := by
  unfold idxConst
  split
  · rename_i n e hn he
    obtain ⟨ii, u, zz, hi, hu, hz', hk, _⟩ := te_spec hT he
    have hin : ∃ k, i = .const (.int k n) := by
      unfold constInt at hn
      split at hn
      · cases hn; exact ⟨_, rfl⟩
      · cases hn
    obtain ⟨k, rfl⟩ := hin
    split
    · rename_i h0
      split
      · rename_i et het
        rw [hk] at het
        cases u <;> simp [tkOf] at het
        subst het
        rename_i et
        split
        · rename_i ee r b off len cap hee hx
          obtain ⟨i', u', zz', hi', hu', hz'', hk', hs', _⟩ := te_spec hT hee
          split
          · rename_i hlt
            refine ok_of fun a w h => ?_
            have hg := ev_good h x
            rw [hx] at hg
            refine ⟨_, ?_, SV.is_den _, hg⟩
            have hsz : (sizeOf et).run P w = .ok ee.size w := by simp [sizeOf, typeInfo, hi', hs']
            have hc : 0 ≤ n ∧ n < (len : Int) := ⟨h0, by omega⟩
            have hie : a.eval (.const (.int k n)) = .int k n := rfl
            simp [execOp, ho, ev_den h hx (by simp), hie, SV.den, Instr.indexAt, asIntOf, run_underlying hu, hsz, hc, addr_add]
          · trivial
        · trivial
      · rename_i len et het
        rw [hk] at het
        cases u <;> simp [tkOf] at het
        obtain ⟨rfl, rfl⟩ := het
        rename_i len et
        split
        · rename_i ee hee
          obtain ⟨i', u', zz', hi', hu', hz'', hk', hs', _⟩ := te_spec hT hee
          split
          · rename_i hlt
            split
            · rename_i y hy
              refine ok_of fun a w h => ?_
              obtain ⟨ad, h1, h2⟩ := addPt_spec hy
              refine ⟨_, ?_, SV.is_den _, addPt_good hy (ev_good h x)⟩
              have hsz : (sizeOf et).run P w = .ok ee.size w := by simp [sizeOf, typeInfo, hi', hs']
              have hc : 0 ≤ n ∧ n < (len : Int) := ⟨h0, by omega⟩
              have hie : a.eval (.const (.int k n)) = .int k n := rfl
              simp [execOp, ho, ev_den h rfl (addPt_no hy), h1, h2, hie, Instr.indexAt, asIntOf, run_underlying hu, hsz, hc, Instr.sureAddr]
            · trivial
          · trivial
        · trivial
      · trivial
    · trivial
  · trivial

/-! the step -/
def stepOp (T : Tab) (st : St) (o : Op) : StepR :=
  match o with
  | .move x => .ok (ev st.fr x)
  | .assign x => .ok (ev st.fr x)
  | .pick c a b => pickS (ev st.fr c) (ev st.fr a) (ev st.fr b)
  | .alloc t => allocOp T t
  | .box t x => boxOp t (ev st.fr x)
  | .build t parts => buildOp T t (evP st.fr parts)
  | .buildSlice t n parts => buildSliceOp T t n (evP st.fr parts)
  | .load t x => loadOp T st t (ev st.fr x)
  | .store t x y => storeOp T st t (ev st.fr x) (ev st.fr y)
  | .nilCheck x => nilCheckS (ev st.fr x)
  | .binOp op t x y _ => binS T op t st.fr x y
  | .unOp op _ x => unS op (ev st.fr x)
  | .convert s d x => convS T s d (ev st.fr x)
  | .makeFunc fn first caps => if (first.toList ++ caps.toList).all (fun x => match ev st.fr x with | .no => false | _ => true) = true then .ok (.fu fn (first.toList.map (ev st.fr)) (caps.toList.map (ev st.fr))) else .no
  | .fieldAddr s x f => fieldAddrS T s (ev st.fr x) f
  | .field s x f => fieldS T s (ev st.fr x) f
  | .extract x i => extractS (ev st.fr x) i
  | .indexAddr t x i => idxConst T st.fr t x i
  | .call c => match c.callee with | .builtin b => builtinS T b st.fr c.args c.argTypes | _ => .no
  | _ => .no
theorem stepOp_ok {P : Program} {T : Tab} (hT : TabOk P T) (o : Oper) (st : St) : (stepOp T st o.op).Sound P o st := by
  cases ho : o.op with
  | move x => refine ok_of fun a w h => ?_; exact ⟨a.eval x, by simp [execOp, ho], ev_is h x, ev_good h x⟩
  | assign x => refine ok_of fun a w h => ?_; exact ⟨a.eval x, by simp [execOp, ho], ev_is h x, ev_good h x⟩
  | pick c a b => exact pickS_ok ho st
  | alloc t => exact allocOp_ok hT ho st
  | box t x => exact boxOp_ok ho st
  | build t parts => exact buildOp_ok hT ho st
  | buildSlice t n parts => exact buildSliceOp_ok hT ho st
  | load t x => exact loadOp_ok hT ho st
  | store t x y => exact storeOp_ok hT ho st
  | nilCheck x => exact nilCheckS_ok ho st
  | binOp op t x y yt => exact binS_ok hT ho st
  | unOp op t x => exact unS_ok ho st
  | convert s d x => exact convS_ok hT ho st
  | makeFunc fn first caps =>
    simp only [stepOp]
    split
    · rename_i hall
      refine ok_of fun a w h => ?_
      have key : ∀ l : List Operand, (∀ x ∈ l, x ∈ first.toList ++ caps.toList) → l.map a.eval = SV.denL (l.map (ev st.fr)) := fun l hl => by
        rw [SV.denL_eq, List.map_map]
        refine List.map_congr_left fun x hx => ?_
        have hq := List.all_eq_true.1 hall x (hl x hx)
        exact ev_den h rfl (by rintro e; rw [e] at hq; cases hq)
      refine ⟨_, ?_, SV.is_den _, ?_⟩
      · simp only [execOp, ho, Instr.makeFunc, Sem.run_bind, Sem.run_pure, Result.andThen_ok, SV.den]
        rw [← key first.toList (fun x hx => List.mem_append_left _ hx), ← key caps.toList (fun x hx => List.mem_append_right _ hx)]
        exact congrArg (fun v => Result.ok (Next.value v) w) (by congr 1 <;> exact Array.ext' (by simp))
      · exact ⟨(SV.goodL_iff _ _).2 fun y hy => by obtain ⟨x, _, rfl⟩ := List.mem_map.1 hy; exact ev_good h x,
          (SV.goodL_iff _ _).2 fun y hy => by obtain ⟨x, _, rfl⟩ := List.mem_map.1 hy; exact ev_good h x⟩
    · trivial
  | fieldAddr s x f => exact fieldAddrS_ok hT ho st
  | field s x f => exact fieldS_ok hT ho st
  | extract x i => exact extractS_ok ho st
  | indexAddr t x i => exact idxConst_ok hT ho st
  | call c =>
    obtain ⟨callee, args, ts⟩ := c
    cases callee with
    | builtin b => exact builtinS_ok hT ho st
    | value f => trivial
    | invoke r m => trivial
  | _ => trivial
end Go.Sy
