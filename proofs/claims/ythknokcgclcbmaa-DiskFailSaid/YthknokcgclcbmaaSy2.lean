/-
  What is proved: a machine that carries out the plain operations of a function's code on states with letters in them, and that it is sound, over any program. Conditions: none.
-/
import Derived.Test.YthknokcgclcbmaaSy1
namespace Go.Sy
open Go.RowKit

/-- a value as the machine knows it. pt: a pointer into the r-th resource, a row of cells in block b; sl: a slice of it; bq: a truth value that is not known yet; no: whatever -/
inductive SV where
  | va (x : Value)
  | bl (x : Bool)
  | bq (x : Bool)
  | pt (r b off : Nat)
  | sl (r b off len cap : Nat)
  | ag (l : List SV)
  | tu (l : List SV)
  | fu (fn : Fn) (first caps : List SV)
  | no
  deriving Inhabited

mutual
def SV.den : SV → Value
  | .va x => x
  | .bl x => .bool x
  | .bq x => .bool x
  | .pt _ b o => .pointer (some ⟨b, o, none⟩)
  | .sl _ b o n c => .slice (some ⟨b, o, none⟩) n c
  | .ag l => .agg (SV.denL l).toArray
  | .tu l => .tuple (SV.denL l).toArray
  | .fu fn a c => .func fn (SV.denL a).toArray (SV.denL c).toArray
  | .no => undef
def SV.denL : List SV → List Value
  | [] => []
  | x :: l => SV.den x :: SV.denL l
end
mutual
def SV.good (β : Nat → Option Nat) : SV → Prop
  | .pt r b _ => β r = some b
  | .sl r b _ _ _ => β r = some b
  | .ag l => SV.goodL β l
  | .tu l => SV.goodL β l
  | .fu _ a c => SV.goodL β a ∧ SV.goodL β c
  | _ => True
def SV.goodL (β : Nat → Option Nat) : List SV → Prop
  | [] => True
  | x :: l => SV.good β x ∧ SV.goodL β l
end
def SV.is : SV → Value → Prop
  | .no, _ => True
  | x, v => v = x.den
theorem SV.is_den (x : SV) : x.is x.den := by cases x <;> trivial
theorem SV.den_of_is {x : SV} {v : Value} (h : x.is v) (hu : x ≠ .no) : v = x.den := by cases x <;> first | exact h | exact absurd rfl hu
theorem SV.denL_eq (l : List SV) : SV.denL l = l.map SV.den := by
  induction l with
  | nil => rfl
  | cons x l ih => simp [SV.denL, ih]
theorem SV.goodL_iff (β : Nat → Option Nat) (l : List SV) : SV.goodL β l ↔ ∀ x ∈ l, x.good β := by
  induction l with
  | nil => simp [SV.goodL]
  | cons x l ih => simp [SV.goodL, ih]
mutual
theorem SV.good_mono {β β' : Nat → Option Nat} (h : ∀ r b, β r = some b → β' r = some b) : ∀ {x : SV}, x.good β → x.good β'
  | .pt _ _ _, e => h _ _ e
  | .sl _ _ _ _ _, e => h _ _ e
  | .ag _, e => SV.goodL_mono h e
  | .tu _, e => SV.goodL_mono h e
  | .fu _ _ _, e => ⟨SV.goodL_mono h e.1, SV.goodL_mono h e.2⟩
  | .va _, _ => trivial
  | .bl _, _ => trivial
  | .bq _, _ => trivial
  | .no, _ => trivial
theorem SV.goodL_mono {β β' : Nat → Option Nat} (h : ∀ r b, β r = some b → β' r = some b) : ∀ {l : List SV}, SV.goodL β l → SV.goodL β' l
  | [], _ => trivial
  | _ :: _, e => ⟨SV.good_mono h e.1, SV.goodL_mono h e.2⟩
end

/-- what is held: a row of cells that the machine knows; whatever an assertion says; nothing any more -/
inductive Res where
  | box (b : Nat) (t : TypeId) (cells : List SV)
  | fact (A : Asn)
  | dead (b : Option Nat)
/-- block b is just these cells, none frozen -/
def Pt (b : Nat) (t : TypeId) (cs : List Value) : Asn := ⟨fun h => h b = some (.cells cs.toArray t (0, 0)) ∧ ∀ c ∈ cs, c.oneCell' = true, fun e x => ⟨e _ _ x.1, x.2⟩⟩
def Res.asn : Res → Asn
  | .box b t cs => Pt b t (SV.denL cs)
  | .fact A => A
  | .dead _ => Asn.tt
def Res.blk : Res → Option Nat
  | .box b _ _ => some b
  | .fact _ => none
  | .dead b => b
def Res.cellsOk (β : Nat → Option Nat) : Res → Prop
  | .box _ _ cs => SV.goodL β cs ∧ ∀ x ∈ cs, x.den.oneCell' = true
  | _ => True
def blkAt (l : List Res) (r : Nat) : Option Nat := match l[r]? with | some x => x.blk | none => none

structure St where
  fr : List SV
  res : List Res
  ro : List Asn

/-- where the call began -/
structure Entry where
  w : World
  h : Hp

structure ResOk (E : Entry) (res : List Res) (ro : List Asn) (w : World) (hs : Nat → Hp) (hi : Hp) : Prop where
  le : ∀ i, (hs i).le (hp w)
  dis : ∀ i j, i ≠ j → (hs i).dis (hs j)
  holds : ∀ (i : Nat) (x : Res), res[i]? = some x → x.asn.holds (hs i)
  rle : hi.le (hp w)
  rdis : ∀ i, (hs i).dis hi
  rholds : ∀ A ∈ ro, A.holds hi
  ext : Ext E.h E.w w
  old : ∀ i b, hs i b ≠ none → E.h b ≠ none ∨ E.w.heap.size ≤ b
  cells : ∀ x ∈ res, x.cellsOk (blkAt res)

structure FrOk (fr : List SV) (res : List Res) (a : Act) : Prop where
  size : a.tmps.size = fr.length
  is : ∀ (t : Nat) (x : SV), fr[t]? = some x → x.is (a.tmps.getD t undef)
  good : ∀ x ∈ fr, x.good (blkAt res)
  defers : a.defers = []

structure R (E : Entry) (st : St) (a : Act) (w : World) : Prop where
  fr : FrOk st.fr st.res a
  res : ∃ hs hi, ResOk E st.res st.ro w hs hi

theorem FrOk.mono {fr : List SV} {res res' : List Res} {a : Act} (h : FrOk fr res a) (m : ∀ r b, blkAt res r = some b → blkAt res' r = some b) : FrOk fr res' a :=
  ⟨h.size, h.is, fun x hx => SV.good_mono m (h.good x hx), h.defers⟩

def St.put (st : St) (d : Option Tmp) (x : SV) : St := match d with | some t => { st with fr := st.fr.set t x } | none => st

theorem FrOk.put {fr : List SV} {res : List Res} {a : Act} (h : FrOk fr res a) (d : Tmp) {x : SV} {v : Value} (hx : x.is v) (hg : x.good (blkAt res)) :
    FrOk (fr.set d x) res (a.put (some d) v) := by
  refine ⟨by simp [Act.put, h.size], fun t y hy => ?_, fun y hy => ?_, h.defers⟩
  · rw [List.getElem?_set] at hy
    split at hy
    · rename_i e; subst e
      split at hy
      · rename_i hl
        cases hy
        simp only [Act.put]
        have : d < a.tmps.size := by rw [h.size]; exact hl
        simpa [Array.getD_eq_getD_getElem?, Array.getElem?_setIfInBounds, this] using hx
      · cases hy
    · rename_i e
      have h1 := h.is t y hy
      simpa [Act.put, Array.getD_eq_getD_getElem?, Array.getElem?_setIfInBounds, e] using h1
  · rcases List.mem_or_eq_of_mem_set hy with h1 | h1
    · exact h.good y h1
    · subst h1; exact hg

theorem R.put {E : Entry} {st : St} {a : Act} {w : World} (h : R E st a w) (d : Option Tmp) {x : SV} {v : Value} (hx : x.is v) (hg : x.good (blkAt st.res)) :
    R E (st.put d x) (a.put d v) w := by
  cases d with
  | none => exact h
  | some t => exact ⟨h.fr.put t hx hg, h.res⟩

/-- an operand, read -/
def ev (fr : List SV) : Operand → SV
  | .tmp t => fr.getD t .no
  | .const (.bool x) => .bl x
  | .const x => .va x
  | .global g => .va (.pointer (some ⟨g, 0, none⟩))
  | .func f => .va (.func (.func f) #[] #[])
theorem ev_is {fr : List SV} {res : List Res} {a : Act} (h : FrOk fr res a) (x : Operand) : (ev fr x).is (a.eval x) := by
  cases x with
  | tmp t =>
    simp only [ev, Act.eval, List.getD_eq_getElem?_getD]
    cases e : fr[t]? with
    | none => trivial
    | some y => exact h.is t y e
  | const v => cases v <;> rfl
  | global g => rfl
  | func f => rfl
theorem ev_good {fr : List SV} {res : List Res} {a : Act} (h : FrOk fr res a) (x : Operand) : (ev fr x).good (blkAt res) := by
  cases x with
  | tmp t =>
    simp only [ev, List.getD_eq_getElem?_getD]
    cases e : fr[t]? with
    | none => trivial
    | some y => exact h.good y (List.mem_of_getElem? e)
  | const v => cases v <;> trivial
  | global g => trivial
  | func f => trivial
theorem ev_den {fr : List SV} {res : List Res} {a : Act} (h : FrOk fr res a) {x : Operand} {y : SV} (e : ev fr x = y) (hu : y ≠ .no) : a.eval x = y.den :=
  SV.den_of_is (e ▸ ev_is h x) hu

/-- what the machine knows of a type -/
inductive TK where
  | bool | int (k : IntKind) | string | ptr (e : Nat) | slice (e : Nat) | arr (n e : Nat) | map (k e : Nat) | struct (fs : List (Nat × Nat)) | func | other
structure TE where
  k : TK
  size : Nat
  bytes : Nat
  zero : List Value
def tkOf : TypeDesc → TK
  | .bool => .bool
  | .int k => .int k
  | .string => .string
  | .pointer e => .ptr e
  | .slice e => .slice e
  | .array n e => .arr n e
  | .map k e => .map k e
  | .struct fs => .struct (fs.toList.map fun f => (f.offset, f.type))
  | .func .. => .func
  | _ => .other
def teOf (P : Program) (t : TypeId) : Option TE :=
  match P.info? t, P.underlying t with
  | some i, some u => match i.zero with
    | some z => some ⟨tkOf u, i.size, i.bytes, z.cells.toList⟩
    | none => none
  | _, _ => none
abbrev Tab := List (Option TE)
def TabOk (P : Program) (T : Tab) : Prop := ∀ t te, T[t]? = some (some te) → teOf P t = some te
theorem tabOk_of {P : Program} {T : Tab} {n : Nat} (h : (List.range n).map (teOf P) = T) : TabOk P T := fun t te e => by
  subst h
  rw [List.getElem?_map] at e
  cases x : (List.range n)[t]? with
  | none => rw [x] at e; cases e
  | some i =>
    rw [x] at e
    have : i = t := by
      obtain ⟨h1, h2⟩ := List.getElem?_eq_some_iff.1 x
      rw [← h2]; simp
    subst this
    simpa using e
def te (T : Tab) (t : TypeId) : Option TE := match T[t]? with | some x => x | none => none
def TK.isAgg : TK → Bool | .arr .. => true | .struct _ => true | _ => false
theorem te_spec {P : Program} {T : Tab} (hT : TabOk P T) {t : TypeId} {e : TE} (h : te T t = some e) :
    ∃ i u z, P.info? t = some i ∧ P.underlying t = some u ∧ i.zero = some z ∧ e.k = tkOf u ∧ e.size = i.size ∧ e.bytes = i.bytes ∧ e.zero = z.cells.toList := by
  unfold te at h
  cases x : T[t]? with
  | none => rw [x] at h; cases h
  | some y =>
    rw [x] at h
    subst h
    have h1 := hT t e x
    unfold teOf at h1
    cases hi : P.info? t with
    | none => rw [hi] at h1; cases h1
    | some i =>
      cases hu : P.underlying t with
      | none => rw [hi, hu] at h1; cases h1
      | some u =>
        rw [hi, hu] at h1
        cases hz : i.zero with
        | none => simp [hz] at h1
        | some z =>
          simp only [hz, Option.some.injEq] at h1
          subst h1
          exact ⟨i, u, z, rfl, rfl, hz, rfl, rfl, rfl, rfl⟩
end Go.Sy
