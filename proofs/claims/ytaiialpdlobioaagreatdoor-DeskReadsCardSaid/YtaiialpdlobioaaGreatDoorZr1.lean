/-
  What is proved: the texts that the claims share, part 1 of 5, each text behind the other. Conditions: none.
-/
import Derived.WalkKit
import Derived.OrdersHeld
import Derived.Deep.LoopGhost
import Derived.Maps.AppendAt
import Derived.Laws.StructEq
import Derived.Laws.CopyRow
import Derived.LoopN
import Derived.Laws.MakeOwn
import Derived.Lib.Overlaps
import Derived.MapKept
noncomputable section
namespace Go.Sy
open Go.RowKit
/-- a piece of memory -/
abbrev Hp := Nat → Option Obj
namespace Hp
def emp : Hp := fun _ => none
def le (h k : Hp) : Prop := ∀ b o, h b = some o → k b = some o
def dis (h k : Hp) : Prop := ∀ b, h b = none ∨ k b = none
def one (b : Nat) (o : Obj) : Hp := fun c => if c = b then some o else none
theorem le_refl (h : Hp) : le h h := fun _ _ e => e
theorem le.trans {h k l : Hp} (a : le h k) (b : le k l) : le h l := fun x o e => b x o (a x o e)
theorem emp_le (h : Hp) : le emp h := fun _ _ e => by cases e
theorem dis.symm {h k : Hp} (a : dis h k) : dis k h := fun b => (a b).symm
theorem emp_dis (h : Hp) : dis emp h := fun _ => .inl rfl
theorem dis_emp (h : Hp) : dis h emp := fun _ => .inr rfl
theorem dis.mono {h k h' k' : Hp} (a : dis h k) (e1 : le h' h) (e2 : le k' k) : dis h' k' := fun b => by
  rcases a b with e | e
  · left
    cases x : h' b with
    | none => rfl
    | some o => rw [e1 b o x] at e; cases e
  · right
    cases x : k' b with
    | none => rfl
    | some o => rw [e2 b o x] at e; cases e
theorem one_le {b : Nat} {o : Obj} {h : Hp} (e : h b = some o) : le (one b o) h := fun c p x => by
  unfold one at x
  split at x
  · rename_i hc; subst hc; cases x; exact e
  · cases x
theorem one_self (b : Nat) (o : Obj) : one b o b = some o := if_pos rfl
theorem one_none {b c : Nat} {o : Obj} (h : c ≠ b) : one b o c = none := if_neg h
theorem le_none {h k : Hp} (a : le h k) {b : Nat} (e : k b = none) : h b = none := by
  cases x : h b with
  | none => rfl
  | some o => rw [a b o x] at e; cases e
end Hp
/-- a world's whole memory -/
def hp (w : World) : Hp := fun b => w.heap[b]?
theorem hp_lt {w : World} {b : Nat} {o : Obj} (h : hp w b = some o) : b < w.heap.size := by
  rcases Nat.lt_or_ge b w.heap.size with x | x
  · exact x
  · unfold hp at h; rw [Array.getElem?_eq_none x] at h; cases h
theorem hp_none {w : World} {b : Nat} (h : w.heap.size ≤ b) : hp w b = none := Array.getElem?_eq_none h
/-- an assertion on a piece of memory: it holds of each greater piece -/
structure Asn where
  holds : Hp → Prop
  mono : ∀ {h k : Hp}, h.le k → holds h → holds k
namespace Asn
def tt : Asn := ⟨fun _ => True, fun _ h => h⟩
def starH : List Asn → Hp → Prop
  | [], _ => True
  | A :: l, h => ∃ h1 h2 : Hp, h1.dis h2 ∧ h1.le h ∧ h2.le h ∧ A.holds h1 ∧ starH l h2
theorem starH_split (l : List Asn) : ∀ {h : Hp}, starH l h → ∃ hs : Nat → Hp, (∀ i, (hs i).le h) ∧ (∀ i j, i ≠ j → (hs i).dis (hs j)) ∧
    (∀ (i : Nat) (A : Asn), l[i]? = some A → A.holds (hs i)) := by
  induction l with
  | nil => exact fun _ => ⟨fun _ => Hp.emp, fun _ => Hp.emp_le _, fun _ _ _ => Hp.emp_dis _, fun i A e => by simp at e⟩
  | cons A l ih =>
    rintro h ⟨h1, h2, d, a, b, p, q⟩
    obtain ⟨hs, h3, h4, h5⟩ := ih q
    refine ⟨fun i => match i with | 0 => h1 | i + 1 => hs i, ?_, ?_, ?_⟩
    · rintro (_ | i)
      · exact a
      · exact (h3 i).trans b
    · rintro (_ | i) (_ | j) hij
      · exact absurd rfl hij
      · exact d.mono (Hp.le_refl _) (h3 j)
      · exact (d.mono (Hp.le_refl _) (h3 i)).symm
      · exact h4 i j (fun e => hij (by rw [e]))
    · rintro (_ | i) B e
      · simp at e; subst e; exact p
      · exact h5 i B (by simpa using e)
theorem starH_of (l : List Asn) : ∀ {h : Hp} (hs : Nat → Hp), (∀ i, (hs i).le h) → (∀ i j, i ≠ j → (hs i).dis (hs j)) → (∀ (i : Nat) (A : Asn), l[i]? = some A → A.holds (hs i)) → starH l h := by
  induction l with
  | nil => exact fun _ _ _ _ => trivial
  | cons A l ih =>
    intro h hs h1 h2 h3
    refine ⟨hs 0, fun b => if (hs 0 b).isSome then none else h b, fun b => ?_, h1 0, fun b o e => ?_, h3 0 A rfl, ?_⟩
    · cases x : hs 0 b with
      | none => exact .inl rfl
      | some o => exact .inr (by simp [x])
    · dsimp only at e; split at e
      · cases e
      · exact e
    · refine ih (fun i => hs (i + 1)) (fun i b o e => ?_) (fun i j hij => h2 _ _ (by omega)) (fun i B e => h3 (i + 1) B (by simpa using e))
      have := h2 0 (i + 1) (by omega) b
      rcases this with x | x
      · simp [x, h1 (i + 1) b o e]
      · rw [x] at e; cases e
end Asn
/-- from one world to another: nothing has turned but what the piece h holds, and what is new -/
structure Ext (h : Hp) (w w' : World) : Prop where
  os : w'.os = w.os
  tape : w'.tape = w.tape
  output : w'.output = w.output
  size : w.heap.size ≤ w'.heap.size
  block : ∀ b, b < w.heap.size → h b = none → w'.heap[b]? = w.heap[b]?
theorem Ext.refl (h : Hp) (w : World) : Ext h w w := ⟨rfl, rfl, rfl, Nat.le_refl _, fun _ _ _ => rfl⟩
/-- h' holds of old blocks none beyond h's -/
theorem Ext.trans' {h h' : Hp} {a b c : World} (x : Ext h a b) (y : Ext h' b c) (e : ∀ i, h' i ≠ none → h i ≠ none ∨ a.heap.size ≤ i) : Ext h a c :=
  ⟨y.os.trans x.os, y.tape.trans x.tape, y.output.trans x.output, Nat.le_trans x.size y.size, fun i hi hn => by
    have h0 : h' i = none := by
      cases z : h' i with
      | none => rfl
      | some o =>
        rcases e i (by rw [z]; simp) with q | q
        · exact absurd hn q
        · omega
    exact (y.block i (Nat.lt_of_lt_of_le hi x.size) h0).trans (x.block i hi hn)⟩
theorem Ext.below {w w' : World} (h : Ext Hp.emp w w') : Below w.heap.size w w' := ⟨h.os, h.tape, h.output, h.size, fun k hk => h.block k hk rfl⟩
theorem Ext.keep {h k : Hp} {w w' : World} (e : Ext h w w') (d : h.dis k) (hk : k.le (hp w)) : k.le (hp w') := fun b o x => by
  have h1 := hk b o x
  have h2 : h b = none := by
    rcases d b with y | y
    · exact y
    · rw [y] at x; cases x
  show w'.heap[b]? = some o
  rw [e.block b (hp_lt h1) h2]
  exact h1
/-- WHAT A CALL DOES. M: what it may write, and hands back as 'post'; N: what it reads besides. -/
def Triple (P : Program) (f : FuncId) (args : List Value) (M N : List Asn) (X : Type) (ret : X → Value) (good : X → Prop) (post : X → List Asn) : Prop :=
  ∀ (w : World) (hm hn : Hp), hm.le (hp w) → hn.le (hp w) → hm.dis hn → Asn.starH M hm → (∀ A ∈ N, A.holds hn) →
    Calls P f args.toArray w fun e w' => ∃ (x : X) (hm' : Hp), e = .returned (ret x) ∧ good x ∧ Asn.starH (post x) hm' ∧ hm'.le (hp w') ∧ Ext hm w w' ∧
      (∀ b, hm' b ≠ none → hm b ≠ none ∨ w.heap.size ≤ b)
end Go.Sy
namespace Go.Sy
open Go.RowKit
/-- a value as the machine knows it. pt: a pointer into the r-th resource, a row of cells in block b; sl: a slice of it; bq: a truth value that is not known yet; no: whatever -/
inductive SV where
  | va (x : Value)
  | bl (x : Bool)
  | bq (x : Bool)
  | pt (r b off : Nat)
  | sl (r b off len cap : Nat)
  | ag (l : List SV)
  | tu (l : List SV)
  | fu (fn : Fn) (first caps : List SV)
  | no
  deriving Inhabited
mutual
def SV.den : SV → Value
  | .va x => x
  | .bl x => .bool x
  | .bq x => .bool x
  | .pt _ b o => .pointer (some ⟨b, o, none⟩)
  | .sl _ b o n c => .slice (some ⟨b, o, none⟩) n c
  | .ag l => .agg (SV.denL l).toArray
  | .tu l => .tuple (SV.denL l).toArray
  | .fu fn a c => .func fn (SV.denL a).toArray (SV.denL c).toArray
  | .no => undef
def SV.denL : List SV → List Value
  | [] => []
  | x :: l => SV.den x :: SV.denL l
end
mutual
def SV.good (β : Nat → Option Nat) : SV → Prop
  | .pt r b _ => β r = some b
  | .sl r b _ _ _ => β r = some b
  | .ag l => SV.goodL β l
  | .tu l => SV.goodL β l
  | .fu _ a c => SV.goodL β a ∧ SV.goodL β c
  | _ => True
def SV.goodL (β : Nat → Option Nat) : List SV → Prop
  | [] => True
  | x :: l => SV.good β x ∧ SV.goodL β l
end
def SV.is : SV → Value → Prop
  | .no, _ => True
  | x, v => v = x.den
theorem SV.is_den (x : SV) : x.is x.den := by cases x <;> trivial
theorem SV.den_of_is {x : SV} {v : Value} (h : x.is v) (hu : x ≠ .no) : v = x.den := by cases x <;> first | exact h | exact absurd rfl hu
theorem SV.denL_eq (l : List SV) : SV.denL l = l.map SV.den := by
  induction l with
  | nil => rfl
  | cons x l ih => simp [SV.denL, ih]
theorem SV.goodL_iff (β : Nat → Option Nat) (l : List SV) : SV.goodL β l ↔ ∀ x ∈ l, x.good β := by
  induction l with
  | nil => simp [SV.goodL]
  | cons x l ih => simp [SV.goodL, ih]
mutual
theorem SV.good_mono {β β' : Nat → Option Nat} (h : ∀ r b, β r = some b → β' r = some b) : ∀ {x : SV}, x.good β → x.good β'
  | .pt _ _ _, e => h _ _ e
  | .sl _ _ _ _ _, e => h _ _ e
  | .ag _, e => SV.goodL_mono h e
  | .tu _, e => SV.goodL_mono h e
  | .fu _ _ _, e => ⟨SV.goodL_mono h e.1, SV.goodL_mono h e.2⟩
  | .va _, _ => trivial
  | .bl _, _ => trivial
  | .bq _, _ => trivial
  | .no, _ => trivial
theorem SV.goodL_mono {β β' : Nat → Option Nat} (h : ∀ r b, β r = some b → β' r = some b) : ∀ {l : List SV}, SV.goodL β l → SV.goodL β' l
  | [], _ => trivial
  | _ :: _, e => ⟨SV.good_mono h e.1, SV.goodL_mono h e.2⟩
end
/-- what is held: a row of cells that the machine knows; whatever an assertion says; nothing any more -/
inductive Res where
  | box (b : Nat) (t : TypeId) (cells : List SV)
  | fact (A : Asn)
  | dead (b : Option Nat)
/-- block b is just these cells, none frozen -/
def Pt (b : Nat) (t : TypeId) (cs : List Value) : Asn := ⟨fun h => h b = some (.cells cs.toArray t (0, 0)) ∧ ∀ c ∈ cs, c.oneCell' = true, fun e x => ⟨e _ _ x.1, x.2⟩⟩
def Res.asn : Res → Asn
  | .box b t cs => Pt b t (SV.denL cs)
  | .fact A => A
  | .dead _ => Asn.tt
def Res.blk : Res → Option Nat
  | .box b _ _ => some b
  | .fact _ => none
  | .dead b => b
def Res.cellsOk (β : Nat → Option Nat) : Res → Prop
  | .box _ _ cs => SV.goodL β cs ∧ ∀ x ∈ cs, x.den.oneCell' = true
  | _ => True
def blkAt (l : List Res) (r : Nat) : Option Nat := match l[r]? with | some x => x.blk | none => none
structure St where
  fr : List SV
  res : List Res
  ro : List Asn
/-- where the call began -/
structure Entry where
  w : World
  h : Hp
structure ResOk (E : Entry) (res : List Res) (ro : List Asn) (w : World) (hs : Nat → Hp) (hi : Hp) : Prop where
  le : ∀ i, (hs i).le (hp w)
  dis : ∀ i j, i ≠ j → (hs i).dis (hs j)
  holds : ∀ (i : Nat) (x : Res), res[i]? = some x → x.asn.holds (hs i)
  rle : hi.le (hp w)
  rdis : ∀ i, (hs i).dis hi
  rholds : ∀ A ∈ ro, A.holds hi
  ext : Ext E.h E.w w
  old : ∀ i b, hs i b ≠ none → E.h b ≠ none ∨ E.w.heap.size ≤ b
  cells : ∀ x ∈ res, x.cellsOk (blkAt res)
structure FrOk (fr : List SV) (res : List Res) (a : Act) : Prop where
  size : a.tmps.size = fr.length
  is : ∀ (t : Nat) (x : SV), fr[t]? = some x → x.is (a.tmps.getD t undef)
  good : ∀ x ∈ fr, x.good (blkAt res)
  defers : a.defers = []
structure R (E : Entry) (st : St) (a : Act) (w : World) : Prop where
  fr : FrOk st.fr st.res a
  res : ∃ hs hi, ResOk E st.res st.ro w hs hi
theorem FrOk.mono {fr : List SV} {res res' : List Res} {a : Act} (h : FrOk fr res a) (m : ∀ r b, blkAt res r = some b → blkAt res' r = some b) : FrOk fr res' a :=
  ⟨h.size, h.is, fun x hx => SV.good_mono m (h.good x hx), h.defers⟩
def St.put (st : St) (d : Option Tmp) (x : SV) : St := match d with | some t => { st with fr := st.fr.set t x } | none => st
theorem FrOk.put {fr : List SV} {res : List Res} {a : Act} (h : FrOk fr res a) (d : Tmp) {x : SV} {v : Value} (hx : x.is v) (hg : x.good (blkAt res)) :
    FrOk (fr.set d x) res (a.put (some d) v) := by
  refine ⟨by simp [Act.put, h.size], fun t y hy => ?_, fun y hy => ?_, h.defers⟩
  · rw [List.getElem?_set] at hy
    split at hy
    · rename_i e; subst e
      split at hy
      · rename_i hl
        cases hy
        simp only [Act.put]
        have : d < a.tmps.size := by rw [h.size]; exact hl
        simpa [Array.getD_eq_getD_getElem?, Array.getElem?_setIfInBounds, this] using hx
      · cases hy
    · rename_i e
      have h1 := h.is t y hy
      simpa [Act.put, Array.getD_eq_getD_getElem?, Array.getElem?_setIfInBounds, e] using h1
  · rcases List.mem_or_eq_of_mem_set hy with h1 | h1
    · exact h.good y h1
    · subst h1; exact hg
theorem R.put {E : Entry} {st : St} {a : Act} {w : World} (h : R E st a w) (d : Option Tmp) {x : SV} {v : Value} (hx : x.is v) (hg : x.good (blkAt st.res)) :
    R E (st.put d x) (a.put d v) w := by
  cases d with
  | none => exact h
  | some t => exact ⟨h.fr.put t hx hg, h.res⟩
/-- an operand, read -/
def ev (fr : List SV) : Operand → SV
  | .tmp t => fr.getD t .no
  | .const (.bool x) => .bl x
  | .const x => .va x
  | .global g => .va (.pointer (some ⟨g, 0, none⟩))
  | .func f => .va (.func (.func f) #[] #[])
theorem ev_is {fr : List SV} {res : List Res} {a : Act} (h : FrOk fr res a) (x : Operand) : (ev fr x).is (a.eval x) := by
  cases x with
  | tmp t =>
    simp only [ev, Act.eval, List.getD_eq_getElem?_getD]
    cases e : fr[t]? with
    | none => trivial
    | some y => exact h.is t y e
  | const v => cases v <;> rfl
  | global g => rfl
  | func f => rfl
theorem ev_good {fr : List SV} {res : List Res} {a : Act} (h : FrOk fr res a) (x : Operand) : (ev fr x).good (blkAt res) := by
  cases x with
  | tmp t =>
    simp only [ev, List.getD_eq_getElem?_getD]
    cases e : fr[t]? with
    | none => trivial
    | some y => exact h.good y (List.mem_of_getElem? e)
  | const v => cases v <;> trivial
  | global g => trivial
  | func f => trivial
theorem ev_den {fr : List SV} {res : List Res} {a : Act} (h : FrOk fr res a) {x : Operand} {y : SV} (e : ev fr x = y) (hu : y ≠ .no) : a.eval x = y.den :=
  SV.den_of_is (e ▸ ev_is h x) hu
/-- what the machine knows of a type -/
inductive TK where
  | bool | int (k : IntKind) | string | ptr (e : Nat) | slice (e : Nat) | arr (n e : Nat) | map (k e : Nat) | struct (fs : List (Nat × Nat)) | func | other
structure TE where
  k : TK
  size : Nat
  bytes : Nat
  zero : List Value
def tkOf : TypeDesc → TK
  | .bool => .bool
  | .int k => .int k
  | .string => .string
  | .pointer e => .ptr e
  | .slice e => .slice e
  | .array n e => .arr n e
  | .map k e => .map k e
  | .struct fs => .struct (fs.toList.map fun f => (f.offset, f.type))
  | .func .. => .func
  | _ => .other
def teOf (P : Program) (t : TypeId) : Option TE :=
  match P.info? t, P.underlying t with
  | some i, some u => match i.zero with
    | some z => some ⟨tkOf u, i.size, i.bytes, z.cells.toList⟩
    | none => none
  | _, _ => none
abbrev Tab := List (Option TE)
def TabOk (P : Program) (T : Tab) : Prop := ∀ t te, T[t]? = some (some te) → teOf P t = some te
theorem tabOk_of {P : Program} {T : Tab} {n : Nat} (h : (List.range n).map (teOf P) = T) : TabOk P T := fun t te e => by
  subst h
  rw [List.getElem?_map] at e
  cases x : (List.range n)[t]? with
  | none => rw [x] at e; cases e
  | some i =>
    rw [x] at e
    have : i = t := by
      obtain ⟨h1, h2⟩ := List.getElem?_eq_some_iff.1 x
      rw [← h2]; simp
    subst this
    simpa using e
def te (T : Tab) (t : TypeId) : Option TE := match T[t]? with | some x => x | none => none
def TK.isAgg : TK → Bool | .arr .. => true | .struct _ => true | _ => false
theorem te_spec {P : Program} {T : Tab} (hT : TabOk P T) {t : TypeId} {e : TE} (h : te T t = some e) :
    ∃ i u z, P.info? t = some i ∧ P.underlying t = some u ∧ i.zero = some z ∧ e.k = tkOf u ∧ e.size = i.size ∧ e.bytes = i.bytes ∧ e.zero = z.cells.toList := by
  unfold te at h
  cases x : T[t]? with
  | none => rw [x] at h; cases h
  | some y =>
    rw [x] at h
    subst h
    have h1 := hT t e x
    unfold teOf at h1
    cases hi : P.info? t with
    | none => rw [hi] at h1; cases h1
    | some i =>
      cases hu : P.underlying t with
      | none => rw [hi, hu] at h1; cases h1
      | some u =>
        rw [hi, hu] at h1
        cases hz : i.zero with
        | none => simp [hz] at h1
        | some z =>
          simp only [hz, Option.some.injEq] at h1
          subst h1
          exact ⟨i, u, z, rfl, rfl, hz, rfl, rfl, rfl, rfl⟩
end Go.Sy
namespace Go.Sy
open Go.RowKit
def upd (hs : Nat → Hp) (i : Nat) (h : Hp) : Nat → Hp := fun j => if j = i then h else hs j
theorem blkAt_append (l m : List Res) : ∀ r b, blkAt l r = some b → blkAt (l ++ m) r = some b := fun r b h => by
  unfold blkAt at *
  cases e : l[r]? with
  | none => rw [e] at h; cases h
  | some x =>
    rw [List.getElem?_append_left (List.getElem?_eq_some_iff.1 e).1, e]
    rw [e] at h
    exact h
/-- what turns is in hm, or new; it belongs to the resources of which C speaks -/
theorem ResOk.step {E : Entry} {res res' : List Res} {ro : List Asn} {w w' : World} {hs hs' : Nat → Hp} {hi : Hp} (h : ResOk E res ro w hs hi) (hm : Hp) (C : Nat → Prop)
    (e : Ext hm w w') (hmC : ∀ b, hm b ≠ none → ∃ i, C i ∧ hs i b ≠ none) (same : ∀ i, ¬ C i → hs' i = hs i)
    (le' : ∀ i, C i → (hs' i).le (hp w')) (new : ∀ i, C i → ∀ b, hs' i b ≠ none → hm b ≠ none ∨ w.heap.size ≤ b)
    (dis' : ∀ i j, C i → C j → i ≠ j → (hs' i).dis (hs' j)) (holds' : ∀ (i : Nat) (x : Res), res'[i]? = some x → x.asn.holds (hs' i))
    (cells' : ∀ x ∈ res', x.cellsOk (blkAt res')) : ResOk E res' ro w' hs' hi := by
  have key : ∀ i b, ¬ C i → hm b ≠ none → hs i b = none := fun i b hc hb => by
    obtain ⟨j, hj, hn⟩ := hmC b hb
    rcases h.dis i j (fun e => hc (e ▸ hj)) b with x | x
    · exact x
    · exact absurd x hn
  have keyi : ∀ b, hm b ≠ none → hi b = none := fun b hb => by
    obtain ⟨j, hj, hn⟩ := hmC b hb
    rcases h.rdis j b with x | x
    · exact absurd x hn
    · exact x
  have far : ∀ i, C i → ∀ (k : Hp), k.le (hp w) → (∀ b, hm b ≠ none → k b = none) → (hs' i).dis k := fun i hc k hk hn b => by
    by_cases x : hs' i b = none
    · exact .inl x
    · right
      rcases new i hc b x with y | y
      · exact hn b y
      · exact Hp.le_none hk (hp_none y)
  have disK : ∀ (k : Hp), (∀ b, hm b ≠ none → k b = none) → hm.dis k := fun k hn b => by
    by_cases x : hm b = none
    · exact .inl x
    · exact .inr (hn b x)
  refine ⟨fun i => ?_, fun i j hij => ?_, holds', ?_, fun i => ?_, h.rholds, ?_, fun i b hb => ?_, cells'⟩
  · by_cases c : C i
    · exact le' i c
    · rw [same i c]; exact e.keep (disK _ (fun b => key i b c)) (h.le i)
  · by_cases c : C i <;> by_cases d : C j
    · exact dis' i j c d hij
    · rw [same j d]; exact far i c _ (h.le j) (fun b => key j b d)
    · rw [same i c]; exact (far j d _ (h.le i) (fun b => key i b c)).symm
    · rw [same i c, same j d]; exact h.dis i j hij
  · exact e.keep (disK _ keyi) h.rle
  · by_cases c : C i
    · exact far i c _ h.rle keyi
    · rw [same i c]; exact h.rdis i
  · refine h.ext.trans' e (fun b hb => ?_)
    obtain ⟨j, hj, hn⟩ := hmC b hb
    exact h.old j b hn
  · by_cases c : C i
    · rcases new i c b hb with x | x
      · obtain ⟨j, hj, hn⟩ := hmC b x
        exact h.old j b hn
      · exact .inr (Nat.le_trans h.ext.size x)
    · rw [same i c] at hb; exact h.old i b hb
theorem den_one {cs : List SV} (h : ∀ x ∈ cs, x.den.oneCell' = true) : ∀ c ∈ SV.denL cs, c.oneCell' = true := fun c hc => by
  rw [SV.denL_eq, List.mem_map] at hc
  obtain ⟨x, hx, rfl⟩ := hc
  exact h x hx
theorem Ext.alloc (w : World) (o : Obj) : Ext Hp.emp w (w.alloc o) := ⟨rfl, rfl, rfl, by simp, fun b hb _ => Below.heap_alloc w o b hb⟩
theorem hp_alloc (w : World) (o : Obj) : hp (w.alloc o) w.heap.size = some o := heap_alloc_new w o
/-- a new row -/
theorem ResOk.alloc {E : Entry} {res : List Res} {ro : List Asn} {w : World} {hs : Nat → Hp} {hi : Hp} (h : ResOk E res ro w hs hi) (t : TypeId) (cs : List SV)
    (hg : SV.goodL (blkAt res) cs) (h1 : ∀ x ∈ cs, x.den.oneCell' = true) :
    ResOk E (res ++ [.box w.heap.size t cs]) ro (w.alloc (.cells (SV.denL cs).toArray t)) (upd hs res.length (Hp.one w.heap.size (.cells (SV.denL cs).toArray t))) hi := by
  refine h.step Hp.emp (fun i => i = res.length) (Ext.alloc w _) (fun b hb => absurd rfl hb) (fun i hi => if_neg hi) ?_ ?_ ?_ ?_ ?_
  · rintro i rfl
    simp only [upd, if_true]
    exact Hp.one_le (hp_alloc w _)
  · rintro i rfl b hb
    right
    simp only [upd, if_true] at hb
    by_cases x : b = w.heap.size
    · omega
    · exact absurd (Hp.one_none x) hb
  · rintro i j rfl rfl hij; exact absurd rfl hij
  · intro i x hx
    by_cases c : i = res.length
    · subst c
      rw [List.getElem?_append_right (Nat.le_refl _)] at hx
      simp at hx
      subst hx
      simp only [upd, if_true, Res.asn, Pt]
      exact ⟨Hp.one_self _ _, den_one h1⟩
    · have hl : i < res.length := by
        have := (List.getElem?_eq_some_iff.1 hx).1
        simp at this; omega
      rw [List.getElem?_append_left hl] at hx
      simp only [upd, if_neg c]
      exact h.holds i x hx
  · intro x hx
    rcases List.mem_append.1 hx with hx | hx
    · have := h.cells x hx
      cases x with
      | box b t c => exact ⟨SV.goodL_mono (blkAt_append _ _) this.1, this.2⟩
      | fact A => trivial
      | dead b => trivial
    · simp at hx
      subst hx
      exact ⟨SV.goodL_mono (blkAt_append _ _) hg, h1⟩
theorem blkAt_set (l : List Res) (r : Nat) (x : Res) (h : ∀ y, l[r]? = some y → y.blk = x.blk) : blkAt (l.set r x) = blkAt l := by
  funext i
  unfold blkAt
  by_cases e : r = i
  · subst e
    cases hl : l[r]? with
    | none =>
      rw [List.getElem?_eq_none_iff] at hl
      rw [List.getElem?_eq_none (by simpa using hl)]
    | some y =>
      have hlt := (List.getElem?_eq_some_iff.1 hl).1
      rw [List.getElem?_set_self hlt]
      exact (h y hl).symm
  · rw [List.getElem?_set_ne e]
def splice (cells : List SV) (off : Nat) (cs : List SV) : List SV := cells.take off ++ (cs ++ cells.drop (off + cs.length))
theorem mem_splice {cells cs : List SV} {off : Nat} {x : SV} (h : x ∈ splice cells off cs) : x ∈ cells ∨ x ∈ cs := by
  unfold splice at h
  rcases List.mem_append.1 h with h | h
  · exact .inl (List.mem_of_mem_take h)
  · rcases List.mem_append.1 h with h | h
    · exact .inr h
    · exact .inl (List.mem_of_mem_drop h)
/-- a store into a row that the machine knows -/
theorem ResOk.store {E : Entry} {res : List Res} {ro : List Asn} {w : World} {hs : Nat → Hp} {hi : Hp} (h : ResOk E res ro w hs hi) {r b : Nat} {t : TypeId} {cells : List SV}
    (hr : res[r]? = some (.box b t cells)) (off : Nat) (cs : List SV) (hg : SV.goodL (blkAt res) cs) (h1 : ∀ x ∈ cs, x.den.oneCell' = true) (hl : off + cs.length ≤ cells.length) (P : Program) :
    (storeCells ⟨b, off, none⟩ (SV.denL cs)).run P w = .ok () (w.setRow b (SV.denL (splice cells off cs)).toArray) ∧
    ResOk E (res.set r (.box b t (splice cells off cs))) ro (w.setRow b (SV.denL (splice cells off cs)).toArray) (upd hs r (Hp.one b (.cells (SV.denL (splice cells off cs)).toArray t))) hi := by
  have hb : hs r b = some (.cells (SV.denL cells).toArray t (0, 0)) := (h.holds r _ hr).1
  have hnew : ∀ x ∈ splice cells off cs, x.den.oneCell' = true := fun x hx => by
    rcases mem_splice hx with hx | hx
    · exact (h.cells _ (List.mem_of_getElem? hr)).2 x hx
    · exact h1 x hx
  have hw : w.heap[b]? = some (.cells (SV.denL cells).toArray t (0, 0)) := h.le r b _ hb
  have hrl := (List.getElem?_eq_some_iff.1 hr).1
  refine ⟨?_, ?_⟩
  · have := run_storeCells_at P b off t (SV.denL cs) 0 _ w hw (by simp [SV.denL_eq]; omega) (fun v hv => by
      rw [SV.denL_eq, List.mem_map] at hv
      obtain ⟨x, hx, rfl⟩ := hv
      exact h1 x hx)
    simp only [Nat.add_zero] at this
    rw [this]
    congr 2
    simp [SV.denL_eq, splice]
  · have hn : hp (w.setRow b (SV.denL (splice cells off cs)).toArray) b = some (.cells (SV.denL (splice cells off cs)).toArray t) := setRow_heap w b _ _ t _ hw
    refine h.step (Hp.one b (.cells (SV.denL cells).toArray t)) (fun i => i = r) ⟨rfl, rfl, rfl, by simp [World.setRow], fun k _ hk => setRow_other w b k _ (fun e => by subst e; rw [Hp.one_self] at hk; cases hk)⟩ ?_ (fun i hi => if_neg hi) ?_ ?_ ?_ ?_ ?_
    · intro c hc
      by_cases x : c = b
      · subst x; exact ⟨r, rfl, by rw [hb]; simp⟩
      · exact absurd (Hp.one_none x) hc
    · rintro i rfl
      simp only [upd, if_true]
      exact Hp.one_le hn
    · rintro i rfl c hc
      left
      simp only [upd, if_true] at hc
      by_cases x : c = b
      · subst x; rw [Hp.one_self]; simp
      · exact absurd (Hp.one_none x) hc
    · rintro i j rfl rfl hij; exact absurd rfl hij
    · intro i x hx
      rw [List.getElem?_set] at hx
      by_cases c : r = i
      · subst c
        simp only [if_true, hrl] at hx
        cases hx
        simp only [upd, if_true, Res.asn, Pt]
        exact ⟨Hp.one_self _ _, den_one hnew⟩
      · rw [if_neg c] at hx
        simp only [upd, if_neg (Ne.symm c)]
        exact h.holds i x hx
    · rw [blkAt_set _ _ _ (fun y hy => by rw [hr] at hy; cases hy; rfl)]
      intro x hx
      rcases List.mem_or_eq_of_mem_set hx with hx | hx
      · exact h.cells x hx
      · subst hx
        have hc := h.cells _ (List.mem_of_getElem? hr)
        refine ⟨(SV.goodL_iff _ _).2 fun y hy => ?_, fun y hy => ?_⟩
        · rcases mem_splice hy with hy | hy
          · exact (SV.goodL_iff _ _).1 hc.1 y hy
          · exact (SV.goodL_iff _ _).1 hg y hy
        · rcases mem_splice hy with hy | hy
          · exact hc.2 y hy
          · exact h1 y hy
theorem isAgg_run (P : Program) (w : World) {t : TypeId} {u : TypeDesc} (hu : P.underlying t = some u) : (isAgg t).run P w = .ok (tkOf u).isAgg w := by
  unfold isAgg
  rw [Sem.run_bind, run_underlying hu]
  cases u <;> rfl
/-- a load out of a row that the machine knows -/
def loadS (e : TE) (cells : List SV) (off : Nat) : Option SV :=
  if e.k.isAgg then if off + e.size ≤ cells.length then some (.ag ((cells.drop off).take e.size)) else none else cells[off]?
theorem loadS_ok {P : Program} {T : Tab} (hT : TabOk P T) {t : TypeId} {e : TE} (ht : te T t = some e) {w : World} {b : Nat} {t' : TypeId} {cells : List SV} {off : Nat} {x : SV}
    (hw : w.heap[b]? = some (.cells (SV.denL cells).toArray t' (0, 0))) (hx : loadS e cells off = some x) : (loadVar t ⟨b, off, none⟩).run P w = .ok x.den w := by
  obtain ⟨i, u, z, hi, hu, hz, hk, hs, _, _⟩ := te_spec hT ht
  unfold loadVar
  rw [Sem.run_bind, isAgg_run P w hu]
  simp only [Result.andThen_ok]
  unfold loadS at hx
  rw [hk] at hx
  have hadd : ∀ j, (⟨b, off, none⟩ : Addr).add j = ⟨b, off + j, none⟩ := fun j => by unfold Addr.add; split <;> simp_all
  have hcell : ∀ j, w.cell? ⟨b, j, none⟩ = (SV.denL cells)[j]? := fun j => by rw [cell_of_row w b j _ t' (0, 0) hw]; simp
  cases ha : (tkOf u).isAgg
  · rw [ha] at hx
    simp only [Bool.false_eq_true, if_false] at hx ⊢
    rw [run_load, hcell, SV.denL_eq, List.getElem?_map, hx]
    rfl
  · rw [ha] at hx
    simp only [if_true] at hx ⊢
    split at hx
    · rename_i hl
      cases hx
      have hsz : (sizeOf t).run P w = .ok i.size w := by simp [sizeOf, typeInfo, hi]
      have h2 := run_loadCells_list (P := P) w ⟨b, off, none⟩ (SV.denL ((cells.drop off).take e.size)) (fun j v hv => by
        rw [hadd, hcell]
        rw [SV.denL_eq, List.getElem?_map, List.getElem?_take, List.getElem?_drop] at hv
        rw [SV.denL_eq, List.getElem?_map]
        split at hv
        · exact hv
        · cases hv)
      have hlen : (SV.denL ((cells.drop off).take e.size)).length = i.size := by rw [SV.denL_eq, List.length_map, List.length_take, List.length_drop, ← hs]; omega
      rw [hlen] at h2
      simp [hsz, h2, SV.den]
    · cases hx
end Go.Sy
namespace Go.Sy
open Go.RowKit
inductive StepR where
  | ok (x : SV)
  | set (res : List Res)
  | new (t : TypeId) (cells : List SV) (len : Option Nat)
  | wrap (k : IntKind) (e : Int)
  | no
def SV.one : SV → Bool
  | .va x => x.oneCell'
  | .bl _ => true
  | .bq _ => true
  | .pt _ _ _ => true
  | .sl _ _ _ _ _ => true
  | .fu _ _ _ => true
  | _ => false
def vaS (x : Value) : SV := match x with
  | .bool b => .bq b
  | x => .va x
theorem vaS_den (x : Value) : (vaS x).den = x := by cases x <;> rfl
theorem vaS_good (β : Nat → Option Nat) (x : Value) : (vaS x).good β := by cases x <;> trivial
theorem denL_va (l : List Value) : SV.denL (l.map vaS) = l := by simp [SV.denL_eq, vaS_den, Function.comp_def]
theorem goodL_va (β : Nat → Option Nat) (l : List Value) : SV.goodL β (l.map vaS) := by simp [SV.goodL_iff, vaS_good]
/-- a value that is written out -/
def vaL (x : Value) : SV := match x with
  | .bool b => .bl b
  | x => .va x
theorem vaL_den (x : Value) : (vaL x).den = x := by cases x <;> rfl
theorem vaL_good (β : Nat → Option Nat) (x : Value) : (vaL x).good β := by cases x <;> trivial
theorem denL_vaL (l : List Value) : SV.denL (l.map vaL) = l := by simp [SV.denL_eq, vaL_den, Function.comp_def]
theorem goodL_vaL (β : Nat → Option Nat) (l : List Value) : SV.goodL β (l.map vaL) := by simp [SV.goodL_iff, vaL_good]
/-- a value that a call handed back, laid out -/
def norm1 (x : Value) : SV := match x with
  | .agg a => .ag (a.toList.map vaS)
  | x => vaS x
def normV (x : Value) : SV := match x with
  | .tuple a => .tu (a.toList.map norm1)
  | x => norm1 x
theorem norm1_den (x : Value) : (norm1 x).den = x := by
  cases x with
  | agg a => simp [norm1, SV.den, denL_va]
  | _ => rfl
theorem norm1_good (β : Nat → Option Nat) (x : Value) : (norm1 x).good β := by
  cases x with
  | agg a => exact goodL_va β _
  | _ => trivial
theorem normV_den (x : Value) : (normV x).den = x := by
  cases x with
  | tuple a => simp [normV, SV.den, SV.denL_eq, norm1_den, Function.comp_def]
  | agg a => simp [normV, norm1, SV.den, denL_va]
  | _ => rfl
theorem normV_good (β : Nat → Option Nat) (x : Value) : (normV x).good β := by
  cases x with
  | tuple a => show SV.goodL β _; simp [SV.goodL_iff, norm1_good]
  | agg a => exact goodL_va β _
  | _ => trivial
def SV.cells : SV → List SV
  | .ag l => l
  | .va (.agg a) => a.toList.map vaS
  | x => [x]
theorem SV.one_den {x : SV} (h : x.one = true) : x.den.oneCell' = true := by cases x <;> first | exact h | rfl | cases h
theorem SV.cells_den {x : SV} (h : x ≠ .no) : (SV.denL x.cells).toArray = x.den.cells := by
  cases x with
  | va x => cases x <;> simp [SV.cells, SV.den, Value.cells, SV.denL_eq, Function.comp_def, vaS_den]
  | no => exact absurd rfl h
  | ag l => simp [SV.cells, SV.den, Value.cells]
  | _ => simp [SV.cells, SV.denL, SV.den, Value.cells]
theorem SV.cells_good {β : Nat → Option Nat} {x : SV} (h : x.good β) : SV.goodL β x.cells := by
  cases x with
  | va x => cases x <;> simp [SV.cells, SV.goodL_iff, SV.good, vaS_good]
  | ag l => exact h
  | _ => exact ⟨h, trivial⟩
theorem all_one {l : List SV} (h : l.all SV.one = true) : ∀ x ∈ l, x.den.oneCell' = true := fun x hx => SV.one_den (List.all_eq_true.1 h x hx)
def asBoolS : SV → Option Bool
  | .bl x => some x
  | .bq x => some x
  | .va (.bool x) => some x
  | _ => none
theorem asBoolS_den {x : SV} {b : Bool} (h : asBoolS x = some b) : x.den = .bool b := by
  cases x with
  | va x => cases x <;> simp_all [asBoolS, SV.den]
  | _ => simp_all [asBoolS, SV.den]
theorem asBoolS_no {x : SV} {b : Bool} (h : asBoolS x = some b) : x ≠ .no := by rintro rfl; cases h
/-- '==' by the kind of type -/
def eqK (k : TK) (x y : SV) : Option SV :=
  match k with
  | .bool => match asBoolS x, asBoolS y with
    | some a, some b => some (.bq (a == b))
    | _, _ => none
  | .ptr _ => match x, y with
    | .pt _ _ _, .va (.pointer none) => some (.bl false)
    | .va (.pointer (some _)), .va (.pointer none) => some (.bl false)
    | .va (.pointer none), .va (.pointer none) => some (.bl true)
    | _, _ => none
  | .slice _ => match x, y with
    | .sl _ _ _ _ _, .va (.slice none _ _) => some (.bl false)
    | .va (.slice a _ _), .va (.slice none _ _) => some (.bq a.isNone)
    | _, _ => none
  | .map _ _ => match x, y with
    | .va (.map a), .va (.map none) => some (.bq a.isNone)
    | _, _ => none
  | .func => match x, y with
    | .fu _ _ _, .va .nilFunc => some (.bl false)
    | .va (.func _ _ _), .va .nilFunc => some (.bl false)
    | .va .nilFunc, .va .nilFunc => some (.bl true)
    | _, _ => none
  | _ => none
def eqS (T : Tab) (t : TypeId) (x y : SV) : Option SV :=
  match x, y with
  | .va (.int k a), .va (.int k' b) => if k = k' then some (.bq (a == b)) else none
  | .va (.string s), .va (.string t) => some (.bq (decide (s = t)))
  | x, y => match te T t with
    | some e => eqK e.k x y
    | none => none
def notS : SV → Option SV
  | .bl b => some (.bl (!b))
  | .bq b => some (.bq (!b))
  | .va (.bool b) => some (.bq (!b))
  | _ => none
def constInt : Operand → Option Int | .const (.int _ n) => some n | _ => none
def binS (T : Tab) (op : BinOp) (t : TypeId) (fr : List SV) (x y : Operand) : StepR :=
  match op, ev fr x, ev fr y with
  | .add, .va (.int k a), .va (.int k' b) => if k = k' then .wrap k (a + b) else .no
  | .sub, .va (.int k a), .va (.int k' b) => if k = k' then .wrap k (a - b) else .no
  | .mul, .va (.int k a), .va (.int k' b) => if k = k' then .wrap k (a * b) else .no
  | .quo, .va (.int k a), .va (.int k' b) => if k = k' then (match constInt y with | some n => if n = 0 then .no else .wrap k (a.tdiv b) | none => .no) else .no
  | .rem, .va (.int k a), .va (.int k' b) => if k = k' then (match constInt y with | some n => if n = 0 then .no else .ok (.va (.int k (a.tmod b))) | none => .no) else .no
  | .lss, .va (.int k a), .va (.int k' b) => if k = k' then .ok (.bq (decide (a < b))) else .no
  | .leq, .va (.int k a), .va (.int k' b) => if k = k' then .ok (.bq (decide (a ≤ b))) else .no
  | .gtr, .va (.int k a), .va (.int k' b) => if k = k' then .ok (.bq (decide (a > b))) else .no
  | .geq, .va (.int k a), .va (.int k' b) => if k = k' then .ok (.bq (decide (a ≥ b))) else .no
  | .eql, x, y => match eqS T t x y with | some r => .ok r | none => .no
  | .neq, x, y => match eqS T t x y with | some r => (match notS r with | some r => .ok r | none => .no) | none => .no
  | _, _, _ => .no
theorem binEq {P : Program} {t : TypeId} {x y : Value} {b : Bool} {w : World} (h : ∀ d, (Op.equalIn (d + 1) t x y).run P w = .ok b w)
    (h1 : binOp .eql t x y = (do pure (.bool (← Op.equal t x y)) : Sem Value)) (h2 : binOp .neq t x y = (do pure (.bool (!(← Op.equal t x y))) : Sem Value))
    {op : BinOp} (ho : op = .eql ∨ op = .neq) {ox oy : Operand} (hg : (eqGuard op t ox oy x y).run P w = .ok () w) :
    (do eqGuard op t ox oy x y; binOp op t x y : Sem Value).run P w = .ok (.bool (if op = .neq then !b else b)) w := by
  have h' : (Op.equal t x y).run P w = .ok b w := h 9999
  rw [Sem.run_bind, hg]
  simp only [Result.andThen_ok]
  rcases ho with rfl | rfl
  · rw [h1, Sem.run_bind, h']; rfl
  · rw [h2, Sem.run_bind, h']; rfl
theorem eqK_ok {P : Program} {t : TypeId} {u : TypeDesc} (hu : P.underlying t = some u) {x y z : SV} (h : eqK (tkOf u) x y = some z) (w : World) (op : BinOp) (ho : op = .eql ∨ op = .neq) (ox oy : Operand) :
    (do eqGuard op t ox oy x.den y.den; binOp op t x.den y.den : Sem Value).run P w = .ok (.bool (if op = .neq then !((asBoolS z).getD false) else (asBoolS z).getD false)) w ∧ (∃ b, asBoolS z = some b) := by
  cases u with
  | bool =>
    simp only [tkOf, eqK] at h
    split at h
    · rename_i a b ha hb
      cases h
      refine ⟨?_, _, rfl⟩
      rw [asBoolS_den ha, asBoolS_den hb]
      exact binEq (fun d => by rw [Op.equalIn, Sem.run_bind, run_underlying hu]; rfl) rfl rfl ho (by rcases ho with rfl | rfl <;> rfl)
    · cases h
  | pointer e =>
    simp only [tkOf, eqK] at h
    split at h <;> cases h <;> refine ⟨?_, _, rfl⟩ <;> exact binEq (fun d => by rw [Op.equalIn, Sem.run_bind, run_underlying hu]; rfl) rfl rfl ho (by rcases ho with rfl | rfl <;> rfl)
  | slice e =>
    simp only [tkOf, eqK] at h
    split at h
    · cases h; refine ⟨?_, _, rfl⟩; exact binEq (fun d => by rw [Op.equalIn, Sem.run_bind, run_underlying hu]; rfl) rfl rfl ho (by rcases ho with rfl | rfl <;> rfl)
    · rename_i a _ _ _ _
      cases h; refine ⟨?_, _, rfl⟩; cases a <;> exact binEq (fun d => by rw [Op.equalIn, Sem.run_bind, run_underlying hu]; rfl) rfl rfl ho (by rcases ho with rfl | rfl <;> rfl)
    · cases h
  | map k e =>
    simp only [tkOf, eqK] at h
    split at h
    · rename_i a
      cases h; refine ⟨?_, _, rfl⟩; cases a <;> exact binEq (fun d => by rw [Op.equalIn, Sem.run_bind, run_underlying hu]; rfl) rfl rfl ho (by rcases ho with rfl | rfl <;> rfl)
    · cases h
  | func ps rs v =>
    simp only [tkOf, eqK] at h
    split at h <;> cases h <;> refine ⟨?_, _, rfl⟩ <;> exact binEq (fun d => by rw [Op.equalIn, Sem.run_bind, run_underlying hu]; rfl) rfl rfl ho (by rcases ho with rfl | rfl <;> rfl)
  | _ => simp [tkOf, eqK] at h
theorem bytes_beq (s t : ByteArray) : (s.toList == t.toList) = decide (s = t) := by
  rw [ByteArray.toList_eq, ByteArray.toList_eq, Bool.eq_iff_iff, beq_iff_eq, decide_eq_true_iff]
  obtain ⟨a⟩ := s
  obtain ⟨b⟩ := t
  constructor
  · intro h
    exact congrArg ByteArray.mk (Array.toList_inj.1 h)
  · intro h
    rw [h]
theorem eqS_ok {P : Program} {T : Tab} (hT : TabOk P T) {t : TypeId} {x y z : SV} (h : eqS T t x y = some z) (w : World) (op : BinOp) (ho : op = .eql ∨ op = .neq) (ox oy : Operand) :
    (do eqGuard op t ox oy x.den y.den; binOp op t x.den y.den : Sem Value).run P w = .ok (.bool (if op = .neq then !((asBoolS z).getD false) else (asBoolS z).getD false)) w ∧ (∃ b, asBoolS z = some b) := by
  unfold eqS at h
  split at h
  · split at h
    · cases h
      subst_vars
      rcases ho with rfl | rfl <;> refine ⟨?_, _, rfl⟩ <;> simp [eqGuard, SV.den, binOp, Op.intCmp, asBoolS] <;> rfl
    · cases h
  · cases h
    rcases ho with rfl | rfl <;> refine ⟨?_, _, rfl⟩ <;> simp [eqGuard, SV.den, binOp, Op.stringOp, asBoolS, bytes_beq]
  · split at h
    · rename_i e he
      obtain ⟨i, u, zz, hi, hu, hz, hk, _⟩ := te_spec hT he
      rw [hk] at h
      exact eqK_ok hu h w op ho ox oy
    · cases h
theorem notS_spec {x y : SV} (h : notS x = some y) : ∃ b, asBoolS x = some b ∧ asBoolS y = some (!b) := by
  cases x with
  | va x => cases x <;> simp_all [notS, asBoolS] <;> subst h <;> rfl
  | bl b => simp_all [notS, asBoolS]; subst h; rfl
  | bq b => simp_all [notS, asBoolS]; subst h; rfl
  | _ => simp_all [notS]
theorem asBoolS_good {β : Nat → Option Nat} {x : SV} {b : Bool} (h : asBoolS x = some b) : x.good β := by cases x <;> first | trivial | cases h
theorem eqK_no {k : TK} {x y z : SV} (h : eqK k x y = some z) : x ≠ .no ∧ y ≠ .no := by
  constructor <;> rintro rfl <;> cases k <;> simp [eqK, asBoolS] at h
theorem eqS_no {T : Tab} {t : TypeId} {x y z : SV} (h : eqS T t x y = some z) : x ≠ .no ∧ y ≠ .no := by
  unfold eqS at h
  split at h
  · exact ⟨by simp, by simp⟩
  · exact ⟨by simp, by simp⟩
  · split at h
    · exact eqK_no h
    · cases h
/-- the rows that the machine knows are there -/
def BoxW (res : List Res) (w : World) : Prop := ∀ (r b : Nat) (t : TypeId) (cs : List SV), res[r]? = some (.box b t cs) → w.heap[b]? = some (.cells (SV.denL cs).toArray t (0, 0))
def resGood (res : List Res) : Prop := ∀ x ∈ res, match x with | .box _ _ cs => SV.goodL (blkAt res) cs | _ => True
theorem ResOk.boxW {E : Entry} {res : List Res} {ro : List Asn} {w : World} {hs : Nat → Hp} {hi : Hp} (h : ResOk E res ro w hs hi) : BoxW res w := fun r b _ _ e => h.le r b _ (h.holds r _ e).1
theorem ResOk.good {E : Entry} {res : List Res} {ro : List Asn} {w : World} {hs : Nat → Hp} {hi : Hp} (h : ResOk E res ro w hs hi) : resGood res := fun x hx => by
  have := h.cells x hx
  cases x with
  | box b t cs => exact this.1
  | fact A => trivial
  | dead b => trivial
/-- WHAT AN OPERATION COMES TO, in the model, where the machine says it so -/
def StepR.Sound (P : Program) (o : Oper) (st : St) : StepR → Prop
  | .ok x => (∀ (a : Act) (w : World), FrOk st.fr st.res a → BoxW st.res w → ∃ v, (execOp a.eval o).run P w = .ok (.value v) w ∧ x.is v) ∧ (∀ a, FrOk st.fr st.res a → resGood st.res → x.good (blkAt st.res))
  | .wrap k e => ∀ (a : Act) (w : World), FrOk st.fr st.res a → (execOp a.eval o).run P w = .ok (.value (.int k (k.wrap e))) w
  | .set res => ∀ (E : Entry) (a : Act) (w : World), R E st a w → ∃ w', (execOp a.eval o).run P w = .ok .skip w' ∧ (∃ hs hi, ResOk E res st.ro w' hs hi) ∧ blkAt res = blkAt st.res
  | .new t cells n => ∀ (E : Entry) (a : Act) (w : World), R E st a w → ∃ w' b, (execOp a.eval o).run P w = .ok (.value (match n with | none => .pointer (some ⟨b, 0, none⟩) | some n => .slice (some ⟨b, 0, none⟩) n n)) w' ∧
      (∃ hs hi, ResOk E (st.res ++ [.box b t cells]) st.ro w' hs hi)
  | .no => True
theorem constInt_ev {y : Operand} {n b : Int} {fr : List SV} {k : IntKind} (h : constInt y = some n) (e : ev fr y = .va (.int k b)) : n = b := by
  unfold constInt at h
  split at h
  · cases h; simp only [ev] at e; cases e; rfl
  · cases h
theorem quo_aux {P : Program} {T : Tab} (_ : TabOk P T) {o : Oper} {st : St} {y : Operand} {X : StepR} (h : ∀ n : Int, constInt y = some n → n ≠ 0 → X.Sound P o st) :
    StepR.Sound P o st (match constInt y with | some n => if n = 0 then .no else X | none => .no) := by
  split
  · rename_i n hn
    split
    · exact trivial
    · rename_i h0; exact h n hn h0
  · exact trivial
theorem ok_of {P : Program} {o : Oper} {st : St} {x : SV} (h : ∀ (a : Act) (w : World), FrOk st.fr st.res a → ∃ v, (execOp a.eval o).run P w = .ok (.value v) w ∧ x.is v ∧ x.good (blkAt st.res)) : StepR.Sound P o st (.ok x) :=
  ⟨fun a w hf _ => let ⟨v, h1, h2, _⟩ := h a w hf; ⟨v, h1, h2⟩, fun a hf _ => let ⟨_, _, _, h3⟩ := h a default hf; h3⟩
theorem binS_ok {P : Program} {T : Tab} (hT : TabOk P T) {o : Oper} {op : BinOp} {t yt : TypeId} {x y : Operand} (ho : o.op = .binOp op t x y yt) (st : St) : (binS T op t st.fr x y).Sound P o st := by
  unfold binS
  split
  all_goals first
    | (rename_i e1 e2
       split
       · rename_i hk
         subst hk
         first
           | (intro a w h
              have h1 := ev_den h e1 (by simp)
              have h2 := ev_den h e2 (by simp)
              simp [execOp, ho, h1, h2, SV.den, eqGuard, binOp, Op.intArith]
              done)
           | (refine ok_of fun a w h => ?_
              have h1 := ev_den h e1 (by simp)
              have h2 := ev_den h e2 (by simp)
              refine ⟨_, ?_, SV.is_den _, trivial⟩
              simp [execOp, ho, h1, h2, SV.den, eqGuard, binOp, Op.intCmp]
              done)
           | (refine quo_aux hT (fun n hn hne => ?_)
              intro a w h
              have h1 := ev_den h e1 (by simp)
              have h2 := ev_den h e2 (by simp)
              have hb := constInt_ev hn e2
              subst hb
              simp [execOp, SV.den, eqGuard, binOp, Op.intDiv, *]
              done)
           | (refine quo_aux hT (fun n hn hne => ?_)
              refine ok_of fun a w h => ?_
              have h1 := ev_den h e1 (by simp)
              have h2 := ev_den h e2 (by simp)
              have hb := constInt_ev hn e2
              subst hb
              refine ⟨_, ?_, SV.is_den _, trivial⟩
              simp [execOp, SV.den, eqGuard, binOp, Op.intDiv, *]
              done)
       · exact trivial)
    | skip
  · split
    · rename_i r hr
      refine ok_of fun a w h => ?_
      have hno := eqS_no hr
      obtain ⟨hrun, b, hb⟩ := eqS_ok hT hr w .eql (.inl rfl) x y
      refine ⟨r.den, ?_, SV.is_den _, asBoolS_good hb⟩
      rw [asBoolS_den hb]
      rw [← ev_den h rfl hno.1, ← ev_den h rfl hno.2] at hrun
      simp only [execOp, ho]
      rw [Sem.run_bind, hrun, hb]
      rfl
    · exact trivial
  · split
    · rename_i r hr
      split
      · rename_i r' hr'
        refine ok_of fun a w h => ?_
        have hno := eqS_no hr
        obtain ⟨hrun, b, hb⟩ := eqS_ok hT hr w .neq (.inr rfl) x y
        obtain ⟨b', h1, h2⟩ := notS_spec hr'
        rw [hb] at h1
        cases h1
        refine ⟨r'.den, ?_, SV.is_den _, asBoolS_good h2⟩
        rw [asBoolS_den h2]
        rw [← ev_den h rfl hno.1, ← ev_den h rfl hno.2] at hrun
        simp only [execOp, ho]
        rw [Sem.run_bind, hrun, hb]
        rfl
      · exact trivial
    · exact trivial
  · exact trivial
end Go.Sy
namespace Go.Sy
open Go.RowKit
def sliceList (l : List SV) (off n : Nat) : List SV := (l.drop off).take n
/-- a struct's or an array's cells, as a value has them -/
def aggS : SV → Option (List SV)
  | .ag l => some l
  | .va (.agg a) => some (a.toList.map vaS)
  | _ => none
theorem aggS_den {x : SV} {l : List SV} (h : aggS x = some l) : x.den = .agg (SV.denL l).toArray := by
  cases x with
  | va x => cases x <;> simp_all [aggS, SV.den]; subst h; simp [SV.denL_eq, vaS_den, Function.comp_def]
  | ag l => simp_all [aggS, SV.den]
  | _ => simp_all [aggS]
theorem aggS_good {β : Nat → Option Nat} {x : SV} {l : List SV} (h : aggS x = some l) (hg : x.good β) : SV.goodL β l := by
  cases x with
  | va x => cases x <;> simp_all [aggS]; subst h; simp [SV.goodL_iff, vaS_good]
  | ag l' => simp_all [aggS]; subst h; exact hg
  | _ => simp_all [aggS]
theorem aggS_no {x : SV} {l : List SV} (h : aggS x = some l) : x ≠ .no := by rintro rfl; cases h
def partS (e : TE) (l : List SV) (off : Nat) : Option SV := if e.k.isAgg then some (.ag (sliceList l off e.size)) else l[off]?
theorem partS_ok {P : Program} {T : Tab} (hT : TabOk P T) {t : TypeId} {e : TE} (ht : te T t = some e) {l : List SV} {off : Nat} {x : SV} (h : partS e l off = some x) (w : World) :
    (part t (SV.denL l).toArray off).run P w = .ok x.den w := by
  obtain ⟨i, u, z, hi, hu, hz, hk, hs, _, _⟩ := te_spec hT ht
  unfold part
  rw [Sem.run_bind, isAgg_run P w hu]
  unfold partS at h
  rw [hk] at h
  cases ha : (tkOf u).isAgg
  · rw [ha] at h
    simp only [Bool.false_eq_true, if_false] at h
    simp [SV.denL_eq, h]
  · rw [ha] at h
    simp only [if_true] at h
    cases h
    have hsz : (sizeOf t).run P w = .ok i.size w := by simp [sizeOf, typeInfo, hi]
    simp only [Result.andThen_ok, if_true, Sem.run_bind, hsz, Sem.run_pure, SV.den]
    congr 3
    simp [SV.denL_eq, sliceList, hs, List.extract_eq_take_drop, List.map_take, List.map_drop, Nat.add_sub_cancel_left]
theorem goodL_sub {β : Nat → Option Nat} {l : List SV} (h : SV.goodL β l) (off n : Nat) : SV.goodL β (sliceList l off n) :=
  (SV.goodL_iff _ _).2 fun x hx => (SV.goodL_iff _ _).1 h x (List.mem_of_mem_drop (List.mem_of_mem_take hx))
theorem partS_good {β : Nat → Option Nat} {e : TE} {l : List SV} {off : Nat} {x : SV} (h : partS e l off = some x) (hg : SV.goodL β l) : x.good β := by
  unfold partS at h
  split at h
  · cases h; exact goodL_sub hg _ _
  · exact (SV.goodL_iff _ _).1 hg x (List.mem_of_getElem? h)
/-! pointers -/
def addPt (x : SV) (off : Nat) : Option SV :=
  match x with
  | .pt r b o => some (.pt r b (o + off))
  | .va (.pointer (some ⟨b, o, none⟩)) => some (.va (.pointer (some ⟨b, o + off, none⟩)))
  | _ => none
theorem addPt_spec0 {x y : SV} {off : Nat} (h : addPt x off = some y) : ∃ b o, x.den = .pointer (some ⟨b, o, none⟩) ∧ y.den = .pointer (some ⟨b, o + off, none⟩) := by
  unfold addPt at h
  split at h
  · cases h; exact ⟨_, _, rfl, rfl⟩
  · cases h; exact ⟨_, _, rfl, rfl⟩
  · cases h
def fieldOf (T : Tab) (s : TypeId) (f : Nat) : Option (Nat × TE) :=
  match te T s with
  | some e => match e.k with
    | .struct fs => match fs[f]? with
      | some (off, t) => match te T t with
        | some e' => some (off, e')
        | none => none
      | none => none
    | _ => none
  | none => none
theorem fieldOf_spec {P : Program} {T : Tab} (hT : TabOk P T) {s : TypeId} {f : Nat} {off : Nat} {e : TE} (h : fieldOf T s f = some (off, e)) :
    ∃ (fs : Array Field) (fd : Field), P.underlying s = some (.struct fs) ∧ fs[f]? = some fd ∧ fd.offset = off ∧ te T fd.type = some e := by
  unfold fieldOf at h
  split at h
  · rename_i e0 he0
    obtain ⟨i, u, z, hi, hu, hz, hk, _⟩ := te_spec hT he0
    split at h
    · rename_i fs hfs
      rw [hk] at hfs
      cases u <;> simp [tkOf] at hfs
      rename_i fa
      subst hfs
      split at h
      · rename_i o t hft
        split at h
        · rename_i e' he'
          cases h
          rw [List.getElem?_map] at hft
          cases hx : fa.toList[f]? with
          | none => rw [hx] at hft; cases hft
          | some fd =>
            rw [hx] at hft
            simp at hft
            obtain ⟨rfl, rfl⟩ := hft
            exact ⟨fa, fd, hu, by simpa using hx, rfl, he'⟩
        · cases h
      · cases h
    · cases h
  · cases h
theorem addr_add (b o j : Nat) : (⟨b, o, none⟩ : Addr).add j = ⟨b, o + j, none⟩ := by unfold Addr.add; split <;> simp_all
theorem addPt_spec {x y : SV} {off : Nat} (h : addPt x off = some y) : ∃ a : Addr, x.den = .pointer (some a) ∧ y.den = .pointer (some (a.add off)) := by
  obtain ⟨b, o, h1, h2⟩ := addPt_spec0 h
  exact ⟨_, h1, by rw [addr_add]; exact h2⟩
theorem addPt_good {β : Nat → Option Nat} {x y : SV} {off : Nat} (h : addPt x off = some y) (hg : x.good β) : y.good β := by
  unfold addPt at h
  split at h
  · cases h; exact hg
  · cases h; trivial
  · cases h
theorem addPt_no {x y : SV} {off : Nat} (h : addPt x off = some y) : x ≠ .no := by rintro rfl; cases h
def fieldAddrS (T : Tab) (s : TypeId) (x : SV) (f : Nat) : StepR :=
  match fieldOf T s f with
  | some (off, e) => if e.size = 0 then .no else match addPt x off with | some y => .ok y | none => .no
  | none => .no
theorem fieldAddrS_ok {P : Program} {T : Tab} (hT : TabOk P T) {o : Oper} {s : TypeId} {x : Operand} {f : Nat} (ho : o.op = .fieldAddr s x f) (st : St) : (fieldAddrS T s (ev st.fr x) f).Sound P o st := by
  unfold fieldAddrS
  split
  · rename_i off e he
    obtain ⟨fs, fd, hu, hf, ho', ht⟩ := fieldOf_spec hT he
    split
    · trivial
    · rename_i hsz
      split
      · rename_i y hy
        refine ok_of fun a w h => ?_
        obtain ⟨ad, h1, h2⟩ := addPt_spec hy
        have h3 := ev_den h rfl (addPt_no hy)
        obtain ⟨i, u, z, hi, hu', hz, hk, hs, _, _⟩ := te_spec hT ht
        refine ⟨y.den, ?_, SV.is_den _, addPt_good hy (ev_good h x)⟩
        rw [h2]
        simp only [execOp, ho, h3, h1, Instr.fieldAt, Sem.run_bind, run_underlying hu, Result.andThen_ok, hf, Instr.sureAddr, Sem.run_pure, fieldPlace]
        have hsz' : (sizeOf fd.type).run P w = .ok i.size w := by simp [sizeOf, typeInfo, hi]
        rw [hs] at hsz
        simp [hsz', hsz, ho']
      · trivial
  · trivial
def fieldS (T : Tab) (s : TypeId) (x : SV) (f : Nat) : StepR :=
  match fieldOf T s f, aggS x with
  | some (off, e), some l => (match partS e l off with | some y => .ok y | none => .no)
  | _, _ => .no
theorem fieldS_ok {P : Program} {T : Tab} (hT : TabOk P T) {o : Oper} {s : TypeId} {x : Operand} {f : Nat} (ho : o.op = .field s x f) (st : St) : (fieldS T s (ev st.fr x) f).Sound P o st := by
  unfold fieldS
  split
  · rename_i off e l he hl
    obtain ⟨fs, fd, hu, hf, ho', ht⟩ := fieldOf_spec hT he
    split
    · rename_i y hy
      refine ok_of fun a w h => ?_
      have h3 := ev_den h rfl (aggS_no hl)
      refine ⟨y.den, ?_, SV.is_den _, partS_good hy (aggS_good hl (ev_good h x))⟩
      subst ho'
      simp [execOp, ho, h3, aggS_den hl, Instr.field, run_underlying hu, hf, asAgg, partS_ok hT ht hy w]
    · trivial
  · trivial
def extractS (x : SV) (i : Nat) : StepR :=
  match x with
  | .tu l => match l[i]? with | some y => .ok y | none => .no
  | .va (.tuple a) => match a.toList[i]? with | some y => .ok (vaS y) | none => .no
  | _ => .no
theorem extractS_ok {P : Program} {o : Oper} {x : Operand} {i : Nat} (ho : o.op = .extract x i) (st : St) : (extractS (ev st.fr x) i).Sound P o st := by
  cases hx : ev st.fr x with
  | tu l =>
    simp only [extractS]
    split
    · rename_i y hy
      refine ok_of fun a w h => ?_
      refine ⟨y.den, ?_, SV.is_den _, ?_⟩
      · simp [execOp, ho, ev_den h hx (by simp), SV.den, Instr.extract, SV.denL_eq, hy]
      · have := ev_good h x; rw [hx] at this; exact (SV.goodL_iff _ _).1 this y (List.mem_of_getElem? hy)
    · trivial
  | va v =>
    cases v <;> try trivial
    rename_i vs
    simp only [extractS]
    split
    · rename_i y hy
      refine ok_of fun a w h => ?_
      refine ⟨(vaS y).den, ?_, SV.is_den _, vaS_good _ _⟩
      rw [vaS_den]
      have hy' : vs[i]? = some y := by simpa using hy
      simp [execOp, ho, ev_den h hx (by simp), SV.den, Instr.extract, hy']
    · trivial
  | _ => trivial
def nilCheckS (x : SV) : StepR :=
  match x with
  | .pt r b o => .ok (.pt r b o)
  | .va (.pointer (some a)) => .ok (.va (.pointer (some a)))
  | .fu (.func k) a c => .ok (.fu (.func k) a c)
  | .va (.func (.func k) a c) => .ok (.va (.func (.func k) a c))
  | _ => .no
theorem nilCheckS_ok {P : Program} {o : Oper} {x : Operand} (ho : o.op = .nilCheck x) (st : St) : (nilCheckS (ev st.fr x)).Sound P o st := by
  unfold nilCheckS
  split
  all_goals first
    | trivial
    | (rename_i hx
       refine ok_of fun a w h => ?_
       refine ⟨_, ?_, SV.is_den _, by have := ev_good h x; rw [hx] at this; exact this⟩
       simp [execOp, ho, ev_den h hx (by simp), SV.den])
def pickS (c a b : SV) : StepR :=
  match c with
  | .bl true => .ok a
  | .bl false => .ok b
  | _ => .no
theorem pickS_ok {P : Program} {o : Oper} {x y z : Operand} (ho : o.op = .pick x y z) (st : St) : (pickS (ev st.fr x) (ev st.fr y) (ev st.fr z)).Sound P o st := by
  unfold pickS
  split
  · rename_i hx
    refine ok_of fun a w h => ?_
    exact ⟨a.eval y, by simp [execOp, ho, ev_den h hx (by simp), SV.den, asBool], ev_is h y, ev_good h y⟩
  · rename_i hx
    refine ok_of fun a w h => ?_
    exact ⟨a.eval z, by simp [execOp, ho, ev_den h hx (by simp), SV.den, asBool], ev_is h z, ev_good h z⟩
  · trivial
def unS (op : UnOp) (x : SV) : StepR :=
  match op with
  | .not => match notS x with | some y => .ok y | none => .no
  | .neg => match x with | .va (.int k n) => .wrap k (0 - n) | _ => .no
  | _ => .no
theorem unS_ok {P : Program} {o : Oper} {op : UnOp} {t : TypeId} {x : Operand} (ho : o.op = .unOp op t x) (st : St) : (unS op (ev st.fr x)).Sound P o st := by
  cases op with
  | not =>
    simp only [unS]
    split
    · rename_i y hy
      refine ok_of fun a w h => ?_
      obtain ⟨b, h1, h2⟩ := notS_spec hy
      refine ⟨y.den, ?_, SV.is_den _, asBoolS_good h2⟩
      simp [execOp, ho, ev_den h rfl (asBoolS_no h1), asBoolS_den h1, asBoolS_den h2, Op.unary]
    · trivial
  | neg =>
    simp only [unS]
    split
    · rename_i k n hx
      intro a w h
      simp [execOp, ho, ev_den h hx (by simp), SV.den, Op.unary, Op.intArith]
    · trivial
  | _ => trivial
def convS (T : Tab) (src dst : TypeId) (x : SV) : StepR :=
  match te T src, te T dst with
  | some _, some d => match d.k, x with
    | .int k, .va (.int _ n) => .wrap k n
    | .string, .va (.string s) => .ok (.va (.string s))
    | _, _ => .no
  | _, _ => .no
theorem convS_ok {P : Program} {T : Tab} (hT : TabOk P T) {o : Oper} {src dst : TypeId} {x : Operand} (ho : o.op = .convert src dst x) (st : St) : (convS T src dst (ev st.fr x)).Sound P o st := by
  unfold convS
  split
  · rename_i s d hs hd
    obtain ⟨i, u, z, hi, hu, hz, hk, _⟩ := te_spec hT hs
    obtain ⟨i', u', z', hi', hu', hz', hk', _⟩ := te_spec hT hd
    split
    · rename_i k kk n hkk hx
      rw [hk'] at hkk
      cases u' <;> simp [tkOf] at hkk
      subst hkk
      intro a w h
      simp [execOp, ho, ev_den h hx (by simp), SV.den, convert, run_underlying hu, run_underlying hu', Conv.intToInt]
    · rename_i s hkk hx
      rw [hk'] at hkk
      cases u' <;> simp [tkOf] at hkk
      refine ok_of fun a w h => ?_
      refine ⟨.string s, ?_, rfl, trivial⟩
      simp [execOp, ho, ev_den h hx (by simp), SV.den, convert, run_underlying hu, run_underlying hu']
    · trivial
  · trivial
end Go.Sy
namespace Go.Sy
open Go.RowKit
def boxAt (res : List Res) (r : Nat) : Option (TypeId × List SV) := match res[r]? with | some (.box _ t cs) => some (t, cs) | _ => none
theorem boxAt_spec {res : List Res} {r : Nat} {t : TypeId} {cs : List SV} (h : boxAt res r = some (t, cs)) : ∃ b, res[r]? = some (.box b t cs) := by
  unfold boxAt at h
  split at h
  · rename_i b _ _ e; cases h; exact ⟨b, e⟩
  · cases h
def loadOp (T : Tab) (st : St) (t : TypeId) (x : SV) : StepR :=
  match x with
  | .pt r _ off => match boxAt st.res r, te T t with
    | some (_, cs), some e => (match loadS e cs off with | some y => .ok y | none => .no)
    | _, _ => .no
  | _ => .no
theorem loadS_good {β : Nat → Option Nat} {e : TE} {l : List SV} {off : Nat} {x : SV} (h : loadS e l off = some x) (hg : SV.goodL β l) : x.good β := by
  unfold loadS at h
  split at h
  · split at h
    · cases h; exact goodL_sub hg _ _
    · cases h
  · exact (SV.goodL_iff _ _).1 hg x (List.mem_of_getElem? h)
theorem loadOp_ok {P : Program} {T : Tab} (hT : TabOk P T) {o : Oper} {t : TypeId} {x : Operand} (ho : o.op = .load t x) (st : St) : (loadOp T st t (ev st.fr x)).Sound P o st := by
  unfold loadOp
  split
  · rename_i r b off hx
    split
    · rename_i t' cs e hb ht
      obtain ⟨b', hb⟩ := boxAt_spec hb
      split
      · rename_i y hy
        refine ⟨fun a w h hW => ?_, fun a h hG => loadS_good hy (hG _ (List.mem_of_getElem? hb))⟩
        have hg : (ev st.fr x).good (blkAt st.res) := ev_good h x
        rw [hx] at hg
        have : b' = b := by simpa [SV.good, blkAt, hb, Res.blk] using hg
        subst this
        refine ⟨y.den, ?_, SV.is_den _⟩
        simp [execOp, ho, ev_den h hx (by simp), SV.den, Instr.loadAt, Instr.sureAddr, loadS_ok hT ht (hW r b' t' cs hb) hy]
      · trivial
    · trivial
  · trivial
def storeOp (T : Tab) (st : St) (t : TypeId) (x y : SV) : StepR :=
  match x, y with
  | _, .no => .no
  | .pt r b off, y => match boxAt st.res r, te T t with
    | some (t', cs), some e => if y.cells.length = e.size then if off + y.cells.length ≤ cs.length then if y.cells.all SV.one = true then .set (st.res.set r (.box b t' (splice cs off y.cells))) else .no else .no else .no
    | _, _ => .no
  | _, _ => .no
theorem storeOp_ok {P : Program} {T : Tab} (hT : TabOk P T) {o : Oper} {t : TypeId} {x z : Operand} (ho : o.op = .store t x z) (st : St) : (storeOp T st t (ev st.fr x) (ev st.fr z)).Sound P o st := by
  unfold storeOp
  split
  · trivial
  · rename_i r b off hx hno
    split
    · rename_i t' cs e hb ht
      obtain ⟨b', hb⟩ := boxAt_spec hb
      split
      · rename_i h1
        split
        · rename_i h2
          split
          · rename_i h3
            intro E a w h
            obtain ⟨hs, hi, hR⟩ := h.res
            have hg : (ev st.fr x).good (blkAt st.res) := ev_good h.fr x
            rw [hx] at hg
            have : b' = b := by simpa [SV.good, blkAt, hb, Res.blk] using hg
            subst this
            obtain ⟨hrun, hR'⟩ := hR.store hb off (ev st.fr z).cells (SV.cells_good (ev_good h.fr z)) (all_one h3) h2 P
            have hzno : ev st.fr z ≠ .no := hno
            obtain ⟨i, u, zz, hi', hu, hz, hk, hs', _, _⟩ := te_spec hT ht
            refine ⟨_, ?_, ⟨_, _, hR'⟩, blkAt_set _ _ _ (fun y hy => by rw [hb] at hy; cases hy; rfl)⟩
            have hcd := SV.cells_den hzno
            have hlen : (ev st.fr z).den.cells.size = i.size := by rw [← hcd, ← hs', ← h1]; simp [SV.denL_eq]
            have hlist : (ev st.fr z).den.cells.toList = SV.denL (ev st.fr z).cells := by rw [← hcd]
            simp [execOp, ho, ev_den h.fr hx (by simp), ev_den h.fr rfl hzno, SV.den, Instr.storeAt, Instr.sureAddr, storeVar, sizeOf, typeInfo, hi', hlen, hlist, hrun]
          · trivial
        · trivial
      · trivial
    · trivial
  · trivial
theorem new_sound {P : Program} {E : Entry} {st : St} {a : Act} {w : World} (h : R E st a w) (t : TypeId) {cs : List SV} (hg : SV.goodL (blkAt st.res) cs) (h1 : cs.all SV.one = true) (arr : Array Value) (he : arr = (SV.denL cs).toArray) :
    (newRow t arr).run P w = .ok ⟨w.heap.size, 0, none⟩ (w.alloc (.cells arr t)) ∧ ∃ hs hi, ResOk E (st.res ++ [.box w.heap.size t cs]) st.ro (w.alloc (.cells arr t)) hs hi := by
  subst he
  obtain ⟨hs, hi, hR⟩ := h.res
  exact ⟨rfl, _, _, hR.alloc t cs hg (all_one h1)⟩
def boxOp (t : TypeId) (x : SV) : StepR := match x with | .no => .no | x => if x.cells.all SV.one = true then .new t x.cells none else .no
theorem boxOp_ok {P : Program} {o : Oper} {t : TypeId} {x : Operand} (ho : o.op = .box t x) (st : St) : (boxOp t (ev st.fr x)).Sound P o st := by
  unfold boxOp
  split
  · trivial
  · rename_i hno
    split
    · rename_i h1
      intro E a w h
      have hd := ev_den h.fr (x := x) rfl hno
      obtain ⟨h2, h3⟩ := new_sound (P := P) h t (SV.cells_good (ev_good h.fr x)) h1 (ev st.fr x).den.cells (SV.cells_den hno).symm
      refine ⟨_, w.heap.size, ?_, h3⟩
      simp [execOp, ho, hd, Instr.box, newVar, h2]
    · trivial
def zeroS (T : Tab) (t : TypeId) : Option (List SV) := match te T t with | some e => some (e.zero.map vaL) | none => none
theorem zeroS_ok {P : Program} {T : Tab} (hT : TabOk P T) {t : TypeId} {l : List SV} (h : zeroS T t = some l) (w : World) :
    ∃ z : Value, (zeroValue t).run P w = .ok z w ∧ z.cells = (SV.denL l).toArray ∧ ∀ β, SV.goodL β l := by
  unfold zeroS at h
  split at h
  · rename_i e he
    cases h
    obtain ⟨i, u, z, hi, hu, hz, hk, hs, _, hzz⟩ := te_spec hT he
    refine ⟨z, ?_, by rw [denL_vaL, hzz], fun β => goodL_vaL β _⟩
    simp [zeroValue, typeInfo, hi, hz]
  · cases h
def allocOp (T : Tab) (t : TypeId) : StepR := match zeroS T t with | some l => if l.all SV.one = true then .new t l none else .no | none => .no
theorem allocOp_ok {P : Program} {T : Tab} (hT : TabOk P T) {o : Oper} {t : TypeId} (ho : o.op = .alloc t) (st : St) : (allocOp T t).Sound P o st := by
  unfold allocOp
  split
  · rename_i l hl
    split
    · rename_i h1
      intro E a w h
      obtain ⟨z, hz, hzc, hzg⟩ := zeroS_ok hT hl w
      obtain ⟨h2, h3⟩ := new_sound (P := P) h t (hzg _) h1 z.cells hzc
      refine ⟨_, w.heap.size, ?_, h3⟩
      simp [execOp, ho, Instr.alloc, hz, newVar, h2]
    · trivial
  · trivial
/-! literals -/
def setsS (off : Nat) : List SV → List SV → List SV
  | cells, [] => cells
  | cells, c :: cs => setsS (off + 1) (cells.set off c) cs
def overlay : Nat → List SV → List SV → List SV
  | 0, [], l => l
  | 0, c :: cs, _ :: l => c :: overlay 0 cs l
  | k + 1, cs, x :: l => x :: overlay k cs l
  | _, _, [] => []
theorem overlay_step : ∀ (off : Nat) (c : SV) (cs cells : List SV), overlay off (c :: cs) cells = overlay (off + 1) cs (cells.set off c) := by
  intro off
  induction off with
  | zero => intro c cs cells; cases cells <;> simp [overlay]
  | succ off ih =>
    intro c cs cells
    cases cells with
    | nil => cases cs <;> simp [overlay]
    | cons x l => simp only [overlay, List.set_cons_succ]; rw [ih]
theorem overlay_nil : ∀ (off : Nat) (cells : List SV), overlay off [] cells = cells := by
  intro off
  induction off with
  | zero => intro cells; simp [overlay]
  | succ off ih => intro cells; cases cells <;> simp [overlay, ih]
theorem overlay_eq : ∀ (cs cells : List SV) (off : Nat), overlay off cs cells = setsS off cells cs := by
  intro cs
  induction cs with
  | nil => intro cells off; exact overlay_nil off cells
  | cons c cs ih => intro cells off; rw [overlay_step, ih]; rfl
def fillS (place : Nat → Option (Nat × Nat)) : List SV → List (Nat × SV) → Option (List SV)
  | cells, [] => some cells
  | cells, (i, x) :: r => match place i with
    | none => none
    | some (off, size) => match x with
      | .no => none
      | x => if x.cells.length = size then if off + x.cells.length ≤ cells.length then fillS place (overlay off x.cells cells) r else none else none
theorem setsS_den (cs : List SV) : ∀ (cells : List SV) (off k : Nat), (SV.denL (setsS (off + k) cells cs)).toArray = ((SV.denL cs).zipIdx k).foldl (fun acc p => acc.setIfInBounds (off + p.2) p.1) (SV.denL cells).toArray := by
  induction cs with
  | nil => intro cells off k; rfl
  | cons c cs ih =>
    intro cells off k
    simp only [setsS, SV.denL, List.zipIdx_cons, List.foldl_cons]
    have := ih (cells.set (off + k) c) off (k + 1)
    rw [Nat.add_assoc, this]
    congr 1
    simp [SV.denL_eq, List.map_set]
theorem setsS_mem {x : SV} (cs : List SV) : ∀ (cells : List SV) (off : Nat), x ∈ setsS off cells cs → x ∈ cells ∨ x ∈ cs := by
  induction cs with
  | nil => intro cells off h; exact .inl h
  | cons c cs ih =>
    intro cells off h
    rcases ih _ _ h with h | h
    · rcases List.mem_or_eq_of_mem_set h with h | h
      · exact .inl h
      · subst h; exact .inr (List.mem_cons_self ..)
    · exact .inr (List.mem_cons_of_mem _ h)
theorem fillS_ok {place : Nat → Option (Nat × Nat)} (parts : List (Nat × SV)) : ∀ {cells out : List SV}, fillS place cells parts = some out →
    Instr.fill place (SV.denL cells).toArray (parts.map fun p => (p.1, p.2.den)) = some (SV.denL out).toArray := by
  induction parts with
  | nil => intro cells out h; simp only [fillS] at h; cases h; rfl
  | cons p parts ih =>
    obtain ⟨i, x⟩ := p
    intro cells out h
    simp only [fillS] at h
    split at h
    · cases h
    · rename_i off size hp
      split at h
      · cases h
      · rename_i hno
        split at h
        · rename_i h1
          split at h
          · rename_i h2
            rw [overlay_eq] at h
            simp only [List.map_cons, Instr.fill, hp]
            have hcd := SV.cells_den (x := x) hno
            have hl : x.den.cells.size = x.cells.length := by rw [← hcd]; simp [SV.denL_eq]
            rw [if_neg (by rw [hl, h1]; simp [SV.denL_eq]; omega)]
            have := ih h
            rw [← this]
            congr 1
            have h0 := setsS_den x.cells cells off 0
            simp only [Nat.add_zero] at h0
            rw [h0, ← hcd]
            rw [← Array.foldl_toList, Array.toList_zipIdx]
          · cases h
        · cases h
theorem fillS_good {β : Nat → Option Nat} {place : Nat → Option (Nat × Nat)} (parts : List (Nat × SV)) : ∀ {cells out : List SV}, fillS place cells parts = some out → SV.goodL β cells → (∀ p ∈ parts, p.2.good β) → SV.goodL β out := by
  induction parts with
  | nil => intro cells out h hg _; simp only [fillS] at h; cases h; exact hg
  | cons p parts ih =>
    obtain ⟨i, x⟩ := p
    intro cells out h hg hp
    simp only [fillS] at h
    split at h
    · cases h
    · split at h
      · cases h
      · split at h
        · split at h
          · refine ih h ?_ (fun q hq => hp q (List.mem_cons_of_mem _ hq))
            refine (SV.goodL_iff _ _).2 fun y hy => ?_
            rw [overlay_eq] at hy
            rcases setsS_mem _ _ _ hy with hy | hy
            · exact (SV.goodL_iff _ _).1 hg y hy
            · exact (SV.goodL_iff _ _).1 (SV.cells_good (hp (i, x) (List.mem_cons_self ..))) y hy
          · cases h
        · cases h
end Go.Sy
namespace Go.Sy
open Go.RowKit
def allSome {α : Type} : List (Option α) → Option (List α)
  | [] => some []
  | some x :: l => match allSome l with | some r => some (x :: r) | none => none
  | none :: _ => none
def placesOf (T : Tab) (t : TypeId) : Option (Nat → Option (Nat × Nat)) :=
  match te T t with
  | some e => match e.k with
    | .struct fs => match allSome (fs.map fun p => match te T p.2 with | some e => some (p.1, e.size) | none => none) with
      | some pl => some fun i => pl[i]?
      | none => none
    | .arr _ el => match te T el with
      | some e => some fun i => some (i * e.size, e.size)
      | none => none
    | _ => none
  | none => none
theorem mapM_places {P : Program} {T : Tab} (hT : TabOk P T) (w : World) (fs : List Field) : ∀ {r : List (Nat × Nat)},
    allSome ((fs.map fun f => (f.offset, f.type)).map fun p => match te T p.2 with | some e => some (p.1, e.size) | none => none) = some r →
    (fs.mapM fun f => (do pure (f.offset, ← sizeOf f.type) : Sem (Nat × Nat))).run P w = .ok r w := by
  induction fs with
  | nil => intro r h; simp only [List.map_nil, allSome] at h; cases h; rfl
  | cons f fs ih =>
    intro r h
    simp only [List.map_cons, List.mapM_cons] at h ⊢
    cases ht : te T f.type with
    | none => rw [ht] at h; simp only [allSome] at h; cases h
    | some e =>
      rw [ht] at h
      simp only [allSome] at h
      split at h
      · rename_i r' hr'
        cases h
        obtain ⟨i, u, z, hi, hu, hz, hk, hs, _, _⟩ := te_spec hT ht
        have hsz : (sizeOf f.type).run P w = .ok i.size w := by simp [sizeOf, typeInfo, hi]
        have := ih hr'
        simp only [Sem.run_bind, hsz, Result.andThen_ok, Sem.run_pure, this, hs]
      · cases h
def buildOp (T : Tab) (t : TypeId) (parts : List (Nat × SV)) : StepR :=
  match zeroS T t, placesOf T t with
  | some z, some pl => match fillS pl z parts with
    | some l => .ok (.ag l)
    | none => .no
  | _, _ => .no
def evP (fr : List SV) (parts : Array (Nat × Operand)) : List (Nat × SV) := parts.toList.map fun p => (p.1, ev fr p.2)
theorem fillS_no (place : Nat → Option (Nat × Nat)) (parts : List (Nat × SV)) : ∀ {cells out : List SV}, fillS place cells parts = some out → ∀ p ∈ parts, p.2 ≠ .no := by
  induction parts with
  | nil => intro _ _ _ p hp; cases hp
  | cons q parts ih =>
    obtain ⟨i, x⟩ := q
    intro cells out h p hp
    simp only [fillS] at h
    split at h
    · cases h
    · split at h
      · cases h
      · rename_i hno
        split at h
        · split at h
          · rcases List.mem_cons.1 hp with rfl | hp
            · exact hno
            · exact ih h p hp
          · cases h
        · cases h
theorem parts_den {st : St} {a : Act} (h : FrOk st.fr st.res a) (parts : Array (Nat × Operand)) (hno : ∀ p ∈ evP st.fr parts, p.2 ≠ .no) :
    (parts.map fun p => (p.1, a.eval p.2)).toList = (evP st.fr parts).map fun p => (p.1, p.2.den) := by
  simp only [evP, Array.toList_map, List.map_map]
  refine List.map_congr_left fun p hp => ?_
  simp only [Function.comp_apply]
  rw [ev_den h rfl (hno (p.1, ev st.fr p.2) (by simp only [evP, List.mem_map]; exact ⟨p, hp, rfl⟩))]
theorem buildOp_ok {P : Program} {T : Tab} (hT : TabOk P T) {o : Oper} {t : TypeId} {parts : Array (Nat × Operand)} (ho : o.op = .build t parts) (st : St) : (buildOp T t (evP st.fr parts)).Sound P o st := by
  unfold buildOp
  split
  · rename_i z pl hz hpl
    split
    · rename_i l hl
      refine ok_of fun a w h => ?_
      obtain ⟨zv, hzv, hzc, hzg⟩ := zeroS_ok hT hz w
      have hp := parts_den h parts (fillS_no _ _ hl)
      have hgood : SV.goodL (blkAt st.res) l := by
        refine fillS_good _ hl (hzg _) (fun p hp => ?_)
        simp only [evP, List.mem_map] at hp
        obtain ⟨q, _, rfl⟩ := hp
        exact ev_good h q.2
      unfold placesOf at hpl
      split at hpl
      · rename_i e he
        obtain ⟨i, u, zz, hi, hu, hz', hk, _⟩ := te_spec hT he
        split at hpl
        · rename_i fs hfs
          rw [hk] at hfs
          cases u <;> simp [tkOf] at hfs
          rename_i fa
          subst hfs
          split at hpl
          · rename_i pl' hpl'
            cases hpl
            have hm := mapM_places hT w fa.toList hpl'
            have hf := fillS_ok _ hl
            refine ⟨(SV.ag l).den, ?_, SV.is_den _, hgood⟩
            have hplace : ((fun x : Nat => (pl'.toArray)[x]?) : Nat → Option (Nat × Nat)) = fun i => pl'[i]? := by funext i; simp
            simp only [execOp, ho, Instr.build, Sem.run_bind, hzv, Result.andThen_ok, run_underlying hu]
            rw [Array.mapM_eq_mapM_toList]
            simp only [Sem.run_map, hm, Result.andThen_ok]
            rw [hplace, hzc, hp, hf]
            rfl
          · cases hpl
        · rename_i m el hel
          rw [hk] at hel
          cases u <;> simp [tkOf] at hel
          rename_i m2 el2
          obtain ⟨rfl, rfl⟩ := hel
          split at hpl
          · rename_i e2 he2
            cases hpl
            obtain ⟨i2, u2, z2, hi2, hu2, hz2, hk2, hs2, _, _⟩ := te_spec hT he2
            have hf := fillS_ok _ hl
            refine ⟨(SV.ag l).den, ?_, SV.is_den _, hgood⟩
            have hsz := fun w => show (sizeOf el2).run P w = .ok i2.size w from by simp [sizeOf, typeInfo, hi2]
            rw [hs2] at hf
            simp only [execOp, ho, Instr.build, Sem.run_bind, hzv, Result.andThen_ok, run_underlying hu, hsz]
            rw [hzc, hp, hf]
            rfl
          · cases hpl
        · cases hpl
      · cases hpl
    · trivial
  · trivial
def repl (n : Nat) (z : List SV) : List SV := match n with | 0 => [] | n + 1 => z ++ repl n z
theorem repl_get (z : List SV) (_ : 0 < z.length) : ∀ (n i : Nat), i < n * z.length → (repl n z)[i]? = z[i % z.length]? := by
  intro n
  induction n with
  | zero => intro i h; simp at h
  | succ n ih =>
    intro i h
    simp only [repl]
    by_cases hl : i < z.length
    · rw [List.getElem?_append_left hl, Nat.mod_eq_of_lt hl]
    · rw [List.getElem?_append_right (by omega), ih (i - z.length) (by rw [Nat.add_mul] at h; omega)]
      congr 1
      rw [← Nat.sub_add_cancel (show z.length ≤ i by omega), Nat.add_mod_right, Nat.add_sub_cancel]
theorem repl_length (z : List SV) (n : Nat) : (repl n z).length = n * z.length := by
  induction n with
  | zero => simp [repl]
  | succ n ih => simp [repl, ih, Nat.add_mul]; omega
theorem repl_den (n : Nat) (z : List SV) (zc : Array Value) (hzz : zc = (SV.denL z).toArray) : ((Array.range (n * z.length)).map fun i => zc[i % zc.size]!) = (SV.denL (repl n z)).toArray := by
  apply Array.ext
  · simp [SV.denL_eq, repl_length]
  · intro i h1 h2
    have hi : i < n * z.length := by simpa using h1
    have hzl : 0 < z.length := by
      rcases Nat.eq_zero_or_pos z.length with h | h
      · rw [h] at hi; simp at hi
      · exact h
    subst hzz
    have hm : i % z.length < z.length := Nat.mod_lt _ hzl
    have hr := repl_get z hzl n i hi
    rw [List.getElem?_eq_getElem hm] at hr
    simp only [Array.getElem_map, Array.getElem_range, SV.denL_eq, List.size_toArray, List.length_map, List.getElem_toArray, List.getElem_map]
    rw [getElem!_pos _ _ (by simpa using hm)]
    simp only [List.getElem_toArray, List.getElem_map]
    congr 1
    have h3 := (List.getElem?_eq_some_iff.1 hr)
    obtain ⟨_, h4⟩ := h3
    exact h4.symm
theorem repl_good {β : Nat → Option Nat} {z : List SV} (h : SV.goodL β z) (n : Nat) : SV.goodL β (repl n z) := by
  induction n with
  | zero => trivial
  | succ n ih =>
    refine (SV.goodL_iff _ _).2 fun x hx => ?_
    rcases List.mem_append.1 hx with hx | hx
    · exact (SV.goodL_iff _ _).1 h x hx
    · exact (SV.goodL_iff _ _).1 ih x hx
/-- elements that are all told, in order -/
def catS (size : Nat) : Nat → List (Nat × SV) → Option (List SV)
  | _, [] => some []
  | i, (j, x) :: r => if j = i then match x with
    | .no => none
    | x => if x.cells.length = size then match catS size (i + 1) r with | some l => some (x.cells ++ l) | none => none else none else none
theorem overlay_pre : ∀ (pre : List SV) (cs rest : List SV), overlay pre.length cs (pre ++ rest) = pre ++ overlay 0 cs rest
  | [], _, _ => rfl
  | x :: pre, cs, rest => by simp only [List.length_cons, List.cons_append, overlay, overlay_pre pre cs rest]
theorem overlay_zero : ∀ (cs rest : List SV), cs.length ≤ rest.length → overlay 0 cs rest = cs ++ rest.drop cs.length
  | [], rest, _ => by cases rest <;> simp [overlay]
  | c :: cs, [], h => by simp at h
  | c :: cs, x :: rest, h => by simp only [overlay, overlay_zero cs rest (by simpa using h), List.length_cons, List.drop_succ_cons, List.cons_append]
theorem catS_fill {size : Nat} : ∀ {parts : List (Nat × SV)} {i : Nat} {l : List SV} (pre rest : List SV), catS size i parts = some l → pre.length = i * size → rest.length = parts.length * size → fillS (fun i => some (i * size, size)) (pre ++ rest) parts = some (pre ++ l)
  | [], i, l, pre, rest, h, _, h2 => by
    simp only [catS, Option.some.injEq] at h
    subst h
    simp only [fillS, List.eq_nil_of_length_eq_zero (show rest.length = 0 by simpa using h2)]
  | (j, x) :: r, i, l, pre, rest, h, h1, h2 => by
    simp only [catS] at h
    split at h
    · rename_i hj
      subst hj
      have hx : ∀ x : SV, x.cells.length = size → (match catS size (j + 1) r with | some l => some (x.cells ++ l) | none => none) = some l → (if x.cells.length = size then if j * size + x.cells.length ≤ (pre ++ rest).length then fillS (fun i => some (i * size, size)) (overlay (j * size) x.cells (pre ++ rest)) r else none else none) = some (pre ++ l) := fun x hc h => by
        split at h
        · rename_i l' hl'
          cases h
          have h3 : (j + 1) * size = j * size + size := by rw [Nat.add_mul, Nat.one_mul]
          have h4 : rest.length = r.length * size + size := by rw [h2, List.length_cons, Nat.add_mul, Nat.one_mul]
          rw [if_pos hc, if_pos (by rw [List.length_append]; omega), ← h1, overlay_pre, overlay_zero _ _ (by omega), ← List.append_assoc, ← List.append_assoc]
          exact catS_fill (pre ++ x.cells) (rest.drop x.cells.length) hl' (by rw [List.length_append]; omega) (by rw [List.length_drop]; omega)
        · cases h
      split at h
      · cases h
      · rename_i hno
        split at h
        · rename_i hc
          unfold fillS
          split
          · rename_i h5; cases h5
          · rename_i o s h5
            cases h5
            split
            · exact absurd rfl hno
            · exact hx _ hc h
        · cases h
    · cases h
def fillL (size : Nat) (cells : List SV) (parts : List (Nat × SV)) : Option (List SV) :=
  match catS size 0 parts with
  | some l => if cells.length = parts.length * size then some l else none
  | none => fillS (fun i => some (i * size, size)) cells parts
theorem fillL_eq {size : Nat} {cells l : List SV} {parts : List (Nat × SV)} (h : fillL size cells parts = some l) : fillS (fun i => some (i * size, size)) cells parts = some l := by
  unfold fillL at h
  split at h
  · rename_i l' hl
    split at h
    · rename_i hc
      cases h
      exact catS_fill [] cells hl (by simp) hc
    · cases h
  · exact h
def buildSliceOp (T : Tab) (t : TypeId) (len : Nat) (parts : List (Nat × SV)) : StepR :=
  match te T t with
  | some e => match e.k with
    | .slice et => match te T et, zeroS T et with
      | some ee, some z => if z.length = ee.size then if len * ee.size ≤ 16777216 then
          (match fillL ee.size (repl len z) parts with
           | some l => if l.all SV.one = true then .new et l (some len) else .no
           | none => .no) else .no else .no
      | _, _ => .no
    | _ => .no
  | none => .no
theorem buildSliceOp_ok {P : Program} {T : Tab} (hT : TabOk P T) {o : Oper} {t : TypeId} {len : Nat} {parts : Array (Nat × Operand)} (ho : o.op = .buildSlice t len parts) (st : St) : (buildSliceOp T t len (evP st.fr parts)).Sound P o st := by
  unfold buildSliceOp
  split
  · rename_i e he
    obtain ⟨i, u, zz, hi, hu, hz', hk, _⟩ := te_spec hT he
    split
    · rename_i et het
      rw [hk] at het
      cases u <;> simp [tkOf] at het
      subst het
      rename_i et
      split
      · rename_i ee z hee hz
        split
        · rename_i hzl
          split
          · rename_i hb
            split
            · rename_i l hl
              replace hl := fillL_eq hl
              split
              · rename_i h1
                intro E a w h
                obtain ⟨zv, hzv, hzc, hzg⟩ := zeroS_ok hT hz w
                obtain ⟨i', u', zz', hi', hu', hz'', hk', hs', _⟩ := te_spec hT hee
                have hsz : (sizeOf et).run P w = .ok ee.size w := by simp [sizeOf, typeInfo, hi', hs']
                have hp := parts_den h.fr parts (fillS_no _ _ hl)
                have hf := fillS_ok _ hl
                have hgood : SV.goodL (blkAt st.res) l := fillS_good _ hl (repl_good (hzg _) len) (fun p hp => by
                  simp only [evP, List.mem_map] at hp
                  obtain ⟨q, _, rfl⟩ := hp
                  exact ev_good h.fr q.2)
                obtain ⟨h2, h3⟩ := new_sound (P := P) h et hgood h1 _ rfl
                refine ⟨_, w.heap.size, ?_, h3⟩
                simp only [execOp, ho, Instr.buildSlice, Sem.run_bind, run_underlying hu, Result.andThen_ok, hsz, hp]
                rw [if_neg (by omega)]
                split
                · rename_i h0
                  have hr0 : repl len z = [] := List.eq_nil_of_length_eq_zero (by rw [repl_length, hzl, h0])
                  rw [hr0] at hf
                  have he : (Array.range (len * ee.size)).map (fun x => (#[] : Array Value)[x % (#[] : Array Value).size]!) = (SV.denL []).toArray := by rw [h0]; simp [SV.denL]
                  simp only [Sem.run_bind, Sem.run_pure, Result.andThen_ok, he, hf, h2]
                · have he := repl_den len z zv.cells hzc
                  rw [hzl] at he
                  simp only [Sem.run_bind, Sem.run_pure, Result.andThen_ok, hzv, he, hf, h2]
              · trivial
            · trivial
          · trivial
        · trivial
      · trivial
    · trivial
  · trivial
/-! built-in functions on plain values -/
def lenS (T : Tab) (t : TypeId) (x : SV) : StepR :=
  match te T t with
  | some e => match e.k, x with
    | .string, .va (.string s) => .ok (.va (.int .i64 s.size))
    | .slice _, .va (.slice _ n _) => .ok (.va (.int .i64 n))
    | .slice _, .sl _ _ _ n _ => .ok (.va (.int .i64 n))
    | .map _ _, .va (.map none) => .ok (.va (.int .i64 0))
    | _, _ => .no
  | none => .no
def builtinS (T : Tab) (b : Builtin) (fr : List SV) (args : Array Operand) (ts : Array TypeId) : StepR :=
  match b, args.toList, ts.toList with
  | .len, [x], [t] => lenS T t (ev fr x)
  | .min, [x, y], _ => (match ev fr x, ev fr y with
    | .va (.int k a), .va (.int _ b) => .ok (.va (.int k (min a b)))
    | _, _ => .no)
  | .max, [x, y], _ => (match ev fr x, ev fr y with
    | .va (.int k a), .va (.int _ b) => .ok (.va (.int k (max a b)))
    | _, _ => .no)
  | _, _, _ => .no
theorem lenS_ok {P : Program} {T : Tab} (hT : TabOk P T) {o : Oper} {x : Operand} {t : TypeId} (ho : o.op = .call { callee := .builtin .len, args := #[x], argTypes := #[t] }) (st : St) : (lenS T t (ev st.fr x)).Sound P o st := by
  unfold lenS
  split
  · rename_i e he
    obtain ⟨i, u, zz, hi, hu, hz', hk, _⟩ := te_spec hT he
    split
    all_goals first
      | trivial
      | (rename_i hkk hx
         rw [hk] at hkk
         cases u <;> simp [tkOf] at hkk
         refine ok_of fun a w h => ?_
         refine ⟨_, ?_, SV.is_den _, trivial⟩
         simp [execOp, ho, resolve, invoke, builtin, Builtin.len_, ev_den h hx (by simp), SV.den, run_underlying hu, goInt]
         done)
  · trivial
theorem builtinS_ok {P : Program} {T : Tab} (hT : TabOk P T) {o : Oper} {b : Builtin} {args : Array Operand} {ts : Array TypeId} (ho : o.op = .call { callee := .builtin b, args := args, argTypes := ts }) (st : St) : (builtinS T b st.fr args ts).Sound P o st := by
  unfold builtinS
  split
  · rename_i x t h1 h2
    obtain ⟨args⟩ := args
    obtain ⟨ts⟩ := ts
    simp at h1 h2
    subst h1; subst h2
    exact lenS_ok hT ho st
  · rename_i x y _ h1
    obtain ⟨args⟩ := args
    simp at h1
    subst h1
    split
    · rename_i k p _ q hx hy
      refine ok_of fun a w h => ?_
      refine ⟨_, ?_, SV.is_den _, trivial⟩
      have : min p q = if q < p then q else p := by omega
      simp [execOp, ho, resolve, invoke, builtin, Builtin.min_, Builtin.min2, ev_den h hx (by simp), ev_den h hy (by simp), SV.den, this]
    · trivial
  · rename_i x y _ h1
    obtain ⟨args⟩ := args
    simp at h1
    subst h1
    split
    · rename_i k p _ q hx hy
      refine ok_of fun a w h => ?_
      refine ⟨_, ?_, SV.is_den _, trivial⟩
      have : max p q = if q > p then q else p := by omega
      simp [execOp, ho, resolve, invoke, builtin, Builtin.max_, Builtin.max2, ev_den h hx (by simp), ev_den h hy (by simp), SV.den, this]
    · trivial
  · trivial
/-! indexes that are constants -/
def idxConst (T : Tab) (fr : List SV) (t : TypeId) (x i : Operand) : StepR :=
  match constInt i, te T t with
  | some n, some e => if 0 ≤ n then match e.k with
    | .slice et => (match te T et, ev fr x with
      | some ee, .sl r b off len _ => if n.toNat < len then .ok (.pt r b (off + n.toNat * ee.size)) else .no
      | _, _ => .no)
    | .arr len et => (match te T et with
      | some ee => if n.toNat < len then (match addPt (ev fr x) (n.toNat * ee.size) with | some y => .ok y | none => .no) else .no
      | none => .no)
    | _ => .no else .no
  | _, _ => .no
theorem idxConst_ok {P : Program} {T : Tab} (hT : TabOk P T) {o : Oper} {t : TypeId} {x i : Operand} (ho : o.op = .indexAddr t x i) (st : St) : (idxConst T st.fr t x i).Sound P o st := by
  unfold idxConst
  split
  · rename_i n e hn he
    obtain ⟨ii, u, zz, hi, hu, hz', hk, _⟩ := te_spec hT he
    have hin : ∃ k, i = .const (.int k n) := by
      unfold constInt at hn
      split at hn
      · cases hn; exact ⟨_, rfl⟩
      · cases hn
    obtain ⟨k, rfl⟩ := hin
    split
    · rename_i h0
      split
      · rename_i et het
        rw [hk] at het
        cases u <;> simp [tkOf] at het
        subst het
        rename_i et
        split
        · rename_i ee r b off len cap hee hx
          obtain ⟨i', u', zz', hi', hu', hz'', hk', hs', _⟩ := te_spec hT hee
          split
          · rename_i hlt
            refine ok_of fun a w h => ?_
            have hg := ev_good h x
            rw [hx] at hg
            refine ⟨_, ?_, SV.is_den _, hg⟩
            have hsz : (sizeOf et).run P w = .ok ee.size w := by simp [sizeOf, typeInfo, hi', hs']
            have hc : 0 ≤ n ∧ n < (len : Int) := ⟨h0, by omega⟩
            have hie : a.eval (.const (.int k n)) = .int k n := rfl
            simp [execOp, ho, ev_den h hx (by simp), hie, SV.den, Instr.indexAt, asIntOf, run_underlying hu, hsz, hc, addr_add]
          · trivial
        · trivial
      · rename_i len et het
        rw [hk] at het
        cases u <;> simp [tkOf] at het
        obtain ⟨rfl, rfl⟩ := het
        rename_i len et
        split
        · rename_i ee hee
          obtain ⟨i', u', zz', hi', hu', hz'', hk', hs', _⟩ := te_spec hT hee
          split
          · rename_i hlt
            split
            · rename_i y hy
              refine ok_of fun a w h => ?_
              obtain ⟨ad, h1, h2⟩ := addPt_spec hy
              refine ⟨_, ?_, SV.is_den _, addPt_good hy (ev_good h x)⟩
              have hsz : (sizeOf et).run P w = .ok ee.size w := by simp [sizeOf, typeInfo, hi', hs']
              have hc : 0 ≤ n ∧ n < (len : Int) := ⟨h0, by omega⟩
              have hie : a.eval (.const (.int k n)) = .int k n := rfl
              simp [execOp, ho, ev_den h rfl (addPt_no hy), h1, h2, hie, Instr.indexAt, asIntOf, run_underlying hu, hsz, hc, Instr.sureAddr]
            · trivial
          · trivial
        · trivial
      · trivial
    · trivial
  · trivial
/-! the step -/
def stepOp (T : Tab) (st : St) (o : Op) : StepR :=
  match o with
  | .move x => .ok (ev st.fr x)
  | .assign x => .ok (ev st.fr x)
  | .pick c a b => pickS (ev st.fr c) (ev st.fr a) (ev st.fr b)
  | .alloc t => allocOp T t
  | .box t x => boxOp t (ev st.fr x)
  | .build t parts => buildOp T t (evP st.fr parts)
  | .buildSlice t n parts => buildSliceOp T t n (evP st.fr parts)
  | .load t x => loadOp T st t (ev st.fr x)
  | .store t x y => storeOp T st t (ev st.fr x) (ev st.fr y)
  | .nilCheck x => nilCheckS (ev st.fr x)
  | .binOp op t x y _ => binS T op t st.fr x y
  | .unOp op _ x => unS op (ev st.fr x)
  | .convert s d x => convS T s d (ev st.fr x)
  | .makeFunc fn first caps => if (first.toList ++ caps.toList).all (fun x => match ev st.fr x with | .no => false | _ => true) = true then .ok (.fu fn (first.toList.map (ev st.fr)) (caps.toList.map (ev st.fr))) else .no
  | .fieldAddr s x f => fieldAddrS T s (ev st.fr x) f
  | .field s x f => fieldS T s (ev st.fr x) f
  | .extract x i => extractS (ev st.fr x) i
  | .indexAddr t x i => idxConst T st.fr t x i
  | .call c => match c.callee with | .builtin b => builtinS T b st.fr c.args c.argTypes | _ => .no
  | _ => .no
theorem stepOp_ok {P : Program} {T : Tab} (hT : TabOk P T) (o : Oper) (st : St) : (stepOp T st o.op).Sound P o st := by
  cases ho : o.op with
  | move x => refine ok_of fun a w h => ?_; exact ⟨a.eval x, by simp [execOp, ho], ev_is h x, ev_good h x⟩
  | assign x => refine ok_of fun a w h => ?_; exact ⟨a.eval x, by simp [execOp, ho], ev_is h x, ev_good h x⟩
  | pick c a b => exact pickS_ok ho st
  | alloc t => exact allocOp_ok hT ho st
  | box t x => exact boxOp_ok ho st
  | build t parts => exact buildOp_ok hT ho st
  | buildSlice t n parts => exact buildSliceOp_ok hT ho st
  | load t x => exact loadOp_ok hT ho st
  | store t x y => exact storeOp_ok hT ho st
  | nilCheck x => exact nilCheckS_ok ho st
  | binOp op t x y yt => exact binS_ok hT ho st
  | unOp op t x => exact unS_ok ho st
  | convert s d x => exact convS_ok hT ho st
  | makeFunc fn first caps =>
    simp only [stepOp]
    split
    · rename_i hall
      refine ok_of fun a w h => ?_
      have key : ∀ l : List Operand, (∀ x ∈ l, x ∈ first.toList ++ caps.toList) → l.map a.eval = SV.denL (l.map (ev st.fr)) := fun l hl => by
        rw [SV.denL_eq, List.map_map]
        refine List.map_congr_left fun x hx => ?_
        have hq := List.all_eq_true.1 hall x (hl x hx)
        exact ev_den h rfl (by rintro e; rw [e] at hq; cases hq)
      refine ⟨_, ?_, SV.is_den _, ?_⟩
      · simp only [execOp, ho, Instr.makeFunc, Sem.run_bind, Sem.run_pure, Result.andThen_ok, SV.den]
        rw [← key first.toList (fun x hx => List.mem_append_left _ hx), ← key caps.toList (fun x hx => List.mem_append_right _ hx)]
        exact congrArg (fun v => Result.ok (Next.value v) w) (by congr 1 <;> exact Array.ext' (by simp))
      · exact ⟨(SV.goodL_iff _ _).2 fun y hy => by obtain ⟨x, _, rfl⟩ := List.mem_map.1 hy; exact ev_good h x,
          (SV.goodL_iff _ _).2 fun y hy => by obtain ⟨x, _, rfl⟩ := List.mem_map.1 hy; exact ev_good h x⟩
    · trivial
  | fieldAddr s x f => exact fieldAddrS_ok hT ho st
  | field s x f => exact fieldS_ok hT ho st
  | extract x i => exact extractS_ok ho st
  | indexAddr t x i => exact idxConst_ok hT ho st
  | call c =>
    obtain ⟨callee, args, ts⟩ := c
    cases callee with
    | builtin b => exact builtinS_ok hT ho st
    | value f => trivial
    | invoke r m => trivial
  | _ => trivial
end Go.Sy
namespace Go.Sy
open Go.RowKit
section
variable {P : Program} {ops : Array Oper} {Q : Exit → Act → World → Prop} {S : World → Prop} {full : Bool}
/-- is S asked for, when these have come up? -/
def needS (ops : Array Oper) (full : Bool) (listed : Array Bool) : Prop := full = true ∨ ∃ k, k < ops.size ∧ listed.getD k true = false
def wpD (P : Program) (ops : Array Oper) (Q : Exit → Act → World → Prop) (S : World → Prop) (full : Bool) : Nat → Array Bool → Act → World → Prop
  | 0, listed, a, w => Region.ready .any ops listed = [] ∧ Q .normal a w
  | n + 1, listed, a, w => (Region.ready .any ops listed = [] → Q .normal a w) ∧
    ∀ i ∈ Region.ready .any ops listed, wpOp P ops Q i (fun a' w' => (needS ops full (listed.setIfInBounds i true) → S w') ∧ wpD P ops Q S full n (listed.setIfInBounds i true) a' w') a w
theorem wpAny_of_D : ∀ (n : Nat) (listed : Array Bool) (a : Act) (w : World), wpD P ops Q S full n listed a w → wpAny P .any ops Q n listed a w
  | 0, _, _, _, h => h
  | n + 1, _, _, _, h => ⟨h.1, fun i hi => wpOp_mono (fun a' w' h' => wpAny_of_D n _ a' w' h'.2) (h.2 i hi)⟩
theorem wpD_take {i : Nat} {oi : Oper} {v : Value} (hi : ops[i]? = some oi) (hsel : ∀ (j : Nat) (o : Oper) cs b, ops[j]? = some o → o.op ≠ .select cs b)
    (hQ : ∀ c a w, Q (.panic c) (a.put oi.dst v) w → Q (.panic c) a w) :
    ∀ (n : Nat) (listed : Array Bool) (a : Act) (w : World),
      (∀ j oj, ops[j]? = some oj → j ≠ i → listed.getD j true = false → (∀ e ∈ oj.after, Region.binds .any e = true → e.on ≠ i) → oi.apart ops oj = true) →
      i ∈ Region.ready .any ops listed → YieldsIf P ops S oi v a → S w →
      (full = true ∨ ∃ z oz, ops[z]? = some oz ∧ listed.getD z true = false ∧ ∃ e ∈ oz.after, Region.binds .any e = true ∧ e.on = i) →
      wpD P ops Q S full n (listed.setIfInBounds i true) (a.put oi.dst v) w → wpD P ops Q S full (n + 1) listed a w := by
  intro n
  induction n with
  | zero =>
    intro listed a w _ hr hy hS _ H
    refine ⟨fun h => (by rw [h] at hr; cases hr), fun j hj => ?_⟩
    by_cases hji : j = i
    · subst hji; exact hy.wpOp hi hS ⟨fun _ => hS, H⟩
    · have := ready_mono hj hji
      rw [H.1] at this
      cases this
  | succ n ih =>
    intro listed a w hfree hr hy hS hz H
    refine ⟨fun h => (by rw [h] at hr; cases hr), fun j hj => ?_⟩
    by_cases hji : j = i
    · subst hji; exact hy.wpOp hi hS ⟨fun _ => hS, H⟩
    · have h1 := H.2 j (ready_mono hj hji)
      obtain ⟨hjun, oj, hoj, hall⟩ := mem_ready.1 hj
      have hiun : listed.getD i false = true → False := fun h1 => by
        have h0 := (mem_ready.1 hr).1
        rcases Nat.lt_or_ge i listed.size with h' | h'
        · simp [h'] at h0 h1; rw [h0] at h1; cases h1
        · simp [Array.getElem?_eq_none h'] at h1
      have hnot : ∀ e ∈ oj.after, Region.binds .any e = true → e.on ≠ i := fun e he hb heq => by
        have h1 := hall e he hb
        rw [heq] at h1
        exact hiun h1
      have hz' : full = true ∨ ∃ z oz, ops[z]? = some oz ∧ (listed.setIfInBounds j true).getD z true = false ∧ ∃ e ∈ oz.after, Region.binds .any e = true ∧ e.on = i := by
        rcases hz with h | ⟨z, oz, hoz, hzl, e, he, hb, hei⟩
        · exact .inl h
        · refine .inr ⟨z, oz, hoz, ?_, e, he, hb, hei⟩
          have hjz : j ≠ z := fun ee => by
            subst ee
            rw [hoj] at hoz
            cases hoz
            exact hnot e he hb hei
          rw [getD_set_ne true hjz]
          exact hzl
      have hneed : needS ops full ((listed.setIfInBounds i true).setIfInBounds j true) := by
        rcases hz' with h | ⟨z, oz, hoz, hzl, e, he, hb, hei⟩
        · exact .inl h
        · refine .inr ⟨z, (Array.getElem?_eq_some_iff.1 hoz).1, ?_⟩
          rw [Array.setIfInBounds_comm _ _ (Ne.symm hji)]
          by_cases hiz : i = z
          · subst hiz
            rcases hz with h | ⟨z', oz', hoz', hzl', e', he', hb', hei'⟩
            · exact absurd h (by
                intro hf
                have hself := (mem_ready.1 hr).2
                obtain ⟨o', ho', hall'⟩ := hself
                rw [hoz] at ho'
                cases ho'
                have := hall' e he hb
                rw [hei] at this
                exact hiun this)
            · have hself := (mem_ready.1 hr).2
              obtain ⟨o', ho', hall'⟩ := hself
              rw [hoz] at ho'
              cases ho'
              have := hall' e he hb
              rw [hei] at this
              exact absurd this hiun
          · rw [getD_set_ne true hiz]
            exact hzl
      have h2 := wpOp_putIf hoj (hfree j oj hoj hji hjun hnot) (fun cs b => hsel i oi cs b hi) (fun cs b => hsel j oj cs b hoj) hQ hy h1
      have hfree' : ∀ k ok, ops[k]? = some ok → k ≠ i → (listed.setIfInBounds j true).getD k true = false →
          (∀ e ∈ ok.after, Region.binds .any e = true → e.on ≠ i) → oi.apart ops ok = true := fun k ok hk hki hun hno => by
        refine hfree k ok hk hki ?_ hno
        by_cases hjk : j = k
        · subst hjk; exact hjun
        · rw [getD_set_ne true hjk] at hun; exact hun
      refine wpOp_mono (fun a' w' h3 => ⟨fun _ => h3.2.1 hneed, ih (listed.setIfInBounds j true) a' w' hfree' (ready_mono hr (Ne.symm hji)) h3.1 (h3.2.1 hneed) hz' ?_⟩) h2
      rw [Array.setIfInBounds_comm _ _ hji]
      exact h3.2.2
end
end Go.Sy
namespace Go.Sy
open Go.RowKit
inductive It where
  | c (c : Code)
  | o (ops : Array Oper) (l : List Oper)
  | k (id : Nat)
  | d (ops : Array Oper) (full : Bool) (held : List (Nat × Res)) (ro0 : List Asn) (plan : List (Nat × Bool)) (listed : List Bool)
/-- the rows that are read in a group whose order is open: they are as they were -/
def heldOk : List (Nat × Res) → List Res → Prop
  | [], _ => True
  | (i, x) :: l, res => res[i]? = some x ∧ heldOk l res
def heldB : List (Nat × Res) → Nat → Bool
  | [], _ => false
  | (j, _) :: l, i => if j = i then true else heldB l i
def heldOf (held : List (Nat × Res)) (res : List Res) : List Res := go 0 res
where go (i : Nat) : List Res → List Res
  | [] => []
  | x :: l => (if heldB held i = true then x else .dead x.blk) :: go (i + 1) l
def HeldW (held : List (Nat × Res)) (ro0 : List Asn) (w : World) : Prop := (∀ p ∈ held, p.2.asn.holds (hp w)) ∧ ∀ A ∈ ro0, A.holds (hp w)
/-- what is to hold when this is what is still to be done -/
def post (P : Program) : List It → (Exit → Act → World → Prop) → Exit → Act → World → Prop
  | [], Q, e => Q e
  | .c c :: r, Q, e => match e with
    | .normal => fun a w => c.wp P (post P r Q) a w
    | e => post P r Q e
  | .o ops l :: r, Q, e => match e with
    | .normal => fun a w => wpList P ops (post P r Q) l a w
    | e => post P r Q e
  | .k id :: r, Q, e => match e with
    | .exit j => if j = id then post P r Q .normal else post P r Q (.exit j)
    | e => post P r Q e
  | .d ops full held ro0 plan listed :: r, Q, e => match e with
    | .normal => fun a w => (needS ops full listed.toArray → HeldW held ro0 w) ∧ wpD P ops (post P r Q) (HeldW held ro0) full plan.length listed.toArray a w
    | e => post P r Q e
def Fin (Q : Exit → St → Prop) (E : Entry) : Exit → Act → World → Prop
  | .panic _, _, _ => False
  | .outgrown, _, _ => False
  | e, a, w => ∃ st, Q e st ∧ R E st a w
def Go (P : Program) (E : Entry) (todo : List It) (st : St) (Q : Exit → St → Prop) : Prop := ∀ a w, R E st a w → post P todo (Fin Q E) .normal a w
def popTo (id : Nat) : List It → Option (List It)
  | [] => none
  | .k j :: r => if id = j then some r else popTo id r
  | .c _ :: r => popTo id r
  | .o _ _ :: r => popTo id r
  | .d _ _ _ _ _ _ :: r => popTo id r
theorem post_pop {P : Program} {Q : Exit → Act → World → Prop} {id : Nat} : ∀ {todo r : List It}, popTo id todo = some r → post P todo Q (.exit id) = post P r Q .normal := by
  intro todo
  induction todo with
  | nil => intro r h; cases h
  | cons x todo ih =>
    intro r h
    cases x with
    | c c => exact ih h
    | o ops l => exact ih h
    | d ops full held ro0 plan listed => exact ih h
    | k j =>
      simp only [popTo] at h
      simp only [post]
      split at h
      · cases h; rename_i e; rw [if_pos e]
      · rename_i e; rw [if_neg e]; exact ih h
theorem post_exit {P : Program} {Q : Exit → Act → World → Prop} {id : Nat} : ∀ {todo : List It}, popTo id todo = none → post P todo Q (.exit id) = Q (.exit id) := by
  intro todo
  induction todo with
  | nil => intro h; rfl
  | cons x todo ih =>
    intro h
    cases x with
    | c c => exact ih h
    | o ops l => exact ih h
    | d ops full held ro0 plan listed => exact ih h
    | k j =>
      simp only [popTo] at h
      simp only [post]
      split at h
      · cases h
      · rename_i e; rw [if_neg e]; exact ih h
theorem post_ret {P : Program} {Q : Exit → Act → World → Prop} : ∀ {todo : List It}, post P todo Q .ret = Q .ret := by
  intro todo
  induction todo with
  | nil => rfl
  | cons x todo ih => cases x <;> exact ih
theorem post_panic {P : Program} {Q : Exit → Act → World → Prop} {c : List PanicEntry} : ∀ {todo : List It}, post P todo Q (.panic c) = Q (.panic c) := by
  intro todo
  induction todo with
  | nil => rfl
  | cons x todo ih => cases x <;> exact ih
/-- a call, from the state st on: K: what is to hold of its value and of the state behind it -/
def CallEv (P : Program) (E : Entry) (f : FuncId) (args : List SV) (st : St) (K : SV → St → Prop) : Prop :=
  ∀ w hs hi, ResOk E st.res st.ro w hs hi → SV.goodL (blkAt st.res) args →
    Calls P f (SV.denL args).toArray w fun e w' => ∃ sv st', e = .returned sv.den ∧ sv.good (blkAt st'.res) ∧ st'.fr = st.fr ∧
      (∀ r b, blkAt st.res r = some b → blkAt st'.res r = some b) ∧ (∃ hs hi, ResOk E st'.res st'.ro w' hs hi) ∧ K sv st'
inductive Out where
  | fin (e : Exit) (st : St)
  | iff (b : Bool) (t1 : List It) (s1 : St) (t2 : List It) (s2 : St)
  | new (k : Nat → Out)
  | wrap (k : IntKind) (e : Int) (c : Int → Out)
  | call (f : FuncId) (args : List SV) (d : Option Tmp) (todo : List It) (st : St)
  | stop (todo : List It) (st : St)
  | need (p : Prop) (o : Out)
def outSat (P : Program) (E : Entry) (Q : Exit → St → Prop) : Out → Prop
  | .fin e st => Q e st
  | .iff b t1 s1 t2 s2 => (b = true → Go P E t1 s1 Q) ∧ (b = false → Go P E t2 s2 Q)
  | .new k => ∀ b, outSat P E Q (k b)
  | .wrap k e c => outSat P E Q (c (k.wrap e))
  | .call f args d todo st => CallEv P E f args st fun sv st' => Go P E todo (st'.put d sv) Q
  | .stop todo st => Go P E todo st Q
  | .need p o => p ∧ outSat P E Q o
/-! what is reckoned is laid out -/
def forceL : List SV → (List SV → Out) → Out
  | [], k => k []
  | x :: l, k => forceL l fun l => k (x :: l)
theorem forceL_eq : ∀ (l : List SV) (k : List SV → Out), forceL l k = k l
  | [], _ => rfl
  | _ :: l, _ => forceL_eq l _
def forceV1 (x : SV) (k : SV → Out) : Out :=
  match x with
  | .va v => k (.va v)
  | .bl true => k (.bl true)
  | .bl false => k (.bl false)
  | .bq b => k (.bq b)
  | .pt r b o => k (.pt r b o)
  | .sl r b o n c => k (.sl r b o n c)
  | .ag l => k (.ag l)
  | .tu l => k (.tu l)
  | .fu a b c => k (.fu a b c)
  | .no => k .no
theorem forceV1_eq (x : SV) (k : SV → Out) : forceV1 x k = k x := by
  cases x with
  | bl b => cases b <;> rfl
  | _ => rfl
def forceLV : List SV → (List SV → Out) → Out
  | [], k => k []
  | x :: l, k => forceV1 x fun x => forceLV l fun l => k (x :: l)
theorem forceLV_eq : ∀ (l : List SV) (k : List SV → Out), forceLV l k = k l
  | [], _ => rfl
  | x :: l, k => by simp only [forceLV, forceV1_eq]; exact forceLV_eq l _
def forceV (x : SV) (k : SV → Out) : Out :=
  match x with
  | .ag l => forceLV l fun l => k (.ag l)
  | .tu l => forceLV l fun l => k (.tu l)
  | .fu fn a c => forceLV a fun a => forceLV c fun c => k (.fu fn a c)
  | x => forceV1 x k
theorem forceV_eq (x : SV) (k : SV → Out) : forceV x k = k x := by
  cases x with
  | ag l => exact forceLV_eq l _
  | tu l => exact forceLV_eq l _
  | fu fn a c => simp only [forceV, forceLV_eq]
  | bl b => cases b <;> rfl
  | _ => rfl
def forceR : List Res → (List Res → Out) → Out
  | [], k => k []
  | .box b t cs :: l, k => forceLV cs fun cs => forceR l fun l => k (.box b t cs :: l)
  | .fact A :: l, k => forceR l fun l => k (.fact A :: l)
  | .dead b :: l, k => match b with
    | none => forceR l fun l => k (.dead none :: l)
    | some c => forceR l fun l => k (.dead (some c) :: l)
theorem forceR_eq : ∀ (l : List Res) (k : List Res → Out), forceR l k = k l
  | [], _ => rfl
  | .box b t cs :: l, k => by simp only [forceR, forceLV_eq]; exact forceR_eq l _
  | .fact A :: l, k => forceR_eq l _
  | .dead none :: l, k => forceR_eq l _
  | .dead (some _) :: l, k => forceR_eq l _
def lenK (l : List Res) (k : Nat → Out) : Out :=
  match l with
  | [] => k 0
  | _ :: [] => k 1
  | _ :: _ :: [] => k 2
  | _ :: _ :: _ :: [] => k 3
  | _ :: _ :: _ :: _ :: [] => k 4
  | _ :: _ :: _ :: _ :: _ :: [] => k 5
  | _ :: _ :: _ :: _ :: _ :: _ :: [] => k 6
  | _ :: _ :: _ :: _ :: _ :: _ :: _ :: [] => k 7
  | _ :: _ :: _ :: _ :: _ :: _ :: _ :: _ :: [] => k 8
  | _ :: _ :: _ :: _ :: _ :: _ :: _ :: _ :: _ :: [] => k 9
  | _ :: _ :: _ :: _ :: _ :: _ :: _ :: _ :: _ :: _ :: [] => k 10
  | _ :: _ :: _ :: _ :: _ :: _ :: _ :: _ :: _ :: _ :: _ :: [] => k 11
  | _ :: _ :: _ :: _ :: _ :: _ :: _ :: _ :: _ :: _ :: _ :: _ :: [] => k 12
  | _ :: _ :: _ :: _ :: _ :: _ :: _ :: _ :: _ :: _ :: _ :: _ :: _ :: [] => k 13
  | _ :: _ :: _ :: _ :: _ :: _ :: _ :: _ :: _ :: _ :: _ :: _ :: _ :: _ :: [] => k 14
  | _ :: _ :: _ :: _ :: _ :: _ :: _ :: _ :: _ :: _ :: _ :: _ :: _ :: _ :: _ :: [] => k 15
  | _ :: _ :: _ :: _ :: _ :: _ :: _ :: _ :: _ :: _ :: _ :: _ :: _ :: _ :: _ :: _ :: [] => k 16
  | _ :: _ :: _ :: _ :: _ :: _ :: _ :: _ :: _ :: _ :: _ :: _ :: _ :: _ :: _ :: _ :: _ :: [] => k 17
  | _ :: _ :: _ :: _ :: _ :: _ :: _ :: _ :: _ :: _ :: _ :: _ :: _ :: _ :: _ :: _ :: _ :: _ :: [] => k 18
  | _ :: _ :: _ :: _ :: _ :: _ :: _ :: _ :: _ :: _ :: _ :: _ :: _ :: _ :: _ :: _ :: _ :: _ :: _ :: [] => k 19
  | _ :: _ :: _ :: _ :: _ :: _ :: _ :: _ :: _ :: _ :: _ :: _ :: _ :: _ :: _ :: _ :: _ :: _ :: _ :: _ :: [] => k 20
  | _ :: _ :: _ :: _ :: _ :: _ :: _ :: _ :: _ :: _ :: _ :: _ :: _ :: _ :: _ :: _ :: _ :: _ :: _ :: _ :: _ :: [] => k 21
  | _ :: _ :: _ :: _ :: _ :: _ :: _ :: _ :: _ :: _ :: _ :: _ :: _ :: _ :: _ :: _ :: _ :: _ :: _ :: _ :: _ :: _ :: [] => k 22
  | _ :: _ :: _ :: _ :: _ :: _ :: _ :: _ :: _ :: _ :: _ :: _ :: _ :: _ :: _ :: _ :: _ :: _ :: _ :: _ :: _ :: _ :: _ :: [] => k 23
  | _ :: _ :: _ :: _ :: _ :: _ :: _ :: _ :: _ :: _ :: _ :: _ :: _ :: _ :: _ :: _ :: _ :: _ :: _ :: _ :: _ :: _ :: _ :: _ :: [] => k 24
  | _ :: _ :: _ :: _ :: _ :: _ :: _ :: _ :: _ :: _ :: _ :: _ :: _ :: _ :: _ :: _ :: _ :: _ :: _ :: _ :: _ :: _ :: _ :: _ :: _ :: [] => k 25
  | _ :: _ :: _ :: _ :: _ :: _ :: _ :: _ :: _ :: _ :: _ :: _ :: _ :: _ :: _ :: _ :: _ :: _ :: _ :: _ :: _ :: _ :: _ :: _ :: _ :: _ :: [] => k 26
  | _ :: _ :: _ :: _ :: _ :: _ :: _ :: _ :: _ :: _ :: _ :: _ :: _ :: _ :: _ :: _ :: _ :: _ :: _ :: _ :: _ :: _ :: _ :: _ :: _ :: _ :: _ :: [] => k 27
  | _ :: _ :: _ :: _ :: _ :: _ :: _ :: _ :: _ :: _ :: _ :: _ :: _ :: _ :: _ :: _ :: _ :: _ :: _ :: _ :: _ :: _ :: _ :: _ :: _ :: _ :: _ :: _ :: [] => k 28
  | _ :: _ :: _ :: _ :: _ :: _ :: _ :: _ :: _ :: _ :: _ :: _ :: _ :: _ :: _ :: _ :: _ :: _ :: _ :: _ :: _ :: _ :: _ :: _ :: _ :: _ :: _ :: _ :: _ :: [] => k 29
  | _ :: _ :: _ :: _ :: _ :: _ :: _ :: _ :: _ :: _ :: _ :: _ :: _ :: _ :: _ :: _ :: _ :: _ :: _ :: _ :: _ :: _ :: _ :: _ :: _ :: _ :: _ :: _ :: _ :: _ :: [] => k 30
  | l => k l.length
theorem lenK_eq (l : List Res) (k : Nat → Out) : lenK l k = k l.length := by
  unfold lenK
  split <;> rfl
inductive Gd where
  | run
  | skip
  | ask (b : Bool) (d : Tmp)
  | stuck
def guardS (ops : Array Oper) (fr : List SV) (o : Oper) : Gd :=
  match o.guard with
  | none => .run
  | some (j, want) => match ops.toList[j]? with
    | some oj => match oj.dst with
      | some d => match fr[d]? with
        | some (.bl true) => if want = true then .run else .skip
        | some (.bl false) => if want = false then .run else .skip
        | some (.bq b) => .ask b d
        | some (.va (.bool b)) => .ask b d
        | some (.va (.tuple _)) => .skip
        | _ => .stuck
      | none => .stuck
    | none => .stuck
/-- which function, with which arguments -/
def calleeS (fr : List SV) (c : Call) : Option (FuncId × List SV) :=
  match c.callee with
  | .value f => match ev fr f with
    | .va (.func (.func k) first caps) => some (k, first.toList.map vaS ++ (c.args.toList.map (ev fr) ++ caps.toList.map vaS))
    | .fu (.func k) first caps => some (k, first ++ (c.args.toList.map (ev fr) ++ caps))
    | _ => none
  | _ => none
def noNo (l : List SV) : Bool := l.all fun x => match x with | .no => false | _ => true
structure Tbs where
  tab : Tab
  lo : Nat
  nf : Nat
  ex : List Nat
def putF (fr : List SV) (d : Option Tmp) (x : SV) : List SV := match d with | some t => fr.set t x | none => fr
/-- is the order that is taken one that serves for all? -/
def takeOk (ops : Array Oper) (full : Bool) (listed : Array Bool) (i : Nat) : Bool :=
  (Region.ready .any ops listed).contains i && Region.free .any ops listed i && (full || (List.range ops.size).any fun z => !listed.getD z true && match ops[z]? with | some oz => oz.after.any fun e => Region.binds .any e && e.on == i | none => false)
def planOk (ops : Array Oper) (full : Bool) : List (Nat × Bool) → List Bool → Bool
  | [], listed => ((Region.ready .any ops listed.toArray).isEmpty && Region.noSelect ops) && (listed.all (fun b => b) && listed.length == ops.size)
  | (i, take) :: p, listed => bif !take && decide (ops.size ≤ i) then Region.noSelect ops else (if take then takeOk ops full listed.toArray i else Region.ready .any ops listed.toArray == [i]) && decide (i < ops.size) && planOk ops full p (listed.set i true)
/-- what may be done first, of a group whose order is open -/
def runD (T : Tbs) (ops : Array Oper) (full : Bool) (held : List (Nat × Res)) (ro0 : List Asn) (res : List Res) (ro : List Asn) (r : List It) (K : List (Nat × Bool) → List Bool → List SV → Out) : List (Nat × Bool) → List Bool → List SV → Out
  | [], listed, fr => K [] listed fr
  | (i, false) :: p, listed, fr => K ((i, false) :: p) listed fr
  | (i, true) :: p, listed, fr => match ops.toList[i]? with
    | none => .stop (.d ops full held ro0 ((i, true) :: p) listed :: r) ⟨fr, res, ro⟩
    | some o => match guardS ops fr o with
      | .stuck => .stop (.d ops full held ro0 ((i, true) :: p) listed :: r) ⟨fr, res, ro⟩
      | .skip => forceL (putF fr o.dst (.va (.tuple #[]))) fun fr => runD T ops full held ro0 res ro r K p (listed.set i true) fr
      | .ask b d => forceL (fr.set d (.bl true)) fun fr1 => forceL (fr.set d (.bl false)) fun fr2 =>
          .iff b (.d ops full held ro0 ((i, true) :: p) listed :: r) ⟨fr1, res, ro⟩ (.d ops full held ro0 ((i, true) :: p) listed :: r) ⟨fr2, res, ro⟩
      | .run => match stepOp T.tab ⟨fr, heldOf held res, ro⟩ o.op with
        | .ok .no => .stop (.d ops full held ro0 ((i, true) :: p) listed :: r) ⟨fr, res, ro⟩
        | .ok x => forceV x fun x => forceL (putF fr o.dst x) fun fr => runD T ops full held ro0 res ro r K p (listed.set i true) fr
        | .wrap k e => .wrap k e fun z => forceL (putF fr o.dst (.va (.int k z))) fun fr => runD T ops full held ro0 res ro r K p (listed.set i true) fr
        | _ => .stop (.d ops full held ro0 ((i, true) :: p) listed :: r) ⟨fr, res, ro⟩
def run (T : Tbs) : Nat → List It → St → Out
  | 0, todo, ⟨fr, res, ro⟩ => .stop todo ⟨fr, res, ro⟩
  | _ + 1, [], ⟨fr, res, ro⟩ => .fin .normal ⟨fr, res, ro⟩
  | n + 1, .k _ :: r, ⟨fr, res, ro⟩ => run T n r ⟨fr, res, ro⟩
  | n + 1, .d ops false _ _ [] listed :: r, ⟨fr, res, ro⟩ => .need (planOk ops false [] listed = true) (run T n r ⟨fr, res, ro⟩)
  | n + 1, .d ops full held ro0 plan listed :: r, ⟨fr, res, ro⟩ => .need ((heldOk held res ∧ ro0 = ro) ∧ planOk ops full plan listed = true) (runD T ops full held ro0 res ro r (fun plan listed fr => match plan with
      | [] => run T n r ⟨fr, res, ro⟩
      | (i, b) :: p => match ops.toList[i]? with
        | some o => run T n (.o ops [o] :: .d ops full held ro0 p (listed.set i true) :: r) ⟨fr, res, ro⟩
        | none => .stop (.d ops full held ro0 ((i, b) :: p) listed :: r) ⟨fr, res, ro⟩) plan listed fr)
  | n + 1, .c code :: r, ⟨fr, res, ro⟩ => match code with
    | .skip => run T n r ⟨fr, res, ro⟩
    | .label _ => run T n r ⟨fr, res, ro⟩
    | .seq a b => run T n (.c a :: .c b :: r) ⟨fr, res, ro⟩
    | .block id b => run T n (.c b :: .k id :: r) ⟨fr, res, ro⟩
    | .region _ ops false => run T n (.o ops ops.toList :: r) ⟨fr, res, ro⟩
    | .cond c x y => match ev fr c with
      | .bl true => run T n (.c x :: r) ⟨fr, res, ro⟩
      | .bl false => run T n (.c y :: r) ⟨fr, res, ro⟩
      | .bq b => .iff b (.c x :: r) ⟨fr, res, ro⟩ (.c y :: r) ⟨fr, res, ro⟩
      | .va (.bool b) => .iff b (.c x :: r) ⟨fr, res, ro⟩ (.c y :: r) ⟨fr, res, ro⟩
      | _ => .stop (.c (.cond c x y) :: r) ⟨fr, res, ro⟩
    | .exit id => match popTo id r with
      | some r' => run T n r' ⟨fr, res, ro⟩
      | none => .fin (.exit id) ⟨fr, res, ro⟩
    | .ret => .fin .ret ⟨fr, res, ro⟩
    | c => .stop (.c c :: r) ⟨fr, res, ro⟩
  | n + 1, .o _ [] :: r, ⟨fr, res, ro⟩ => run T n r ⟨fr, res, ro⟩
  | n + 1, .o ops (o :: l) :: r, ⟨fr, res, ro⟩ => match guardS ops fr o with
    | .stuck => .stop (.o ops (o :: l) :: r) ⟨fr, res, ro⟩
    | .skip => forceL (putF fr o.dst (.va (.tuple #[]))) fun fr => run T n (.o ops l :: r) ⟨fr, res, ro⟩
    | .ask b d => forceL (fr.set d (.bl true)) fun fr1 => forceL (fr.set d (.bl false)) fun fr2 => .iff b (.o ops (o :: l) :: r) ⟨fr1, res, ro⟩ (.o ops (o :: l) :: r) ⟨fr2, res, ro⟩
    | .run => match stepOp T.tab ⟨fr, res, ro⟩ o.op with
      | .ok x => forceV x fun x => forceL (putF fr o.dst x) fun fr => run T n (.o ops l :: r) ⟨fr, res, ro⟩
      | .wrap k e => .wrap k e fun z => forceL (putF fr o.dst (.va (.int k z))) fun fr => run T n (.o ops l :: r) ⟨fr, res, ro⟩
      | .set res => forceR res fun res => forceL (putF fr o.dst (.va (.tuple #[]))) fun fr => run T n (.o ops l :: r) ⟨fr, res, ro⟩
      | .new t cells len => forceLV cells fun cells => .new fun b => forceR (res ++ [.box b t cells]) fun res' =>
          lenK res fun nr => forceV (match len with | none => .pt nr b 0 | some m => .sl nr b 0 m m) fun x =>
          forceL (putF fr o.dst x) fun fr => run T n (.o ops l :: r) ⟨fr, res', ro⟩
      | .no => match o.op with
        | .call c => match calleeS fr c with
          | some (k, args) => if noNo args = true then if T.lo ≤ k ∧ k < T.nf ∧ T.ex.all (fun e => !(e == k)) = true then forceLV args fun args => .call k args o.dst (.o ops l :: r) ⟨fr, res, ro⟩ else .stop (.o ops (o :: l) :: r) ⟨fr, res, ro⟩ else .stop (.o ops (o :: l) :: r) ⟨fr, res, ro⟩
          | none => .stop (.o ops (o :: l) :: r) ⟨fr, res, ro⟩
        | _ => .stop (.o ops (o :: l) :: r) ⟨fr, res, ro⟩
/-! it is sound -/
structure TbsOk (P : Program) (T : Tbs) : Prop where
  mixed : P.follows .mixedOrders = true
  tab : TabOk P T.tab
  fns : ∀ f, T.lo ≤ f ∧ f < T.nf ∧ T.ex.all (fun e => !(e == f)) = true → ∃ fn, P.funcs[f]? = some fn ∧ fn.body.isSome = true ∧ (fn.name == "runtime.NumGoroutine") = false
theorem wpList_run {P : Program} {ops : Array Oper} {Q : Exit → Act → World → Prop} {o : Oper} {l : List Oper} {a : Act} {w : World} (hw : Region.wanted o (yielded ops a.tmps) = true)
    (h : o.wp P a w (wpList P ops Q l) Q) : wpList P ops Q (o :: l) a w := by
  unfold wpList; rw [if_pos hw]; exact .inl h
theorem wp_value {P : Program} {o : Oper} {a : Act} {w w' : World} {v : Value} {K : Act → World → Prop} {Q : Exit → Act → World → Prop} (h : (execOp a.eval o).run P w = .ok (.value v) w') (hK : K (a.put o.dst v) w') : o.wp P a w K Q := by
  unfold Oper.wp; rw [h]; exact hK
theorem wp_skip' {P : Program} {o : Oper} {a : Act} {w w' : World} {K : Act → World → Prop} {Q : Exit → Act → World → Prop} (h : (execOp a.eval o).run P w = .ok .skip w') (hK : K (a.put o.dst undef) w') : o.wp P a w K Q := by
  unfold Oper.wp; rw [h]; exact hK
def GdOk (ops : Array Oper) (fr : List SV) (a : Act) (o : Oper) : Gd → Prop
  | .run => Region.wanted o (yielded ops a.tmps) = true
  | .skip => Region.wanted o (yielded ops a.tmps) = false
  | .ask b d => fr[d]? ≠ none ∧ a.tmps.getD d undef = .bool b
  | .stuck => True
theorem guard_spec {ops : Array Oper} {fr : List SV} {res : List Res} {a : Act} (h : FrOk fr res a) (o : Oper) : GdOk ops fr a o (guardS ops fr o) := by
  unfold guardS
  split
  · rename_i hg; simp [GdOk, Region.wanted, hg]
  · rename_i j want hg
    split
    · rename_i oj hj
      have hj' : ops[j]? = some oj := by simpa using hj
      split
      · rename_i d hd
        have hsz := h.size
        have key : ∀ x v, fr[d]? = some x → x.den = v → x ≠ .no → a.tmps[d]? = some v := fun x v hx hv hno => by
          have h1 := h.is d x hx
          have h2 := SV.den_of_is h1 hno
          have h3 : d < a.tmps.size := by rw [hsz]; exact (List.getElem?_eq_some_iff.1 hx).1
          rw [Array.getElem?_eq_getElem h3]
          rw [← hv, ← h2]
          simp [Array.getD_eq_getD_getElem?, Array.getElem?_eq_getElem h3]
        have yl : ∀ v, a.tmps[d]? = some v → yielded ops a.tmps j = (match v with | .bool b => some b | _ => none) := fun v hv => by
          unfold yielded
          simp only [hj', Option.bind_some, hd, hv]
          cases v <;> rfl
        split
        · rename_i hx
          have := yl _ (key _ _ hx rfl (by simp))
          split
          · rename_i hw; subst hw; simp [GdOk, Region.wanted, hg, this, SV.den]
          · rename_i hw; cases want <;> simp_all [GdOk, Region.wanted, SV.den]
        · rename_i hx
          have := yl _ (key _ _ hx rfl (by simp))
          split
          · rename_i hw; subst hw; simp [GdOk, Region.wanted, hg, this, SV.den]
          · rename_i hw; cases want <;> simp_all [GdOk, Region.wanted, SV.den]
        · rename_i b hx
          have := key _ _ hx rfl (by simp)
          exact ⟨by rw [hx]; simp, by simp [Array.getD_eq_getD_getElem?, this, SV.den]⟩
        · rename_i b hx
          have := key _ _ hx rfl (by simp)
          exact ⟨by rw [hx]; simp, by simp [Array.getD_eq_getD_getElem?, this, SV.den]⟩
        · rename_i b hx
          have := yl _ (key _ _ hx rfl (by simp))
          simp [GdOk, Region.wanted, hg, this, SV.den]
        · trivial
      · trivial
    · trivial
end Go.Sy
namespace Go.Sy
open Go.RowKit
theorem noNo_den {fr : List SV} {res : List Res} {a : Act} (h : FrOk fr res a) (l : List Operand) (hn : ∀ x ∈ l, ev fr x ≠ .no) : l.map a.eval = SV.denL (l.map (ev fr)) := by
  rw [SV.denL_eq, List.map_map]
  exact List.map_congr_left fun x hx => ev_den h rfl (hn x hx)
theorem callee_run {P : Program} {T : Tbs} (hT : TbsOk P T) {fr : List SV} {res : List Res} {a : Act} (h : FrOk fr res a) {o : Oper} {c : Call} (ho : o.op = .call c) {k : FuncId} {args : List SV}
    (hc : calleeS fr c = some (k, args)) (hn : noNo args = true) (hk : T.lo ≤ k ∧ k < T.nf ∧ T.ex.all (fun e => !(e == k)) = true) (w : World) :
    (execOp a.eval o).run P w = .ok (.enter k (SV.denL args).toArray) w ∧ SV.goodL (blkAt res) args := by
  obtain ⟨fn, hf, hb, hname⟩ := hT.fns k hk
  obtain ⟨callee, cargs, ts⟩ := c
  have hfin : ∀ (first caps : List SV), args = first ++ (cargs.toList.map (ev fr) ++ caps) → ∀ x ∈ cargs.toList, ev fr x ≠ .no := fun first caps e x hx hno => by
    have := List.all_eq_true.1 hn (ev fr x) (by rw [e]; exact List.mem_append_right _ (List.mem_append_left _ (List.mem_map_of_mem hx)))
    rw [hno] at this
    cases this
  have hcf : ∀ asv : Array Value, (callFunc k asv).run P w = .ok (.enter k asv) w := fun asv => by
    have h1 : fn.name ≠ "runtime.NumGoroutine" := by simpa using hname
    have h2 : fn.body ≠ none := by rintro e; rw [e] at hb; cases hb
    simp [callFunc, hf, h1, h2]
  cases callee with
  | value f =>
    simp only [calleeS] at hc
    split at hc
    · rename_i k' first caps hfv
      cases hc
      have hd := noNo_den h cargs.toList (hfin _ _ rfl)
      refine ⟨?_, ?_⟩
      · have he : SV.denL (first.toList.map vaS ++ (cargs.toList.map (ev fr) ++ caps.toList.map vaS)) = first.toList ++ (cargs.toList.map a.eval ++ caps.toList) := by
          rw [hd]; simp [SV.denL_eq, vaS_den, Function.comp_def]
        rw [he]
        simp only [execOp, ho, resolve, Deferred.ofValue, ev_den h hfv (by simp), SV.den, invoke, Sem.run_bind, Sem.run_pure, Result.andThen_ok, hcf]
        exact congrArg (fun x => Result.ok (Next.enter k x) w) (Array.ext' (by simp))
      · refine (SV.goodL_iff _ _).2 fun y hy => ?_
        rcases List.mem_append.1 hy with hy | hy
        · obtain ⟨x, _, rfl⟩ := List.mem_map.1 hy; exact vaS_good _ _
        · rcases List.mem_append.1 hy with hy | hy
          · obtain ⟨x, _, rfl⟩ := List.mem_map.1 hy; exact ev_good h x
          · obtain ⟨x, _, rfl⟩ := List.mem_map.1 hy; exact vaS_good _ _
    · rename_i k' first caps hfv
      cases hc
      have hd := noNo_den h cargs.toList (hfin _ _ rfl)
      have hg := ev_good h f
      rw [hfv] at hg
      refine ⟨?_, ?_⟩
      · have he : SV.denL (first ++ (cargs.toList.map (ev fr) ++ caps)) = SV.denL first ++ (cargs.toList.map a.eval ++ SV.denL caps) := by
          rw [hd]; simp [SV.denL_eq]
        rw [he]
        simp only [execOp, ho, resolve, Deferred.ofValue, ev_den h hfv (by simp), SV.den, invoke, Sem.run_bind, Sem.run_pure, Result.andThen_ok, hcf]
        exact congrArg (fun x => Result.ok (Next.enter k x) w) (Array.ext' (by simp))
      · refine (SV.goodL_iff _ _).2 fun y hy => ?_
        rcases List.mem_append.1 hy with hy | hy
        · exact (SV.goodL_iff _ _).1 hg.1 y hy
        · rcases List.mem_append.1 hy with hy | hy
          · obtain ⟨x, _, rfl⟩ := List.mem_map.1 hy; exact ev_good h x
          · exact (SV.goodL_iff _ _).1 hg.2 y hy
    · cases hc
  | builtin b => cases hc
  | invoke r m => cases hc
theorem put_frame (fr : List SV) (res : List Res) (ro : List Asn) (d : Option Tmp) (x : SV) : (⟨putF fr d x, res, ro⟩ : St) = St.put ⟨fr, res, ro⟩ d x := by cases d <;> rfl
theorem Go.step {P : Program} {E : Entry} {ops : Array Oper} {o : Oper} {l : List Oper} {r : List It} {st : St} {Q : Exit → St → Prop}
    (h : ∀ a w, R E st a w → Region.wanted o (yielded ops a.tmps) = true ∧ o.wp P a w (wpList P ops (post P r (Fin Q E)) l) (post P r (Fin Q E))) : Go P E (.o ops (o :: l) :: r) st Q :=
  fun a w hR => wpList_run (h a w hR).1 (h a w hR).2
theorem call_wp {P : Program} {E : Entry} {st : St} {a : Act} {w : World} (hR : R E st a w) {k : FuncId} {args : List SV} {o : Oper} (hrun : (execOp a.eval o).run P w = .ok (.enter k (SV.denL args).toArray) w)
    (hg : SV.goodL (blkAt st.res) args) {K : SV → St → Prop} (h : CallEv P E k args st K) {next : Act → World → Prop} {Q : Exit → Act → World → Prop}
    (hK : ∀ sv st', K sv st' → ∀ a' w', R E (st'.put o.dst sv) a' w' → next a' w') : o.wp P a w next Q := by
  unfold Oper.wp
  rw [hrun]
  simp only [Oper.upon]
  obtain ⟨hs, hi, hres⟩ := hR.res
  refine (h w hs hi hres hg).mono fun e w' he => ?_
  obtain ⟨sv, st', rfl, hgood, hfr, hblk, hres', hk⟩ := he
  have hR' : R E st' a w' := ⟨by rw [hfr]; exact hR.fr.mono hblk, hres'⟩
  exact hK sv st' hk _ _ (hR'.put o.dst (SV.is_den sv) hgood)
theorem ask_put {fr : List SV} {res : List Res} {a : Act} (hF : FrOk fr res a) {d : Tmp} {b : Bool} (hd : fr[d]? ≠ none) (hv : a.tmps.getD d undef = .bool b) : FrOk (fr.set d (.bl b)) res a := by
  have hlt : d < fr.length := by
    cases e : fr[d]? with
    | none => exact absurd e hd
    | some x => exact (List.getElem?_eq_some_iff.1 e).1
  refine ⟨by simpa using hF.size, fun t x hx => ?_, fun x hx => ?_, hF.defers⟩
  · rw [List.getElem?_set] at hx
    split at hx
    · rename_i e; subst e
      first
        | (cases hx; exact hv)
        | (split at hx
           · cases hx; exact hv
           · cases hx)
    · exact hF.is t x hx
  · rcases List.mem_or_eq_of_mem_set hx with hx | hx
    · exact hF.good x hx
    · subst hx; trivial
theorem heldOk_mem : ∀ {held : List (Nat × Res)} {res : List Res}, heldOk held res → ∀ p ∈ held, res[p.1]? = some p.2 := by
  intro held
  induction held with
  | nil => intro res _ p hp; cases hp
  | cons q held ih =>
    obtain ⟨i, x⟩ := q
    intro res h p hp
    rcases List.mem_cons.1 hp with rfl | hp
    · exact h.1
    · exact ih h.2 p hp
theorem heldW_of {held : List (Nat × Res)} {res : List Res} (h : heldOk held res) {E : Entry} {ro : List Asn} {w : World} {hs : Nat → Hp} {hi : Hp} (hR : ResOk E res ro w hs hi) : HeldW held ro w :=
  ⟨fun p hp => p.2.asn.mono (hR.le p.1) (hR.holds p.1 p.2 (heldOk_mem h p hp)), fun A hA => A.mono hR.rle (hR.rholds A hA)⟩
theorem heldB_mem : ∀ {held : List (Nat × Res)} {i : Nat}, heldB held i = true → ∃ x, (i, x) ∈ held := by
  intro held
  induction held with
  | nil => intro i h; cases h
  | cons q held ih =>
    obtain ⟨j, x⟩ := q
    intro i h
    simp only [heldB] at h
    split at h
    · rename_i e; subst e; exact ⟨x, List.mem_cons_self ..⟩
    · obtain ⟨y, hy⟩ := ih h; exact ⟨y, List.mem_cons_of_mem _ hy⟩
theorem heldGo_get (held : List (Nat × Res)) : ∀ (res : List Res) (k i : Nat), (heldOf.go held k res)[i]? = (res[i]?).map fun x => if heldB held (k + i) = true then x else .dead x.blk := by
  intro res
  induction res with
  | nil => intro k i; rfl
  | cons x res ih =>
    intro k i
    cases i with
    | zero => rfl
    | succ i =>
      simp only [heldOf.go, List.getElem?_cons_succ, ih]
      rw [show k + 1 + i = k + (i + 1) by omega]
theorem heldOf_blk (held : List (Nat × Res)) (res : List Res) : blkAt (heldOf held res) = blkAt res := by
  funext r
  unfold blkAt heldOf
  rw [heldGo_get]
  cases res[r]? with
  | none => rfl
  | some x => dsimp only [Option.map_some]; split <;> rfl
theorem heldOf_boxW {held : List (Nat × Res)} {res : List Res} (h : heldOk held res) {ro : List Asn} {w : World} (hw : HeldW held ro w) : BoxW (heldOf held res) w := fun r b t cs e => by
  unfold heldOf at e
  rw [heldGo_get] at e
  cases hx : res[r]? with
  | none => rw [hx] at e; cases e
  | some x =>
    rw [hx] at e
    simp only [Option.map_some, Nat.zero_add, Option.some.injEq] at e
    split at e
    · rename_i hb
      obtain ⟨y, hy⟩ := heldB_mem hb
      have := heldOk_mem h _ hy
      rw [hx] at this
      cases this
      subst e
      exact (hw.1 _ hy).1
    · cases e
theorem heldOf_good {held : List (Nat × Res)} {res : List Res} (h : resGood res) : resGood (heldOf held res) := fun x hx => by
  obtain ⟨i, hi⟩ := List.mem_iff_getElem?.1 hx
  unfold heldOf at hi
  rw [heldGo_get] at hi
  cases hy : res[i]? with
  | none => rw [hy] at hi; cases hi
  | some y =>
    rw [hy] at hi
    simp only [Option.map_some, Option.some.injEq] at hi
    split at hi
    · subst hi
      rw [heldOf_blk]
      exact h y (List.mem_of_getElem? hy)
    · subst hi; trivial
theorem takeOk_spec {ops : Array Oper} {full : Bool} {listed : Array Bool} {i : Nat} (h : takeOk ops full listed i = true) : i ∈ Region.ready .any ops listed ∧ Region.free .any ops listed i = true ∧
    (full = true ∨ ∃ z oz, ops[z]? = some oz ∧ listed.getD z true = false ∧ ∃ e ∈ oz.after, Region.binds .any e = true ∧ e.on = i) := by
  unfold takeOk at h
  simp only [Bool.and_eq_true, Bool.or_eq_true] at h
  obtain ⟨⟨h1, h2⟩, h3⟩ := h
  refine ⟨by simpa using h1, h2, ?_⟩
  rcases h3 with h3 | h3
  · exact .inl h3
  · right
    obtain ⟨z, _, hz⟩ := List.any_eq_true.1 h3
    simp only [Bool.and_eq_true, Bool.not_eq_true'] at hz
    obtain ⟨hz1, hz2⟩ := hz
    split at hz2
    · rename_i oz hoz
      obtain ⟨e, he, hb⟩ := Array.any_eq_true'.1 hz2
      simp only [Bool.and_eq_true, beq_iff_eq] at hb
      exact ⟨z, oz, hoz, hz1, e, he, hb.1, hb.2⟩
    · cases hz2
theorem planOk_noSelect {ops : Array Oper} {full : Bool} : ∀ {plan : List (Nat × Bool)} {listed : List Bool}, planOk ops full plan listed = true → Region.noSelect ops = true := by
  intro plan
  induction plan with
  | nil => intro listed h; simp only [planOk, Bool.and_eq_true] at h; exact h.1.2
  | cons x plan ih =>
    obtain ⟨i, b⟩ := x
    intro listed h
    simp only [planOk] at h
    cases hb : (!b && decide (ops.size ≤ i)) with
    | true => rw [hb] at h; exact h
    | false => rw [hb] at h; simp only [cond_false, Bool.and_eq_true] at h; exact ih h.2
theorem wp_post {P : Program} {o : Oper} {a : Act} {w : World} {next : Act → World → Prop} {Q Q' : Exit → Act → World → Prop} (hp : ∀ c a w, Q (.panic c) a w → Q' (.panic c) a w) (ho : LetsOut Q → LetsOut Q') (h : o.wp P a w next Q) : o.wp P a w next Q' := by
  unfold Oper.wp at *
  generalize (execOp a.eval o).run P w = r at *
  cases r with
  | ok n w' =>
    cases n <;> simp only [Oper.upon] at h ⊢
    case enter f args =>
      exact Calls.mono h (fun e w'' he => by cases e <;> first | exact he | exact hp _ _ _ he | exact ho he)
    all_goals exact h
  | halt x w' =>
    cases x <;> simp only [Oper.upon] at h ⊢
    case panic v => exact hp _ _ _ h
theorem wpOp_of_list {P : Program} {ops : Array Oper} {Q Q' : Exit → Act → World → Prop} {i : Nat} {o : Oper} (ho : ops[i]? = some o) {a : Act} {w : World} (hp : ∀ c a w, Q (.panic c) a w → Q' (.panic c) a w) (hl : LetsOut Q → LetsOut Q')
    (h : wpList P ops Q [o] a w) : wpOp P ops Q' i (fun a w => Q .normal a w) a w := by
  unfold wpOp
  simp only [ho]
  unfold wpList at h
  split
  · rename_i hw
    rw [if_pos hw] at h
    rcases h with h | ⟨h1, h2⟩
    · exact .inl (wp_post hp hl (Oper.wp_mono (fun a w h => h) h))
    · exact .inr ⟨h1, hl h2⟩
  · rename_i hw
    rw [if_neg hw] at h
    exact h
theorem runD_ok {P : Program} {T : Tbs} (hT : TbsOk P T) {E : Entry} {Q : Exit → St → Prop} {ops : Array Oper} {full : Bool} {held : List (Nat × Res)} {res : List Res} {ro : List Asn} {r : List It} {K : List (Nat × Bool) → List Bool → List SV → Out}
    (hh : heldOk held res)
    (hK : ∀ plan listed fr, planOk ops full plan listed = true → (plan = [] ∨ ∃ i p, plan = (i, false) :: p) → outSat P E Q (K plan listed fr) → Go P E (.d ops full held ro plan listed :: r) ⟨fr, res, ro⟩ Q) :
    ∀ (plan : List (Nat × Bool)) (listed : List Bool) (fr : List SV), planOk ops full plan listed = true → outSat P E Q (runD T ops full held ro res ro r K plan listed fr) → Go P E (.d ops full held ro plan listed :: r) ⟨fr, res, ro⟩ Q := by
  intro plan
  induction plan with
  | nil => intro listed fr hp h; exact hK [] listed fr hp (.inl rfl) h
  | cons x p ih =>
    obtain ⟨i, b⟩ := x
    intro listed fr hp h
    cases b with
    | false => exact hK _ listed fr hp (.inr ⟨i, p, rfl⟩) h
    | true =>
      have hns := planOk_noSelect hp
      have hp' : takeOk ops full listed.toArray i = true ∧ i < ops.size ∧ planOk ops full p (listed.set i true) = true := by
        simp only [planOk, Bool.not_true, Bool.false_and, cond_false, if_true, Bool.and_eq_true, decide_eq_true_eq] at hp
        exact ⟨hp.1.1, hp.1.2, hp.2⟩
      obtain ⟨hready, hfree, hz⟩ := takeOk_spec hp'.1
      simp only [runD] at h
      split at h
      · exact h
      · rename_i o ho
        have ho' : ops[i]? = some o := by simpa using ho
        have take : ∀ (v : Value) (fr' : List SV) (a : Act) (w : World), R E ⟨fr, res, ro⟩ a w → YieldsIf P ops (HeldW held ro) o v a → R E ⟨fr', res, ro⟩ (a.put o.dst v) w →
            Go P E (.d ops full held ro p (listed.set i true) :: r) ⟨fr', res, ro⟩ Q → post P (.d ops full held ro ((i, true) :: p) listed :: r) (Fin Q E) .normal a w := fun v fr' a w hR hy hR' hgo => by
          obtain ⟨hs, hi', hres⟩ := hR.res
          have hW := heldW_of hh hres
          refine ⟨fun _ => hW, ?_⟩
          refine wpD_take ho' (Region.noSelect_spec hns) (fun c a w hq => by rw [post_panic] at hq ⊢; exact hq) p.length listed.toArray a w (Region.free_spec ho' hfree) hready hy hW hz ?_
          have h1 := (hgo _ w hR').2
          rwa [← List.setIfInBounds_toArray] at h1
        split at h
        · exact h
        · rename_i hg
          rw [forceL_eq] at h
          have hgo := ih (listed.set i true) _ hp'.2.2 h
          intro a w hR
          have h1 := guard_spec hR.fr (ops := ops) o
          rw [hg] at h1
          refine take undef _ a w hR (.inr ⟨h1, rfl⟩) ?_ hgo
          rw [put_frame]
          exact hR.put o.dst (x := .va (.tuple #[])) rfl trivial
        · rename_i b d hg
          rw [forceL_eq, forceL_eq] at h
          intro a w hR
          have h1 := guard_spec hR.fr (ops := ops) o
          rw [hg] at h1
          have hR' : R E ⟨fr.set d (.bl b), res, ro⟩ a w := ⟨ask_put hR.fr h1.1 h1.2, hR.res⟩
          cases b
          · exact h.2 rfl a w hR'
          · exact h.1 rfl a w hR'
        · rename_i hg
          have hw : ∀ a w, R E ⟨fr, res, ro⟩ a w → Region.wanted o (yielded ops a.tmps) = true := fun a w hR => by
            have h1 := guard_spec hR.fr (ops := ops) o
            rw [hg] at h1
            exact h1
          have hs := stepOp_ok hT.tab o ⟨fr, heldOf held res, ro⟩
          have hfr : ∀ a w, R E ⟨fr, res, ro⟩ a w → FrOk fr (heldOf held res) a := fun a w hR => hR.fr.mono fun r b e => by rw [heldOf_blk]; exact e
          split at h
          · exact h
          · rename_i x hno hx
            rw [hx] at hs
            rw [forceV_eq, forceL_eq] at h
            have hgo := ih (listed.set i true) _ hp'.2.2 h
            intro a w hR
            obtain ⟨hs', hi', hres⟩ := hR.res
            obtain ⟨v, hrun, his⟩ := hs.1 a w (hfr a w hR) (heldOf_boxW hh (heldW_of hh hres))
            refine take v _ a w hR (.inl ⟨hw a w hR, fun w' hW' => ?_⟩) ?_ hgo
            · obtain ⟨v', hrun', his'⟩ := hs.1 a w' (hfr a w hR) (heldOf_boxW hh hW')
              rw [hrun', SV.den_of_is his' hno, SV.den_of_is his hno]
            · rw [put_frame]
              refine hR.put o.dst his ?_
              have := hs.2 a (hfr a w hR) (heldOf_good hres.good)
              rw [heldOf_blk] at this
              exact this
          · rename_i k e hx
            rw [hx] at hs
            simp only [outSat] at h
            rw [forceL_eq] at h
            have hgo := ih (listed.set i true) _ hp'.2.2 h
            intro a w hR
            refine take (.int k (k.wrap e)) _ a w hR (.inl ⟨hw a w hR, fun w' _ => hs a w' (hfr a w hR)⟩) ?_ hgo
            rw [put_frame]
            exact hR.put o.dst (x := .va (.int k (k.wrap e))) rfl trivial
          · exact h
theorem run_ok {P : Program} {T : Tbs} (hT : TbsOk P T) {E : Entry} {Q : Exit → St → Prop} : ∀ (n : Nat) (todo : List It) (st : St), outSat P E Q (run T n todo st) → Go P E todo st Q := by
  intro n
  induction n with
  | zero => intro todo ⟨fr, res, ro⟩ h; exact h
  | succ n ih =>
    intro todo st h
    obtain ⟨fr, res, ro⟩ := st
    cases todo with
    | nil => intro a w hR; exact ⟨_, h, hR⟩
    | cons x r =>
      cases x with
      | k id => exact ih r _ h
      | d ops full held ro0 plan listed =>
        have gen : outSat P E Q (.need ((heldOk held res ∧ ro0 = ro) ∧ planOk ops full plan listed = true) (runD T ops full held ro0 res ro r (fun plan listed fr => match plan with
            | [] => run T n r ⟨fr, res, ro⟩
            | (i, b) :: p => match ops.toList[i]? with
              | some o => run T n (.o ops [o] :: .d ops full held ro0 p (listed.set i true) :: r) ⟨fr, res, ro⟩
              | none => .stop (.d ops full held ro0 ((i, b) :: p) listed :: r) ⟨fr, res, ro⟩) plan listed fr)) → Go P E (.d ops full held ro0 plan listed :: r) ⟨fr, res, ro⟩ Q := fun h => by
          obtain ⟨⟨⟨hh, hro⟩, hp⟩, h⟩ := h
          subst hro
          refine runD_ok hT hh (fun plan listed fr hp hpl h => ?_) plan listed fr hp h
          rcases hpl with rfl | ⟨i, p, rfl⟩
          · have hgo := ih r _ h
            intro a w hR
            obtain ⟨hs, hi, hres⟩ := hR.res
            simp only [planOk, Bool.and_eq_true, List.isEmpty_iff] at hp
            exact ⟨fun _ => heldW_of hh hres, hp.1.1, hgo a w hR⟩
          · simp only at h
            split at h
            · rename_i o ho
              have ho' : ops[i]? = some o := by simpa using ho
              have hgo := ih _ _ h
              have hlt : i < ops.size := (Array.getElem?_eq_some_iff.1 ho').1
              simp only [planOk, show decide (ops.size ≤ i) = false from decide_eq_false (by omega), Bool.and_false, cond_false, Bool.and_eq_true, Bool.false_eq_true, if_false, beq_iff_eq, decide_eq_true_eq] at hp
              intro a w hR
              obtain ⟨hs, hi, hres⟩ := hR.res
              refine ⟨fun _ => heldW_of hh hres, ?_⟩
              show wpD P ops (post P r (Fin Q E)) (HeldW held ro0) full (p.length + 1) listed.toArray a w
              refine ⟨(fun h0 => by (rw [hp.1.1] at h0; cases h0)), fun j hj => ?_⟩
              rw [hp.1.1] at hj
              simp at hj
              subst hj
              have h1 := hgo a w hR
              refine wpOp_mono (fun a' w' h2 => ?_) (wpOp_of_list (Q := post P (.d ops full held ro0 p (listed.set j true) :: r) (Fin Q E)) (Q' := post P r (Fin Q E)) ho' (fun c a w hq => hq) (fun hl => hl) h1)
              rw [List.setIfInBounds_toArray]
              exact h2
            · exact h
        cases plan with
        | cons x p => cases full <;> exact gen h
        | nil =>
          cases full with
          | true => exact gen h
          | false =>
            obtain ⟨hp, h⟩ := h
            have hgo := ih r _ h
            intro a w hR
            simp only [planOk, Bool.and_eq_true, List.isEmpty_iff, beq_iff_eq] at hp
            refine ⟨fun hn => ?_, hp.1.1, hgo a w hR⟩
            rcases hn with hn | ⟨k, hk, hl⟩
            · cases hn
            · have h1 : k < listed.length := by rw [hp.2.2]; exact hk
              have h2 := List.all_eq_true.1 hp.2.1 listed[k] (List.getElem_mem h1)
              simp [Array.getD_eq_getD_getElem?, List.getElem?_eq_getElem h1, h2] at hl
      | c code =>
        cases code with
        | skip => intro a w hR; exact wp_skip (ih r _ h a w hR)
        | label id => intro a w hR; exact wp_label (ih r _ h a w hR)
        | seq x y =>
          intro a w hR
          refine wp_seq (Code.wp_mono (Q := post P (.c y :: r) (Fin Q E)) (fun e a w hq => ?_) (ih _ _ h a w hR))
          cases e <;> exact hq
        | block id b =>
          intro a w hR
          refine wp_block (Code.wp_mono (fun e a w hq => ?_) (ih _ _ h a w hR))
          cases e with
          | exit j =>
            simp only [post] at hq
            simp only [Exit.inBlock]
            split at hq
            · rename_i e; subst e; simpa using hq
            · rename_i e; simpa [e, Ne.symm e] using hq
          | _ => exact hq
        | region id ops b =>
          cases b with
          | true => exact h
          | false =>
            intro a w hR
            exact wp_region_list (ih _ _ h a w hR)
        | cond c x y =>
          simp only [run] at h
          split at h
          · rename_i hc
            intro a w hR
            exact wp_cond (t := true) (ev_den hR.fr hc (by simp)) (ih _ _ h a w hR)
          · rename_i hc
            intro a w hR
            exact wp_cond (t := false) (ev_den hR.fr hc (by simp)) (ih _ _ h a w hR)
          · rename_i b hc
            intro a w hR
            refine wp_cond (t := b) (ev_den hR.fr hc (by simp)) ?_
            cases b
            · exact h.2 rfl a w hR
            · exact h.1 rfl a w hR
          · rename_i b hc
            intro a w hR
            refine wp_cond (t := b) (ev_den hR.fr hc (by simp)) ?_
            cases b
            · exact h.2 rfl a w hR
            · exact h.1 rfl a w hR
          · exact h
        | exit id =>
          simp only [run] at h
          split at h
          · rename_i r' hp
            intro a w hR
            refine wp_exit ?_
            show post P r (Fin Q E) (.exit id) a w
            rw [post_pop hp]
            exact ih _ _ h a w hR
          · rename_i hp
            intro a w hR
            refine wp_exit ?_
            show post P r (Fin Q E) (.exit id) a w
            rw [post_exit hp]
            exact ⟨_, h, hR⟩
        | ret =>
          intro a w hR
          refine wp_ret ?_
          show post P r (Fin Q E) .ret a w
          rw [post_ret]
          exact ⟨_, h, hR⟩
        | _ => exact h
      | o ops l =>
        cases l with
        | nil => intro a w hR; exact ih r _ h a w hR
        | cons o l =>
          simp only [run] at h
          split at h
          · exact h
          · rename_i hg
            rw [forceL_eq, put_frame] at h
            intro a w hR
            have h1 := guard_spec hR.fr (ops := ops) o
            rw [hg] at h1
            refine wpList_skip h1 (ih _ _ h _ w ?_)
            exact hR.put o.dst (x := .va (.tuple #[])) rfl trivial
          · rename_i b d hg
            intro a w hR
            have h1 := guard_spec hR.fr (ops := ops) o
            rw [hg] at h1
            rw [forceL_eq, forceL_eq] at h
            obtain ⟨hd, hv⟩ := h1
            have hlt : d < fr.length := by
              cases e : fr[d]? with
              | none => exact absurd e hd
              | some x => exact (List.getElem?_eq_some_iff.1 e).1
            have hput : a.put (some d) (.bool b) = a := by
              unfold Act.put
              have hlt' : d < a.tmps.size := by rw [hR.fr.size]; exact hlt
              have he : a.tmps[d] = .bool b := by simpa [Array.getD_eq_getD_getElem?, Array.getElem?_eq_getElem hlt'] using hv
              simp only
              congr 1
              apply Array.ext
              · simp
              · intro i h1 h2
                rw [Array.getElem_setIfInBounds]
                split
                · rename_i e; subst e; exact he.symm
                · rfl
            have hR' : R E (St.put ⟨fr, res, ro⟩ (some d) (.bl b)) a w := by
              have := hR.put (some d) (x := .bl b) (v := .bool b) rfl trivial
              rw [hput] at this
              exact this
            cases b
            · exact h.2 rfl a w hR'
            · exact h.1 rfl a w hR'
          · rename_i hg
            have hw : ∀ a w, R E ⟨fr, res, ro⟩ a w → Region.wanted o (yielded ops a.tmps) = true := fun a w hR => by
              have h1 := guard_spec hR.fr (ops := ops) o
              rw [hg] at h1
              exact h1
            have hs := stepOp_ok hT.tab o ⟨fr, res, ro⟩
            split at h
            · rename_i x hx
              rw [hx] at hs
              rw [forceV_eq, forceL_eq, put_frame] at h
              refine Go.step fun a w hR => ⟨hw a w hR, ?_⟩
              obtain ⟨hs', hi', hres⟩ := hR.res
              obtain ⟨v, hrun, his⟩ := hs.1 a w hR.fr hres.boxW
              exact wp_value hrun (ih _ _ h _ _ (hR.put o.dst his (hs.2 a hR.fr hres.good)))
            · rename_i k e hx
              rw [hx] at hs
              simp only [outSat] at h
              rw [forceL_eq, put_frame] at h
              refine Go.step fun a w hR => ⟨hw a w hR, ?_⟩
              exact wp_value (hs a w hR.fr) (ih _ _ h _ _ (hR.put o.dst (x := .va (.int k (k.wrap e))) rfl trivial))
            · rename_i res' hx
              rw [hx] at hs
              rw [forceR_eq, forceL_eq, put_frame] at h
              refine Go.step fun a w hR => ⟨hw a w hR, ?_⟩
              obtain ⟨w', hrun, hres, hblk⟩ := hs E a w hR
              refine wp_skip' hrun (ih _ _ h _ _ ?_)
              have hR' : R E ⟨fr, res', ro⟩ a w' := ⟨hR.fr.mono fun r b e => by rw [hblk]; exact e, hres⟩
              exact hR'.put o.dst (x := .va (.tuple #[])) rfl trivial
            · rename_i t cells len hx
              rw [hx] at hs
              rw [forceLV_eq] at h
              simp only [outSat] at h
              refine Go.step fun a w hR => ⟨hw a w hR, ?_⟩
              obtain ⟨w', b, hrun, hres⟩ := hs E a w hR
              have h := h b
              rw [forceR_eq, lenK_eq, forceV_eq, forceL_eq, put_frame] at h
              refine wp_value hrun (ih _ _ h _ _ ?_)
              have hR' : R E ⟨fr, res ++ [.box b t cells], ro⟩ a w' := ⟨hR.fr.mono (blkAt_append _ _), hres⟩
              have hb : blkAt (res ++ [.box b t cells]) res.length = some b := by simp [blkAt, Res.blk]
              refine hR'.put o.dst ?_ ?_
              · cases len <;> rfl
              · cases len <;> exact hb
            · rename_i hx
              split at h
              · rename_i c hc
                split at h
                · rename_i k args hk
                  split at h
                  · rename_i hn
                    split at h
                    · rename_i hlt
                      rw [forceLV_eq] at h
                      refine Go.step fun a w hR => ⟨hw a w hR, ?_⟩
                      obtain ⟨hrun, hgood⟩ := callee_run hT hR.fr hc hk hn hlt w
                      exact call_wp hR hrun hgood h fun sv st' hk a' w' hR' => hk a' w' hR'
                    · exact h
                  · exact h
                · exact h
              · exact h
end Go.Sy
namespace Go.Sy
open Go.RowKit
def fnOk (P : Program) (f : Nat) : Bool := match P.funcs[f]? with | some fn => fn.body.isSome && !(fn.name == "runtime.NumGoroutine") | none => false
theorem fns_of {P : Program} {lo n : Nat} {ex : List Nat} (h : (List.range' lo (n - lo)).all (fun f => fnOk P f || ex.any (fun e => e == f)) = true) : ∀ f, lo ≤ f ∧ f < n ∧ ex.all (fun e => !(e == f)) = true → ∃ fn, P.funcs[f]? = some fn ∧ fn.body.isSome = true ∧ (fn.name == "runtime.NumGoroutine") = false := fun f hf => by
  have := List.all_eq_true.1 h f (List.mem_range'_1.2 (by omega))
  have h2 : ex.any (fun e => e == f) = false := by
    cases hb : ex.any (fun e => e == f)
    · rfl
    · obtain ⟨x, hx, he⟩ := List.any_eq_true.1 hb
      have := List.all_eq_true.1 hf.2.2 x hx
      rw [he] at this
      cases this
  rw [h2, Bool.or_false] at this
  unfold fnOk at this
  split at this
  · rename_i fn e; exact ⟨fn, e, by simpa using this⟩
  · cases this
def forceA : List Asn → (List Asn → Out) → Out
  | [], k => k []
  | x :: l, k => forceA l fun l => k (x :: l)
theorem forceA_eq : ∀ (l : List Asn) (k : List Asn → Out), forceA l k = k l
  | [], _ => rfl
  | _ :: l, _ => forceA_eq l _
def SV.isNo : SV → Bool
  | .no => true
  | _ => false
theorem ev_denv {fr : List SV} {res : List Res} {a : Act} (h : FrOk fr res a) {x : Operand} {y : SV} (e : ev fr x = y) (hu : y.isNo = false) : a.eval x = y.den :=
  ev_den h e (fun e => by subst e; cases hu)
def start (T : Tbs) (n : Nat) (todo : List It) : St → Out
  | ⟨fr, res, ro⟩ => forceLV fr fun fr => forceR res fun res => forceA ro fun ro => run T n todo ⟨fr, res, ro⟩
theorem go {P : Program} {T : Tbs} (hT : TbsOk P T) (n : Nat) {E : Entry} {todo : List It} {st : St} {Q : Exit → St → Prop} (h : outSat P E Q (start T n todo st)) : Go P E todo st Q := by
  obtain ⟨fr, res, ro⟩ := st
  simp only [start] at h
  rw [forceLV_eq, forceR_eq, forceA_eq] at h
  exact run_ok hT n todo _ h
section
variable {P : Program} {E : Entry} {Q : Exit → St → Prop}
theorem ev_if {b : Bool} {t1 t2 : List It} {s1 s2 : St} (h1 : b = true → Go P E t1 s1 Q) (h2 : b = false → Go P E t2 s2 Q) : outSat P E Q (.iff b t1 s1 t2 s2) := ⟨h1, h2⟩
theorem ev_if_lt {p : Prop} [Decidable p] {t1 t2 : List It} {s1 s2 : St} (h1 : p → Go P E t1 s1 Q) (h2 : ¬ p → Go P E t2 s2 Q) : outSat P E Q (.iff (decide p) t1 s1 t2 s2) :=
  ⟨fun h => h1 (of_decide_eq_true h), fun h => h2 (of_decide_eq_false h)⟩
theorem ev_if_eq {x y : Int} {t1 t2 : List It} {s1 s2 : St} (h1 : x = y → Go P E t1 s1 Q) (h2 : x ≠ y → Go P E t2 s2 Q) : outSat P E Q (.iff (x == y) t1 s1 t2 s2) :=
  ⟨fun h => h1 (by simpa using h), fun h => h2 (by simpa using h)⟩
theorem ev_if_ne {x y : Int} {t1 t2 : List It} {s1 s2 : St} (h1 : x ≠ y → Go P E t1 s1 Q) (h2 : x = y → Go P E t2 s2 Q) : outSat P E Q (.iff (!(x == y)) t1 s1 t2 s2) :=
  ⟨fun h => h1 (by simpa using h), fun h => h2 (by simpa using h)⟩
theorem ev_if_yes {b : Bool} {t1 t2 : List It} {s1 s2 : St} (h : b = true) (h1 : Go P E t1 s1 Q) : outSat P E Q (.iff b t1 s1 t2 s2) := ⟨fun _ => h1, fun e => by rw [h] at e; cases e⟩
theorem ev_if_no {b : Bool} {t1 t2 : List It} {s1 s2 : St} (h : b = false) (h2 : Go P E t2 s2 Q) : outSat P E Q (.iff b t1 s1 t2 s2) := ⟨fun e => by (rw [h] at e; cases e), fun _ => h2⟩
theorem ev_new {k : Nat → Out} (h : ∀ b, outSat P E Q (k b)) : outSat P E Q (.new k) := h
theorem ev_wrap {k : IntKind} {e z : Int} {c : Int → Out} (hz : k.wrap e = z) (h : outSat P E Q (c z)) : outSat P E Q (.wrap k e c) := by subst hz; exact h
theorem wrap64 {e : Int} (h : -9223372036854775808 ≤ e ∧ e ≤ 9223372036854775807) : IntKind.i64.wrap e = e := by
  rw [IntKind.wrap_i64]; omega
theorem ev_w64 {e : Int} {c : Int → Out} (hz : -9223372036854775808 ≤ e ∧ e ≤ 9223372036854775807) (h : outSat P E Q (c e)) : outSat P E Q (.wrap .i64 e c) := ev_wrap (wrap64 hz) h
theorem ev_fin {e : Exit} {st : St} (h : Q e st) : outSat P E Q (.fin e st) := h
theorem ev_stop {todo : List It} {st : St} (h : Go P E todo st Q) : outSat P E Q (.stop todo st) := h
end
/-! results -/
def retS (T : Tab) (st : St) : List ResultVar → Option (List SV)
  | [] => some []
  | .tmp t :: l => match st.fr[t]?, retS T st l with
    | some .no, _ => none
    | some x, some r => some (x :: r)
    | _, _ => none
  | .cell a t :: l => match st.fr[a]?, te T t with
    | some (.pt r _ off), some e => (match boxAt st.res r with
      | some (_, cs) => (match loadS e cs off, retS T st l with
        | some x, some r => some (x :: r)
        | _, _ => none)
      | none => none)
    | _, _ => none
def retV : List SV → Value
  | [x] => x.den
  | l => .tuple (SV.denL l).toArray
def resF (tmps : Array Value) (r : ResultVar) : Sem Value := match r with
  | .tmp t => pure (tmps.getD t undef)
  | .cell a t => do loadVar t (← asAddr (tmps.getD a undef))
theorem retS_ok {P : Program} {T : Tab} (hT : TabOk P T) {E : Entry} {st : St} {a : Act} {w : World} (h : R E st a w) : ∀ (l : List ResultVar) {svs : List SV}, retS T st l = some svs →
    (l.mapM (resF a.tmps)).run P w = .ok (SV.denL svs) w := by
  intro l
  induction l with
  | nil => intro svs hs; simp only [retS] at hs; cases hs; rfl
  | cons x l ih =>
    intro svs hs
    cases x with
    | tmp t =>
      simp only [retS] at hs
      split at hs
      · cases hs
      · rename_i x r hno hx hr
        cases hs
        have h1 := SV.den_of_is (h.fr.is t x hx) hno
        simp only [List.mapM_cons, Sem.run_bind, resF, Sem.run_pure, Result.andThen_ok, h1]
        rw [ih hr]; rfl
      · cases hs
    | cell ad t =>
      simp only [retS] at hs
      split at hs
      · rename_i r b off e hx ht
        split at hs
        · rename_i t' cs hb
          obtain ⟨b', hb⟩ := boxAt_spec hb
          split at hs
          · rename_i x r' hx' hr
            cases hs
            have h1 := SV.den_of_is (h.fr.is ad _ hx) (by simp)
            obtain ⟨hs', hi, hR⟩ := h.res
            have hg := h.fr.good _ (List.mem_of_getElem? hx)
            have : b' = b := by simpa [SV.good, blkAt, hb, Res.blk] using hg
            subst this
            have hw : w.heap[b']? = some (.cells (SV.denL cs).toArray t' (0, 0)) := hR.le r b' _ (hR.holds r _ hb).1
            simp only [List.mapM_cons, Sem.run_bind, resF, Sem.run_pure, Result.andThen_ok, h1, SV.den, asAddr, loadS_ok hT ht hw hx']
            rw [ih hr]; rfl
          · cases hs
        · cases hs
      · cases hs
theorem results_ok {P : Program} {T : Tab} (hT : TabOk P T) {E : Entry} {st : St} {a : Act} {w : World} (h : R E st a w) {fn : Func} {svs : List SV} (hs : retS T st fn.results.toList = some svs) :
    (results fn a.tmps).run P w = .ok (retV svs) w := by
  have h1 := retS_ok hT h fn.results.toList hs
  show (do let vs ← fn.results.mapM (resF a.tmps); pure (if h : vs.size = 1 then vs[0] else .tuple vs) : Sem Value).run P w = _
  rw [Array.mapM_eq_mapM_toList]
  simp only [Sem.run_bind, Sem.run_map, h1]
  simp only [Result.andThen_ok, Sem.run_pure]
  congr 1
  match svs with
  | [] => rfl
  | [x] => rfl
  | x :: y :: l => simp [retV, SV.denL]
/-- what is held, regrouped -/
def Frm (res : List Res) (l : List Asn) : Prop := ∀ hs : Nat → Hp, (∀ i j, i ≠ j → (hs i).dis (hs j)) → (∀ (i : Nat) (x : Res), res[i]? = some x → x.asn.holds (hs i)) →
  ∀ k : Hp, (∀ i, (hs i).le k) → ∃ h', Asn.starH l h' ∧ h'.le k ∧ ∀ b, h' b ≠ none → ∃ i, i < res.length ∧ hs i b ≠ none
def Ends (T : Tab) (fn : Func) (X : Type) (ret : X → Value) (good : X → Prop) (post : X → List Asn) : Exit → St → Prop := fun e st =>
  (match e with | .normal => True | .ret => True | _ => False) ∧ ∃ svs, retS T st fn.results.toList = some svs ∧ ∃ x, retV svs = ret x ∧ good x ∧ Frm st.res (post x)
/-- A TRIPLE, SHOWN BY THE MACHINE. svs, res: the arguments and what is held, as the machine is to see them. -/
theorem triple_intro {P : Program} {T : Tbs} (hT : TbsOk P T) {f : FuncId} {fn : Func} {c : Code} (hf : P.funcs[f]? = some fn) (hb : fn.body = some c) (svs : List SV) (res : List Res) {N : List Asn} {X : Type} {ret : X → Value} {good : X → Prop} {post : X → List Asn}
    (hgood : SV.goodL (blkAt res) svs) (hno : noNo svs = true) (hcells : ∀ x ∈ res, match x with | .box _ _ cs => SV.goodL (blkAt res) cs | _ => True)
    (h : ∀ E, Go P E [.c c] ⟨svs ++ List.replicate (fn.ntmps - svs.length) (.va undef), res, N⟩ (Ends T.tab fn X ret good post)) :
    Triple P f (SV.denL svs) (res.map Res.asn) N X ret good post := by
  intro w hm hn hmw hnw hd hM hN
  obtain ⟨hs, h1, h2, h3⟩ := Asn.starH_split _ hM
  have hres : ResOk ⟨w, hm⟩ res N w (fun i => if i < res.length then hs i else Hp.emp) hn := by
    refine ⟨fun i => ?_, fun i j hij => ?_, fun i x hx => ?_, hnw, fun i => ?_, hN, Ext.refl _ _, fun i b hb => ?_, fun x hx => ?_⟩
    · split
      · exact (h1 i).trans hmw
      · exact Hp.emp_le _
    · split
      · split
        · exact h2 i j hij
        · exact Hp.dis_emp _
      · exact Hp.emp_dis _
    · have hlt := (List.getElem?_eq_some_iff.1 hx).1
      rw [if_pos hlt]
      exact h3 i _ (by rw [List.getElem?_map, hx]; rfl)
    · split
      · exact hd.mono (h1 i) (Hp.le_refl _)
      · exact Hp.emp_dis _
    · split at hb
      · left; intro e; exact hb (Hp.le_none (h1 i) e)
      · exact absurd rfl hb
    · have := hcells x hx
      cases x with
      | box b t cs =>
        refine ⟨this, fun y hy => ?_⟩
        obtain ⟨i, hi⟩ := List.mem_iff_getElem?.1 hx
        have h4 : (Res.asn (.box b t cs)).holds (hs i) := h3 i _ (by rw [List.getElem?_map, hi]; rfl)
        exact h4.2 _ (by rw [SV.denL_eq]; exact List.mem_map_of_mem hy)
      | fact A => trivial
      | dead b => trivial
  have hgo := h ⟨w, hm⟩
  refine calls_of_wp hf hb (Code.wp_mono (fun e a w' hq => ?_) (hgo { tmps := (SV.denL svs).toArray ++ Array.replicate (fn.ntmps - (SV.denL svs).toArray.size) undef, defers := [] } w ⟨⟨?_, ?_, ?_, rfl⟩, _, _, hres⟩))
  · have key : ∀ st, (∃ svs', retS T.tab st fn.results.toList = some svs' ∧ ∃ x, retV svs' = ret x ∧ good x ∧ Frm st.res (post x)) → R ⟨w, hm⟩ st a w' → a.defers = [] ∧ ∃ v, (results fn a.tmps).run P w' = .ok v w' ∧
        ∃ (x : X) (hm' : Hp), (Ending.returned v) = .returned (ret x) ∧ good x ∧ Asn.starH (post x) hm' ∧ hm'.le (hp w') ∧ Ext hm w w' ∧ (∀ b, hm' b ≠ none → hm b ≠ none ∨ w.heap.size ≤ b) := by
      rintro st ⟨svs', hsv, x, hx, hg, hfrm⟩ hR
      obtain ⟨hs', hi', hres'⟩ := hR.res
      obtain ⟨h', a1, a2, a3⟩ := hfrm hs' hres'.dis hres'.holds (hp w') hres'.le
      refine ⟨hR.fr.defers, _, results_ok hT.tab hR hsv, x, h', by rw [hx], hg, a1, a2, hres'.ext, fun b hb => ?_⟩
      obtain ⟨i, _, hi⟩ := a3 b hb
      exact hres'.old i b hi
    cases e with
    | normal => obtain ⟨st, ⟨_, hq⟩, hR⟩ := hq; exact key st hq hR
    | ret => obtain ⟨st, ⟨_, hq⟩, hR⟩ := hq; exact key st hq hR
    | exit id => obtain ⟨st, ⟨hf, _⟩, _⟩ := hq; exact hf.elim
    | goto id => obtain ⟨st, ⟨hf, _⟩, _⟩ := hq; exact hf.elim
    | panic c => exact hq.elim
    | outgrown => exact hq.elim
  · simp [SV.denL_eq]
  · intro t x hx
    simp only [Array.getD_eq_getD_getElem?, List.getElem?_append] at hx ⊢
    by_cases hl : t < svs.length
    · rw [if_pos hl] at hx
      have hnx : x ≠ .no := fun e => by
        have := List.all_eq_true.1 hno x (List.mem_of_getElem? hx)
        rw [e] at this; cases this
      have : ((SV.denL svs).toArray ++ Array.replicate (fn.ntmps - (SV.denL svs).toArray.size) undef)[t]? = some x.den := by
        rw [Array.getElem?_append_left (by simpa [SV.denL_eq] using hl)]
        simp [SV.denL_eq, hx]
      rw [this]
      exact SV.is_den x
    · rw [if_neg hl] at hx
      rw [List.getElem?_replicate] at hx
      split at hx
      · cases hx
        have : ((SV.denL svs).toArray ++ Array.replicate (fn.ntmps - (SV.denL svs).toArray.size) undef)[t]?.getD undef = undef := by
          rw [Array.getElem?_append_right (by simp [SV.denL_eq]; omega)]
          rw [Array.getElem?_replicate]
          split <;> rfl
        rw [this]
        rfl
      · cases hx
  · intro x hx
    rcases List.mem_append.1 hx with hx | hx
    · exact (SV.goodL_iff _ _).1 hgood x hx
    · rw [List.eq_of_mem_replicate hx]; trivial
end Go.Sy
namespace Go.Sy
open Go.RowKit
theorem ev_need {P : Program} {E : Entry} {Q : Exit → St → Prop} {p : Prop} {o : Out} (hp : p) (h : outSat P E Q o) : outSat P E Q (.need p o) := ⟨hp, h⟩
def heldFrom (res : List Res) : List Nat → List (Nat × Res)
  | [] => []
  | i :: l => match res[i]? with | some x => (i, x) :: heldFrom res l | none => heldFrom res l
/-- a group whose order is open: plan: the order that is taken, and what of it is only read or reckoned; held: the rows that are read -/
theorem go_draw {P : Program} {T : Tbs} (hT : TbsOk P T) {E : Entry} {Q : Exit → St → Prop} {id : Nat} {ops : Array Oper} {r : List It} {st : St} (full : Bool) (hold : List Nat) (plan : List (Nat × Bool)) (hlen : plan.length = ops.size)
    (h : Go P E (.d ops full (heldFrom st.res hold) st.ro plan (List.replicate ops.size false) :: r) st Q) : Go P E (.c (.region id ops true) :: r) st Q := fun a w hR => by
  refine wp_region_any hT.mixed ?_
  obtain ⟨hs, hi, hres⟩ := hR.res
  have hR' : R E st a { w with drawn := w.drawn + 1 } := ⟨hR.fr, hs, hi, ⟨hres.le, hres.dis, hres.holds, hres.rle, hres.rdis, hres.rholds, ⟨hres.ext.os, hres.ext.tape, hres.ext.output, hres.ext.size, hres.ext.block⟩, hres.old, hres.cells⟩⟩
  have h1 := wpAny_of_D _ _ _ _ (h a _ hR').2
  rw [hlen] at h1
  simpa using h1
def idxOf : List Nat → Nat → Option Nat
  | [], _ => none
  | x :: l, i => if x = i then some 0 else match idxOf l i with | some k => some (k + 1) | none => none
theorem idxOf_some : ∀ {l : List Nat} {i k : Nat}, idxOf l i = some k → l[k]? = some i := by
  intro l
  induction l with
  | nil => intro i k h; cases h
  | cons x l ih =>
    intro i k h
    simp only [idxOf] at h
    split at h
    · rename_i e; cases h; simp [e]
    · split at h
      · rename_i k' hk; cases h; simpa using ih hk
      · cases h
theorem idxOf_none : ∀ {l : List Nat} {i : Nat}, idxOf l i = none → i ∉ l := by
  intro l
  induction l with
  | nil => intro i _ h; cases h
  | cons x l ih =>
    intro i h hm
    simp only [idxOf] at h
    split at h
    · cases h
    · rename_i hne
      split at h
      · cases h
      · rename_i hk
        rcases List.mem_cons.1 hm with e | hm
        · exact hne e.symm
        · exact ih hk hm
def placeAt (res : List Res) (sel : List Nat) (news : List Res) (i : Nat) : Res :=
  match idxOf sel i with
  | some k => match news[k]? with | some x => x | none => .dead (blkAt res i)
  | none => match res[i]? with | some x => x | none => match news[sel.length + (i - res.length)]? with | some x => x | none => .dead none
/-- what is held behind a call: the new in the places of what was handed over, what is over behind all -/
def place (res : List Res) (sel : List Nat) (news : List Res) : List Res := (List.range (res.length + (news.length - sel.length))).map (placeAt res sel news)
theorem place_get {res : List Res} {sel : List Nat} {news : List Res} {i : Nat} {x : Res} (h : (place res sel news)[i]? = some x) : x = placeAt res sel news i ∧ i < res.length + (news.length - sel.length) := by
  unfold place at h
  rw [List.getElem?_map] at h
  cases e : (List.range (res.length + (news.length - sel.length)))[i]? with
  | none => rw [e] at h; cases h
  | some j =>
    rw [e] at h
    obtain ⟨h1, h2⟩ := List.getElem?_eq_some_iff.1 e
    simp at h1 h2
    subst h2
    simp at h
    exact ⟨h.symm, h1⟩
def blkLe : List Res → List Res → Prop
  | [], _ => True
  | .fact _ :: l, _ :: m => blkLe l m
  | .dead none :: l, _ :: m => blkLe l m
  | x :: l, y :: m => y.blk = x.blk ∧ blkLe l m
  | _ :: _, [] => False
theorem blkLe_spec : ∀ {l m : List Res}, blkLe l m → ∀ r b, blkAt l r = some b → blkAt m r = some b := by
  intro l
  induction l with
  | nil => intro m _ r b h; simp [blkAt] at h
  | cons x l ih =>
    intro m h r b hb
    cases m with
    | nil => cases x <;> first | exact h.elim | (rename_i o; cases o <;> exact h.elim)
    | cons y m =>
      have tail : blkLe l m → ∀ r, blkAt (x :: l) (r + 1) = some b → blkAt (y :: m) (r + 1) = some b := fun hl r hr => by
        have := ih hl r b (by simpa [blkAt] using hr)
        simpa [blkAt] using this
      cases x with
      | fact A =>
        cases r with
        | zero => simp [blkAt, Res.blk] at hb
        | succ r => exact tail h r hb
      | box b' t cs =>
        cases r with
        | zero => simpa [blkAt, h.1] using hb
        | succ r => exact tail h.2 r hb
      | dead o =>
        cases o with
        | none =>
          cases r with
          | zero => simp [blkAt, Res.blk] at hb
          | succ r => exact tail h r hb
        | some o =>
          cases r with
          | zero => simpa [blkAt, h.1] using hb
          | succ r => exact tail h.2 r hb
def asnAt (res : List Res) (i : Nat) : Option Asn := match res[i]? with | some x => some x.asn | none => none
theorem asnAt_spec {res : List Res} {i : Nat} {A : Asn} (h : asnAt res i = some A) : ∃ x, res[i]? = some x ∧ x.asn = A := by
  unfold asnAt at h
  split at h
  · rename_i x e; cases h; exact ⟨x, e, rfl⟩
  · cases h
/-- what is read besides: out of what is only read (inl), or lent (inr) -/
def lent (st : St) : Sum Nat Nat → Option Asn
  | .inl i => st.ro[i]?
  | .inr i => asnAt st.res i
def newsOk (β : Nat → Option Nat) (news : List Res) : Prop := ∀ x ∈ news, match x with | .box _ _ cs => SV.goodL β cs | _ => True
theorem newsOk_nil (β : Nat → Option Nat) : newsOk β [] := fun _ h => by cases h
theorem newsOk_fact {β : Nat → Option Nat} {A : Asn} {l : List Res} (h : newsOk β l) : newsOk β (.fact A :: l) := fun x hx => by
  rcases List.mem_cons.1 hx with rfl | hx
  · trivial
  · exact h x hx
theorem place_ok {E : Entry} {res : List Res} {ro : List Asn} {w w' : World} {hs : Nat → Hp} {hi : Hp} (hR : ResOk E res ro w hs hi) (sel : List Nat) (hm : Hp)
    (hmC : ∀ b, hm b ≠ none → ∃ i, i ∈ sel ∧ hs i b ≠ none) (news : List Res) (hm' : Hp) (hpost : Asn.starH (news.map Res.asn) hm') (hle' : hm'.le (hp w')) (hext : Ext hm w w')
    (hnew : ∀ b, hm' b ≠ none → hm b ≠ none ∨ w.heap.size ≤ b) (hok : newsOk (blkAt (place res sel news)) news) (hb : blkLe res (place res sel news)) :
    ∃ hs', ResOk E (place res sel news) ro w' hs' hi := by
  obtain ⟨ks, k1, k2, k3⟩ := Asn.starH_split _ hpost
  let hs' : Nat → Hp := fun i => match idxOf sel i with
    | some k => if k < news.length then ks k else Hp.emp
    | none => if i < res.length then hs i else if sel.length + (i - res.length) < news.length then ks (sel.length + (i - res.length)) else Hp.emp
  have part : ∀ i, (i ∈ sel ∨ res.length ≤ i) → hs' i = Hp.emp ∨ ∃ k, hs' i = ks k ∧ k < news.length ∧ ((∃ j, idxOf sel i = some j ∧ k = j) ∨ (idxOf sel i = none ∧ res.length ≤ i ∧ k = sel.length + (i - res.length))) := fun i hi => by
    simp only [hs']
    cases e : idxOf sel i with
    | some k =>
      dsimp only
      split
      · right; rename_i hk; exact ⟨k, rfl, hk, .inl ⟨k, rfl, rfl⟩⟩
      · left; rfl
    | none =>
      dsimp only
      have hns := idxOf_none e
      rcases hi with hi | hi
      · exact absurd hi hns
      · rw [if_neg (by omega)]
        split
        · right; rename_i hk; exact ⟨_, rfl, hk, .inr ⟨rfl, hi, rfl⟩⟩
        · left; rfl
  refine ⟨hs', hR.step hm (fun i => i ∈ sel ∨ res.length ≤ i) hext (fun b hb => ?_) (fun i hi => ?_) (fun i hi => ?_) (fun i hi b hb => ?_) (fun i j hi hj hij => ?_) (fun i y hy => ?_) ?_⟩
  · obtain ⟨i, h1, h2⟩ := hmC b hb; exact ⟨i, .inl h1, h2⟩
  · have h1 : i ∉ sel := fun e => hi (.inl e)
    have h2 : i < res.length := by
      rcases Nat.lt_or_ge i res.length with y | y
      · exact y
      · exact absurd (Or.inr y) hi
    simp only [hs']
    cases e : idxOf sel i with
    | some k => exact absurd (List.mem_of_getElem? (idxOf_some e)) h1
    | none => dsimp only; rw [if_pos h2]
  · rcases part i hi with e | ⟨k, e, _⟩
    · rw [e]; exact Hp.emp_le _
    · rw [e]; exact (k1 k).trans hle'
  · rcases part i hi with e | ⟨k, e, _⟩
    · rw [e] at hb; exact absurd rfl hb
    · rw [e] at hb
      exact hnew b (fun e' => hb (Hp.le_none (k1 k) e'))
  · rcases part i hi with e | ⟨k, e, _, hk⟩
    · rw [e]; exact Hp.emp_dis _
    · rcases part j hj with e' | ⟨k', e', _, hk'⟩
      · rw [e']; exact Hp.dis_emp _
      · rw [e, e']
        refine k2 k k' (fun ee => hij ?_)
        subst ee
        rcases hk with ⟨q, h1, rfl⟩ | ⟨h1, h2, h3⟩
        · rcases hk' with ⟨q', h1', rfl⟩ | ⟨h1', h2', h3'⟩
          · have := (idxOf_some h1).symm.trans (idxOf_some h1'); simpa using this
          · have := (List.getElem?_eq_some_iff.1 (idxOf_some h1)).1; omega
        · rcases hk' with ⟨q', h1', rfl⟩ | ⟨h1', h2', h3'⟩
          · have := (List.getElem?_eq_some_iff.1 (idxOf_some h1')).1; omega
          · omega
  · obtain ⟨rfl, hil⟩ := place_get hy
    have hks : ∀ (k : Nat) (y : Res), news[k]? = some y → y.asn.holds (ks k) := fun k y hk => k3 k _ (by rw [List.getElem?_map, hk]; rfl)
    simp only [hs', placeAt]
    cases e : idxOf sel i with
    | some k =>
      dsimp only
      cases e' : news[k]? with
      | none => trivial
      | some y => rw [if_pos (List.getElem?_eq_some_iff.1 e').1]; exact hks k y e'
    | none =>
      dsimp only
      cases e' : res[i]? with
      | some y => rw [if_pos (List.getElem?_eq_some_iff.1 e').1]; exact hR.holds i y e'
      | none =>
        have hge := List.getElem?_eq_none_iff.1 e'
        rw [if_neg (by omega)]
        cases e'' : news[sel.length + (i - res.length)]? with
        | none => trivial
        | some y => rw [if_pos (List.getElem?_eq_some_iff.1 e'').1]; exact hks _ y e''
  · intro y hy
    obtain ⟨i, hi'⟩ := List.mem_iff_getElem?.1 hy
    obtain ⟨e0, hil⟩ := place_get hi'
    have hks : ∀ (k : Nat) (y : Res), news[k]? = some y → y.asn.holds (ks k) := fun k y hk => k3 k _ (by rw [List.getElem?_map, hk]; rfl)
    have newc : ∀ (k : Nat) (y : Res), news[k]? = some y → y.cellsOk (blkAt (place res sel news)) := fun k y hk => by
      have h1 := hok y (List.mem_of_getElem? hk)
      have h2 := hks k y hk
      cases y with
      | box b t cs => exact ⟨h1, fun z hz => h2.2 _ (by rw [SV.denL_eq]; exact List.mem_map_of_mem hz)⟩
      | fact A => trivial
      | dead b => trivial
    subst e0
    simp only [placeAt] at hi' ⊢
    cases e : idxOf sel i with
    | some k =>
      dsimp only
      cases e' : news[k]? with
      | none => trivial
      | some y => exact newc k y e'
    | none =>
      dsimp only
      cases e' : res[i]? with
      | some y =>
        have := hR.cells y (List.mem_of_getElem? e')
        cases y with
        | box b t cs => exact ⟨SV.goodL_mono (blkLe_spec hb) this.1, this.2⟩
        | fact A => trivial
        | dead b => trivial
      | none =>
        dsimp only
        cases e'' : news[sel.length + (i - res.length)]? with
        | none => trivial
        | some y => exact newc _ y e''
open Classical in
/-- the part of the memory that the resources sel have -/
noncomputable def selH (w : World) (hs : Nat → Hp) (sel : List Nat) : Hp := fun b => if ∃ i ∈ sel, hs i b ≠ none then hp w b else none
theorem selH_le (w : World) (hs : Nat → Hp) (sel : List Nat) : (selH w hs sel).le (hp w) := fun b o e => by
  unfold selH at e
  split at e
  · exact e
  · cases e
theorem selH_C {w : World} {hs : Nat → Hp} {sel : List Nat} : ∀ b, selH w hs sel b ≠ none → ∃ i, i ∈ sel ∧ hs i b ≠ none := fun b hb => by
  unfold selH at hb
  split at hb
  · rename_i c; obtain ⟨i, h1, h2⟩ := c; exact ⟨i, h1, h2⟩
  · exact absurd rfl hb
theorem selH_sub {w : World} {hs : Nat → Hp} {sel : List Nat} (h : ∀ i, (hs i).le (hp w)) : ∀ i ∈ sel, (hs i).le (selH w hs sel) := fun i hi b o e => by
  have c : ∃ i ∈ sel, hs i b ≠ none := ⟨i, hi, by rw [e]; simp⟩
  unfold selH
  rw [if_pos c]
  exact h i b o e
theorem selH_star {w : World} {hs : Nat → Hp} {sel : List Nat} {res : List Res} {M : List Asn} (hle : ∀ i, (hs i).le (hp w)) (hdis : ∀ i j, i ≠ j → (hs i).dis (hs j))
    (hh : ∀ (i : Nat) (x : Res), res[i]? = some x → x.asn.holds (hs i)) (hsel : sel.map (asnAt res) = M.map some) (hnd : sel.Nodup) : Asn.starH M (selH w hs sel) := by
  refine Asn.starH_of M (fun k => match sel[k]? with | some i => hs i | none => Hp.emp) (fun k => ?_) (fun k j hkj => ?_) (fun k A hA => ?_)
  · split
    · rename_i i e; exact selH_sub hle i (List.mem_of_getElem? e)
    · exact Hp.emp_le _
  · split
    · rename_i i e
      split
      · rename_i i' e'
        refine hdis _ _ (fun ee => ?_)
        subst ee
        obtain ⟨l1, x1⟩ := List.getElem?_eq_some_iff.1 e
        obtain ⟨l2, x2⟩ := List.getElem?_eq_some_iff.1 e'
        rcases Nat.lt_or_ge k j with q | q
        · exact List.pairwise_iff_getElem.1 hnd k j l1 l2 q (x1.trans x2.symm)
        · exact List.pairwise_iff_getElem.1 hnd j k l2 l1 (by omega) (x2.trans x1.symm)
      · exact Hp.dis_emp _
    · exact Hp.emp_dis _
  · have h1 : (sel.map (asnAt res))[k]? = (M.map some)[k]? := by rw [hsel]
    rw [List.getElem?_map, List.getElem?_map, hA] at h1
    cases e : sel[k]? with
    | none => rw [e] at h1; cases h1
    | some i =>
      rw [e] at h1
      simp only [Option.map_some, Option.some.injEq] at h1
      obtain ⟨x, hx, rfl⟩ := asnAt_spec h1
      exact hh i x hx
/-- THE CALL OF A FUNCTION OF WHICH A TRIPLE IS KNOWN. sel: where what it may write is; nsel: where what it reads is; news: how what it hands back is to be held -/
theorem ev_call {P : Program} {f : FuncId} {args : List Value} {M N : List Asn} {X : Type} {ret : X → Value} {good : X → Prop} {after : X → List Asn} (T : Triple P f args M N X ret good after)
    {E : Entry} {Q : Exit → St → Prop} {svs : List SV} {d : Option Tmp} {todo : List It} {st : St} (sel : List Nat) (nsel : List (Sum Nat Nat)) (news : X → List Res)
    (hargs : SV.denL svs = args) (hsel : sel.map (asnAt st.res) = M.map some) (hnd : sel.Nodup) (hn : nsel.map (lent st) = N.map some) (hapart : ∀ i, Sum.inr i ∈ nsel → i ∉ sel)
    (hnews : ∀ x, (news x).map Res.asn = after x) (hok : ∀ x, newsOk (blkAt (place st.res sel (news x))) (news x)) (hb : ∀ x, blkLe st.res (place st.res sel (news x)))
    (h : ∀ x, good x → Go P E todo (St.put ⟨st.fr, place st.res sel (news x), st.ro⟩ d (normV (ret x))) Q) : outSat P E Q (.call f svs d todo st) := by
  intro w hs hi hR _
  subst hargs
  classical
  let hn' : Hp := fun b => if ∃ i ∈ sel, hs i b ≠ none then none else hp w b
  have hnw : hn'.le (hp w) := fun b o e => by
    by_cases c : ∃ i ∈ sel, hs i b ≠ none
    · simp only [hn', if_pos c] at e; cases e
    · simpa only [hn', if_neg c] using e
  have hdis : (selH w hs sel).dis hn' := fun b => by
    by_cases c : ∃ i ∈ sel, hs i b ≠ none
    · right; simp only [hn', if_pos c]
    · left; unfold selH; rw [if_neg c]
  have hM : Asn.starH M (selH w hs sel) := selH_star hR.le hR.dis hR.holds hsel hnd
  have hN : ∀ A ∈ N, A.holds hn' := fun A hA => by
    obtain ⟨k, hk⟩ := List.mem_iff_getElem?.1 hA
    have h1 : (nsel.map (lent st))[k]? = (N.map some)[k]? := by rw [hn]
    rw [List.getElem?_map, List.getElem?_map, hk] at h1
    cases e : nsel[k]? with
    | none => rw [e] at h1; cases h1
    | some s =>
      rw [e] at h1
      simp only [Option.map_some, Option.some.injEq] at h1
      cases s with
      | inl i =>
        refine A.mono (h := hi) (fun b o e => ?_) (hR.rholds A (List.mem_of_getElem? h1))
        have c : ¬ ∃ i ∈ sel, hs i b ≠ none := fun ⟨j, _, hj⟩ => by
          rcases hR.rdis j b with y | y
          · exact hj y
          · rw [y] at e; cases e
        simp only [hn', if_neg c]
        exact hR.rle b o e
      | inr i =>
        obtain ⟨x, hx, rfl⟩ := asnAt_spec h1
        refine x.asn.mono (h := hs i) (fun b o e' => ?_) (hR.holds i x hx)
        have c : ¬ ∃ i ∈ sel, hs i b ≠ none := fun ⟨j, hj', hj⟩ => by
          rcases hR.dis i j (fun ee => hapart i (List.mem_of_getElem? e) (ee ▸ hj')) b with y | y
          · rw [y] at e'; cases e'
          · exact hj y
        simp only [hn', if_neg c]
        exact hR.le i b o e'
  refine (T w (selH w hs sel) hn' (selH_le _ _ _) hnw hdis hM hN).mono fun e w' he => ?_
  obtain ⟨x, hm', rfl, hg, hpost, hle', hext, hnew⟩ := he
  refine ⟨normV (ret x), ⟨st.fr, place st.res sel (news x), st.ro⟩, by rw [normV_den], normV_good _ _, rfl, blkLe_spec (hb x), ?_, h x hg⟩
  rw [← hnews x] at hpost
  obtain ⟨hs', hR'⟩ := place_ok hR sel _ selH_C (news x) hm' hpost hle' hext hnew (hok x) (hb x)
  exact ⟨hs', hi, hR'⟩
end Go.Sy
namespace Go.Sy
open Go.RowKit
/-! the end -/
open Classical in
/-- the part of a piece that some resources have -/
noncomputable def selK (k : Hp) (hs : Nat → Hp) (sel : List Nat) : Hp := fun b => if ∃ i ∈ sel, hs i b ≠ none then k b else none
theorem selK_le (k : Hp) (hs : Nat → Hp) (sel : List Nat) : (selK k hs sel).le k := fun b o e => by
  unfold selK at e
  split at e
  · exact e
  · cases e
theorem selK_C {k : Hp} {hs : Nat → Hp} {sel : List Nat} : ∀ b, selK k hs sel b ≠ none → ∃ i, i ∈ sel ∧ hs i b ≠ none := fun b hb => by
  unfold selK at hb
  split at hb
  · rename_i c; obtain ⟨i, h1, h2⟩ := c; exact ⟨i, h1, h2⟩
  · exact absurd rfl hb
theorem selK_star {k : Hp} {hs : Nat → Hp} {sel : List Nat} {res : List Res} {M : List Asn} (hle : ∀ i, (hs i).le k) (hdis : ∀ i j, i ≠ j → (hs i).dis (hs j))
    (hh : ∀ (i : Nat) (x : Res), res[i]? = some x → x.asn.holds (hs i)) (hsel : sel.map (asnAt res) = M.map some) (hnd : sel.Nodup) : Asn.starH M (selK k hs sel) := by
  have hsub : ∀ i ∈ sel, (hs i).le (selK k hs sel) := fun i hi b o e => by
    have c : ∃ i ∈ sel, hs i b ≠ none := ⟨i, hi, by rw [e]; simp⟩
    unfold selK
    rw [if_pos c]
    exact hle i b o e
  refine Asn.starH_of M (fun k => match sel[k]? with | some i => hs i | none => Hp.emp) (fun k => ?_) (fun k j hkj => ?_) (fun k A hA => ?_)
  · split
    · rename_i i e; exact hsub i (List.mem_of_getElem? e)
    · exact Hp.emp_le _
  · split
    · rename_i i e
      split
      · rename_i i' e'
        refine hdis _ _ (fun ee => ?_)
        subst ee
        obtain ⟨l1, x1⟩ := List.getElem?_eq_some_iff.1 e
        obtain ⟨l2, x2⟩ := List.getElem?_eq_some_iff.1 e'
        rcases Nat.lt_or_ge k j with q | q
        · exact List.pairwise_iff_getElem.1 hnd k j l1 l2 q (x1.trans x2.symm)
        · exact List.pairwise_iff_getElem.1 hnd j k l2 l1 (by omega) (x2.trans x1.symm)
      · exact Hp.dis_emp _
    · exact Hp.emp_dis _
  · have h1 : (sel.map (asnAt res))[k]? = (M.map some)[k]? := by rw [hsel]
    rw [List.getElem?_map, List.getElem?_map, hA] at h1
    cases e : sel[k]? with
    | none => rw [e] at h1; cases h1
    | some i =>
      rw [e] at h1
      simp only [Option.map_some, Option.some.injEq] at h1
      obtain ⟨x, hx, rfl⟩ := asnAt_spec h1
      exact hh i x hx
theorem sel_lt {res : List Res} {sel : List Nat} {M : List Asn} (hsel : sel.map (asnAt res) = M.map some) : ∀ i ∈ sel, i < res.length := fun i hi => by
  obtain ⟨k, hk⟩ := List.mem_iff_getElem?.1 hi
  have h1 : (sel.map (asnAt res))[k]? = (M.map some)[k]? := by rw [hsel]
  rw [List.getElem?_map, hk, List.getElem?_map, Option.map_some] at h1
  cases e : asnAt res i with
  | none =>
    rw [e] at h1
    cases e' : M[k]? with
    | none => rw [e'] at h1; cases h1
    | some A => rw [e'] at h1; cases h1
  | some A => obtain ⟨x, hx, _⟩ := asnAt_spec e; exact (List.getElem?_eq_some_iff.1 hx).1
/-- just these resources, in this order -/
theorem Frm.sel {res : List Res} {l : List Asn} (sel : List Nat) (hsel : sel.map (asnAt res) = l.map some) (hnd : sel.Nodup) : Frm res l := fun hs h1 h2 k h3 =>
  ⟨selK k hs sel, selK_star h3 h1 h2 hsel hnd, selK_le _ _ _, fun b hb => by
    obtain ⟨i, hi, hn⟩ := selK_C b hb
    exact ⟨i, sel_lt hsel i hi, hn⟩⟩
/-- these resources, told otherwise -/
theorem Frm.imp {res : List Res} {l M : List Asn} (sel : List Nat) (hsel : sel.map (asnAt res) = M.map some) (hnd : sel.Nodup) (himp : ∀ h, Asn.starH M h → Asn.starH l h) : Frm res l := fun hs h1 h2 k h3 =>
  ⟨selK k hs sel, himp _ (selK_star h3 h1 h2 hsel hnd), selK_le _ _ _, fun b hb => by
    obtain ⟨i, hi, hn⟩ := selK_C b hb
    exact ⟨i, sel_lt hsel i hi, hn⟩⟩
theorem Frm.nil (res : List Res) : Frm res [] := Frm.sel [] rfl List.nodup_nil
/-! words for assertions that belong together -/
theorem starH_one {A : Asn} {h : Hp} : Asn.starH [A] h ↔ A.holds h :=
  ⟨fun ⟨_h1, _, _, a, _, p, _⟩ => A.mono a p, fun p => ⟨h, Hp.emp, Hp.dis_emp _, Hp.le_refl _, Hp.emp_le _, p, trivial⟩⟩
/-! what was held is only read from here on -/
/-! loops -/
def mask1 (x : SV) : SV → SV
  | .no => .no
  | _ => x
def mask : List SV → List SV → List SV
  | [], _ => []
  | x :: l, m => match m with | [] => [] | y :: m => mask1 x y :: mask l m
structure FrLe (l m : List SV) : Prop where
  len : l.length = m.length
  eq : mask l m = m
def ResLe (l m : List Res) : Prop := ∃ t, l = m ++ t
theorem mask_spec : ∀ (l m : List SV) (t : Nat), l.length = m.length → (mask l m)[t]? = (match l[t]?, m[t]? with | some x, some y => some (mask1 x y) | _, _ => none)
  | [], [], _, _ => rfl
  | x :: l, y :: m, 0, _ => rfl
  | x :: l, y :: m, t + 1, h => by
    have := mask_spec l m t (by simpa using h)
    simpa [mask] using this
theorem FrLe.spec {l m : List SV} (h : FrLe l m) : l.length = m.length ∧ ∀ (t : Nat) (x : SV), m[t]? = some x → x = .no ∨ l[t]? = some x := by
  refine ⟨h.len, fun t x hx => ?_⟩
  have h1 := mask_spec l m t h.len
  rw [h.eq, hx] at h1
  cases hl : l[t]? with
  | none => rw [hl] at h1; cases h1
  | some y =>
    rw [hl] at h1
    simp only [Option.some.injEq] at h1
    cases x with
    | no => exact .inl rfl
    | _ => right; rw [h1]; rfl
theorem ResLe.spec {l m : List Res} (h : ResLe l m) (i : Nat) (x : Res) (hx : m[i]? = some x) : l[i]? = some x := by
  obtain ⟨t, rfl⟩ := h
  rw [List.getElem?_append_left (List.getElem?_eq_some_iff.1 hx).1]
  exact hx
def SV.in_ (n : Nat) : SV → Bool
  | .pt r _ _ => r < n
  | .sl r _ _ _ _ => r < n
  | .ag _ => false
  | .tu _ => false
  | .fu _ a c => (a ++ c).all fun x => match x with | .pt r _ _ => r < n | .sl r _ _ _ _ => r < n | .ag _ => false | .tu _ => false | .fu _ _ _ => false | _ => true
  | _ => true
theorem SV.in_spec {l m : List Res} (h : ResLe l m) {x : SV} (hx : x.in_ m.length = true) (hg : x.good (blkAt l)) : x.good (blkAt m) := by
  have key : ∀ r b, r < m.length → blkAt l r = some b → blkAt m r = some b := fun r b hr hb => by
    unfold blkAt at hb ⊢
    rw [List.getElem?_eq_getElem hr]
    rw [h.spec r _ (List.getElem?_eq_getElem hr)] at hb
    exact hb
  cases x with
  | pt r b o => exact key r b (by simpa [SV.in_] using hx) hg
  | sl r b o n c => exact key r b (by simpa [SV.in_] using hx) hg
  | fu fn a c =>
    have hx' := List.all_eq_true.1 hx
    have one : ∀ y ∈ a ++ c, y.good (blkAt l) → y.good (blkAt m) := fun y hy hg => by
      have := hx' y hy
      cases y with
      | pt r b o => exact key r b (by simpa using this) hg
      | sl r b o n c => exact key r b (by simpa using this) hg
      | ag l => cases this
      | tu l => cases this
      | fu a b c => cases this
      | _ => trivial
    exact ⟨(SV.goodL_iff _ _).2 fun y hy => one y (List.mem_append_left _ hy) ((SV.goodL_iff _ _).1 hg.1 y hy), (SV.goodL_iff _ _).2 fun y hy => one y (List.mem_append_right _ hy) ((SV.goodL_iff _ _).1 hg.2 y hy)⟩
  | ag l => cases hx
  | tu l => cases hx
  | _ => trivial
def resIn (n : Nat) : Res → Bool
  | .box _ _ cs => cs.all (SV.in_ n)
  | _ => true
structure StLe (st st' : St) : Prop where
  fr : FrLe st.fr st'.fr
  res : ResLe st.res st'.res
  ro : ∃ t, st.ro = st'.ro ++ t
  inF : st'.fr.all (SV.in_ st'.res.length) = true
  inR : st'.res.all (resIn st'.res.length) = true
theorem StLe.R {E : Entry} {st st' : St} (h : StLe st st') {a : Act} {w : World} (hR : R E st a w) : R E st' a w := by
  obtain ⟨hs, hi, hres⟩ := hR.res
  obtain ⟨h1, h2⟩ := h.fr.spec
  refine ⟨⟨hR.fr.size.trans h1, fun t x hx => ?_, fun x hx => ?_, hR.fr.defers⟩, fun i => if i < st'.res.length then hs i else Hp.emp, hi, fun i => ?_, fun i j hij => ?_, fun i x hx => ?_, hres.rle, fun i => ?_, fun A hA => hres.rholds A (by obtain ⟨t, e⟩ := h.ro; rw [e]; exact List.mem_append_left _ hA), hres.ext, fun i b hb => ?_, fun x hx => ?_⟩
  · rcases h2 t x hx with e | e
    · subst e; trivial
    · exact hR.fr.is t x e
  · obtain ⟨t, ht⟩ := List.mem_iff_getElem?.1 hx
    rcases h2 t x ht with e | e
    · subst e; trivial
    · exact SV.in_spec h.res (List.all_eq_true.1 h.inF x hx) (hR.fr.good x (List.mem_of_getElem? e))
  · split
    · exact hres.le i
    · exact Hp.emp_le _
  · split
    · split
      · exact hres.dis i j hij
      · exact Hp.dis_emp _
    · exact Hp.emp_dis _
  · rw [if_pos (List.getElem?_eq_some_iff.1 hx).1]
    exact hres.holds i x (h.res.spec i x hx)
  · split
    · exact hres.rdis i
    · exact Hp.emp_dis _
  · split at hb
    · exact hres.old i b hb
    · exact absurd rfl hb
  · obtain ⟨i, hi'⟩ := List.mem_iff_getElem?.1 hx
    have hc := hres.cells x (List.mem_of_getElem? (h.res.spec i x hi'))
    cases x with
    | box b t cs =>
      refine ⟨(SV.goodL_iff _ _).2 fun y hy => ?_, hc.2⟩
      have := List.all_eq_true.1 h.inR _ hx
      exact SV.in_spec h.res (List.all_eq_true.1 this y hy) ((SV.goodL_iff _ _).1 hc.1 y hy)
    | fact A => trivial
    | dead b => trivial
/-- slots are unknown; slots are told anew (rising numbers) -/
def hav : List SV → Nat → List Nat → List SV
  | [], _, _ => []
  | x :: l, n, m => match m with
    | [] => x :: l
    | t :: ts => bif Nat.beq n t then .no :: hav l n.succ ts else x :: hav l n.succ (t :: ts)
def sets : List SV → Nat → List (Nat × SV) → List SV
  | [], _, _ => []
  | x :: l, n, m => match m with
    | [] => x :: l
    | (t, y) :: ts => bif Nat.beq n t then y :: sets l n.succ ts else x :: sets l n.succ ((t, y) :: ts)
def setF (fr : List SV) (l : List (Nat × SV)) : List SV := sets fr 0 l
def havoc (fr : List SV) (l : List Nat) : List SV := hav fr 0 l
/-- where a way out of a loop's round leads -/
def wayOut (P : Program) (E : Entry) (r : List It) (Q : Exit → St → Prop) (e : Exit) (st : St) : Prop :=
  match e with
  | .exit id => match popTo id r with | some r' => Go P E r' st Q | none => Q (.exit id) st
  | .ret => Q .ret st
  | _ => False
def Round (P : Program) (E : Entry) (r : List It) (Q : Exit → St → Prop) {ι : Type} (I : ι → St) (Pre : ι → Prop) (m : ι → Nat) (i : ι) (e : Exit) (st : St) : Prop :=
  match e with
  | .normal => ∀ a w, R E st a w → ∃ i', Pre i' ∧ m i' < m i ∧ R E (I i') a w
  | e => wayOut P E r Q e st
theorem go_loop {P : Program} {E : Entry} {Q : Exit → St → Prop} {body : Code} {r : List It} {st : St} {ι : Type} (mods : List Nat) (keep : ι → List (Nat × SV)) (resI : ι → List Res) (Pre : ι → Prop) (m : ι → Nat) (i0 : ι)
    (h0 : Pre i0) (hst : StLe st ⟨setF (havoc st.fr mods) (keep i0), resI i0, st.ro⟩)
    (hround : ∀ i, Pre i → Go P E [.c body] ⟨setF (havoc st.fr mods) (keep i), resI i, st.ro⟩ (Round P E r Q (fun i => ⟨setF (havoc st.fr mods) (keep i), resI i, st.ro⟩) Pre m i)) :
    Go P E (.c (.loop body) :: r) st Q := by
  intro a w hR
  refine wp_loop_ghost (fun n a w => ∃ i, Pre i ∧ m i = n ∧ R E ⟨setF (havoc st.fr mods) (keep i), resI i, st.ro⟩ a w) (m i0) ⟨i0, h0, rfl, hst.R hR⟩ ?_
  rintro n a w ⟨i, hi, rfl, hRi⟩
  refine Code.wp_mono (fun e a' w' hq => ?_) (hround i hi a w hRi)
  cases e with
  | normal =>
    obtain ⟨st', hq, hR'⟩ := hq
    obtain ⟨i', h1, h2, h3⟩ := hq a' w' hR'
    exact ⟨m i', h2, i', h1, rfl, h3⟩
  | exit id =>
    obtain ⟨st', hq, hR'⟩ := hq
    simp only [Round, wayOut] at hq
    show post P r (Fin Q E) (.exit id) a' w'
    split at hq
    · rename_i r' hp
      rw [post_pop hp]
      exact hq a' w' hR'
    · rename_i hp
      rw [post_exit hp]
      exact ⟨st', hq, hR'⟩
  | ret =>
    obtain ⟨st', hq, hR'⟩ := hq
    show post P r (Fin Q E) .ret a' w'
    rw [post_ret]
    exact ⟨st', hq, hR'⟩
  | goto l => obtain ⟨st', hq, _⟩ := hq; exact hq.elim
  | panic c => exact hq.elim
  | outgrown => exact hq.elim
theorem round_next {P : Program} {E : Entry} {r : List It} {Q : Exit → St → Prop} {ι : Type} {I : ι → St} {Pre : ι → Prop} {m : ι → Nat} {i : ι} {st : St} (i' : ι) (h1 : Pre i') (h2 : m i' < m i) (h3 : StLe st (I i')) :
    Round P E r Q I Pre m i .normal st := fun _ _ hR => ⟨i', h1, h2, h3.R hR⟩
end Go.Sy
namespace Go.Sy
open Go.RowKit
theorem flat_len {α : Type} {enc : α → List Value} {sz : Nat} (h : ∀ x, (enc x).length = sz) (l : List α) : (l.flatMap enc).length = l.length * sz := by
  induction l with
  | nil => simp
  | cons x l ih => simp [ih, h, Nat.add_mul]; omega
theorem flat_drop {α : Type} {enc : α → List Value} {sz : Nat} (h : ∀ x, (enc x).length = sz) : ∀ (l : List α) (i : Nat), (l.flatMap enc).drop (i * sz) = (l.drop i).flatMap enc := by
  intro l
  induction l with
  | nil => intro i; simp
  | cons x l ih =>
    intro i
    cases i with
    | zero => simp
    | succ i =>
      simp only [List.flatMap_cons, List.drop_succ_cons]
      rw [← ih i, List.drop_append, List.drop_eq_nil_of_le (by rw [h, Nat.add_mul]; omega), List.nil_append]
      congr 1
      rw [h, Nat.add_mul]; omega
theorem flat_take {α : Type} {enc : α → List Value} {sz : Nat} (h : ∀ x, (enc x).length = sz) : ∀ (l : List α) (i : Nat), (l.flatMap enc).take (i * sz) = (l.take i).flatMap enc := by
  intro l
  induction l with
  | nil => intro i; simp
  | cons x l ih =>
    intro i
    cases i with
    | zero => simp
    | succ i =>
      simp only [List.flatMap_cons, List.take_succ_cons]
      rw [← ih i, List.take_append, List.take_of_length_le (by rw [h, Nat.add_mul]; omega)]
      congr 2
      rw [h, Nat.add_mul]; omega
/-- a field of one element -/
theorem flat_get_at {α : Type} {enc : α → List Value} {sz : Nat} (h : ∀ x, (enc x).length = sz) {l : List α} {i : Nat} (hi : i < l.length) (k : Nat) {vs : List Value} (hv : (enc l[i]).extract k (k + vs.length) = vs) (hk : k + vs.length ≤ sz) : ((l.flatMap enc).drop (i * sz + k)).take vs.length = vs := by
  rw [← List.drop_drop, flat_drop h, List.drop_eq_getElem_cons hi, List.flatMap_cons, List.drop_append_of_le_length (by rw [h]; omega), List.take_append_of_le_length (by rw [List.length_drop, h]; omega)]
  rw [← hv]
  simp [List.extract_eq_take_drop]
/-- the slice with this base and length reads as these cells -/
def Rd (sz : Nat) (A : Option Addr) (n : Nat) (cs : List Value) : Asn :=
  ⟨fun h => cs.length = n * sz ∧ (∀ c ∈ cs, c.oneCell' = true) ∧ (0 < n → ∃ g o cur e fz, A = some ⟨g, o, none⟩ ∧ h g = some (.cells cur e fz) ∧ (cur.toList.drop o).take (n * sz) = cs),
   fun e ⟨h1, h2, h3⟩ => ⟨h1, h2, fun hn => let ⟨g, o, cur, t, fz, a, b, c⟩ := h3 hn; ⟨g, o, cur, t, fz, a, e _ _ b, c⟩⟩⟩
/-- the slice with this base, length and capacity is nil, or has a row of its own, from its beginning on, whose first cells are these -/
def Row (e sz : Nat) (A : Option Addr) (n c : Nat) (cs : List Value) : Asn :=
  ⟨fun h => cs.length = n * sz ∧ (∀ c ∈ cs, c.oneCell' = true) ∧ ((A = none ∧ n = 0 ∧ c = 0) ∨ ∃ g cur, A = some ⟨g, 0, none⟩ ∧ h g = some (.cells cur e (0, 0)) ∧ n ≤ c ∧ c ≤ maxLen ∧ cur.size = c * sz ∧ cur.toList.take (n * sz) = cs),
   fun e ⟨h1, h2, h3⟩ => ⟨h1, h2, h3.imp id fun ⟨g, cur, a, b, r⟩ => ⟨g, cur, a, e _ _ b, r⟩⟩⟩
theorem Row.rd {e sz : Nat} {A : Option Addr} {n c : Nat} {cs : List Value} {h : Hp} (p : (Row e sz A n c cs).holds h) : (Rd sz A n cs).holds h :=
  ⟨p.1, p.2.1, fun hn => by
    rcases p.2.2 with ⟨_, h0, _⟩ | ⟨g, cur, h1, h2, h3, h4, h5, h6⟩
    · omega
    · exact ⟨g, 0, cur, e, (0, 0), h1, h2, by simpa using h6⟩⟩
/-- nil, or a row of its own, from its beginning on, whose first cells are these -/
def Own (e sz : Nat) (A : Option Addr) (n : Nat) (cs : List Value) : Asn :=
  ⟨fun h => cs.length = n * sz ∧ (∀ c ∈ cs, c.oneCell' = true) ∧ (n = 0 ∨ ∃ g cur, A = some ⟨g, 0, none⟩ ∧ h g = some (.cells cur e (0, 0)) ∧ cur.toList.take (n * sz) = cs),
   fun e ⟨h1, h2, h3⟩ => ⟨h1, h2, h3.imp id fun ⟨g, cur, a, b, r⟩ => ⟨g, cur, a, e _ _ b, r⟩⟩⟩
theorem Row.nil (e sz : Nat) (h : Hp) : (Row e sz none 0 0 []).holds h := ⟨by simp, (fun c hc => by cases hc), .inl ⟨rfl, rfl, rfl⟩⟩
theorem Rd.nil (sz : Nat) (A : Option Addr) (h : Hp) : (Rd sz A 0 []).holds h := ⟨by simp, (fun c hc => by cases hc), fun h => absurd h (by omega)⟩
theorem Pt.rd {b t : Nat} {cs : List Value} {h : Hp} (p : (Pt b t cs).holds h) {sz n : Nat} (hl : cs.length = n * sz) : (Rd sz (some ⟨b, 0, none⟩) n cs).holds h :=
  ⟨hl, p.2, fun _ => ⟨b, 0, cs.toArray, t, (0, 0), rfl, p.1, by simp [← hl]⟩⟩
theorem Pt.row {b t : Nat} {cs : List Value} {h : Hp} (p : (Pt b t cs).holds h) {sz n : Nat} (hl : cs.length = n * sz) (hm : n ≤ maxLen) : (Row t sz (some ⟨b, 0, none⟩) n n cs).holds h :=
  ⟨hl, p.2, .inr ⟨b, cs.toArray, rfl, p.1, Nat.le_refl _, hm, by simpa using hl, by simp [← hl]⟩⟩
theorem Rd.sub {sz : Nat} {A : Option Addr} {n : Nat} {cs : List Value} {h : Hp} (p : (Rd sz A n cs).holds h) {k : Nat} (hk : k ≤ n) : (Rd sz A k (cs.take (k * sz))).holds h := by
  obtain ⟨h1, h2, h3⟩ := p
  have hle : k * sz ≤ n * sz := Nat.mul_le_mul_right _ hk
  refine ⟨by rw [List.length_take, h1, Nat.min_eq_left hle], fun c hc => h2 c (List.mem_of_mem_take hc), fun hn => ?_⟩
  obtain ⟨g, o, cur, e, fz, a, b, c⟩ := h3 (by omega)
  refine ⟨g, o, cur, e, fz, a, b, ?_⟩
  rw [← c, List.take_take, Nat.min_eq_left hle]
theorem Rd.drop {sz : Nat} {g o : Nat} {n : Nat} {cs : List Value} {h : Hp} (p : (Rd sz (some ⟨g, o, none⟩) n cs).holds h) {k : Nat} (hk : k ≤ n) : (Rd sz (some ⟨g, o + k * sz, none⟩) (n - k) (cs.drop (k * sz))).holds h := by
  obtain ⟨h1, h2, h3⟩ := p
  refine ⟨by rw [List.length_drop, h1, Nat.sub_mul], fun c hc => h2 c (List.mem_of_mem_drop hc), fun hn => ?_⟩
  obtain ⟨g', o', cur, e, fz, a, b, c⟩ := h3 (by omega)
  cases a
  refine ⟨g, _, cur, e, fz, rfl, b, ?_⟩
  rw [← c, List.drop_take, List.drop_drop, Nat.sub_mul]
theorem row_owns {e sz : Nat} {A : Option Addr} {n c : Nat} {cs : List Value} {h : Hp} {w : World} (p : (Row e sz A n c cs).holds h) (hle : h.le (hp w)) : w.ownsRow 0 e sz (.slice A n c) n cs := by
  obtain ⟨h1, _, h3⟩ := p
  refine ⟨h1, ?_⟩
  rcases h3 with ⟨rfl, rfl, rfl⟩ | ⟨g, cur, rfl, hg, r⟩
  · exact .inl ⟨rfl, rfl⟩
  · exact .inr ⟨g, c, cur, rfl, Nat.zero_le _, hle g _ hg, r⟩
theorem owns_row {e sz : Nat} {v : Value} {n : Nat} {cs : List Value} {w : World} (p : w.ownsRow 0 e sz v n cs) (h1 : ∀ c ∈ cs, c.oneCell' = true) :
    ∃ A c, v = .slice A n c ∧ (∀ h : Hp, (∀ g, v.ownBlock = some g → h g = w.heap[g]?) → (Row e sz A n c cs).holds h) := by
  obtain ⟨hl, hc⟩ := p
  rcases hc with ⟨rfl, rfl⟩ | ⟨g, cap, cur, rfl, _, hg, r⟩
  · exact ⟨none, 0, rfl, fun h _ => ⟨hl, h1, .inl ⟨rfl, rfl, rfl⟩⟩⟩
  · exact ⟨some ⟨g, 0, none⟩, cap, rfl, fun h hh => ⟨hl, h1, .inr ⟨g, cur, rfl, by rw [hh g rfl]; exact hg, r⟩⟩⟩
/-- what is read may be told otherwise -/
theorem Triple.reads {P : Program} {f : FuncId} {args : List Value} {M N N' : List Asn} {X : Type} {ret : X → Value} {good : X → Prop} {post : X → List Asn} (T : Triple P f args M N X ret good post)
    (h : ∀ A ∈ N, ∃ B ∈ N', ∀ h, B.holds h → A.holds h) : Triple P f args M N' X ret good post := fun w hm hn h1 h2 h3 h4 h5 =>
  T w hm hn h1 h2 h3 h4 fun A hA => by obtain ⟨B, hB, h6⟩ := h A hA; exact h6 hn (h5 B hB)
/-- what is read at an operation: out of what is only read, or of what is held -/
def has (st : St) (s : Sum Nat Nat) (B : Asn) : Prop := lent st s = some B
theorem has_holds {st : St} {s : Sum Nat Nat} {B : Asn} (hB : has st s B) {E : Entry} {w : World} {hs : Nat → Hp} {hi : Hp} (hR : ResOk E st.res st.ro w hs hi) : B.holds (hp w) := by
  unfold has lent at hB
  cases s with
  | inl i => exact B.mono hR.rle (hR.rholds B (List.mem_of_getElem? hB))
  | inr i =>
    obtain ⟨x, hx, rfl⟩ := asnAt_spec hB
    exact x.asn.mono (hR.le i) (hR.holds i x hx)
/-- an operation whose value the prover tells, and that does nothing else -/
theorem go_val {P : Program} {E : Entry} {ops : Array Oper} {o : Oper} {l : List Oper} {r : List It} {st : St} {Q : Exit → St → Prop} (hg : guardS ops st.fr o = .run) (x : SV) (hx : x.good (blkAt st.res))
    (hrun : ∀ a w, R E st a w → (execOp a.eval o).run P w = .ok (.value x.den) w) (h : Go P E (.o ops l :: r) (st.put o.dst x) Q) : Go P E (.o ops (o :: l) :: r) st Q :=
  Go.step fun a w hR => ⟨by have := guard_spec hR.fr (ops := ops) o; rw [hg] at this; exact this, wp_value (hrun a w hR) (h _ _ (hR.put o.dst (SV.is_den x) hx))⟩
section
variable {P : Program} {T : Tbs} {E : Entry} {Q : Exit → St → Prop} {ops : Array Oper} {l : List Oper} {r : List It} {st : St}
theorem index_run (hT : TbsOk P T) {dst : Option Tmp} {t : TypeId} {x i : Operand} {ty : TypeId} {pos : String} {after : Array Edge} {gd : Option (Nat × Bool)} (g o n c : Nat) (k : IntKind) (j : Nat) (et sz : Nat) {fr : List SV} {res : List Res} {a : Act} (hF : FrOk fr res a)
    (hx : ev fr x = .va (.slice (some ⟨g, o, none⟩) n c)) (hi : ev fr i = .va (.int k (j : Int))) (ht : (te T.tab t).map (·.k) = some (.slice et)) (he' : (te T.tab et).map (·.size) = some sz) (hj : j < n) (w : World) :
    (execOp a.eval ⟨dst, .indexAddr t x i, ty, pos, after, gd⟩).run P w = .ok (.value (.pointer (some ⟨g, o + j * sz, none⟩))) w := by
  obtain ⟨e, he, hsz⟩ : ∃ e, te T.tab et = some e ∧ e.size = sz := by
    cases hq : te T.tab et with
    | none => rw [hq] at he'; cases he'
    | some e => rw [hq] at he'; exact ⟨e, rfl, by simpa using he'⟩
  subst hsz
  cases htt : te T.tab t with
  | none => rw [htt] at ht; cases ht
  | some et' =>
    rw [htt] at ht
    simp at ht
    obtain ⟨ii, u, zz, hii, hu, hz', hk, _⟩ := te_spec hT.tab htt
    obtain ⟨i2, u2, z2, hi2, hu2, hz2, hk2, hs2, _⟩ := te_spec hT.tab he
    rw [ht] at hk
    cases u <;> simp [tkOf] at hk
    subst hk
    have hsz : (sizeOf et).run P w = .ok e.size w := by simp [sizeOf, typeInfo, hi2, hs2]
    have hc : (0 : Int) ≤ (j : Int) ∧ (j : Int) < (n : Int) := ⟨by omega, by omega⟩
    simp [execOp, ev_den hF hx (by simp), ev_den hF hi (by simp), SV.den, Instr.indexAt, asIntOf, run_underlying hu, hsz, hc, addr_add]
    intro hh; omega
/-- &x[i], x a slice that reads as is known -/
theorem go_index (hT : TbsOk P T) {dst : Option Tmp} {t : TypeId} {x i : Operand} {ty : TypeId} {pos : String} {after : Array Edge} {gd : Option (Nat × Bool)} (A : Option Addr) (n c : Nat) (k : IntKind) (j : Nat) (et sz : Nat) (s : Sum Nat Nat) (B : Asn) (cs : List Value)
    (hg : guardS ops st.fr ⟨dst, .indexAddr t x i, ty, pos, after, gd⟩ = .run)
    (hx : ev st.fr x = .va (.slice A n c)) (hi : ev st.fr i = .va (.int k (j : Int))) (ht : (te T.tab t).map (·.k) = some (.slice et)) (he' : (te T.tab et).map (·.size) = some sz) (hj : j < n)
    (hs : has st s B) (hB : ∀ h, B.holds h → (Rd sz A n cs).holds h)
    (h : ∀ g o, A = some ⟨g, o, none⟩ → Go P E (.o ops l :: r) (st.put dst (.va (.pointer (some ⟨g, o + j * sz, none⟩)))) Q) : Go P E (.o ops (⟨dst, .indexAddr t x i, ty, pos, after, gd⟩ :: l) :: r) st Q := by
  intro a w hR
  obtain ⟨hs', hi', hres⟩ := hR.res
  obtain ⟨_, _, h3⟩ := hB _ (has_holds hs hres)
  obtain ⟨g, o, _, _, _, hA, _⟩ := h3 (by omega)
  subst hA
  exact go_val (o := ⟨dst, .indexAddr t x i, ty, pos, after, gd⟩) hg (.va (.pointer (some ⟨g, o + j * sz, none⟩))) trivial (fun a w hR => index_run hT g o n c k j et sz hR.fr hx hi ht he' hj w) (h g o rfl) a w hR
theorem load_run (hT : TbsOk P T) {dst : Option Tmp} {t : TypeId} {x : Operand} {ty : TypeId} {pos : String} {after : Array Edge} {gd : Option (Nat × Bool)} (g o' o k sz n : Nat) (e : TE) (cs vs : List Value) {fr : List SV} {res : List Res} {a : Act} (hF : FrOk fr res a)
    (hx : ev fr x = .va (.pointer (some ⟨g, o', none⟩))) (ht : te T.tab t = some e) {w : World} (hB : (Rd sz (some ⟨g, o, none⟩) n cs).holds (hp w)) (ho : o' = o + k) (hvs : (cs.drop k).take vs.length = vs) (hl : vs.length = (if e.k.isAgg then e.size else 1)) (hn : 0 < n)
    (y : SV) (hy : (if e.k.isAgg then some (.ag (vs.map vaS)) else (vs.map vaS)[0]?) = some y) :
    (execOp a.eval ⟨dst, .load t x, ty, pos, after, gd⟩).run P w = .ok (.value y.den) w := by
  obtain ⟨_, _, h3⟩ := hB
  obtain ⟨g', o2, cur, e2, fz, hA, hcur, htk⟩ := h3 hn
  cases hA
  obtain ⟨i2, u2, z2, hi2, hu2, hz2, hk2, hs2, _⟩ := te_spec hT.tab ht
  have hcur : w.heap[g]? = some (.cells cur e2 fz) := hcur
  have hcell : ∀ j v, vs[j]? = some v → w.cell? ⟨g, o' + j, none⟩ = some v := fun j v hv => by
    rw [cell_of_row w g _ _ e2 fz hcur]
    have hjl := (List.getElem?_eq_some_iff.1 hv).1
    rw [← hvs, List.getElem?_take, if_pos hjl, List.getElem?_drop, ← htk, List.getElem?_take] at hv
    split at hv
    · rw [List.getElem?_drop] at hv
      rw [ho, ← Array.getElem?_toList, ← hv]
      congr 1
      omega
    · cases hv
  have hload : (loadVar t ⟨g, o', none⟩).run P w = .ok y.den w := by
    unfold loadVar
    rw [Sem.run_bind, isAgg_run P w hu2]
    simp only [Result.andThen_ok]
    rw [hk2] at hl hy
    cases ha : (tkOf u2).isAgg
    · rw [ha] at hl hy
      simp only [Bool.false_eq_true, if_false] at hl hy ⊢
      match vs, hl with
      | [v], _ =>
        simp at hy
        subst hy
        have := hcell 0 v rfl
        rw [run_load, show (⟨g, o', none⟩ : Addr) = ⟨g, o' + 0, none⟩ from rfl, this, vaS_den]
    · rw [ha] at hl hy
      simp only [if_true] at hl hy ⊢
      cases hy
      have hsz : (sizeOf t).run P w = .ok i2.size w := by simp [sizeOf, typeInfo, hi2]
      have h2 := run_loadCells_list (P := P) w ⟨g, o', none⟩ vs (fun j v hv => by rw [addr_add]; exact hcell j v hv)
      rw [hl, hs2] at h2
      simp [hsz, h2, SV.den, denL_va]
  simp [execOp, ev_den hF hx (by simp), SV.den, Instr.loadAt, Instr.sureAddr, hload]
theorem load_good {e : TE} {vs : List Value} {y : SV} (hy : (if e.k.isAgg then some (.ag (vs.map vaS)) else (vs.map vaS)[0]?) = some y) (β : Nat → Option Nat) : y.good β := by
  split at hy
  · cases hy; exact goodL_va _ _
  · have := List.mem_of_getElem? hy
    obtain ⟨v, _, rfl⟩ := List.mem_map.1 this
    exact vaS_good _ _
/-- a load through a pointer into memory that reads as is known -/
theorem go_load (hT : TbsOk P T) {dst : Option Tmp} {t : TypeId} {x : Operand} {ty : TypeId} {pos : String} {after : Array Edge} {gd : Option (Nat × Bool)} (g o' o k sz n : Nat) (e : TE) (s : Sum Nat Nat) (B : Asn) (cs vs : List Value)
    (hg : guardS ops st.fr ⟨dst, .load t x, ty, pos, after, gd⟩ = .run)
    (hx : ev st.fr x = .va (.pointer (some ⟨g, o', none⟩))) (ht : te T.tab t = some e)
    (hs : has st s B) (hB : ∀ h, B.holds h → (Rd sz (some ⟨g, o, none⟩) n cs).holds h) (ho : o' = o + k) (hvs : (cs.drop k).take vs.length = vs) (hl : vs.length = (if e.k.isAgg then e.size else 1)) (hn : 0 < n)
    (y : SV) (hy : (if e.k.isAgg then some (.ag (vs.map vaS)) else (vs.map vaS)[0]?) = some y)
    (h : Go P E (.o ops l :: r) (st.put dst y) Q) : Go P E (.o ops (⟨dst, .load t x, ty, pos, after, gd⟩ :: l) :: r) st Q :=
  go_val (o := ⟨dst, .load t x, ty, pos, after, gd⟩) hg y (load_good hy _) (fun a w hR => by
    obtain ⟨hs', hi', hres⟩ := hR.res
    exact load_run hT g o' o k sz n e cs vs hR.fr hx ht (hB _ (has_holds hs hres)) ho hvs hl hn y hy) h
/-- in a group whose order is open: an operation that only reads what stays as it is; its value is told by the prover -/
theorem tk_val {full : Bool} {held : List (Nat × Res)} {ro0 : List Asn} {i : Nat} {p : List (Nat × Bool)} {listed : List Bool} {o : Oper} (hchk : (heldOk held st.res ∧ ro0 = st.ro) ∧ planOk ops full ((i, true) :: p) listed = true) (ho : ops.toList[i]? = some o)
    (hg : guardS ops st.fr o = .run) (x : SV) (hx : x.good (blkAt st.res)) (hrun : ∀ a w, FrOk st.fr st.res a → HeldW held ro0 w → (execOp a.eval o).run P w = .ok (.value x.den) w)
    (h : Go P E (.d ops full held ro0 p (listed.set i true) :: r) (st.put o.dst x) Q) : Go P E (.d ops full held ro0 ((i, true) :: p) listed :: r) st Q := by
  obtain ⟨⟨hh, hro⟩, hp⟩ := hchk
  subst hro
  have hns := planOk_noSelect hp
  have hp' : takeOk ops full listed.toArray i = true ∧ i < ops.size ∧ planOk ops full p (listed.set i true) = true := by
    simp only [planOk, Bool.not_true, Bool.false_and, cond_false, if_true, Bool.and_eq_true, decide_eq_true_eq] at hp
    exact ⟨hp.1.1, hp.1.2, hp.2⟩
  obtain ⟨hready, hfree, hz⟩ := takeOk_spec hp'.1
  have ho' : ops[i]? = some o := by simpa using ho
  intro a w hR
  obtain ⟨hs, hi', hres⟩ := hR.res
  have hW := heldW_of hh hres
  have hw : Region.wanted o (yielded ops a.tmps) = true := by have := guard_spec hR.fr (ops := ops) o; rw [hg] at this; exact this
  refine ⟨fun _ => hW, ?_⟩
  refine wpD_take ho' (Region.noSelect_spec hns) (fun c a w hq => by rw [post_panic] at hq ⊢; exact hq) p.length listed.toArray a w (Region.free_spec ho' hfree) hready (.inl ⟨hw, fun w' hW' => hrun a w' hR.fr hW'⟩) hW hz ?_
  have h1 := (h _ w (hR.put o.dst (SV.is_den x) hx)).2
  rwa [← List.setIfInBounds_toArray] at h1
/-- what is read in such a group: out of what is only read (inl), or of what is held besides (inr) -/
def hasD (held : List (Nat × Res)) (ro0 : List Asn) : Sum Nat Nat → Asn → Prop
  | .inl i, B => ro0[i]? = some B
  | .inr i, B => (held[i]?).map (fun p => p.2.asn) = some B
theorem hasD_holds {held : List (Nat × Res)} {ro0 : List Asn} {s : Sum Nat Nat} {B : Asn} (h : hasD held ro0 s B) {w : World} (hW : HeldW held ro0 w) : B.holds (hp w) := by
  cases s with
  | inl i => exact hW.2 B (List.mem_of_getElem? h)
  | inr i =>
    have h : (held[i]?).map (fun p => p.2.asn) = some B := h
    cases e : held[i]? with
    | none => rw [e] at h; cases h
    | some p =>
      rw [e] at h
      simp only [Option.map_some, Option.some.injEq] at h
      subst h
      exact hW.1 p (List.mem_of_getElem? e)
theorem tk_index (hT : TbsOk P T) {full : Bool} {held : List (Nat × Res)} {ro0 : List Asn} {q : Nat} {p : List (Nat × Bool)} {listed : List Bool} {dst : Option Tmp} {t : TypeId} {x i : Operand} {ty : TypeId} {pos : String} {after : Array Edge} {gd : Option (Nat × Bool)} (A : Option Addr) (n c : Nat) (k : IntKind) (j : Nat) (et sz : Nat) (s : Sum Nat Nat) (B : Asn) (cs : List Value)
    (hchk : (heldOk held st.res ∧ ro0 = st.ro) ∧ planOk ops full ((q, true) :: p) listed = true) (ho : ops.toList[q]? = some ⟨dst, .indexAddr t x i, ty, pos, after, gd⟩)
    (hg : guardS ops st.fr ⟨dst, .indexAddr t x i, ty, pos, after, gd⟩ = .run)
    (hx : ev st.fr x = .va (.slice A n c)) (hi : ev st.fr i = .va (.int k (j : Int))) (ht : (te T.tab t).map (·.k) = some (.slice et)) (he' : (te T.tab et).map (·.size) = some sz) (hj : j < n)
    (hs : hasD held ro0 s B) (hB : ∀ h, B.holds h → (Rd sz A n cs).holds h)
    (h : ∀ g o, A = some ⟨g, o, none⟩ → Go P E (.d ops full held ro0 p (listed.set q true) :: r) (st.put dst (.va (.pointer (some ⟨g, o + j * sz, none⟩)))) Q) : Go P E (.d ops full held ro0 ((q, true) :: p) listed :: r) st Q := by
  intro a w hR
  obtain ⟨hs', hi', hres⟩ := hR.res
  obtain ⟨_, _, h3⟩ := hB _ (hasD_holds hs (by obtain ⟨⟨hh, hro⟩, _⟩ := hchk; subst hro; exact heldW_of hh hres))
  obtain ⟨g, o, _, _, _, hA, _⟩ := h3 (by omega)
  subst hA
  exact tk_val hchk ho hg (.va (.pointer (some ⟨g, o + j * sz, none⟩))) trivial (fun a w hF _ => index_run hT g o n c k j et sz hF hx hi ht he' hj w) (h g o rfl) a w hR
theorem tk_load (hT : TbsOk P T) {full : Bool} {held : List (Nat × Res)} {ro0 : List Asn} {q : Nat} {p : List (Nat × Bool)} {listed : List Bool} {dst : Option Tmp} {t : TypeId} {x : Operand} {ty : TypeId} {pos : String} {after : Array Edge} {gd : Option (Nat × Bool)} (g o' o k sz n : Nat) (e : TE) (s : Sum Nat Nat) (B : Asn) (cs vs : List Value)
    (hchk : (heldOk held st.res ∧ ro0 = st.ro) ∧ planOk ops full ((q, true) :: p) listed = true) (hop : ops.toList[q]? = some ⟨dst, .load t x, ty, pos, after, gd⟩)
    (hg : guardS ops st.fr ⟨dst, .load t x, ty, pos, after, gd⟩ = .run)
    (hx : ev st.fr x = .va (.pointer (some ⟨g, o', none⟩))) (ht : te T.tab t = some e)
    (hs : hasD held ro0 s B) (hB : ∀ h, B.holds h → (Rd sz (some ⟨g, o, none⟩) n cs).holds h) (ho : o' = o + k) (hvs : (cs.drop k).take vs.length = vs) (hl : vs.length = (if e.k.isAgg then e.size else 1)) (hn : 0 < n)
    (y : SV) (hy : (if e.k.isAgg then some (.ag (vs.map vaS)) else (vs.map vaS)[0]?) = some y)
    (h : Go P E (.d ops full held ro0 p (listed.set q true) :: r) (st.put dst y) Q) : Go P E (.d ops full held ro0 ((q, true) :: p) listed :: r) st Q :=
  tk_val hchk hop hg y (load_good hy _) (fun _a _w hF hW => load_run hT g o' o k sz n e cs vs hF hx ht (hB _ (hasD_holds hs hW)) ho hvs hl hn y hy) h
end
end Go.Sy
namespace Go.Sy
open Go.RowKit
/-- places that are given up -/
def deads (l : List (Option Nat)) : List Res := l.map .dead
theorem starH_pad {l : List Res} {h : Hp} (p : Asn.starH (l.map Res.asn) h) : ∀ d : List (Option Nat), Asn.starH ((deads d ++ l).map Res.asn) h
  | [] => p
  | _ :: d => ⟨Hp.emp, h, Hp.emp_dis _, Hp.emp_le _, Hp.le_refl _, trivial, starH_pad p d⟩
theorem newsOk_pad {β : Nat → Option Nat} {l : List Res} (h : newsOk β l) (d : List (Option Nat)) : newsOk β (deads d ++ l) := fun x hx => by
  rcases List.mem_append.1 hx with hx | hx
  · obtain ⟨b, _, rfl⟩ := List.mem_map.1 hx; trivial
  · exact h x hx
theorem own_le {w' : World} (v : Value) : ∃ k : Hp, k.le (hp w') ∧ (∀ g, v.ownBlock = some g → k g = w'.heap[g]?) ∧ ∀ b, k b ≠ none → v.ownBlock = some b := by
  classical
  refine ⟨fun b => if v.ownBlock = some b then w'.heap[b]? else none, fun b o e => ?_, fun g hg => if_pos hg, fun b hb => ?_⟩
  · dsimp only at e
    split at e
    · exact e
    · cases e
  · dsimp only at hb
    split at hb
    · rename_i h; exact h
    · exact absurd rfl hb
section
variable {P : Program} {T : Tbs} {E : Entry} {Q : Exit → St → Prop} {ops : Array Oper} {l : List Oper} {r : List It} {st : St}
/-- append(s, x...): s: nil, or a row of the call's own (sel: where it is held); x: whatever reads as is known -/
theorem go_append (hT : TbsOk P T) {dst : Option Tmp} {s x : Operand} {t ty : TypeId} {pos : String} {after : Array Edge} {gd : Option (Nat × Bool)} (sel : List Nat) (pad : List (Option Nat)) (M : List Asn) (A A' : Option Addr) (n c m c' : Nat) (cs news : List Value) (et sz bts : Nat) (src : Sum Nat Nat) (B : Asn)
    (hg : guardS ops st.fr ⟨dst, .call { callee := .builtin .append, args := #[s, x], argTypes := #[t, t] }, ty, pos, after, gd⟩ = .run)
    (hs : (ev st.fr s).den = .slice A n c) (hsno : ev st.fr s ≠ .no) (hx : (ev st.fr x).den = .slice A' m c') (hxno : ev st.fr x ≠ .no)
    (ht : (te T.tab t).map (·.k) = some (.slice et)) (he' : (te T.tab et).map (fun e => (e.size, e.bytes, e.zero.length)) = some (sz, bts, sz)) (hpos : 0 < sz)
    (hsel : sel.map (asnAt st.res) = M.map some) (hnd : sel.Nodup) (hM : ∀ h, Asn.starH M h → (Row et sz A n c cs).holds h)
    (hsrc : has st src B) (hB : ∀ h, B.holds h → (Rd sz A' m news).holds h)
    (n' : Nat) (cs' : List Value) (hn' : n' = n + m) (hcs' : cs' = cs ++ news) (hmax : n + m ≤ maxLen) (hbytes : (n + m) * bts ≤ 140737488355328)
    (hb : ∀ A2 c2, blkLe st.res (place st.res sel (deads pad ++ [.fact (Row et sz A2 n' c2 cs')])))
    (h : ∀ A2 c2, (A2 = none → A = none ∧ m = 0) → n' ≤ c2 → Go P E (.o ops l :: r) (St.put ⟨st.fr, place st.res sel (deads pad ++ [.fact (Row et sz A2 n' c2 cs')]), st.ro⟩ dst (.va (.slice A2 n' c2))) Q) :
    Go P E (.o ops (⟨dst, .call { callee := .builtin .append, args := #[s, x], argTypes := #[t, t] }, ty, pos, after, gd⟩ :: l) :: r) st Q := by
  subst hn' hcs'
  obtain ⟨e, he, hsz, hbts, hz⟩ : ∃ e, te T.tab et = some e ∧ e.size = sz ∧ e.bytes = bts ∧ e.zero.length = e.size := by
    cases hq : te T.tab et with
    | none => rw [hq] at he'; cases he'
    | some e =>
      rw [hq] at he'
      simp only [Option.map_some, Option.some.injEq, Prod.mk.injEq] at he'
      exact ⟨e, rfl, he'.1, he'.2.1, he'.2.2.trans he'.1.symm⟩
  subst hsz hbts
  refine Go.step fun a w hR => ⟨by have := guard_spec hR.fr (ops := ops) ⟨dst, .call { callee := .builtin .append, args := #[s, x], argTypes := #[t, t] }, ty, pos, after, gd⟩; rw [hg] at this; exact this, ?_⟩
  obtain ⟨hs', hi', hres⟩ := hR.res
  have hrow := hM _ (selH_star hres.le hres.dis hres.holds hsel hnd)
  have hown := row_owns hrow (selH_le _ _ _)
  obtain ⟨hl2, h12, h32⟩ := hB _ (has_holds hsrc hres)
  cases htt : te T.tab t with
  | none => rw [htt] at ht; cases ht
  | some et' =>
    rw [htt] at ht
    simp at ht
    obtain ⟨ii, u, zz, hii, hu, hz', hk, _⟩ := te_spec hT.tab htt
    obtain ⟨i2, u2, z2, hi2, hu2, hz2, hk2, hs2, hb2, hz2'⟩ := te_spec hT.tab he
    rw [ht] at hk
    cases u <;> simp [tkOf] at hk
    subst hk
    have hzs : z2.cells.size = e.size := by rw [← hz, hz2']; simp
    have hnn : ∀ d ∈ news, d.oneCell' = true := h12
    -- the run, whether x is nil or not
    have hrun : ∃ v' w', (Builtin.append_ #[t, t] ty #[.slice A n c, .slice A' m c']).run P w = .ok v' w' ∧ w'.ownsRow 0 et e.size v' (n + m) (cs ++ news) ∧ w.grownBy w' (Value.ownBlock (.slice A n c)) ∧ (v' = .slice none 0 0 → Value.slice A n c = .slice none 0 0 ∧ m = 0) ∧ (v'.ownBlock = Value.ownBlock (.slice A n c) ∨ v'.ownBlock = some w.heap.size) := by
      rcases Nat.eq_zero_or_pos m with hm0 | hm
      · subst hm0
        have hn0 : news = [] := List.eq_nil_of_length_eq_zero (by simpa using hl2)
        subst hn0
        refine ⟨.slice A n c, w, ?_, by simpa using hown, ⟨rfl, rfl, rfl, Nat.le_refl _, fun _ _ _ => rfl⟩, fun e => ⟨e, rfl⟩, .inl rfl⟩
        rcases hown.2 with ⟨h1, h2⟩ | ⟨g, cap, cur, h1, _, _, hnc, _⟩
        · cases h1
          cases A' <;> simp [Builtin.append_, run_underlying hu, sizeOf, typeInfo, hi2, Builtin.lenOf, Builtin.firstCells, loadCells, loadCellsFrom]
        · cases h1
          cases A' <;> simp [Builtin.append_, run_underlying hu, sizeOf, typeInfo, hi2, Builtin.lenOf, Builtin.firstCells, loadCells, loadCellsFrom, hnc, storeCells]
      · obtain ⟨g, o, cur, e2, fz, rfl, hcur, htk⟩ := h32 hm
        have hcur : w.heap[g]? = some (.cells cur e2 fz) := hcur
        have hcell : ∀ j v, news[j]? = some v → w.cell? ((⟨g, o, none⟩ : Addr).add j) = some v := fun j v hv => by
          rw [addr_add, cell_of_row w g _ _ e2 fz hcur]
          rw [← htk, List.getElem?_take] at hv
          split at hv
          · rw [List.getElem?_drop] at hv
            rw [← Array.getElem?_toList, ← hv]
          · cases hv
        obtain ⟨v', w', h1, h2, h3, h4, h5⟩ := Go.run_append_own_at (P := P) w 0 t ty et i2 z2 e.size e.bytes hu hi2 hz2 hs2.symm hb2.symm hzs hpos (.slice A n c) n cs hown ⟨g, o, none⟩ m c' news hl2 hcell hnn hmax hbytes (Nat.zero_le _)
        exact ⟨v', w', h1, h2, h3, fun e => h4.1 e, h5⟩
    obtain ⟨v', w', hrun, hown', hgrown, hnil, hwhere⟩ := hrun
    obtain ⟨A2, c2, rfl, hrow'⟩ := owns_row hown' (fun d hd => by
      rcases List.mem_append.1 hd with hd | hd
      · exact hrow.2.1 d hd
      · exact hnn d hd)
    obtain ⟨k, hk1, hk2, hk3⟩ := own_le (w' := w') (.slice A2 (n + m) c2)
    have hext : Ext (selH w hs' sel) w w' := ⟨hgrown.os, hgrown.tape, hgrown.output, hgrown.size, fun b hb hn => hgrown.block b hb (fun e => by
      rcases hrow.2.2 with ⟨rfl, _⟩ | ⟨g, cur, rfl, hgc, _⟩
      · simp [Value.ownBlock] at e
      · simp [Value.ownBlock] at e; subst e; rw [hgc] at hn; cases hn)⟩
    have hnew : ∀ b, k b ≠ none → selH w hs' sel b ≠ none ∨ w.heap.size ≤ b := fun b hb => by
      have h1 := hk3 b hb
      rcases hwhere with hw1 | hw1
      · rw [hw1] at h1
        left
        rcases hrow.2.2 with ⟨rfl, _⟩ | ⟨g, cur, rfl, hgc, _⟩
        · cases h1
        · simp only [Value.ownBlock, Option.some.injEq] at h1
          subst h1
          rw [hgc]; simp
      · rw [hw1] at h1
        cases h1
        exact .inr (Nat.le_refl _)
    have hplace := place_ok hres sel (selH w hs' sel) selH_C (deads pad ++ [.fact (Row et e.size A2 (n + m) c2 (cs ++ news))]) k (starH_pad (l := [.fact _]) (starH_one.2 (hrow' k hk2)) pad) hk1 hext hnew (newsOk_pad (newsOk_fact (newsOk_nil _)) pad) (hb A2 c2)
    obtain ⟨hs2', hres'⟩ := hplace
    refine wp_value (v := .slice A2 (n + m) c2) (w' := w') ?_ (h A2 c2 (fun e => ?_) ?_ _ _ ?_)
    · simp [execOp, resolve, invoke, builtin, SV.den_of_is (ev_is hR.fr s) hsno, SV.den_of_is (ev_is hR.fr x) hxno, hs, hx, hrun]
    · subst e
      rcases hown'.2 with ⟨h1, h2⟩ | ⟨g, cap, cur, h1, _⟩
      · have := hnil h1
        cases this.1
        exact ⟨rfl, this.2⟩
      · cases h1
    · rcases (hrow' k hk2).2.2 with ⟨_, h1, h2⟩ | ⟨g, cur, _, _, h1, _⟩
      · omega
      · exact h1
    · have hR' : R E ⟨st.fr, place st.res sel (deads pad ++ [.fact (Row et e.size A2 (n + m) c2 (cs ++ news))]), st.ro⟩ a w' := ⟨hR.fr.mono (blkLe_spec (hb A2 c2)), hs2', hi', hres'⟩
      exact hR'.put dst (x := .va (.slice A2 (n + m) c2)) rfl trivial
/-- a slice's bound: left out, or told -/
def bound (fr : List SV) (x : Option Operand) (d n : Nat) : Prop := match x with | none => n = d | some o => ∃ k, ev fr o = .va (.int k (n : Int))
theorem sliceBound_run {P : Program} {w : World} {k : IntKind} {i y : Nat} {code : BoundsCode} (h : i ≤ y) : (Instr.sliceBound (.int k (i : Int)) y code).run P w = .ok i w := by
  have hc : (0 : Int) ≤ (i : Int) ∧ (i : Int) ≤ (y : Int) := ⟨by omega, by omega⟩
  simp [Instr.sliceBound, asIntOf]
  intro hh; omega
theorem slice_run (hT : TbsOk P T) {dst : Option Tmp} {t : TypeId} {x : Operand} {lo hi mx : Option Operand} {ty : TypeId} {pos : String} {after : Array Edge} {gd : Option (Nat × Bool)} (A A2 : Option Addr) (n c lo' hi' mx' : Nat) (et sz : Nat) {fr : List SV} {res : List Res} {a : Act} (hF : FrOk fr res a)
    (hx : (ev fr x).den = .slice A n c) (hxno : ev fr x ≠ .no)
    (ht : (te T.tab t).map (·.k) = some (.slice et)) (he' : (te T.tab et).map (·.size) = some sz)
    (hlo : bound fr lo 0 lo') (hhi : bound fr hi n hi') (hmx : bound fr mx c mx') (hform : mx.isSome = true → hi.isSome = true) (h1 : lo' ≤ hi') (h2 : hi' ≤ mx') (h3 : mx' ≤ c)
    (hA : A2 = if mx' = lo' then A else A.map (·.add (lo' * sz))) (w : World) :
    (execOp a.eval ⟨dst, .slice t x lo hi mx, ty, pos, after, gd⟩).run P w = .ok (.value (.slice A2 (hi' - lo') (mx' - lo'))) w := by
  obtain ⟨e, he, hsz⟩ : ∃ e, te T.tab et = some e ∧ e.size = sz := by
    cases hq : te T.tab et with
    | none => rw [hq] at he'; cases he'
    | some e => rw [hq] at he'; exact ⟨e, rfl, by simpa using he'⟩
  subst hsz
  cases htt : te T.tab t with
  | none => rw [htt] at ht; cases ht
  | some et' =>
    rw [htt] at ht
    simp at ht
    obtain ⟨ii, u, zz, hii, hu, hz', hk, _⟩ := te_spec hT.tab htt
    obtain ⟨i2, u2, z2, hi2, hu2, hz2, hk2, hs2, _⟩ := te_spec hT.tab he
    rw [ht] at hk
    cases u <;> simp [tkOf] at hk
    subst hk
    have hsz : (sizeOf et).run P w = .ok e.size w := by simp [sizeOf, typeInfo, hi2, hs2]
    have hb : (Instr.sliceBounds true n c (lo.map a.eval) (hi.map a.eval) (mx.map a.eval)).run P w = .ok (lo', hi', mx') w := by
      unfold Instr.sliceBounds
      cases mx with
      | none =>
        simp only [bound] at hmx
        subst hmx
        cases hi with
        | none =>
          simp only [bound] at hhi
          subst hhi
          cases lo with
          | none => simp only [bound] at hlo; subst hlo; simp
          | some ol =>
            obtain ⟨kl, hol⟩ := hlo
            have e1 := ev_den hF hol (by simp)
            simp only [Option.map_some, Option.map_none, Sem.run_bind, Sem.run_pure, Result.andThen_ok, e1, SV.den, sliceBound_run h1]
        | some oh =>
          obtain ⟨kh, hoh⟩ := hhi
          have e2 := ev_den hF hoh (by simp)
          cases lo with
          | none => simp only [bound] at hlo; subst hlo; simp only [Option.map_some, Option.map_none, Sem.run_bind, Sem.run_pure, Result.andThen_ok, e2, SV.den, sliceBound_run h2]
          | some ol =>
            obtain ⟨kl, hol⟩ := hlo
            have e1 := ev_den hF hol (by simp)
            simp only [Option.map_some, Option.map_none, Sem.run_bind, Sem.run_pure, Result.andThen_ok, e1, e2, SV.den, sliceBound_run h1, sliceBound_run h2]
      | some om =>
        obtain ⟨km, hom⟩ := hmx
        have e3 := ev_den hF hom (by simp)
        cases hi with
        | none => cases hform rfl
        | some oh =>
          obtain ⟨kh, hoh⟩ := hhi
          have e2 := ev_den hF hoh (by simp)
          cases lo with
          | none => simp only [bound] at hlo; subst hlo; simp only [Option.map_some, Option.map_none, Sem.run_bind, Sem.run_pure, Result.andThen_ok, e2, e3, SV.den, sliceBound_run h2, sliceBound_run h3]
          | some ol =>
            obtain ⟨kl, hol⟩ := hlo
            have e1 := ev_den hF hol (by simp)
            simp only [Option.map_some, Sem.run_bind, Sem.run_pure, Result.andThen_ok, e1, e2, e3, SV.den, sliceBound_run h1, sliceBound_run h2, sliceBound_run h3]
    simp only [execOp, Instr.sliceAt, SV.den_of_is (ev_is hF x) hxno, hx, Sem.run_bind, run_underlying hu, Result.andThen_ok, Instr.slice, hb, hsz, Sem.run_pure, hA]
/-- x[lo:hi:mx], x a slice -/
theorem go_slice (hT : TbsOk P T) {dst : Option Tmp} {t : TypeId} {x : Operand} {lo hi mx : Option Operand} {ty : TypeId} {pos : String} {after : Array Edge} {gd : Option (Nat × Bool)} (A A2 : Option Addr) (n c lo' hi' mx' : Nat) (et sz : Nat)
    (hg : guardS ops st.fr ⟨dst, .slice t x lo hi mx, ty, pos, after, gd⟩ = .run) (hx : (ev st.fr x).den = .slice A n c) (hxno : ev st.fr x ≠ .no)
    (ht : (te T.tab t).map (·.k) = some (.slice et)) (he' : (te T.tab et).map (·.size) = some sz)
    (hlo : bound st.fr lo 0 lo') (hhi : bound st.fr hi n hi') (hmx : bound st.fr mx c mx') (hform : mx.isSome = true → hi.isSome = true) (h1 : lo' ≤ hi') (h2 : hi' ≤ mx') (h3 : mx' ≤ c)
    (hA : A2 = if mx' = lo' then A else A.map (·.add (lo' * sz)))
    (h : Go P E (.o ops l :: r) (st.put dst (.va (.slice A2 (hi' - lo') (mx' - lo')))) Q) : Go P E (.o ops (⟨dst, .slice t x lo hi mx, ty, pos, after, gd⟩ :: l) :: r) st Q := by
  exact go_val (o := ⟨dst, .slice t x lo hi mx, ty, pos, after, gd⟩) hg (.va (.slice A2 (hi' - lo') (mx' - lo'))) trivial (fun a w hR => slice_run hT A A2 n c lo' hi' mx' et sz hR.fr hx hxno ht he' hlo hhi hmx hform h1 h2 h3 hA w) h
end
end Go.Sy
namespace Go.Sy
open Go.RowKit
section
variable {P : Program} {w : World} {d : Nat} {xs ys : Array Value} {f : Field} {fs : List Field} {r : Bool}
theorem part_one {t : TypeId} {u : TypeDesc} (ht : P.underlying t = some u) (hu : (tkOf u).isAgg = false) {cs : Array Value} {i : Nat} {v : Value} (h : cs[i]? = some v) : (part t cs i).run P w = .ok v w := by
  unfold part
  rw [Sem.run_bind, isAgg_run P w ht, hu]
  simp [h]
theorem eqF_nil : (Op.eqFields d xs ys []).run P w = .ok true w := rfl
theorem eqF_step {a b : Value} {q : Bool} (hn : f.name ≠ "_") (ha : (part f.type xs f.offset).run P w = .ok a w) (hb : (part f.type ys f.offset).run P w = .ok b w) (he : (Op.equalIn d f.type a b).run P w = .ok q w)
    (h : (Op.eqFields d xs ys fs).run P w = .ok r w) : (Op.eqFields d xs ys (f :: fs)).run P w = .ok (q && r) w := by
  simp only [Op.eqFields]
  rw [if_pos hn]
  simp only [Sem.run_bind, ha, hb, he, Result.andThen_ok]
  cases q
  · rfl
  · simpa using h
theorem eqF_int {k : IntKind} {a b : Int} (hn : f.name ≠ "_") (ht : P.underlying f.type = some (.int k)) (hx : xs[f.offset]? = some (.int k a)) (hy : ys[f.offset]? = some (.int k b)) (h : (Op.eqFields (d + 1) xs ys fs).run P w = .ok r w) :
    (Op.eqFields (d + 1) xs ys (f :: fs)).run P w = .ok ((a == b) && r) w :=
  eqF_step hn (part_one ht rfl hx) (part_one ht rfl hy) (run_equalIn_int w d f.type k k a b ht) h
/-- a struct's type whose values are compared field by field -/
structure EqOk (P : Program) (t : TypeId) : Prop where
  und : P.underlying t = some (.struct (P.fieldsOf t))
  held : P.stoodInHeld t = false
theorem eq_struct {t : TypeId} (h : EqOk P t) {l : List Field} (hl : (P.fieldsOf t).toList = l) (he : (Op.eqFields d xs ys l).run P w = .ok r w) : (Op.equalIn (d + 1) t (.agg xs) (.agg ys)).run P w = .ok r w := by
  rw [run_equalIn_struct w d t xs ys h.und h.held, hl]
  exact he
theorem eql_run {dst : Option Tmp} {t yt : TypeId} {x y : Operand} {ty : TypeId} {pos : String} {after : Array Edge} {gd : Option (Nat × Bool)} {a : Act} (hx : a.eval x = .agg xs) (hy : a.eval y = .agg ys) (hm : P.eqGuardType P.depth t = false) (he : (Op.equalIn 10000 t (.agg xs) (.agg ys)).run P w = .ok r w) :
    (execOp a.eval ⟨dst, .binOp .eql t x y yt, ty, pos, after, gd⟩).run P w = .ok (.value (.bool r)) w := by
  simp only [execOp, hx, hy, Sem.run_bind, run_eqGuard_agg w .eql t x y xs ys hm, Result.andThen_ok, run_eql_struct, he, Sem.run_pure]
theorem neq_run {dst : Option Tmp} {t yt : TypeId} {x y : Operand} {ty : TypeId} {pos : String} {after : Array Edge} {gd : Option (Nat × Bool)} {a : Act} (hx : a.eval x = .agg xs) (hy : a.eval y = .agg ys) (hm : P.eqGuardType P.depth t = false) (he : (Op.equalIn 10000 t (.agg xs) (.agg ys)).run P w = .ok r w) :
    (execOp a.eval ⟨dst, .binOp .neq t x y yt, ty, pos, after, gd⟩).run P w = .ok (.value (.bool !r)) w := by
  simp only [execOp, hx, hy, Sem.run_bind, run_eqGuard_agg w .neq t x y xs ys hm, Result.andThen_ok, run_neq_struct, he, Sem.run_pure]
end
end Go.Sy
namespace Go.Sy
open Go.RowKit
section
variable {P : Program} {T : Tbs} {E : Entry} {Q : Exit → St → Prop} {ops : Array Oper} {l : List Oper} {r : List It} {st : St}
theorem tk_slice (hT : TbsOk P T) {full : Bool} {held : List (Nat × Res)} {ro0 : List Asn} {q : Nat} {p : List (Nat × Bool)} {listed : List Bool} {dst : Option Tmp} {t : TypeId} {x : Operand} {lo hi mx : Option Operand} {ty : TypeId} {pos : String} {after : Array Edge} {gd : Option (Nat × Bool)} (A A2 : Option Addr) (n c lo' hi' mx' : Nat) (et sz : Nat)
    (hchk : (heldOk held st.res ∧ ro0 = st.ro) ∧ planOk ops full ((q, true) :: p) listed = true) (ho : ops.toList[q]? = some ⟨dst, .slice t x lo hi mx, ty, pos, after, gd⟩)
    (hg : guardS ops st.fr ⟨dst, .slice t x lo hi mx, ty, pos, after, gd⟩ = .run) (hx : (ev st.fr x).den = .slice A n c) (hxno : ev st.fr x ≠ .no)
    (ht : (te T.tab t).map (·.k) = some (.slice et)) (he' : (te T.tab et).map (·.size) = some sz)
    (hlo : bound st.fr lo 0 lo') (hhi : bound st.fr hi n hi') (hmx : bound st.fr mx c mx') (hform : mx.isSome = true → hi.isSome = true) (h1 : lo' ≤ hi') (h2 : hi' ≤ mx') (h3 : mx' ≤ c)
    (hA : A2 = if mx' = lo' then A else A.map (·.add (lo' * sz)))
    (h : Go P E (.d ops full held ro0 p (listed.set q true) :: r) (st.put dst (.va (.slice A2 (hi' - lo') (mx' - lo')))) Q) : Go P E (.d ops full held ro0 ((q, true) :: p) listed :: r) st Q :=
  tk_val (o := ⟨dst, .slice t x lo hi mx, ty, pos, after, gd⟩) hchk ho hg (.va (.slice A2 (hi' - lo') (mx' - lo'))) trivial (fun _a w hF _ => slice_run hT A A2 n c lo' hi' mx' et sz hF hx hxno ht he' hlo hhi hmx hform h1 h2 h3 hA w) h
/-- &x[i], x a slice whose base is known -/
theorem go_at (hT : TbsOk P T) {dst : Option Tmp} {t : TypeId} {x i : Operand} {ty : TypeId} {pos : String} {after : Array Edge} {gd : Option (Nat × Bool)} (g o n c : Nat) (k : IntKind) (j : Nat) (et sz : Nat)
    (hg : guardS ops st.fr ⟨dst, .indexAddr t x i, ty, pos, after, gd⟩ = .run)
    (hx : ev st.fr x = .va (.slice (some ⟨g, o, none⟩) n c)) (hi : ev st.fr i = .va (.int k (j : Int))) (ht : (te T.tab t).map (·.k) = some (.slice et)) (he' : (te T.tab et).map (·.size) = some sz) (hj : j < n)
    (h : Go P E (.o ops l :: r) (st.put dst (.va (.pointer (some ⟨g, o + j * sz, none⟩)))) Q) : Go P E (.o ops (⟨dst, .indexAddr t x i, ty, pos, after, gd⟩ :: l) :: r) st Q :=
  go_val (o := ⟨dst, .indexAddr t x i, ty, pos, after, gd⟩) hg (.va (.pointer (some ⟨g, o + j * sz, none⟩))) trivial (fun _a w hR => index_run hT g o n c k j et sz hR.fr hx hi ht he' hj w) h
end
end Go.Sy
namespace Go.Sy
open Go.RowKit
def RoundN (P : Program) (E : Entry) (body : Code) (r : List It) (Q : Exit → St → Prop) : Nat → Exit → St → Prop
  | 0, e, st => match e with
    | .normal => False
    | e => wayOut P E r Q e st
  | n + 1, e, st => match e with
    | .normal => Go P E [.c body] st (RoundN P E body r Q n)
    | e => wayOut P E r Q e st
theorem wayOut_ok {P : Program} {E : Entry} {r : List It} {Q : Exit → St → Prop} {e : Exit} {st : St} (he : e ≠ .normal) (h : wayOut P E r Q e st) {a : Act} {w : World} (hR : R E st a w) : post P r (Fin Q E) e a w := by
  cases e with
  | normal => exact absurd rfl he
  | exit id =>
    simp only [wayOut] at h
    split at h
    · rename_i r' hp
      rw [post_pop hp]
      exact h a w hR
    · rename_i hp
      rw [post_exit hp]
      exact ⟨st, h, hR⟩
  | ret => rw [post_ret]; exact ⟨st, h, hR⟩
  | goto l => exact h.elim
  | panic c => exact h.elim
  | outgrown => exact h.elim
/-- a loop of which is known that it ends within so many rounds: these are gone through one by one -/
theorem go_rounds {P : Program} {E : Entry} {Q : Exit → St → Prop} {body : Code} {r : List It} {st : St} (n : Nat) (h : Go P E [.c body] st (RoundN P E body r Q n)) : Go P E (.c (.loop body) :: r) st Q := by
  intro a w hR
  refine wp_loop_rounds (n + 1) ?_
  induction n generalizing st a w with
  | zero =>
    refine Code.wp_mono (fun e a' w' hq => ?_) (h a w hR)
    cases e with
    | normal => obtain ⟨st', hq, _⟩ := hq; exact hq.elim
    | panic c => exact hq.elim
    | outgrown => exact hq.elim
    | exit id => obtain ⟨st', hq, hR'⟩ := hq; exact wayOut_ok (e := .exit id) (by simp) hq hR'
    | ret => obtain ⟨st', hq, hR'⟩ := hq; exact wayOut_ok (Q := Q) (r := r) (e := .ret) (by simp) hq hR'
    | goto l => obtain ⟨st', hq, hR'⟩ := hq; exact wayOut_ok (e := .goto l) (by simp) hq hR'
  | succ n ih =>
    refine Code.wp_mono (fun e a' w' hq => ?_) (h a w hR)
    cases e with
    | normal => obtain ⟨st', hq, hR'⟩ := hq; exact ih hq a' w' hR'
    | panic c => exact hq.elim
    | outgrown => exact hq.elim
    | exit id => obtain ⟨st', hq, hR'⟩ := hq; exact wayOut_ok (e := .exit id) (by simp) hq hR'
    | ret => obtain ⟨st', hq, hR'⟩ := hq; exact wayOut_ok (Q := Q) (r := r) (e := .ret) (by simp) hq hR'
    | goto l => obtain ⟨st', hq, hR'⟩ := hq; exact wayOut_ok (e := .goto l) (by simp) hq hR'
/-- what follows of what is held, or read, is known from there on -/
theorem go_know {P : Program} {E : Entry} {Q : Exit → St → Prop} {todo : List It} {st : St} {p : Prop} (s : Sum Nat Nat) (B : Asn) (hs : has st s B) (hp : ∀ h, B.holds h → p) (h : p → Go P E todo st Q) : Go P E todo st Q := fun a w hR => by
  obtain ⟨hs', hi', hres⟩ := hR.res
  exact h (hp _ (has_holds hs hres)) a w hR
end Go.Sy
namespace Go.Sy
open Go.RowKit
theorem facts_asn (l : List Asn) : (l.map Res.fact).map Res.asn = l := by
  induction l with
  | nil => rfl
  | cons x l ih => simp [Res.asn, ih]
theorem facts_ok (β : Nat → Option Nat) (l : List Asn) : newsOk β (l.map Res.fact) := fun x hx => by
  obtain ⟨A, _, rfl⟩ := List.mem_map.1 hx
  trivial
/-- a call of which a triple is known: what it hands back is held as facts -/
theorem ev_callF {P : Program} {f : FuncId} {args : List Value} {M N : List Asn} {X : Type} {ret : X → Value} {good : X → Prop} {after : X → List Asn} (T : Triple P f args M N X ret good after)
    {E : Entry} {Q : Exit → St → Prop} {svs : List SV} {d : Option Tmp} {todo : List It} {st : St} (sel : List Nat) (nsel : List (Sum Nat Nat))
    (hargs : SV.denL svs = args) (hsel : sel.map (asnAt st.res) = M.map some) (hnd : sel.Nodup) (hn : nsel.map (lent st) = N.map some) (hapart : ∀ i, Sum.inr i ∈ nsel → i ∉ sel)
    (hb : ∀ x, blkLe st.res (place st.res sel ((after x).map .fact)))
    (h : ∀ x, good x → Go P E todo (St.put ⟨st.fr, place st.res sel ((after x).map .fact), st.ro⟩ d (normV (ret x))) Q) : outSat P E Q (.call f svs d todo st) :=
  ev_call T sel nsel (fun x => (after x).map .fact) hargs hsel hnd hn hapart (fun _x => facts_asn _) (fun _x => facts_ok _ _) hb h
end Go.Sy
namespace Go.Sy
open Go.RowKit
/-- a part of an element's cells, as the machine knows it -/
def pickE (e : TE) (vs : List Value) (k : Nat) : SV := match e.k.isAgg with | true => .ag (((vs.drop k).take e.size).map vaS) | false => vaS (vs.getD k undef)
def wideE (e : TE) : Nat := match e.k.isAgg with | true => e.size | false => 1
theorem pickE_if (e : TE) (vs : List Value) (k : Nat) (hk : k + wideE e ≤ vs.length) :
    (if e.k.isAgg then some (SV.ag (((vs.drop k).take (wideE e)).map vaS)) else (((vs.drop k).take (wideE e)).map vaS)[0]?) = some (pickE e vs k) := by
  unfold pickE wideE at *
  cases h : e.k.isAgg
  · simp only [h] at hk ⊢
    have : k < vs.length := by omega
    simp [List.getElem?_drop, List.getD, List.getElem?_eq_getElem this]
  · simp
theorem wideE_len (e : TE) (vs : List Value) (k : Nat) (hk : k + wideE e ≤ vs.length) : ((vs.drop k).take (wideE e)).length = (if e.k.isAgg then e.size else 1) := by
  rw [List.length_take, List.length_drop]
  unfold wideE at *
  cases h : e.k.isAgg <;> simp only [h] at hk ⊢
  · simp; omega
  · simp; omega
theorem part_at {α : Type} {enc : α → List Value} {sz : Nat} (h : ∀ x, (enc x).length = sz) {l : List α} {j : Nat} (hj : j < l.length) (k n : Nat) (hk : k + n ≤ sz) :
    ((l.flatMap enc).drop (j * sz + k)).take (((enc l[j]).drop k).take n).length = ((enc l[j]).drop k).take n := by
  have hl : (((enc l[j]).drop k).take n).length = n := by rw [List.length_take, List.length_drop, h]; omega
  refine flat_get_at h hj k ?_ (by rw [hl]; exact hk)
  rw [hl, List.extract_eq_take_drop]
  congr 1
  omega
section
variable {P : Program} {T : Tbs} {E : Entry} {Q : Exit → St → Prop} {ops : Array Oper} {l : List Oper} {r : List It} {st : St} {α : Type} {enc : α → List Value}
/-- &x[i] -/
theorem go_indexE (hT : TbsOk P T) {dst : Option Tmp} {t : TypeId} {x i : Operand} {ty : TypeId} {pos : String} {after : Array Edge} {gd : Option (Nat × Bool)} {A : Option Addr} {n c : Nat} {k : IntKind} {z : Int} {et sz : Nat} {B : Asn} {cs : List Value} (s : Sum Nat Nat) (j : Nat)
    (hg : guardS ops st.fr ⟨dst, .indexAddr t x i, ty, pos, after, gd⟩ = .run)
    (hx : ev st.fr x = .va (.slice A n c)) (hi : ev st.fr i = .va (.int k z)) (hz : z = (j : Int)) (ht : (te T.tab t).map (·.k) = some (.slice et)) (he' : (te T.tab et).map (·.size) = some sz) (hj : j < n)
    (hs : has st s B) (hB : ∀ h, B.holds h → (Rd sz A n cs).holds h)
    (h : ∀ g o, A = some ⟨g, o, none⟩ → Go P E (.o ops l :: r) (st.put dst (.va (.pointer (some ⟨g, o + j * sz, none⟩)))) Q) : Go P E (.o ops (⟨dst, .indexAddr t x i, ty, pos, after, gd⟩ :: l) :: r) st Q :=
  go_index hT A n c k j et sz s B cs hg hx (by rw [hi, hz]) ht he' hj hs hB h
theorem tk_indexE (hT : TbsOk P T) {full : Bool} {held : List (Nat × Res)} {ro0 : List Asn} {q : Nat} {p : List (Nat × Bool)} {listed : List Bool} {dst : Option Tmp} {t : TypeId} {x i : Operand} {ty : TypeId} {pos : String} {after : Array Edge} {gd : Option (Nat × Bool)} {A : Option Addr} {n c : Nat} {k : IntKind} {z : Int} {et sz : Nat} {B : Asn} {cs : List Value} (s : Sum Nat Nat) (j : Nat)
    (hchk : (heldOk held st.res ∧ ro0 = st.ro) ∧ planOk ops full ((q, true) :: p) listed = true) (ho : ops.toList[q]? = some ⟨dst, .indexAddr t x i, ty, pos, after, gd⟩)
    (hg : guardS ops st.fr ⟨dst, .indexAddr t x i, ty, pos, after, gd⟩ = .run)
    (hx : ev st.fr x = .va (.slice A n c)) (hi : ev st.fr i = .va (.int k z)) (hz : z = (j : Int)) (ht : (te T.tab t).map (·.k) = some (.slice et)) (he' : (te T.tab et).map (·.size) = some sz) (hj : j < n)
    (hs : hasD held ro0 s B) (hB : ∀ h, B.holds h → (Rd sz A n cs).holds h)
    (h : ∀ g o, A = some ⟨g, o, none⟩ → Go P E (.d ops full held ro0 p (listed.set q true) :: r) (st.put dst (.va (.pointer (some ⟨g, o + j * sz, none⟩)))) Q) : Go P E (.d ops full held ro0 ((q, true) :: p) listed :: r) st Q :=
  tk_index hT A n c k j et sz s B cs hchk ho hg hx (by rw [hi, hz]) ht he' hj hs hB h
/-- &x[i], x a slice of a row of its own -/
theorem go_index0 (hT : TbsOk P T) {dst : Option Tmp} {t : TypeId} {x i : Operand} {ty : TypeId} {pos : String} {after : Array Edge} {gd : Option (Nat × Bool)} {A : Option Addr} {n c : Nat} {k : IntKind} {z : Int} {et sz : Nat} {B : Asn} (s : Sum Nat Nat) (j : Nat)
    (hg : guardS ops st.fr ⟨dst, .indexAddr t x i, ty, pos, after, gd⟩ = .run)
    (hx : ev st.fr x = .va (.slice A n c)) (hi : ev st.fr i = .va (.int k z)) (hz : z = (j : Int)) (ht : (te T.tab t).map (·.k) = some (.slice et)) (he' : (te T.tab et).map (·.size) = some sz) (hj : j < n)
    (hs : has st s B) (hB : ∀ h, B.holds h → 0 < n → ∃ g, A = some ⟨g, 0, none⟩)
    (h : ∀ g, A = some ⟨g, 0, none⟩ → Go P E (.o ops l :: r) (st.put dst (.va (.pointer (some ⟨g, 0 + j * sz, none⟩)))) Q) : Go P E (.o ops (⟨dst, .indexAddr t x i, ty, pos, after, gd⟩ :: l) :: r) st Q :=
  go_know s B hs (p := ∃ g, A = some ⟨g, 0, none⟩) (fun h p => hB h p (by omega)) fun ⟨g, hA⟩ => by
    subst hA
    exact go_at hT g 0 n c k j et sz hg hx (by rw [hi, hz]) ht he' hj (h g rfl)
theorem tk_index0 (hT : TbsOk P T) {full : Bool} {held : List (Nat × Res)} {ro0 : List Asn} {q : Nat} {p : List (Nat × Bool)} {listed : List Bool} {dst : Option Tmp} {t : TypeId} {x i : Operand} {ty : TypeId} {pos : String} {after : Array Edge} {gd : Option (Nat × Bool)} {A : Option Addr} {n c : Nat} {k : IntKind} {z : Int} {et sz : Nat} {B : Asn} (s : Sum Nat Nat) (j : Nat)
    (hchk : (heldOk held st.res ∧ ro0 = st.ro) ∧ planOk ops full ((q, true) :: p) listed = true) (ho : ops.toList[q]? = some ⟨dst, .indexAddr t x i, ty, pos, after, gd⟩)
    (hg : guardS ops st.fr ⟨dst, .indexAddr t x i, ty, pos, after, gd⟩ = .run)
    (hx : ev st.fr x = .va (.slice A n c)) (hi : ev st.fr i = .va (.int k z)) (hz : z = (j : Int)) (ht : (te T.tab t).map (·.k) = some (.slice et)) (he' : (te T.tab et).map (·.size) = some sz) (hj : j < n)
    (hs : has st s B) (hB : ∀ h, B.holds h → 0 < n → ∃ g, A = some ⟨g, 0, none⟩)
    (h : ∀ g, A = some ⟨g, 0, none⟩ → Go P E (.d ops full held ro0 p (listed.set q true) :: r) (st.put dst (.va (.pointer (some ⟨g, 0 + j * sz, none⟩)))) Q) : Go P E (.d ops full held ro0 ((q, true) :: p) listed :: r) st Q :=
  go_know s B hs (p := ∃ g, A = some ⟨g, 0, none⟩) (fun h p => hB h p (by omega)) fun ⟨g, hA⟩ => by
    subst hA
    exact tk_val (o := ⟨dst, .indexAddr t x i, ty, pos, after, gd⟩) hchk ho hg (.va (.pointer (some ⟨g, 0 + j * sz, none⟩))) trivial (fun _ w hF _ => index_run hT g 0 n c k j et sz hF hx (by rw [hi, hz]) ht he' hj w) (h g rfl)
theorem Own.at0 {e sz n : Nat} {A : Option Addr} {cs : List Value} (h : Hp) (p : (Own e sz A n cs).holds h) (hn : 0 < n) : ∃ g, A = some ⟨g, 0, none⟩ := by
  rcases p.2.2 with h0 | ⟨g, _, h0, _⟩
  · omega
  · exact ⟨g, h0⟩
theorem Row.at0 {e sz n c : Nat} {A : Option Addr} {cs : List Value} (h : Hp) (p : (Row e sz A n c cs).holds h) (hn : 0 < n) : ∃ g, A = some ⟨g, 0, none⟩ := by
  rcases p.2.2 with ⟨_, h0, _⟩ | ⟨g, _, h0, _⟩
  · omega
  · exact ⟨g, h0⟩
/-- &x[i], x of a base that is known -/
theorem go_atE (hT : TbsOk P T) {dst : Option Tmp} {t : TypeId} {x i : Operand} {ty : TypeId} {pos : String} {after : Array Edge} {gd : Option (Nat × Bool)} {g o n c : Nat} {k : IntKind} {z : Int} {et sz : Nat} (j : Nat)
    (hg : guardS ops st.fr ⟨dst, .indexAddr t x i, ty, pos, after, gd⟩ = .run)
    (hx : ev st.fr x = .va (.slice (some ⟨g, o, none⟩) n c)) (hi : ev st.fr i = .va (.int k z)) (hz : z = (j : Int)) (ht : (te T.tab t).map (·.k) = some (.slice et)) (he' : (te T.tab et).map (·.size) = some sz) (hj : j < n)
    (h : Go P E (.o ops l :: r) (st.put dst (.va (.pointer (some ⟨g, o + j * sz, none⟩)))) Q) : Go P E (.o ops (⟨dst, .indexAddr t x i, ty, pos, after, gd⟩ :: l) :: r) st Q :=
  go_at hT g o n c k j et sz hg hx (by rw [hi, hz]) ht he' hj h
theorem tk_atE (hT : TbsOk P T) {full : Bool} {held : List (Nat × Res)} {ro0 : List Asn} {q : Nat} {p : List (Nat × Bool)} {listed : List Bool} {dst : Option Tmp} {t : TypeId} {x i : Operand} {ty : TypeId} {pos : String} {after : Array Edge} {gd : Option (Nat × Bool)} {g o n c : Nat} {k : IntKind} {z : Int} {et sz : Nat} (j : Nat)
    (hchk : (heldOk held st.res ∧ ro0 = st.ro) ∧ planOk ops full ((q, true) :: p) listed = true) (ho : ops.toList[q]? = some ⟨dst, .indexAddr t x i, ty, pos, after, gd⟩)
    (hg : guardS ops st.fr ⟨dst, .indexAddr t x i, ty, pos, after, gd⟩ = .run)
    (hx : ev st.fr x = .va (.slice (some ⟨g, o, none⟩) n c)) (hi : ev st.fr i = .va (.int k z)) (hz : z = (j : Int)) (ht : (te T.tab t).map (·.k) = some (.slice et)) (he' : (te T.tab et).map (·.size) = some sz) (hj : j < n)
    (h : Go P E (.d ops full held ro0 p (listed.set q true) :: r) (st.put dst (.va (.pointer (some ⟨g, o + j * sz, none⟩)))) Q) : Go P E (.d ops full held ro0 ((q, true) :: p) listed :: r) st Q :=
  tk_val (o := ⟨dst, .indexAddr t x i, ty, pos, after, gd⟩) hchk ho hg (.va (.pointer (some ⟨g, o + j * sz, none⟩))) trivial (fun _ w hF _ => index_run hT g o n c k j et sz hF hx (by rw [hi, hz]) ht he' hj w) h
/-- a load of an element, or of a part of it -/
theorem go_loadE (hT : TbsOk P T) {dst : Option Tmp} {t : TypeId} {x : Operand} {ty : TypeId} {pos : String} {after : Array Edge} {gd : Option (Nat × Bool)} {g o' o sz n : Nat} {e : TE} {B : Asn} {L : List α} (s : Sum Nat Nat) (j k : Nat)
    (hg : guardS ops st.fr ⟨dst, .load t x, ty, pos, after, gd⟩ = .run)
    (hx : ev st.fr x = .va (.pointer (some ⟨g, o', none⟩))) (ht : te T.tab t = some e)
    (hs : has st s B) (hB : ∀ h, B.holds h → (Rd sz (some ⟨g, o, none⟩) n (L.flatMap enc)).holds h) (ho : o' = o + (j * sz + k)) (hlen : ∀ x, (enc x).length = sz) (hn : j < n) (hj : j < L.length) (hk : k + wideE e ≤ sz)
    (h : Go P E (.o ops l :: r) (st.put dst (pickE e (enc L[j]) k)) Q) : Go P E (.o ops (⟨dst, .load t x, ty, pos, after, gd⟩ :: l) :: r) st Q :=
  go_load hT g o' o (j * sz + k) sz n e s B (L.flatMap enc) (((enc L[j]).drop k).take (wideE e)) hg hx ht hs hB ho (part_at hlen hj k _ hk) (wideE_len _ _ _ (by rw [hlen]; exact hk)) (by omega) _ (pickE_if _ _ _ (by rw [hlen]; exact hk)) h
theorem tk_loadE (hT : TbsOk P T) {full : Bool} {held : List (Nat × Res)} {ro0 : List Asn} {q : Nat} {p : List (Nat × Bool)} {listed : List Bool} {dst : Option Tmp} {t : TypeId} {x : Operand} {ty : TypeId} {pos : String} {after : Array Edge} {gd : Option (Nat × Bool)} {g o' o sz n : Nat} {e : TE} {B : Asn} {L : List α} (s : Sum Nat Nat) (j k : Nat)
    (hchk : (heldOk held st.res ∧ ro0 = st.ro) ∧ planOk ops full ((q, true) :: p) listed = true) (hop : ops.toList[q]? = some ⟨dst, .load t x, ty, pos, after, gd⟩)
    (hg : guardS ops st.fr ⟨dst, .load t x, ty, pos, after, gd⟩ = .run)
    (hx : ev st.fr x = .va (.pointer (some ⟨g, o', none⟩))) (ht : te T.tab t = some e)
    (hs : hasD held ro0 s B) (hB : ∀ h, B.holds h → (Rd sz (some ⟨g, o, none⟩) n (L.flatMap enc)).holds h) (ho : o' = o + (j * sz + k)) (hlen : ∀ x, (enc x).length = sz) (hn : j < n) (hj : j < L.length) (hk : k + wideE e ≤ sz)
    (h : Go P E (.d ops full held ro0 p (listed.set q true) :: r) (st.put dst (pickE e (enc L[j]) k)) Q) : Go P E (.d ops full held ro0 ((q, true) :: p) listed :: r) st Q :=
  tk_load hT g o' o (j * sz + k) sz n e s B (L.flatMap enc) (((enc L[j]).drop k).take (wideE e)) hchk hop hg hx ht hs hB ho (part_at hlen hj k _ hk) (wideE_len _ _ _ (by rw [hlen]; exact hk)) (by omega) _ (pickE_if _ _ _ (by rw [hlen]; exact hk)) h
end
end Go.Sy
namespace Go.Sy
open Go.RowKit
theorem ev_wrapN {P : Program} {E : Entry} {Q : Exit → St → Prop} {e : Int} {c : Int → Out} (n : Nat) (hz : -9223372036854775808 ≤ e ∧ e ≤ 9223372036854775807) (hn : e = (n : Int)) (h : outSat P E Q (c (n : Int))) : outSat P E Q (.wrap .i64 e c) := ev_wrap ((wrap64 hz).trans hn) h
theorem ne_no {x y : Int} (h : x = y) : (!(x == y)) = false := by simp [h]
theorem ne_yes {x y : Int} (h : ¬ x = y) : (!(x == y)) = true := by simp [h]
/-- resources are told anew (rising numbers) -/
def setsR : List Res → Nat → List (Nat × Res) → List Res
  | [], _, _ => []
  | x :: l, n, m => match m with
    | [] => x :: l
    | (t, y) :: ts => bif Nat.beq n t then y :: setsR l n.succ ts else x :: setsR l n.succ ((t, y) :: ts)
def setR (l : List Res) (m : List (Nat × Res)) : List Res := setsR l 0 m
theorem go_loopR {P : Program} {E : Entry} {Q : Exit → St → Prop} {body : Code} {r : List It} {st : St} {ι : Type} (mods : List Nat) (keep : ι → List (Nat × SV)) (resI : ι → List (Nat × Res)) (Pre : ι → Prop) (m : ι → Nat) (i0 : ι)
    (h0 : Pre i0) (hst : StLe st ⟨setF (havoc st.fr mods) (keep i0), setR st.res (resI i0), st.ro⟩)
    (hround : ∀ i, Pre i → Go P E [.c body] ⟨setF (havoc st.fr mods) (keep i), setR st.res (resI i), st.ro⟩ (Round P E r Q (fun i => ⟨setF (havoc st.fr mods) (keep i), setR st.res (resI i), st.ro⟩) Pre m i)) :
    Go P E (.c (.loop body) :: r) st Q := go_loop mods keep (fun i => setR st.res (resI i)) Pre m i0 h0 hst hround
/-- what holds of nothing -/
theorem go_fact {P : Program} {E : Entry} {Q : Exit → St → Prop} {todo : List It} {st : St} (A : Asn) (hA : ∀ h, A.holds h) (h : Go P E todo ⟨st.fr, st.res ++ [.fact A], st.ro⟩ Q) : Go P E todo st Q := fun a w hR => by
  obtain ⟨hs, hi, hres⟩ := hR.res
  have hlt : ∀ {i : Nat} {x : Res}, (st.res ++ [.fact A])[i]? = some x → (i < st.res.length ∧ st.res[i]? = some x) ∨ (i = st.res.length ∧ x = .fact A) := fun {i x} hx => by
    rcases Nat.lt_or_ge i st.res.length with h1 | h1
    · rw [List.getElem?_append_left h1] at hx; exact .inl ⟨h1, hx⟩
    · rw [List.getElem?_append_right h1] at hx
      have := (List.getElem?_eq_some_iff.1 hx).1
      simp only [List.length_singleton] at this
      have e : i - st.res.length = 0 := by omega
      rw [e] at hx
      simp at hx
      exact .inr ⟨by omega, hx.symm⟩
  refine h a w ⟨hR.fr.mono (blkAt_append _ _), fun i => if i < st.res.length then hs i else Hp.emp, hi, fun i => ?_, fun i j hij => ?_, fun i x hx => ?_, hres.rle, fun i => ?_, hres.rholds, hres.ext, fun i b hb => ?_, fun x hx => ?_⟩
  · split
    · exact hres.le i
    · exact Hp.emp_le _
  · split
    · split
      · exact hres.dis i j hij
      · exact Hp.dis_emp _
    · exact Hp.emp_dis _
  · rcases hlt hx with ⟨h1, h2⟩ | ⟨_, rfl⟩
    · rw [if_pos h1]; exact hres.holds i x h2
    · exact hA _
  · split
    · exact hres.rdis i
    · exact Hp.emp_dis _
  · split at hb
    · exact hres.old i b hb
    · exact absurd rfl hb
  · rcases List.mem_append.1 hx with hx | hx
    · have := hres.cells x hx
      cases x with
      | box b t cs => exact ⟨SV.goodL_mono (blkAt_append _ _) this.1, this.2⟩
      | fact A => trivial
      | dead b => trivial
    · obtain rfl := List.mem_singleton.1 hx
      trivial
theorem Row.nilE {α : Type} {enc : α → List Value} (e sz : Nat) (h : Hp) : (Row e sz none 0 0 (([] : List α).flatMap enc)).holds h := Row.nil e sz h
theorem le_app {s n : Nat} (h : s ≤ 1000000000) (e : n = s) : n ≤ maxLen := by unfold maxLen; omega
theorem le_appb {s n b : Nat} (h : s ≤ 1000000000) (e : n = s) (hb : b ≤ 100000) : n * b ≤ 140737488355328 := by
  have := Nat.mul_le_mul h hb
  subst e
  omega
theorem dec_no {p : Prop} [Decidable p] (h : p) : (!decide p) = false := by simp [h]
theorem ev_wu8 {P : Program} {E : Entry} {Q : Exit → St → Prop} {e : Int} {c : Int → Out} (hz : 0 ≤ e ∧ e < 256) (h : outSat P E Q (c e)) : outSat P E Q (.wrap .u8 e c) := by
  have hw : IntKind.u8.wrap e = e % 256 := by simp [IntKind.wrap, IntKind.bits, IntKind.signed]
  exact ev_wrap (z := e) (by rw [hw]; omega) h
section
variable {P : Program} {T : Tbs} {E : Entry} {Q : Exit → St → Prop} {ops : Array Oper} {l : List Oper} {r : List It} {st : St} {α : Type} {enc : α → List Value}
/-- append(s, x...) -/
theorem go_appendE (hT : TbsOk P T) {dst : Option Tmp} {s x : Operand} {t ty : TypeId} {pos : String} {after : Array Edge} {gd : Option (Nat × Bool)} {M : List Asn} {A A' : Option Addr} {n c m c' : Nat} {et sz bts : Nat} {B : Asn} (sel : List Nat) (pad : List (Option Nat)) (src : Sum Nat Nat) (L L2 L3 : List α) (n' : Nat)
    (hg : guardS ops st.fr ⟨dst, .call { callee := .builtin .append, args := #[s, x], argTypes := #[t, t] }, ty, pos, after, gd⟩ = .run)
    (hs : (ev st.fr s).den = .slice A n c) (hsno : (ev st.fr s).isNo = false) (hx : (ev st.fr x).den = .slice A' m c') (hxno : (ev st.fr x).isNo = false)
    (ht : (te T.tab t).map (·.k) = some (.slice et)) (he' : (te T.tab et).map (fun e => (e.size, e.bytes, e.zero.length)) = some (sz, bts, sz)) (hpos : 0 < sz)
    (hsel : sel.map (asnAt st.res) = M.map some) (hnd : sel.Nodup) (hM : ∀ h, Asn.starH M h → (Row et sz A n c (L.flatMap enc)).holds h)
    (hsrc : has st src B) (hB : ∀ h, B.holds h → (Rd sz A' m (L2.flatMap enc)).holds h)
    (h3 : L ++ L2 = L3) (hn' : n' = n + m) (hmax : n + m ≤ maxLen) (hbytes : (n + m) * bts ≤ 140737488355328)
    (hb : ∀ A2 c2, blkLe st.res (place st.res sel (deads pad ++ [.fact (Row et sz A2 n' c2 (L3.flatMap enc))])))
    (h : ∀ A2 c2, n' ≤ c2 → Go P E (.o ops l :: r) (St.put ⟨st.fr, place st.res sel (deads pad ++ [.fact (Row et sz A2 n' c2 (L3.flatMap enc))]), st.ro⟩ dst (.va (.slice A2 n' c2))) Q) :
    Go P E (.o ops (⟨dst, .call { callee := .builtin .append, args := #[s, x], argTypes := #[t, t] }, ty, pos, after, gd⟩ :: l) :: r) st Q :=
  go_append hT sel pad M A A' n c m c' (L.flatMap enc) (L2.flatMap enc) et sz bts src B hg hs (fun e => by rw [e] at hsno; cases hsno) hx (fun e => by rw [e] at hxno; cases hxno) ht he' hpos hsel hnd hM hsrc hB n' _ hn' (by rw [← h3]; exact List.flatMap_append) hmax hbytes hb (fun A2 c2 _ hc => h A2 c2 hc)
end
end Go.Sy
namespace Go.Sy
open Go.RowKit
section
variable {P : Program} {T : Tbs} {E : Entry} {Q : Exit → St → Prop} {ops : Array Oper} {l : List Oper} {r : List It} {st : St}
theorem bin_run {dst : Option Tmp} {op : BinOp} {t yt : TypeId} {x y : Operand} {ty : TypeId} {pos : String} {after : Array Edge} {gd : Option (Nat × Bool)} {fr : List SV} {res : List Res} {a : Act} (hF : FrOk fr res a) {vx vy v : Value} {w : World}
    (hx : (ev fr x).den = vx) (hxno : (ev fr x).isNo = false) (hy : (ev fr y).den = vy) (hyno : (ev fr y).isNo = false) (h1 : op ≠ .eql) (h2 : op ≠ .neq) (hb : (binOp op t vx vy).run P w = .ok v w) :
    (execOp a.eval ⟨dst, .binOp op t x y yt, ty, pos, after, gd⟩).run P w = .ok (.value v) w := by
  have e1 : a.eval x = vx := by rw [ev_denv hF rfl hxno, hx]
  have e2 : a.eval y = vy := by rw [ev_denv hF rfl hyno, hy]
  cases op <;> first | exact absurd rfl h1 | exact absurd rfl h2 | simp [execOp, e1, e2, eqGuard, hb]
/-- x op y: what comes out is told by the prover -/
theorem go_bin {dst : Option Tmp} {op : BinOp} {t yt : TypeId} {x y : Operand} {ty : TypeId} {pos : String} {after : Array Edge} {gd : Option (Nat × Bool)} {vx vy : Value} (v : SV) (hv : v.good (blkAt st.res))
    (hg : guardS ops st.fr ⟨dst, .binOp op t x y yt, ty, pos, after, gd⟩ = .run)
    (hx : (ev st.fr x).den = vx) (hxno : (ev st.fr x).isNo = false) (hy : (ev st.fr y).den = vy) (hyno : (ev st.fr y).isNo = false) (h1 : op ≠ .eql) (h2 : op ≠ .neq) (hb : ∀ w, (binOp op t vx vy).run P w = .ok v.den w)
    (h : Go P E (.o ops l :: r) (st.put dst v) Q) : Go P E (.o ops (⟨dst, .binOp op t x y yt, ty, pos, after, gd⟩ :: l) :: r) st Q :=
  go_val (o := ⟨dst, .binOp op t x y yt, ty, pos, after, gd⟩) hg v hv (fun _ w hR => bin_run hR.fr hx hxno hy hyno h1 h2 (hb w)) h
theorem cat_run {t : TypeId} {a b : ByteArray} (hb : a.size + b.size ≤ 9223372036854775807) (w : World) : (binOp .add t (.string a) (.string b)).run P w = .ok (.string (a ++ b)) w := by
  have h3 : IntKind.i64.max = 9223372036854775807 := rfl
  have : ¬ (((a.size + b.size : Nat) : Int) > IntKind.i64.max) := by rw [h3]; omega
  simp only [binOp, Op.stringOp]
  rw [if_neg this]
  rfl
/-! slices of slices -/
/-- where x[lo:hi:mx] begins -/
def backA (A : Option Addr) (mx lo sz : Nat) : Option Addr := if mx = lo then A else A.map (·.add (lo * sz))
theorem go_back (hT : TbsOk P T) {dst : Option Tmp} {t : TypeId} {x : Operand} {lo hi mx : Option Operand} {ty : TypeId} {pos : String} {after : Array Edge} {gd : Option (Nat × Bool)} {A : Option Addr} {n c : Nat} {et sz : Nat} (lo' hi' mx' : Nat)
    (hg : guardS ops st.fr ⟨dst, .slice t x lo hi mx, ty, pos, after, gd⟩ = .run) (hx : (ev st.fr x).den = .slice A n c) (hxno : (ev st.fr x).isNo = false)
    (ht : (te T.tab t).map (·.k) = some (.slice et)) (he' : (te T.tab et).map (·.size) = some sz)
    (hlo : bound st.fr lo 0 lo') (hhi : bound st.fr hi n hi') (hmx : bound st.fr mx c mx') (hform : mx.isSome = true → hi.isSome = true) (h1 : lo' ≤ hi') (h2 : hi' ≤ mx') (h3 : mx' ≤ c)
    (h : Go P E (.o ops l :: r) (st.put dst (.va (.slice (backA A mx' lo' sz) (hi' - lo') (mx' - lo')))) Q) : Go P E (.o ops (⟨dst, .slice t x lo hi mx, ty, pos, after, gd⟩ :: l) :: r) st Q :=
  go_slice hT A _ n c lo' hi' mx' et sz hg hx (fun e => by rw [e] at hxno; cases hxno) ht he' hlo hhi hmx hform h1 h2 h3 rfl h
theorem tk_back (hT : TbsOk P T) {full : Bool} {held : List (Nat × Res)} {ro0 : List Asn} {q : Nat} {p : List (Nat × Bool)} {listed : List Bool} {dst : Option Tmp} {t : TypeId} {x : Operand} {lo hi mx : Option Operand} {ty : TypeId} {pos : String} {after : Array Edge} {gd : Option (Nat × Bool)} {A : Option Addr} {n c : Nat} {et sz : Nat} (lo' hi' mx' : Nat)
    (hchk : (heldOk held st.res ∧ ro0 = st.ro) ∧ planOk ops full ((q, true) :: p) listed = true) (ho : ops.toList[q]? = some ⟨dst, .slice t x lo hi mx, ty, pos, after, gd⟩)
    (hg : guardS ops st.fr ⟨dst, .slice t x lo hi mx, ty, pos, after, gd⟩ = .run) (hx : (ev st.fr x).den = .slice A n c) (hxno : (ev st.fr x).isNo = false)
    (ht : (te T.tab t).map (·.k) = some (.slice et)) (he' : (te T.tab et).map (·.size) = some sz)
    (hlo : bound st.fr lo 0 lo') (hhi : bound st.fr hi n hi') (hmx : bound st.fr mx c mx') (hform : mx.isSome = true → hi.isSome = true) (h1 : lo' ≤ hi') (h2 : hi' ≤ mx') (h3 : mx' ≤ c)
    (h : Go P E (.d ops full held ro0 p (listed.set q true) :: r) (st.put dst (.va (.slice (backA A mx' lo' sz) (hi' - lo') (mx' - lo')))) Q) : Go P E (.d ops full held ro0 ((q, true) :: p) listed :: r) st Q :=
  tk_slice hT A _ n c lo' hi' mx' et sz hchk ho hg hx (fun e => by rw [e] at hxno; cases hxno) ht he' hlo hhi hmx hform h1 h2 h3 rfl h
theorem rd_take {α : Type} {enc : α → List Value} {sz n k : Nat} {A : Option Addr} {L : List α} {h : Hp} (hlen : ∀ x, (enc x).length = sz) (p : (Rd sz A n (L.flatMap enc)).holds h) (hk : k ≤ n) : (Rd sz A k ((L.take k).flatMap enc)).holds h := by
  rw [← flat_take hlen]
  exact Rd.sub p hk
theorem rd_part {α : Type} {enc : α → List Value} {sz n lo m mx : Nat} {A : Option Addr} {L : List α} {h : Hp} (hlen : ∀ x, (enc x).length = sz) (p : (Rd sz A n (L.flatMap enc)).holds h) (hm : lo + m ≤ n) (hx : lo + m ≤ mx) : (Rd sz (backA A mx lo sz) m (((L.take (lo + m)).drop lo).flatMap enc)).holds h := by
  have q := rd_take hlen p hm
  rcases Nat.eq_zero_or_pos m with h0 | h0
  · subst h0
    have e : (L.take (lo + 0)).drop lo = [] := List.drop_eq_nil_of_le (by simp; omega)
    rw [e]
    exact Rd.nil _ _ _
  · obtain ⟨g, o, cur, e, fz, rfl, _⟩ := q.2.2 (by omega)
    have q2 := Rd.drop q (k := lo) (by omega)
    rw [flat_drop hlen, show lo + m - lo = m by omega] at q2
    unfold backA
    rw [if_neg (by omega)]
    simpa [addr_add] using q2
end
end Go.Sy
namespace Go.Sy
open Go.RowKit
section
variable {P : Program} {T : Tbs} {E : Entry} {Q : Exit → St → Prop} {ops : Array Oper} {l : List Oper} {r : List It} {st : St}
theorem dec_yes {p : Prop} [Decidable p] (h : ¬ p) : (!decide p) = true := by simp [h]
/-! s[lo:hi] -/
theorem sliceS_run (hT : TbsOk P T) {dst : Option Tmp} {t : TypeId} {x : Operand} {lo hi : Option Operand} {ty : TypeId} {pos : String} {after : Array Edge} {gd : Option (Nat × Bool)} (s : ByteArray) (lo' hi' : Nat) {fr : List SV} {res : List Res} {a : Act} (hF : FrOk fr res a)
    (hx : (ev fr x).den = .string s) (hxno : (ev fr x).isNo = false) (ht : (te T.tab t).map (·.k) = some .string)
    (hlo : bound fr lo 0 lo') (hhi : bound fr hi s.size hi') (h1 : lo' ≤ hi') (h2 : hi' ≤ s.size) (w : World) :
    (execOp a.eval ⟨dst, .slice t x lo hi none, ty, pos, after, gd⟩).run P w = .ok (.value (.string (s.extract lo' hi'))) w := by
  obtain ⟨e, he, hk⟩ : ∃ e, te T.tab t = some e ∧ e.k = .string := by
    cases hq : te T.tab t with
    | none => rw [hq] at ht; cases ht
    | some e => rw [hq] at ht; exact ⟨e, rfl, by simpa using ht⟩
  obtain ⟨i, u, z, hi1, hu, hz, hk', _⟩ := te_spec hT.tab he
  have hus : u = .string := by
    rw [hk] at hk'
    cases u <;> simp [tkOf] at hk' ⊢
  subst hus
  have e1 : a.eval x = .string s := by rw [ev_denv hF rfl hxno, hx]
  have hl : ∀ (o : Option Operand) d n, bound fr o d n → match o with | none => n = d | some o => ∃ k, a.eval o = .int k (n : Int) := by
    intro o d n hb
    cases o with
    | none => exact hb
    | some o =>
      obtain ⟨k, hk⟩ := hb
      exact ⟨k, by rw [ev_denv hF rfl (by rw [hk]; rfl), hk]; rfl⟩
  have hlo2 := hl _ _ _ hlo
  have hhi2 := hl _ _ _ hhi
  cases lo with
  | none =>
    cases hi with
    | none => subst hlo2 hhi2; simp [execOp, e1, Instr.sliceAt, Instr.slice, run_underlying hu, Instr.sliceBounds]
    | some oh =>
      obtain ⟨k2, k2h⟩ := hhi2
      subst hlo2
      simp [execOp, e1, k2h, Instr.sliceAt, Instr.slice, run_underlying hu, Instr.sliceBounds, sliceBound_run h2]
  | some ol =>
    obtain ⟨k1, k1h⟩ := hlo2
    cases hi with
    | none => subst hhi2; simp [execOp, e1, k1h, Instr.sliceAt, Instr.slice, run_underlying hu, Instr.sliceBounds, sliceBound_run h1]
    | some oh =>
      obtain ⟨k2, k2h⟩ := hhi2
      simp [execOp, e1, k1h, k2h, Instr.sliceAt, Instr.slice, run_underlying hu, Instr.sliceBounds, sliceBound_run h1, sliceBound_run h2]
theorem go_sliceS (hT : TbsOk P T) {dst : Option Tmp} {t : TypeId} {x : Operand} {lo hi : Option Operand} {ty : TypeId} {pos : String} {after : Array Edge} {gd : Option (Nat × Bool)} {s : ByteArray} (lo' hi' : Nat)
    (hg : guardS ops st.fr ⟨dst, .slice t x lo hi none, ty, pos, after, gd⟩ = .run) (hx : (ev st.fr x).den = .string s) (hxno : (ev st.fr x).isNo = false) (ht : (te T.tab t).map (·.k) = some .string)
    (hlo : bound st.fr lo 0 lo') (hhi : bound st.fr hi s.size hi') (h1 : lo' ≤ hi') (h2 : hi' ≤ s.size)
    (h : Go P E (.o ops l :: r) (st.put dst (.va (.string (s.extract lo' hi')))) Q) : Go P E (.o ops (⟨dst, .slice t x lo hi none, ty, pos, after, gd⟩ :: l) :: r) st Q :=
  go_val (o := ⟨dst, .slice t x lo hi none, ty, pos, after, gd⟩) hg (.va (.string (s.extract lo' hi'))) trivial (fun _ w hR => sliceS_run hT s lo' hi' hR.fr hx hxno ht hlo hhi h1 h2 w) h
end
/-! both ways of an 'if' come together -/
end Go.Sy
namespace Go.Sy
theorem toNat_of {n : Nat} (h : n < 256) : (UInt8.ofNat n).toNat = n := by
  rw [UInt8.toNat_ofNat']
  exact Nat.mod_eq_of_lt h
section
variable (ck : List UInt8 → List UInt8)
variable {ck}
variable (hck : ∀ l, (ck l).length = 4)
include hck
end
end Go.Sy
namespace Go.Sy
/-- a number in digits -/
def decL (n : Nat) : List UInt8 := if n < 10 then [UInt8.ofNat (48 + n)] else decL (n / 10) ++ [UInt8.ofNat (48 + n % 10)]
termination_by n
theorem decL_small {n : Nat} (h : n < 10) : decL n = [UInt8.ofNat (48 + n)] := by rw [decL, if_pos h]
theorem decL_great {n : Nat} (h : 10 ≤ n) : decL n = decL (n / 10) ++ [UInt8.ofNat (48 + n % 10)] := by rw [decL, if_neg (by omega)]
/-- what digits come to; none: one is no digit -/
def digL : Nat → List UInt8 → Option Nat
  | acc, [] => some acc
  | acc, c :: r => if c.toNat < 48 ∨ 57 < c.toNat then none else digL (10 * acc + (c.toNat - 48)) r
theorem digL_append : ∀ (l r : List UInt8) (acc : Nat), digL acc (l ++ r) = (digL acc l).bind fun a => digL a r
  | [], r, acc => rfl
  | c :: l, r, acc => by
    simp only [List.cons_append, digL]
    split
    · rfl
    · exact digL_append l r _
theorem digL_dec : ∀ n : Nat, digL 0 (decL n) = some n := by
  intro n
  induction n using Nat.strongRecOn with
  | _ n ih =>
    rcases Nat.lt_or_ge n 10 with h | h
    · rw [decL_small h, digL, toNat_of (by omega), if_neg (by omega), digL]
      congr 1
      omega
    · rw [decL_great h, digL_append, ih (n / 10) (Nat.div_lt_self (by omega) (by decide)), Option.bind_some, digL, toNat_of (by omega), if_neg (by omega), digL]
      congr 1
      omega
theorem decL_ne (n : Nat) : decL n ≠ [] := by
  rcases Nat.lt_or_ge n 10 with h | h
  · rw [decL_small h]; simp
  · rw [decL_great h]; simp
theorem decL_head : ∀ n : Nat, 0 < n → (decL n).head? ≠ some 48 := by
  intro n
  induction n using Nat.strongRecOn with
  | _ n ih =>
    intro h0
    rcases Nat.lt_or_ge n 10 with h | h
    · rw [decL_small h]
      intro e
      simp only [List.head?_cons, Option.some.injEq] at e
      have := congrArg UInt8.toNat e
      rw [toNat_of (by omega)] at this
      have h48 : (48 : UInt8).toNat = 48 := rfl
      omega
    · rw [decL_great h, List.head?_append, Option.or_of_isSome (by cases hd : decL (n / 10) with | nil => exact absurd hd (decL_ne _) | cons a l => rfl)]
      exact ih (n / 10) (Nat.div_lt_self (by omega) (by decide)) (Nat.div_pos h (by decide))
theorem decL_len : ∀ (k n : Nat), n < 10 ^ (k + 1) → (decL n).length ≤ k + 1
  | 0, n, h => by
    rw [decL_small (by simpa using h)]
    exact Nat.le_refl _
  | k + 1, n, h => by
    rcases Nat.lt_or_ge n 10 with h1 | h1
    · rw [decL_small h1]
      simp
    · rw [decL_great h1, List.length_append, List.length_singleton]
      have := decL_len k (n / 10) (Nat.div_lt_of_lt_mul (by rw [← Nat.pow_succ']; exact h))
      omega
/-- digits are the digits of their number -/
theorem dec_dig : ∀ (l : List UInt8) (acc n : Nat), digL acc l = some n → 0 < acc → decL n = decL acc ++ l
  | [], acc, n, h, _ => by
    cases h
    rw [List.append_nil]
  | c :: l, acc, n, h, h0 => by
    rw [digL] at h
    split at h
    · cases h
    · rename_i hc
      rw [dec_dig l _ n h (by omega), decL_great (by omega)]
      have h1 : (10 * acc + (c.toNat - 48)) / 10 = acc := by omega
      have h2 : (10 * acc + (c.toNat - 48)) % 10 = c.toNat - 48 := by omega
      rw [h1, h2, show 48 + (c.toNat - 48) = c.toNat by omega, UInt8.ofNat_toNat, List.append_assoc]
      rfl
theorem digL_lt : ∀ (l : List UInt8) (acc n k : Nat), digL acc l = some n → acc < 10 ^ k → n < 10 ^ (k + l.length)
  | [], acc, n, k, h, h0 => by cases h; exact h0
  | c :: l, acc, n, k, h, h0 => by
    rw [digL] at h
    split at h
    · cases h
    · rename_i hc
      have := digL_lt l _ n (k + 1) h (by rw [Nat.pow_succ]; omega)
      rw [List.length_cons, show k + (l.length + 1) = k + 1 + l.length by omega]
      exact this
end Go.Sy
