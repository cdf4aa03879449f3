/-
  What is proved: the machine's operations on memory, and its step. Conditions: none.
-/
import Derived.Test.YthknokcgclcbmaaSy5
namespace Go.Sy
open Go.RowKit

def boxAt (res : List Res) (r : Nat) : Option (TypeId × List SV) := match res[r]? with | some (.box _ t cs) => some (t, cs) | _ => none
theorem boxAt_spec {res : List Res} {r : Nat} {t : TypeId} {cs : List SV} (h : boxAt res r = some (t, cs)) : ∃ b, res[r]? = some (.box b t cs) := by
  unfold boxAt at h
  split at h
  · rename_i b _ _ e; cases h; exact ⟨b, e⟩
  · cases h

def loadOp (T : Tab) (st : St) (t : TypeId) (x : SV) : StepR :=
  match x with
  | .pt r _ off => match boxAt st.res r, te T t with
    | some (_, cs), some e => (match loadS e cs off with | some y => .ok y | none => .no)
    | _, _ => .no
  | _ => .no
theorem loadS_good {β : Nat → Option Nat} {e : TE} {l : List SV} {off : Nat} {x : SV} (h : loadS e l off = some x) (hg : SV.goodL β l) : x.good β := by
  unfold loadS at h
  split at h
  · split at h
    · cases h; exact goodL_sub hg _ _
    · cases h
  · exact (SV.goodL_iff _ _).1 hg x (List.mem_of_getElem? h)
theorem loadOp_ok {P : Program} {T : Tab} (hT : TabOk P T) {o : Oper} {t : TypeId} {x : Operand} (ho : o.op = .load t x) (st : St) : (loadOp T st t (ev st.fr x)).Sound P o st := by
  unfold loadOp
  split
  · rename_i r b off hx
    split
    · rename_i t' cs e hb ht
      obtain ⟨b', hb⟩ := boxAt_spec hb
      split
      · rename_i y hy
        refine ⟨fun a w h hW => ?_, fun a h hG => loadS_good hy (hG _ (List.mem_of_getElem? hb))⟩
        have hg : (ev st.fr x).good (blkAt st.res) := ev_good h x
        rw [hx] at hg
        have : b' = b := by simpa [SV.good, blkAt, hb, Res.blk] using hg
        subst this
        refine ⟨y.den, ?_, SV.is_den _⟩
        simp [execOp, ho, ev_den h hx (by simp), SV.den, Instr.loadAt, Instr.sureAddr, loadS_ok hT ht (hW r b' t' cs hb) hy]
      · trivial
    · trivial
  · trivial

def storeOp (T : Tab) (st : St) (t : TypeId) (x y : SV) : StepR :=
  match x, y with
  | _, .no => .no
  | .pt r b off, y => match boxAt st.res r, te T t with
    | some (t', cs), some e => if y.cells.length = e.size then if off + y.cells.length ≤ cs.length then if y.cells.all SV.one = true then .set (st.res.set r (.box b t' (splice cs off y.cells))) else .no else .no else .no
    | _, _ => .no
  | _, _ => .no
theorem storeOp_ok {P : Program} {T : Tab} (hT : TabOk P T) {o : Oper} {t : TypeId} {x z : Operand} (ho : o.op = .store t x z) (st : St) : (storeOp T st t (ev st.fr x) (ev st.fr z)).Sound P o st := by
  unfold storeOp
  split
  · trivial
  · rename_i r b off hx hno
    split
    · rename_i t' cs e hb ht
      obtain ⟨b', hb⟩ := boxAt_spec hb
      split
      · rename_i h1
        split
        · rename_i h2
          split
          · rename_i h3
            intro E a w h
            obtain ⟨hs, hi, hR⟩ := h.res
            have hg : (ev st.fr x).good (blkAt st.res) := ev_good h.fr x
            rw [hx] at hg
            have : b' = b := by simpa [SV.good, blkAt, hb, Res.blk] using hg
            subst this
            obtain ⟨hrun, hR'⟩ := hR.store hb off (ev st.fr z).cells (SV.cells_good (ev_good h.fr z)) (all_one h3) h2 P
            have hzno : ev st.fr z ≠ .no := hno
            obtain ⟨i, u, zz, hi', hu, hz, hk, hs', _, _⟩ := te_spec hT ht
            refine ⟨_, ?_, ⟨_, _, hR'⟩, blkAt_set _ _ _ (fun y hy => by rw [hb] at hy; cases hy; rfl)⟩
            have hcd := SV.cells_den hzno
            have hlen : (ev st.fr z).den.cells.size = i.size := by rw [← hcd, ← hs', ← h1]; simp [SV.denL_eq]
            have hlist : (ev st.fr z).den.cells.toList = SV.denL (ev st.fr z).cells := by rw [← hcd]
            simp [execOp, ho, ev_den h.fr hx (by simp), ev_den h.fr rfl hzno, SV.den, Instr.storeAt, Instr.sureAddr, storeVar, sizeOf, typeInfo, hi', hlen, hlist, hrun]
          · trivial
        · trivial
      · trivial
    · trivial
  · trivial

theorem new_sound {P : Program} {E : Entry} {st : St} {a : Act} {w : World} (h : R E st a w) (t : TypeId) {cs : List SV} (hg : SV.goodL (blkAt st.res) cs) (h1 : cs.all SV.one = true) (arr : Array Value) (he : arr = (SV.denL cs).toArray) :
    (newRow t arr).run P w = .ok ⟨w.heap.size, 0, none⟩ (w.alloc (.cells arr t)) ∧ ∃ hs hi, ResOk E (st.res ++ [.box w.heap.size t cs]) st.ro (w.alloc (.cells arr t)) hs hi := by
  subst he
  obtain ⟨hs, hi, hR⟩ := h.res
  exact ⟨rfl, _, _, hR.alloc t cs hg (all_one h1)⟩

def boxOp (t : TypeId) (x : SV) : StepR := match x with | .no => .no | x => if x.cells.all SV.one = true then .new t x.cells none else .no
theorem boxOp_ok {P : Program} {o : Oper} {t : TypeId} {x : Operand} (ho : o.op = .box t x) (st : St) : (boxOp t (ev st.fr x)).Sound P o st := by
  unfold boxOp
  split
  · trivial
  · rename_i hno
    split
    · rename_i h1
      intro E a w h
      have hd := ev_den h.fr (x := x) rfl hno
      obtain ⟨h2, h3⟩ := new_sound (P := P) h t (SV.cells_good (ev_good h.fr x)) h1 (ev st.fr x).den.cells (SV.cells_den hno).symm
      refine ⟨_, w.heap.size, ?_, h3⟩
      simp [execOp, ho, hd, Instr.box, newVar, h2]
    · trivial

def zeroS (T : Tab) (t : TypeId) : Option (List SV) := match te T t with | some e => some (e.zero.map vaL) | none => none
theorem zeroS_ok {P : Program} {T : Tab} (hT : TabOk P T) {t : TypeId} {l : List SV} (h : zeroS T t = some l) (w : World) :
    ∃ z : Value, (zeroValue t).run P w = .ok z w ∧ z.cells = (SV.denL l).toArray ∧ ∀ β, SV.goodL β l := by
  unfold zeroS at h
  split at h
  · rename_i e he
    cases h
    obtain ⟨i, u, z, hi, hu, hz, hk, hs, _, hzz⟩ := te_spec hT he
    refine ⟨z, ?_, by rw [denL_vaL, hzz], fun β => goodL_vaL β _⟩
    simp [zeroValue, typeInfo, hi, hz]
  · cases h
def allocOp (T : Tab) (t : TypeId) : StepR := match zeroS T t with | some l => if l.all SV.one = true then .new t l none else .no | none => .no
theorem allocOp_ok {P : Program} {T : Tab} (hT : TabOk P T) {o : Oper} {t : TypeId} (ho : o.op = .alloc t) (st : St) : (allocOp T t).Sound P o st := by
  unfold allocOp
  split
  · rename_i l hl
    split
    · rename_i h1
      intro E a w h
      obtain ⟨z, hz, hzc, hzg⟩ := zeroS_ok hT hl w
      obtain ⟨h2, h3⟩ := new_sound (P := P) h t (hzg _) h1 z.cells hzc
      refine ⟨_, w.heap.size, ?_, h3⟩
      simp [execOp, ho, Instr.alloc, hz, newVar, h2]
    · trivial
  · trivial

/-! literals -/
def setsS (off : Nat) : List SV → List SV → List SV
  | cells, [] => cells
  | cells, c :: cs => setsS (off + 1) (cells.set off c) cs
def overlay : Nat → List SV → List SV → List SV
  | 0, [], l => l
  | 0, c :: cs, _ :: l => c :: overlay 0 cs l
  | k + 1, cs, x :: l => x :: overlay k cs l
  | _, _, [] => []
theorem overlay_step : ∀ (off : Nat) (c : SV) (cs cells : List SV), overlay off (c :: cs) cells = overlay (off + 1) cs (cells.set off c) := by
  intro off
  induction off with
  | zero => intro c cs cells; cases cells <;> simp [overlay]
  | succ off ih =>
    intro c cs cells
    cases cells with
    | nil => cases cs <;> simp [overlay]
    | cons x l => simp only [overlay, List.set_cons_succ]; rw [ih]
theorem overlay_nil : ∀ (off : Nat) (cells : List SV), overlay off [] cells = cells := by
  intro off
  induction off with
  | zero => intro cells; simp [overlay]
  | succ off ih => intro cells; cases cells <;> simp [overlay, ih]
theorem overlay_eq : ∀ (cs cells : List SV) (off : Nat), overlay off cs cells = setsS off cells cs := by
  intro cs
  induction cs with
  | nil => intro cells off; exact overlay_nil off cells
  | cons c cs ih => intro cells off; rw [overlay_step, ih]; rfl
def fillS (place : Nat → Option (Nat × Nat)) : List SV → List (Nat × SV) → Option (List SV)
  | cells, [] => some cells
  | cells, (i, x) :: r => match place i with
    | none => none
    | some (off, size) => match x with
      | .no => none
      | x => if x.cells.length = size then if off + x.cells.length ≤ cells.length then fillS place (overlay off x.cells cells) r else none else none
theorem setsS_den (cs : List SV) : ∀ (cells : List SV) (off k : Nat), (SV.denL (setsS (off + k) cells cs)).toArray = ((SV.denL cs).zipIdx k).foldl (fun acc p => acc.setIfInBounds (off + p.2) p.1) (SV.denL cells).toArray := by
  induction cs with
  | nil => intro cells off k; rfl
  | cons c cs ih =>
    intro cells off k
    simp only [setsS, SV.denL, List.zipIdx_cons, List.foldl_cons]
    have := ih (cells.set (off + k) c) off (k + 1)
    rw [Nat.add_assoc, this]
    congr 1
    simp [SV.denL_eq, List.map_set]
theorem setsS_mem {x : SV} (cs : List SV) : ∀ (cells : List SV) (off : Nat), x ∈ setsS off cells cs → x ∈ cells ∨ x ∈ cs := by
  induction cs with
  | nil => intro cells off h; exact .inl h
  | cons c cs ih =>
    intro cells off h
    rcases ih _ _ h with h | h
    · rcases List.mem_or_eq_of_mem_set h with h | h
      · exact .inl h
      · subst h; exact .inr (List.mem_cons_self ..)
    · exact .inr (List.mem_cons_of_mem _ h)
theorem fillS_ok {place : Nat → Option (Nat × Nat)} (parts : List (Nat × SV)) : ∀ {cells out : List SV}, fillS place cells parts = some out →
    Instr.fill place (SV.denL cells).toArray (parts.map fun p => (p.1, p.2.den)) = some (SV.denL out).toArray := by
  induction parts with
  | nil => intro cells out h; simp only [fillS] at h; cases h; rfl
  | cons p parts ih =>
    obtain ⟨i, x⟩ := p
    intro cells out h
    simp only [fillS] at h
    split at h
    · cases h
    · rename_i off size hp
      split at h
      · cases h
      · rename_i hno
        split at h
        · rename_i h1
          split at h
          · rename_i h2
            rw [overlay_eq] at h
            simp only [List.map_cons, Instr.fill, hp]
            have hcd := SV.cells_den (x := x) hno
            have hl : x.den.cells.size = x.cells.length := by rw [← hcd]; simp [SV.denL_eq]
            rw [if_neg (by rw [hl, h1]; simp [SV.denL_eq]; omega)]
            have := ih h
            rw [← this]
            congr 1
            have h0 := setsS_den x.cells cells off 0
            simp only [Nat.add_zero] at h0
            rw [h0, ← hcd]
            rw [← Array.foldl_toList, Array.toList_zipIdx]
          · cases h
        · cases h
theorem fillS_good {β : Nat → Option Nat} {place : Nat → Option (Nat × Nat)} (parts : List (Nat × SV)) : ∀ {cells out : List SV}, fillS place cells parts = some out → SV.goodL β cells → (∀ p ∈ parts, p.2.good β) → SV.goodL β out := by
  induction parts with
  | nil => intro cells out h hg _; simp only [fillS] at h; cases h; exact hg
  | cons p parts ih =>
    obtain ⟨i, x⟩ := p
    intro cells out h hg hp
    simp only [fillS] at h
    split at h
    · cases h
    · split at h
      · cases h
      · split at h
        · split at h
          · refine ih h ?_ (fun q hq => hp q (List.mem_cons_of_mem _ hq))
            refine (SV.goodL_iff _ _).2 fun y hy => ?_
            rw [overlay_eq] at hy
            rcases setsS_mem _ _ _ hy with hy | hy
            · exact (SV.goodL_iff _ _).1 hg y hy
            · exact (SV.goodL_iff _ _).1 (SV.cells_good (hp (i, x) (List.mem_cons_self ..))) y hy
          · cases h
        · cases h
end Go.Sy
