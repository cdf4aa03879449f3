/-
  What is proved: the machine's plain operations do what the model's do. Conditions: none.
-/
import Derived.Test.YthknokcgclcbmaaSy3
namespace Go.Sy
open Go.RowKit

inductive StepR where
  | ok (x : SV)
  | set (res : List Res)
  | new (t : TypeId) (cells : List SV) (len : Option Nat)
  | wrap (k : IntKind) (e : Int)
  | no

def SV.one : SV → Bool
  | .va x => x.oneCell'
  | .bl _ => true
  | .bq _ => true
  | .pt _ _ _ => true
  | .sl _ _ _ _ _ => true
  | .fu _ _ _ => true
  | _ => false
def vaS (x : Value) : SV := match x with
  | .bool b => .bq b
  | x => .va x
theorem vaS_den (x : Value) : (vaS x).den = x := by cases x <;> rfl
theorem vaS_good (β : Nat → Option Nat) (x : Value) : (vaS x).good β := by cases x <;> trivial
theorem denL_va (l : List Value) : SV.denL (l.map vaS) = l := by simp [SV.denL_eq, vaS_den, Function.comp_def]
theorem goodL_va (β : Nat → Option Nat) (l : List Value) : SV.goodL β (l.map vaS) := by simp [SV.goodL_iff, vaS_good]
/-- a value that is written out -/
def vaL (x : Value) : SV := match x with
  | .bool b => .bl b
  | x => .va x
theorem vaL_den (x : Value) : (vaL x).den = x := by cases x <;> rfl
theorem vaL_good (β : Nat → Option Nat) (x : Value) : (vaL x).good β := by cases x <;> trivial
theorem denL_vaL (l : List Value) : SV.denL (l.map vaL) = l := by simp [SV.denL_eq, vaL_den, Function.comp_def]
theorem goodL_vaL (β : Nat → Option Nat) (l : List Value) : SV.goodL β (l.map vaL) := by simp [SV.goodL_iff, vaL_good]
/-- a value that a call handed back, laid out -/
def norm1 (x : Value) : SV := match x with
  | .agg a => .ag (a.toList.map vaS)
  | x => vaS x
def normV (x : Value) : SV := match x with
  | .tuple a => .tu (a.toList.map norm1)
  | x => norm1 x
theorem norm1_den (x : Value) : (norm1 x).den = x := by
  cases x with
  | agg a => simp [norm1, SV.den, denL_va]
  | _ => rfl
theorem norm1_good (β : Nat → Option Nat) (x : Value) : (norm1 x).good β := by
  cases x with
  | agg a => exact goodL_va β _
  | _ => trivial
theorem normV_den (x : Value) : (normV x).den = x := by
  cases x with
  | tuple a => simp [normV, SV.den, SV.denL_eq, norm1_den, Function.comp_def]
  | agg a => simp [normV, norm1, SV.den, denL_va]
  | _ => rfl
theorem normV_good (β : Nat → Option Nat) (x : Value) : (normV x).good β := by
  cases x with
  | tuple a => show SV.goodL β _; simp [SV.goodL_iff, norm1_good]
  | agg a => exact goodL_va β _
  | _ => trivial
def SV.cells : SV → List SV
  | .ag l => l
  | .va (.agg a) => a.toList.map vaS
  | x => [x]
theorem SV.one_den {x : SV} (h : x.one = true) : x.den.oneCell' = true := by cases x <;> first | exact h | rfl | cases h
theorem SV.cells_den {x : SV} (h : x ≠ .no) : (SV.denL x.cells).toArray = x.den.cells := by
  cases x with
  | va x => cases x <;> simp [SV.cells, SV.den, Value.cells, SV.denL_eq, Function.comp_def, vaS_den]
  | no => exact absurd rfl h
  | ag l => simp [SV.cells, SV.den, Value.cells]
  | _ => simp [SV.cells, SV.denL, SV.den, Value.cells]
theorem SV.cells_good {β : Nat → Option Nat} {x : SV} (h : x.good β) : SV.goodL β x.cells := by
  cases x with
  | va x => cases x <;> simp [SV.cells, SV.goodL_iff, SV.good, vaS_good]
  | ag l => exact h
  | _ => exact ⟨h, trivial⟩
theorem all_one {l : List SV} (h : l.all SV.one = true) : ∀ x ∈ l, x.den.oneCell' = true := fun x hx => SV.one_den (List.all_eq_true.1 h x hx)

def asBoolS : SV → Option Bool
  | .bl x => some x
  | .bq x => some x
  | .va (.bool x) => some x
  | _ => none
theorem asBoolS_den {x : SV} {b : Bool} (h : asBoolS x = some b) : x.den = .bool b := by
  cases x with
  | va x => cases x <;> simp_all [asBoolS, SV.den]
  | _ => simp_all [asBoolS, SV.den]
theorem asBoolS_no {x : SV} {b : Bool} (h : asBoolS x = some b) : x ≠ .no := by rintro rfl; cases h

/-- '==' by the kind of type -/
def eqK (k : TK) (x y : SV) : Option SV :=
  match k with
  | .bool => match asBoolS x, asBoolS y with
    | some a, some b => some (.bq (a == b))
    | _, _ => none
  | .ptr _ => match x, y with
    | .pt _ _ _, .va (.pointer none) => some (.bl false)
    | .va (.pointer (some _)), .va (.pointer none) => some (.bl false)
    | .va (.pointer none), .va (.pointer none) => some (.bl true)
    | _, _ => none
  | .slice _ => match x, y with
    | .sl _ _ _ _ _, .va (.slice none _ _) => some (.bl false)
    | .va (.slice a _ _), .va (.slice none _ _) => some (.bq a.isNone)
    | _, _ => none
  | .map _ _ => match x, y with
    | .va (.map a), .va (.map none) => some (.bq a.isNone)
    | _, _ => none
  | .func => match x, y with
    | .fu _ _ _, .va .nilFunc => some (.bl false)
    | .va (.func _ _ _), .va .nilFunc => some (.bl false)
    | .va .nilFunc, .va .nilFunc => some (.bl true)
    | _, _ => none
  | _ => none
def eqS (T : Tab) (t : TypeId) (x y : SV) : Option SV :=
  match x, y with
  | .va (.int k a), .va (.int k' b) => if k = k' then some (.bq (a == b)) else none
  | .va (.string s), .va (.string t) => some (.bq (decide (s = t)))
  | x, y => match te T t with
    | some e => eqK e.k x y
    | none => none
def notS : SV → Option SV
  | .bl b => some (.bl (!b))
  | .bq b => some (.bq (!b))
  | .va (.bool b) => some (.bq (!b))
  | _ => none

def constInt : Operand → Option Int | .const (.int _ n) => some n | _ => none

def binS (T : Tab) (op : BinOp) (t : TypeId) (fr : List SV) (x y : Operand) : StepR :=
  match op, ev fr x, ev fr y with
  | .add, .va (.int k a), .va (.int k' b) => if k = k' then .wrap k (a + b) else .no
  | .sub, .va (.int k a), .va (.int k' b) => if k = k' then .wrap k (a - b) else .no
  | .mul, .va (.int k a), .va (.int k' b) => if k = k' then .wrap k (a * b) else .no
  | .quo, .va (.int k a), .va (.int k' b) => if k = k' then (match constInt y with | some n => if n = 0 then .no else .wrap k (a.tdiv b) | none => .no) else .no
  | .rem, .va (.int k a), .va (.int k' b) => if k = k' then (match constInt y with | some n => if n = 0 then .no else .ok (.va (.int k (a.tmod b))) | none => .no) else .no
  | .lss, .va (.int k a), .va (.int k' b) => if k = k' then .ok (.bq (decide (a < b))) else .no
  | .leq, .va (.int k a), .va (.int k' b) => if k = k' then .ok (.bq (decide (a ≤ b))) else .no
  | .gtr, .va (.int k a), .va (.int k' b) => if k = k' then .ok (.bq (decide (a > b))) else .no
  | .geq, .va (.int k a), .va (.int k' b) => if k = k' then .ok (.bq (decide (a ≥ b))) else .no
  | .eql, x, y => match eqS T t x y with | some r => .ok r | none => .no
  | .neq, x, y => match eqS T t x y with | some r => (match notS r with | some r => .ok r | none => .no) | none => .no
  | _, _, _ => .no

theorem binEq {P : Program} {t : TypeId} {x y : Value} {b : Bool} {w : World} (h : ∀ d, (Op.equalIn (d + 1) t x y).run P w = .ok b w)
    (h1 : binOp .eql t x y = (do pure (.bool (← Op.equal t x y)) : Sem Value)) (h2 : binOp .neq t x y = (do pure (.bool (!(← Op.equal t x y))) : Sem Value))
    {op : BinOp} (ho : op = .eql ∨ op = .neq) {ox oy : Operand} (hg : (eqGuard op t ox oy x y).run P w = .ok () w) :
    (do eqGuard op t ox oy x y; binOp op t x y : Sem Value).run P w = .ok (.bool (if op = .neq then !b else b)) w := by
  have h' : (Op.equal t x y).run P w = .ok b w := h 9999
  rw [Sem.run_bind, hg]
  simp only [Result.andThen_ok]
  rcases ho with rfl | rfl
  · rw [h1, Sem.run_bind, h']; rfl
  · rw [h2, Sem.run_bind, h']; rfl

theorem eqK_ok {P : Program} {t : TypeId} {u : TypeDesc} (hu : P.underlying t = some u) {x y z : SV} (h : eqK (tkOf u) x y = some z) (w : World) (op : BinOp) (ho : op = .eql ∨ op = .neq) (ox oy : Operand) :
    (do eqGuard op t ox oy x.den y.den; binOp op t x.den y.den : Sem Value).run P w = .ok (.bool (if op = .neq then !((asBoolS z).getD false) else (asBoolS z).getD false)) w ∧ (∃ b, asBoolS z = some b) := by
  cases u with
  | bool =>
    simp only [tkOf, eqK] at h
    split at h
    · rename_i a b ha hb
      cases h
      refine ⟨?_, _, rfl⟩
      rw [asBoolS_den ha, asBoolS_den hb]
      exact binEq (fun d => by rw [Op.equalIn, Sem.run_bind, run_underlying hu]; rfl) rfl rfl ho (by rcases ho with rfl | rfl <;> rfl)
    · cases h
  | pointer e =>
    simp only [tkOf, eqK] at h
    split at h <;> cases h <;> refine ⟨?_, _, rfl⟩ <;> exact binEq (fun d => by rw [Op.equalIn, Sem.run_bind, run_underlying hu]; rfl) rfl rfl ho (by rcases ho with rfl | rfl <;> rfl)
  | slice e =>
    simp only [tkOf, eqK] at h
    split at h
    · cases h; refine ⟨?_, _, rfl⟩; exact binEq (fun d => by rw [Op.equalIn, Sem.run_bind, run_underlying hu]; rfl) rfl rfl ho (by rcases ho with rfl | rfl <;> rfl)
    · rename_i a _ _ _ _
      cases h; refine ⟨?_, _, rfl⟩; cases a <;> exact binEq (fun d => by rw [Op.equalIn, Sem.run_bind, run_underlying hu]; rfl) rfl rfl ho (by rcases ho with rfl | rfl <;> rfl)
    · cases h
  | map k e =>
    simp only [tkOf, eqK] at h
    split at h
    · rename_i a
      cases h; refine ⟨?_, _, rfl⟩; cases a <;> exact binEq (fun d => by rw [Op.equalIn, Sem.run_bind, run_underlying hu]; rfl) rfl rfl ho (by rcases ho with rfl | rfl <;> rfl)
    · cases h
  | func ps rs v =>
    simp only [tkOf, eqK] at h
    split at h <;> cases h <;> refine ⟨?_, _, rfl⟩ <;> exact binEq (fun d => by rw [Op.equalIn, Sem.run_bind, run_underlying hu]; rfl) rfl rfl ho (by rcases ho with rfl | rfl <;> rfl)
  | _ => simp [tkOf, eqK] at h

theorem bytes_beq (s t : ByteArray) : (s.toList == t.toList) = decide (s = t) := by
  rw [ByteArray.toList_eq, ByteArray.toList_eq, Bool.eq_iff_iff, beq_iff_eq, decide_eq_true_iff]
  obtain ⟨a⟩ := s
  obtain ⟨b⟩ := t
  constructor
  · intro h
    exact congrArg ByteArray.mk (Array.toList_inj.1 h)
  · intro h
    rw [h]
theorem eqS_ok {P : Program} {T : Tab} (hT : TabOk P T) {t : TypeId} {x y z : SV} (h : eqS T t x y = some z) (w : World) (op : BinOp) (ho : op = .eql ∨ op = .neq) (ox oy : Operand) :
    (do eqGuard op t ox oy x.den y.den; binOp op t x.den y.den : Sem Value).run P w = .ok (.bool (if op = .neq then !((asBoolS z).getD false) else (asBoolS z).getD false)) w ∧ (∃ b, asBoolS z = some b) := by
  unfold eqS at h
  split at h
  · split at h
    · cases h
      subst_vars
      rcases ho with rfl | rfl <;> refine ⟨?_, _, rfl⟩ <;> simp [eqGuard, SV.den, binOp, Op.intCmp, asBoolS] <;> rfl
    · cases h
  · cases h
    rcases ho with rfl | rfl <;> refine ⟨?_, _, rfl⟩ <;> simp [eqGuard, SV.den, binOp, Op.stringOp, asBoolS, bytes_beq]
  · split at h
    · rename_i e he
      obtain ⟨i, u, zz, hi, hu, hz, hk, _⟩ := te_spec hT he
      rw [hk] at h
      exact eqK_ok hu h w op ho ox oy
    · cases h
theorem notS_spec {x y : SV} (h : notS x = some y) : ∃ b, asBoolS x = some b ∧ asBoolS y = some (!b) := by
  cases x with
  | va x => cases x <;> simp_all [notS, asBoolS] <;> subst h <;> rfl
  | bl b => simp_all [notS, asBoolS]; subst h; rfl
  | bq b => simp_all [notS, asBoolS]; subst h; rfl
  | _ => simp_all [notS]
theorem asBoolS_good {β : Nat → Option Nat} {x : SV} {b : Bool} (h : asBoolS x = some b) : x.good β := by cases x <;> first | trivial | cases h
theorem eqK_no {k : TK} {x y z : SV} (h : eqK k x y = some z) : x ≠ .no ∧ y ≠ .no := by
  constructor <;> rintro rfl <;> cases k <;> simp [eqK, asBoolS] at h
theorem eqS_no {T : Tab} {t : TypeId} {x y z : SV} (h : eqS T t x y = some z) : x ≠ .no ∧ y ≠ .no := by
  unfold eqS at h
  split at h
  · exact ⟨by simp, by simp⟩
  · exact ⟨by simp, by simp⟩
  · split at h
    · exact eqK_no h
    · cases h

/-- the rows that the machine knows are there -/
def BoxW (res : List Res) (w : World) : Prop := ∀ (r b : Nat) (t : TypeId) (cs : List SV), res[r]? = some (.box b t cs) → w.heap[b]? = some (.cells (SV.denL cs).toArray t (0, 0))
def resGood (res : List Res) : Prop := ∀ x ∈ res, match x with | .box _ _ cs => SV.goodL (blkAt res) cs | _ => True
theorem ResOk.boxW {E : Entry} {res : List Res} {ro : List Asn} {w : World} {hs : Nat → Hp} {hi : Hp} (h : ResOk E res ro w hs hi) : BoxW res w := fun r b _ _ e => h.le r b _ (h.holds r _ e).1
theorem ResOk.good {E : Entry} {res : List Res} {ro : List Asn} {w : World} {hs : Nat → Hp} {hi : Hp} (h : ResOk E res ro w hs hi) : resGood res := fun x hx => by
  have := h.cells x hx
  cases x with
  | box b t cs => exact this.1
  | fact A => trivial
  | dead b => trivial
/-- WHAT AN OPERATION COMES TO, in the model, where the machine says it so -/
def StepR.Sound (P : Program) (o : Oper) (st : St) : StepR → Prop
  | .ok x => (∀ (a : Act) (w : World), FrOk st.fr st.res a → BoxW st.res w → ∃ v, (execOp a.eval o).run P w = .ok (.value v) w ∧ x.is v) ∧ (∀ a, FrOk st.fr st.res a → resGood st.res → x.good (blkAt st.res))
  | .wrap k e => ∀ (a : Act) (w : World), FrOk st.fr st.res a → (execOp a.eval o).run P w = .ok (.value (.int k (k.wrap e))) w
  | .set res => ∀ (E : Entry) (a : Act) (w : World), R E st a w → ∃ w', (execOp a.eval o).run P w = .ok .skip w' ∧ (∃ hs hi, ResOk E res st.ro w' hs hi) ∧ blkAt res = blkAt st.res
  | .new t cells n => ∀ (E : Entry) (a : Act) (w : World), R E st a w → ∃ w' b, (execOp a.eval o).run P w = .ok (.value (match n with | none => .pointer (some ⟨b, 0, none⟩) | some n => .slice (some ⟨b, 0, none⟩) n n)) w' ∧
      (∃ hs hi, ResOk E (st.res ++ [.box b t cells]) st.ro w' hs hi)
  | .no => True

theorem constInt_ev {y : Operand} {n b : Int} {fr : List SV} {k : IntKind} (h : constInt y = some n) (e : ev fr y = .va (.int k b)) : n = b := by
  unfold constInt at h
  split at h
  · cases h; simp only [ev] at e; cases e; rfl
  · cases h
theorem quo_aux {P : Program} {T : Tab} (_ : TabOk P T) {o : Oper} {st : St} {y : Operand} {X : StepR} (h : ∀ n : Int, constInt y = some n → n ≠ 0 → X.Sound P o st) :
    StepR.Sound P o st (match constInt y with | some n => if n = 0 then .no else X | none => .no) := by
  split
  · rename_i n hn
    split
    · exact trivial
    · rename_i h0; exact h n hn h0
  · exact trivial
theorem ok_of {P : Program} {o : Oper} {st : St} {x : SV} (h : ∀ (a : Act) (w : World), FrOk st.fr st.res a → ∃ v, (execOp a.eval o).run P w = .ok (.value v) w ∧ x.is v ∧ x.good (blkAt st.res)) : StepR.Sound P o st (.ok x) :=
  ⟨fun a w hf _ => let ⟨v, h1, h2, _⟩ := h a w hf; ⟨v, h1, h2⟩, fun a hf _ => let ⟨_, _, _, h3⟩ := h a default hf; h3⟩
theorem binS_ok {P : Program} {T : Tab} (hT : TabOk P T) {o : Oper} {op : BinOp} {t yt : TypeId} {x y : Operand} (ho : o.op = .binOp op t x y yt) (st : St) : (binS T op t st.fr x y).Sound P o st := by
  unfold binS
  split
  all_goals first
    | (rename_i e1 e2
       split
       · rename_i hk
         subst hk
         first
           | (intro a w h
              have h1 := ev_den h e1 (by simp)
              have h2 := ev_den h e2 (by simp)
              simp [execOp, ho, h1, h2, SV.den, eqGuard, binOp, Op.intArith]
              done)
           | (refine ok_of fun a w h => ?_
              have h1 := ev_den h e1 (by simp)
              have h2 := ev_den h e2 (by simp)
              refine ⟨_, ?_, SV.is_den _, trivial⟩
              simp [execOp, ho, h1, h2, SV.den, eqGuard, binOp, Op.intCmp]
              done)
           | (refine quo_aux hT (fun n hn hne => ?_)
              intro a w h
              have h1 := ev_den h e1 (by simp)
              have h2 := ev_den h e2 (by simp)
              have hb := constInt_ev hn e2
              subst hb
              simp [execOp, SV.den, eqGuard, binOp, Op.intDiv, *]
              done)
           | (refine quo_aux hT (fun n hn hne => ?_)
              refine ok_of fun a w h => ?_
              have h1 := ev_den h e1 (by simp)
              have h2 := ev_den h e2 (by simp)
              have hb := constInt_ev hn e2
              subst hb
              refine ⟨_, ?_, SV.is_den _, trivial⟩
              simp [execOp, SV.den, eqGuard, binOp, Op.intDiv, *]
              done)
       · exact trivial)
    | skip
  · split
    · rename_i r hr
      refine ok_of fun a w h => ?_
      have hno := eqS_no hr
      obtain ⟨hrun, b, hb⟩ := eqS_ok hT hr w .eql (.inl rfl) x y
      refine ⟨r.den, ?_, SV.is_den _, asBoolS_good hb⟩
      rw [asBoolS_den hb]
      rw [← ev_den h rfl hno.1, ← ev_den h rfl hno.2] at hrun
      simp only [execOp, ho]
      rw [Sem.run_bind, hrun, hb]
      rfl
    · exact trivial
  · split
    · rename_i r hr
      split
      · rename_i r' hr'
        refine ok_of fun a w h => ?_
        have hno := eqS_no hr
        obtain ⟨hrun, b, hb⟩ := eqS_ok hT hr w .neq (.inr rfl) x y
        obtain ⟨b', h1, h2⟩ := notS_spec hr'
        rw [hb] at h1
        cases h1
        refine ⟨r'.den, ?_, SV.is_den _, asBoolS_good h2⟩
        rw [asBoolS_den h2]
        rw [← ev_den h rfl hno.1, ← ev_den h rfl hno.2] at hrun
        simp only [execOp, ho]
        rw [Sem.run_bind, hrun, hb]
        rfl
      · exact trivial
    · exact trivial
  · exact trivial
end Go.Sy
