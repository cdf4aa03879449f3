/-
  What is proved: the machine that carries out a function's code till something comes that it leaves to the prover, and that it is sound. Conditions: none.
-/
import Derived.Test.YthknokcgclcbmaaSyo
namespace Go.Sy
open Go.RowKit

inductive It where
  | c (c : Code)
  | o (ops : Array Oper) (l : List Oper)
  | k (id : Nat)
  | d (ops : Array Oper) (full : Bool) (held : List (Nat × Res)) (ro0 : List Asn) (plan : List (Nat × Bool)) (listed : List Bool)

/-- the rows that are read in a group whose order is open: they are as they were -/
def heldOk : List (Nat × Res) → List Res → Prop
  | [], _ => True
  | (i, x) :: l, res => res[i]? = some x ∧ heldOk l res
def heldB : List (Nat × Res) → Nat → Bool
  | [], _ => false
  | (j, _) :: l, i => if j = i then true else heldB l i
def heldOf (held : List (Nat × Res)) (res : List Res) : List Res := go 0 res
where go (i : Nat) : List Res → List Res
  | [] => []
  | x :: l => (if heldB held i = true then x else .dead x.blk) :: go (i + 1) l
def HeldW (held : List (Nat × Res)) (ro0 : List Asn) (w : World) : Prop := (∀ p ∈ held, p.2.asn.holds (hp w)) ∧ ∀ A ∈ ro0, A.holds (hp w)

/-- what is to hold when this is what is still to be done -/
def post (P : Program) : List It → (Exit → Act → World → Prop) → Exit → Act → World → Prop
  | [], Q, e => Q e
  | .c c :: r, Q, e => match e with
    | .normal => fun a w => c.wp P (post P r Q) a w
    | e => post P r Q e
  | .o ops l :: r, Q, e => match e with
    | .normal => fun a w => wpList P ops (post P r Q) l a w
    | e => post P r Q e
  | .k id :: r, Q, e => match e with
    | .exit j => if j = id then post P r Q .normal else post P r Q (.exit j)
    | e => post P r Q e
  | .d ops full held ro0 plan listed :: r, Q, e => match e with
    | .normal => fun a w => (needS ops full listed.toArray → HeldW held ro0 w) ∧ wpD P ops (post P r Q) (HeldW held ro0) full plan.length listed.toArray a w
    | e => post P r Q e

def Fin (Q : Exit → St → Prop) (E : Entry) : Exit → Act → World → Prop
  | .panic _, _, _ => False
  | .outgrown, _, _ => False
  | e, a, w => ∃ st, Q e st ∧ R E st a w
def Go (P : Program) (E : Entry) (todo : List It) (st : St) (Q : Exit → St → Prop) : Prop := ∀ a w, R E st a w → post P todo (Fin Q E) .normal a w

def popTo (id : Nat) : List It → Option (List It)
  | [] => none
  | .k j :: r => if id = j then some r else popTo id r
  | .c _ :: r => popTo id r
  | .o _ _ :: r => popTo id r
  | .d _ _ _ _ _ _ :: r => popTo id r
theorem post_pop {P : Program} {Q : Exit → Act → World → Prop} {id : Nat} : ∀ {todo r : List It}, popTo id todo = some r → post P todo Q (.exit id) = post P r Q .normal := by
  intro todo
  induction todo with
  | nil => intro r h; cases h
  | cons x todo ih =>
    intro r h
    cases x with
    | c c => exact ih h
    | o ops l => exact ih h
    | d ops full held ro0 plan listed => exact ih h
    | k j =>
      simp only [popTo] at h
      simp only [post]
      split at h
      · cases h; rename_i e; rw [if_pos e]
      · rename_i e; rw [if_neg e]; exact ih h
theorem post_exit {P : Program} {Q : Exit → Act → World → Prop} {id : Nat} : ∀ {todo : List It}, popTo id todo = none → post P todo Q (.exit id) = Q (.exit id) := by
  intro todo
  induction todo with
  | nil => intro h; rfl
  | cons x todo ih =>
    intro h
    cases x with
    | c c => exact ih h
    | o ops l => exact ih h
    | d ops full held ro0 plan listed => exact ih h
    | k j =>
      simp only [popTo] at h
      simp only [post]
      split at h
      · cases h
      · rename_i e; rw [if_neg e]; exact ih h
theorem post_ret {P : Program} {Q : Exit → Act → World → Prop} : ∀ {todo : List It}, post P todo Q .ret = Q .ret := by
  intro todo
  induction todo with
  | nil => rfl
  | cons x todo ih => cases x <;> exact ih
theorem post_panic {P : Program} {Q : Exit → Act → World → Prop} {c : List PanicEntry} : ∀ {todo : List It}, post P todo Q (.panic c) = Q (.panic c) := by
  intro todo
  induction todo with
  | nil => rfl
  | cons x todo ih => cases x <;> exact ih

/-- a call, from the state st on: K: what is to hold of its value and of the state behind it -/
def CallEv (P : Program) (E : Entry) (f : FuncId) (args : List SV) (st : St) (K : SV → St → Prop) : Prop :=
  ∀ w hs hi, ResOk E st.res st.ro w hs hi → SV.goodL (blkAt st.res) args →
    Calls P f (SV.denL args).toArray w fun e w' => ∃ sv st', e = .returned sv.den ∧ sv.good (blkAt st'.res) ∧ st'.fr = st.fr ∧
      (∀ r b, blkAt st.res r = some b → blkAt st'.res r = some b) ∧ (∃ hs hi, ResOk E st'.res st'.ro w' hs hi) ∧ K sv st'

inductive Out where
  | fin (e : Exit) (st : St)
  | iff (b : Bool) (t1 : List It) (s1 : St) (t2 : List It) (s2 : St)
  | new (k : Nat → Out)
  | wrap (k : IntKind) (e : Int) (c : Int → Out)
  | call (f : FuncId) (args : List SV) (d : Option Tmp) (todo : List It) (st : St)
  | stop (todo : List It) (st : St)
  | need (p : Prop) (o : Out)

def outSat (P : Program) (E : Entry) (Q : Exit → St → Prop) : Out → Prop
  | .fin e st => Q e st
  | .iff b t1 s1 t2 s2 => (b = true → Go P E t1 s1 Q) ∧ (b = false → Go P E t2 s2 Q)
  | .new k => ∀ b, outSat P E Q (k b)
  | .wrap k e c => outSat P E Q (c (k.wrap e))
  | .call f args d todo st => CallEv P E f args st fun sv st' => Go P E todo (st'.put d sv) Q
  | .stop todo st => Go P E todo st Q
  | .need p o => p ∧ outSat P E Q o

/-! what is reckoned is laid out -/
def forceL : List SV → (List SV → Out) → Out
  | [], k => k []
  | x :: l, k => forceL l fun l => k (x :: l)
theorem forceL_eq : ∀ (l : List SV) (k : List SV → Out), forceL l k = k l
  | [], _ => rfl
  | _ :: l, _ => forceL_eq l _
def forceV1 (x : SV) (k : SV → Out) : Out :=
  match x with
  | .va v => k (.va v)
  | .bl true => k (.bl true)
  | .bl false => k (.bl false)
  | .bq b => k (.bq b)
  | .pt r b o => k (.pt r b o)
  | .sl r b o n c => k (.sl r b o n c)
  | .ag l => k (.ag l)
  | .tu l => k (.tu l)
  | .fu a b c => k (.fu a b c)
  | .no => k .no
theorem forceV1_eq (x : SV) (k : SV → Out) : forceV1 x k = k x := by
  cases x with
  | bl b => cases b <;> rfl
  | _ => rfl
def forceLV : List SV → (List SV → Out) → Out
  | [], k => k []
  | x :: l, k => forceV1 x fun x => forceLV l fun l => k (x :: l)
theorem forceLV_eq : ∀ (l : List SV) (k : List SV → Out), forceLV l k = k l
  | [], _ => rfl
  | x :: l, k => by simp only [forceLV, forceV1_eq]; exact forceLV_eq l _
def forceV (x : SV) (k : SV → Out) : Out :=
  match x with
  | .ag l => forceLV l fun l => k (.ag l)
  | .tu l => forceLV l fun l => k (.tu l)
  | .fu fn a c => forceLV a fun a => forceLV c fun c => k (.fu fn a c)
  | x => forceV1 x k
theorem forceV_eq (x : SV) (k : SV → Out) : forceV x k = k x := by
  cases x with
  | ag l => exact forceLV_eq l _
  | tu l => exact forceLV_eq l _
  | fu fn a c => simp only [forceV, forceLV_eq]
  | bl b => cases b <;> rfl
  | _ => rfl
def forceR : List Res → (List Res → Out) → Out
  | [], k => k []
  | .box b t cs :: l, k => forceLV cs fun cs => forceR l fun l => k (.box b t cs :: l)
  | .fact A :: l, k => forceR l fun l => k (.fact A :: l)
  | .dead b :: l, k => match b with
    | none => forceR l fun l => k (.dead none :: l)
    | some c => forceR l fun l => k (.dead (some c) :: l)
theorem forceR_eq : ∀ (l : List Res) (k : List Res → Out), forceR l k = k l
  | [], _ => rfl
  | .box b t cs :: l, k => by simp only [forceR, forceLV_eq]; exact forceR_eq l _
  | .fact A :: l, k => forceR_eq l _
  | .dead none :: l, k => forceR_eq l _
  | .dead (some _) :: l, k => forceR_eq l _

def lenK (l : List Res) (k : Nat → Out) : Out :=
  match l with
  | [] => k 0
  | _ :: [] => k 1
  | _ :: _ :: [] => k 2
  | _ :: _ :: _ :: [] => k 3
  | _ :: _ :: _ :: _ :: [] => k 4
  | _ :: _ :: _ :: _ :: _ :: [] => k 5
  | _ :: _ :: _ :: _ :: _ :: _ :: [] => k 6
  | _ :: _ :: _ :: _ :: _ :: _ :: _ :: [] => k 7
  | _ :: _ :: _ :: _ :: _ :: _ :: _ :: _ :: [] => k 8
  | _ :: _ :: _ :: _ :: _ :: _ :: _ :: _ :: _ :: [] => k 9
  | _ :: _ :: _ :: _ :: _ :: _ :: _ :: _ :: _ :: _ :: [] => k 10
  | _ :: _ :: _ :: _ :: _ :: _ :: _ :: _ :: _ :: _ :: _ :: [] => k 11
  | _ :: _ :: _ :: _ :: _ :: _ :: _ :: _ :: _ :: _ :: _ :: _ :: [] => k 12
  | _ :: _ :: _ :: _ :: _ :: _ :: _ :: _ :: _ :: _ :: _ :: _ :: _ :: [] => k 13
  | _ :: _ :: _ :: _ :: _ :: _ :: _ :: _ :: _ :: _ :: _ :: _ :: _ :: _ :: [] => k 14
  | _ :: _ :: _ :: _ :: _ :: _ :: _ :: _ :: _ :: _ :: _ :: _ :: _ :: _ :: _ :: [] => k 15
  | _ :: _ :: _ :: _ :: _ :: _ :: _ :: _ :: _ :: _ :: _ :: _ :: _ :: _ :: _ :: _ :: [] => k 16
  | _ :: _ :: _ :: _ :: _ :: _ :: _ :: _ :: _ :: _ :: _ :: _ :: _ :: _ :: _ :: _ :: _ :: [] => k 17
  | _ :: _ :: _ :: _ :: _ :: _ :: _ :: _ :: _ :: _ :: _ :: _ :: _ :: _ :: _ :: _ :: _ :: _ :: [] => k 18
  | _ :: _ :: _ :: _ :: _ :: _ :: _ :: _ :: _ :: _ :: _ :: _ :: _ :: _ :: _ :: _ :: _ :: _ :: _ :: [] => k 19
  | _ :: _ :: _ :: _ :: _ :: _ :: _ :: _ :: _ :: _ :: _ :: _ :: _ :: _ :: _ :: _ :: _ :: _ :: _ :: _ :: [] => k 20
  | _ :: _ :: _ :: _ :: _ :: _ :: _ :: _ :: _ :: _ :: _ :: _ :: _ :: _ :: _ :: _ :: _ :: _ :: _ :: _ :: _ :: [] => k 21
  | _ :: _ :: _ :: _ :: _ :: _ :: _ :: _ :: _ :: _ :: _ :: _ :: _ :: _ :: _ :: _ :: _ :: _ :: _ :: _ :: _ :: _ :: [] => k 22
  | _ :: _ :: _ :: _ :: _ :: _ :: _ :: _ :: _ :: _ :: _ :: _ :: _ :: _ :: _ :: _ :: _ :: _ :: _ :: _ :: _ :: _ :: _ :: [] => k 23
  | _ :: _ :: _ :: _ :: _ :: _ :: _ :: _ :: _ :: _ :: _ :: _ :: _ :: _ :: _ :: _ :: _ :: _ :: _ :: _ :: _ :: _ :: _ :: _ :: [] => k 24
  | _ :: _ :: _ :: _ :: _ :: _ :: _ :: _ :: _ :: _ :: _ :: _ :: _ :: _ :: _ :: _ :: _ :: _ :: _ :: _ :: _ :: _ :: _ :: _ :: _ :: [] => k 25
  | _ :: _ :: _ :: _ :: _ :: _ :: _ :: _ :: _ :: _ :: _ :: _ :: _ :: _ :: _ :: _ :: _ :: _ :: _ :: _ :: _ :: _ :: _ :: _ :: _ :: _ :: [] => k 26
  | _ :: _ :: _ :: _ :: _ :: _ :: _ :: _ :: _ :: _ :: _ :: _ :: _ :: _ :: _ :: _ :: _ :: _ :: _ :: _ :: _ :: _ :: _ :: _ :: _ :: _ :: _ :: [] => k 27
  | _ :: _ :: _ :: _ :: _ :: _ :: _ :: _ :: _ :: _ :: _ :: _ :: _ :: _ :: _ :: _ :: _ :: _ :: _ :: _ :: _ :: _ :: _ :: _ :: _ :: _ :: _ :: _ :: [] => k 28
  | _ :: _ :: _ :: _ :: _ :: _ :: _ :: _ :: _ :: _ :: _ :: _ :: _ :: _ :: _ :: _ :: _ :: _ :: _ :: _ :: _ :: _ :: _ :: _ :: _ :: _ :: _ :: _ :: _ :: [] => k 29
  | _ :: _ :: _ :: _ :: _ :: _ :: _ :: _ :: _ :: _ :: _ :: _ :: _ :: _ :: _ :: _ :: _ :: _ :: _ :: _ :: _ :: _ :: _ :: _ :: _ :: _ :: _ :: _ :: _ :: _ :: [] => k 30
  | l => k l.length
theorem lenK_eq (l : List Res) (k : Nat → Out) : lenK l k = k l.length := by
  unfold lenK
  split <;> rfl

inductive Gd where
  | run
  | skip
  | ask (b : Bool) (d : Tmp)
  | stuck
def guardS (ops : Array Oper) (fr : List SV) (o : Oper) : Gd :=
  match o.guard with
  | none => .run
  | some (j, want) => match ops.toList[j]? with
    | some oj => match oj.dst with
      | some d => match fr[d]? with
        | some (.bl true) => if want = true then .run else .skip
        | some (.bl false) => if want = false then .run else .skip
        | some (.bq b) => .ask b d
        | some (.va (.bool b)) => .ask b d
        | some (.va (.tuple _)) => .skip
        | _ => .stuck
      | none => .stuck
    | none => .stuck

/-- which function, with which arguments -/
def calleeS (fr : List SV) (c : Call) : Option (FuncId × List SV) :=
  match c.callee with
  | .value f => match ev fr f with
    | .va (.func (.func k) first caps) => some (k, first.toList.map vaS ++ (c.args.toList.map (ev fr) ++ caps.toList.map vaS))
    | .fu (.func k) first caps => some (k, first ++ (c.args.toList.map (ev fr) ++ caps))
    | _ => none
  | _ => none
def noNo (l : List SV) : Bool := l.all fun x => match x with | .no => false | _ => true

structure Tbs where
  tab : Tab
  lo : Nat
  nf : Nat
  ex : List Nat

def putF (fr : List SV) (d : Option Tmp) (x : SV) : List SV := match d with | some t => fr.set t x | none => fr

/-- is the order that is taken one that serves for all? -/
def takeOk (ops : Array Oper) (full : Bool) (listed : Array Bool) (i : Nat) : Bool :=
  (Region.ready .any ops listed).contains i && Region.free .any ops listed i && (full || (List.range ops.size).any fun z => !listed.getD z true && match ops[z]? with | some oz => oz.after.any fun e => Region.binds .any e && e.on == i | none => false)
def planOk (ops : Array Oper) (full : Bool) : List (Nat × Bool) → List Bool → Bool
  | [], listed => ((Region.ready .any ops listed.toArray).isEmpty && Region.noSelect ops) && (listed.all (fun b => b) && listed.length == ops.size)
  | (i, take) :: p, listed => bif !take && decide (ops.size ≤ i) then Region.noSelect ops else (if take then takeOk ops full listed.toArray i else Region.ready .any ops listed.toArray == [i]) && decide (i < ops.size) && planOk ops full p (listed.set i true)

/-- what may be done first, of a group whose order is open -/
def runD (T : Tbs) (ops : Array Oper) (full : Bool) (held : List (Nat × Res)) (ro0 : List Asn) (res : List Res) (ro : List Asn) (r : List It) (K : List (Nat × Bool) → List Bool → List SV → Out) : List (Nat × Bool) → List Bool → List SV → Out
  | [], listed, fr => K [] listed fr
  | (i, false) :: p, listed, fr => K ((i, false) :: p) listed fr
  | (i, true) :: p, listed, fr => match ops.toList[i]? with
    | none => .stop (.d ops full held ro0 ((i, true) :: p) listed :: r) ⟨fr, res, ro⟩
    | some o => match guardS ops fr o with
      | .stuck => .stop (.d ops full held ro0 ((i, true) :: p) listed :: r) ⟨fr, res, ro⟩
      | .skip => forceL (putF fr o.dst (.va (.tuple #[]))) fun fr => runD T ops full held ro0 res ro r K p (listed.set i true) fr
      | .ask b d => forceL (fr.set d (.bl true)) fun fr1 => forceL (fr.set d (.bl false)) fun fr2 =>
          .iff b (.d ops full held ro0 ((i, true) :: p) listed :: r) ⟨fr1, res, ro⟩ (.d ops full held ro0 ((i, true) :: p) listed :: r) ⟨fr2, res, ro⟩
      | .run => match stepOp T.tab ⟨fr, heldOf held res, ro⟩ o.op with
        | .ok .no => .stop (.d ops full held ro0 ((i, true) :: p) listed :: r) ⟨fr, res, ro⟩
        | .ok x => forceV x fun x => forceL (putF fr o.dst x) fun fr => runD T ops full held ro0 res ro r K p (listed.set i true) fr
        | .wrap k e => .wrap k e fun z => forceL (putF fr o.dst (.va (.int k z))) fun fr => runD T ops full held ro0 res ro r K p (listed.set i true) fr
        | _ => .stop (.d ops full held ro0 ((i, true) :: p) listed :: r) ⟨fr, res, ro⟩

def run (T : Tbs) : Nat → List It → St → Out
  | 0, todo, ⟨fr, res, ro⟩ => .stop todo ⟨fr, res, ro⟩
  | _ + 1, [], ⟨fr, res, ro⟩ => .fin .normal ⟨fr, res, ro⟩
  | n + 1, .k _ :: r, ⟨fr, res, ro⟩ => run T n r ⟨fr, res, ro⟩
  | n + 1, .d ops false _ _ [] listed :: r, ⟨fr, res, ro⟩ => .need (planOk ops false [] listed = true) (run T n r ⟨fr, res, ro⟩)
  | n + 1, .d ops full held ro0 plan listed :: r, ⟨fr, res, ro⟩ => .need ((heldOk held res ∧ ro0 = ro) ∧ planOk ops full plan listed = true) (runD T ops full held ro0 res ro r (fun plan listed fr => match plan with
      | [] => run T n r ⟨fr, res, ro⟩
      | (i, b) :: p => match ops.toList[i]? with
        | some o => run T n (.o ops [o] :: .d ops full held ro0 p (listed.set i true) :: r) ⟨fr, res, ro⟩
        | none => .stop (.d ops full held ro0 ((i, b) :: p) listed :: r) ⟨fr, res, ro⟩) plan listed fr)
  | n + 1, .c code :: r, ⟨fr, res, ro⟩ => match code with
    | .skip => run T n r ⟨fr, res, ro⟩
    | .label _ => run T n r ⟨fr, res, ro⟩
    | .seq a b => run T n (.c a :: .c b :: r) ⟨fr, res, ro⟩
    | .block id b => run T n (.c b :: .k id :: r) ⟨fr, res, ro⟩
    | .region _ ops false => run T n (.o ops ops.toList :: r) ⟨fr, res, ro⟩
    | .cond c x y => match ev fr c with
      | .bl true => run T n (.c x :: r) ⟨fr, res, ro⟩
      | .bl false => run T n (.c y :: r) ⟨fr, res, ro⟩
      | .bq b => .iff b (.c x :: r) ⟨fr, res, ro⟩ (.c y :: r) ⟨fr, res, ro⟩
      | .va (.bool b) => .iff b (.c x :: r) ⟨fr, res, ro⟩ (.c y :: r) ⟨fr, res, ro⟩
      | _ => .stop (.c (.cond c x y) :: r) ⟨fr, res, ro⟩
    | .exit id => match popTo id r with
      | some r' => run T n r' ⟨fr, res, ro⟩
      | none => .fin (.exit id) ⟨fr, res, ro⟩
    | .ret => .fin .ret ⟨fr, res, ro⟩
    | c => .stop (.c c :: r) ⟨fr, res, ro⟩
  | n + 1, .o _ [] :: r, ⟨fr, res, ro⟩ => run T n r ⟨fr, res, ro⟩
  | n + 1, .o ops (o :: l) :: r, ⟨fr, res, ro⟩ => match guardS ops fr o with
    | .stuck => .stop (.o ops (o :: l) :: r) ⟨fr, res, ro⟩
    | .skip => forceL (putF fr o.dst (.va (.tuple #[]))) fun fr => run T n (.o ops l :: r) ⟨fr, res, ro⟩
    | .ask b d => forceL (fr.set d (.bl true)) fun fr1 => forceL (fr.set d (.bl false)) fun fr2 => .iff b (.o ops (o :: l) :: r) ⟨fr1, res, ro⟩ (.o ops (o :: l) :: r) ⟨fr2, res, ro⟩
    | .run => match stepOp T.tab ⟨fr, res, ro⟩ o.op with
      | .ok x => forceV x fun x => forceL (putF fr o.dst x) fun fr => run T n (.o ops l :: r) ⟨fr, res, ro⟩
      | .wrap k e => .wrap k e fun z => forceL (putF fr o.dst (.va (.int k z))) fun fr => run T n (.o ops l :: r) ⟨fr, res, ro⟩
      | .set res => forceR res fun res => forceL (putF fr o.dst (.va (.tuple #[]))) fun fr => run T n (.o ops l :: r) ⟨fr, res, ro⟩
      | .new t cells len => forceLV cells fun cells => .new fun b => forceR (res ++ [.box b t cells]) fun res' =>
          lenK res fun nr => forceV (match len with | none => .pt nr b 0 | some m => .sl nr b 0 m m) fun x =>
          forceL (putF fr o.dst x) fun fr => run T n (.o ops l :: r) ⟨fr, res', ro⟩
      | .no => match o.op with
        | .call c => match calleeS fr c with
          | some (k, args) => if noNo args = true then if T.lo ≤ k ∧ k < T.nf ∧ T.ex.all (fun e => !(e == k)) = true then forceLV args fun args => .call k args o.dst (.o ops l :: r) ⟨fr, res, ro⟩ else .stop (.o ops (o :: l) :: r) ⟨fr, res, ro⟩ else .stop (.o ops (o :: l) :: r) ⟨fr, res, ro⟩
          | none => .stop (.o ops (o :: l) :: r) ⟨fr, res, ro⟩
        | _ => .stop (.o ops (o :: l) :: r) ⟨fr, res, ro⟩

/-! it is sound -/
structure TbsOk (P : Program) (T : Tbs) : Prop where
  mixed : P.follows .mixedOrders = true
  tab : TabOk P T.tab
  fns : ∀ f, T.lo ≤ f ∧ f < T.nf ∧ T.ex.all (fun e => !(e == f)) = true → ∃ fn, P.funcs[f]? = some fn ∧ fn.body.isSome = true ∧ (fn.name == "runtime.NumGoroutine") = false

theorem wpList_run {P : Program} {ops : Array Oper} {Q : Exit → Act → World → Prop} {o : Oper} {l : List Oper} {a : Act} {w : World} (hw : Region.wanted o (yielded ops a.tmps) = true)
    (h : o.wp P a w (wpList P ops Q l) Q) : wpList P ops Q (o :: l) a w := by
  unfold wpList; rw [if_pos hw]; exact .inl h
theorem wp_value {P : Program} {o : Oper} {a : Act} {w w' : World} {v : Value} {K : Act → World → Prop} {Q : Exit → Act → World → Prop} (h : (execOp a.eval o).run P w = .ok (.value v) w') (hK : K (a.put o.dst v) w') : o.wp P a w K Q := by
  unfold Oper.wp; rw [h]; exact hK
theorem wp_skip' {P : Program} {o : Oper} {a : Act} {w w' : World} {K : Act → World → Prop} {Q : Exit → Act → World → Prop} (h : (execOp a.eval o).run P w = .ok .skip w') (hK : K (a.put o.dst undef) w') : o.wp P a w K Q := by
  unfold Oper.wp; rw [h]; exact hK

def GdOk (ops : Array Oper) (fr : List SV) (a : Act) (o : Oper) : Gd → Prop
  | .run => Region.wanted o (yielded ops a.tmps) = true
  | .skip => Region.wanted o (yielded ops a.tmps) = false
  | .ask b d => fr[d]? ≠ none ∧ a.tmps.getD d undef = .bool b
  | .stuck => True
theorem guard_spec {ops : Array Oper} {fr : List SV} {res : List Res} {a : Act} (h : FrOk fr res a) (o : Oper) : GdOk ops fr a o (guardS ops fr o) := by
  unfold guardS
  split
  · rename_i hg; simp [GdOk, Region.wanted, hg]
  · rename_i j want hg
    split
    · rename_i oj hj
      have hj' : ops[j]? = some oj := by simpa using hj
      split
      · rename_i d hd
        have hsz := h.size
        have key : ∀ x v, fr[d]? = some x → x.den = v → x ≠ .no → a.tmps[d]? = some v := fun x v hx hv hno => by
          have h1 := h.is d x hx
          have h2 := SV.den_of_is h1 hno
          have h3 : d < a.tmps.size := by rw [hsz]; exact (List.getElem?_eq_some_iff.1 hx).1
          rw [Array.getElem?_eq_getElem h3]
          rw [← hv, ← h2]
          simp [Array.getD_eq_getD_getElem?, Array.getElem?_eq_getElem h3]
        have yl : ∀ v, a.tmps[d]? = some v → yielded ops a.tmps j = (match v with | .bool b => some b | _ => none) := fun v hv => by
          unfold yielded
          simp only [hj', Option.bind_some, hd, hv]
          cases v <;> rfl
        split
        · rename_i hx
          have := yl _ (key _ _ hx rfl (by simp))
          split
          · rename_i hw; subst hw; simp [GdOk, Region.wanted, hg, this, SV.den]
          · rename_i hw; cases want <;> simp_all [GdOk, Region.wanted, SV.den]
        · rename_i hx
          have := yl _ (key _ _ hx rfl (by simp))
          split
          · rename_i hw; subst hw; simp [GdOk, Region.wanted, hg, this, SV.den]
          · rename_i hw; cases want <;> simp_all [GdOk, Region.wanted, SV.den]
        · rename_i b hx
          have := key _ _ hx rfl (by simp)
          exact ⟨by rw [hx]; simp, by simp [Array.getD_eq_getD_getElem?, this, SV.den]⟩
        · rename_i b hx
          have := key _ _ hx rfl (by simp)
          exact ⟨by rw [hx]; simp, by simp [Array.getD_eq_getD_getElem?, this, SV.den]⟩
        · rename_i b hx
          have := yl _ (key _ _ hx rfl (by simp))
          simp [GdOk, Region.wanted, hg, this, SV.den]
        · trivial
      · trivial
    · trivial
end Go.Sy
