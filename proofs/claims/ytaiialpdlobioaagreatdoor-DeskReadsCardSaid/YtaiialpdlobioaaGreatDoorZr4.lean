/-
  What is proved: the texts that the claims share, part 4 of 5, each text behind the other. Conditions: none.
-/
import Derived.OrdersIn
import Derived.Test.YtaiialpdlobioaaGreatDoorProg
import Derived.KernelRfl
import Derived.Laws.Externs
import Derived.Lib.Bytealg
import Derived.Lib.Builder
import Derived.Test.YtaiialpdlobioaaGreatDoorRows
import Derived.Below
import Derived.Lib.AppendIntMem
import Derived.Shelf.Strconv.AtoiAll
import Derived.Shelf.Strings.Split
import Derived.Test.YtaiialpdlobioaaGreatDoorZr3
namespace Go.Ex
open Go.RowKit
mutual
theorem Is.det {σ : Nat → Value} {β : Bt} : ∀ {v : V} {x y : Value}, noSe v = true → Is σ β v x → Is σ β v y → x = y
  | .int _ _, _, _, _, h1, h2 => Eq.trans h1 (Eq.symm h2)
  | .bl _, _, _, _, h1, h2 => Eq.trans h1 (Eq.symm h2)
  | .st _, _, _, _, h1, h2 => Eq.trans h1.1 (Eq.symm h2.1)
  | .va _, _, _, _, h1, h2 => Eq.trans h1 (Eq.symm h2)
  | .pt _ _, _, _, _, ⟨_, a, b⟩, ⟨_, c, d⟩ => by rw [a] at c; cases c; rw [b, d]
  | .sl _ _ _ _, _, _, _, ⟨_, a, b⟩, ⟨_, c, d⟩ => by rw [a] at c; cases c; rw [b, d]
  | .su _ _ _, _, _, _, ⟨_, a, b⟩, ⟨_, c, d⟩ => by rw [a] at c; cases c; rw [b, d]
  | .se _ _ _, _, _, _, ⟨_, a, b⟩, ⟨_, c, d⟩ => by rw [a] at c; cases c; rw [b, d]
  | .ag _, _, _, h, ⟨_, a, b, _⟩, ⟨_, c, d, _⟩ => by rw [a, c, IsL.det h b d]
  | .tu _, _, _, h, ⟨_, a, b⟩, ⟨_, c, d⟩ => by rw [a, c, IsL.det h b d]
  | .fu _ p q, _, _, h, ⟨_, _, a, b, c⟩, ⟨_, _, d, e, f⟩ => by
    have h := Bool.and_eq_true_iff.1 (show (noSe (.ag p) && noSe (.ag q)) = true from h)
    rw [a, d, IsL.det h.1 b e, IsL.det h.2 c f]
  | .mp _, _, _, _, ⟨_, a, b⟩, ⟨_, c, d⟩ => by rw [a] at c; cases c; rw [b, d]
  | .ic _ v, _, _, h, ⟨_, a, b⟩, ⟨_, c, d⟩ => by rw [a, c, Is.det (show noSe v = true from h) b d]
  | .yl _, _, _, _, ⟨_, a, b⟩, ⟨_, c, d⟩ => by rw [a] at c; cases c; rw [b, d]
  | .sy _, _, _, _, h1, h2 => Eq.trans h1 (Eq.symm h2)
theorem IsL.det {σ : Nat → Value} {β : Bt} : ∀ {l : List V} {xs ys : List Value}, noSe (.ag l) = true → IsL σ β l xs → IsL σ β l ys → xs = ys
  | [], _, _, _, h1, h2 => Eq.trans h1 (Eq.symm h2)
  | v :: l, _, _, h, ⟨_, _, a, b, c⟩, ⟨_, _, d, e, f⟩ => by
    have h := Bool.and_eq_true_iff.1 (show (noSe v && noSe (.ag l)) = true from h)
    rw [a, d, Is.det h.1 b e, IsL.det h.2 c f]
end
section
variable {σ : Nat → Value} {E : Env} {β : Bt}
theorem eqH_ok {x y : V} (h : eqH x y = true) {v w : Value} (hx : Is σ β x v) (hy : Is σ β y w) : v = w := by
  unfold eqH at h
  split at h
  · have h := Bool.and_eq_true_iff.1 h
    obtain rfl := kind_eq h.1
    have h2 := h.2
    rw [eqI_eq, beq_iff_eq] at h2
    subst h2
    exact Eq.trans hx (Eq.symm hy)
  · rw [eqB_eq, beq_iff_eq] at h
    subst h
    exact Eq.trans hx (Eq.symm hy)
  · have h := Bool.and_eq_true_iff.1 h
    have h1 := Nat.eq_of_beq_eq_true h.1
    have h2 := Nat.eq_of_beq_eq_true h.2
    subst h1; subst h2
    exact Is.det rfl hx hy
  · rw [eqN_iff] at h
    subst h
    exact Is.det rfl hx hy
  · exact Eq.trans hx (Eq.symm hy)
  · exact Eq.trans hx (Eq.symm hy)
  · exact Eq.trans hx (Eq.symm hy)
  · have h := Bool.and_eq_true_iff.1 h
    have h1 := Bool.and_eq_true_iff.1 h.1
    have h2 := Bool.and_eq_true_iff.1 h.2
    have e1 := Nat.eq_of_beq_eq_true h1.1
    have e2 := Nat.eq_of_beq_eq_true h1.2
    have e3 := Nat.eq_of_beq_eq_true h2.1
    have e4 := Nat.eq_of_beq_eq_true h2.2
    subst e1; subst e2; subst e3; subst e4
    exact Is.det rfl hx hy
  · have h := Bool.and_eq_true_iff.1 h
    have h2 := Bool.and_eq_true_iff.1 h.2
    have e1 := Nat.eq_of_beq_eq_true h.1
    have e2 := Nat.eq_of_beq_eq_true h2.1
    have e3 := Nat.eq_of_beq_eq_true h2.2
    subst e1; subst e2; subst e3
    exact Is.det rfl hx hy
  · have h := Nat.eq_of_beq_eq_true h
    subst h
    exact Is.det rfl hx hy
  · cases h
theorem eqHL_ok : ∀ {a b : List V}, eqHL a b = true → ∀ {xs ys : List Value}, IsL σ β a xs → IsL σ β b ys → xs = ys := by
  intro a
  induction a with
  | nil =>
    intro b h xs ys hx hy
    cases b with
    | nil => exact Eq.trans hx (Eq.symm hy)
    | cons => cases h
  | cons x a ih =>
    intro b h xs ys hx hy
    cases b with
    | nil => cases h
    | cons y b =>
      have h := Bool.and_eq_true_iff.1 h
      obtain ⟨xv, xs, rfl, hx1, hx2⟩ := hx
      obtain ⟨yv, ys, rfl, hy1, hy2⟩ := hy
      rw [eqH_ok h.1 hx1 hy1, ih h.2 hx2 hy2]
theorem eqHV_ok {x y : V} (h : eqHV x y = true) {v w : Value} (hx : Is σ β x v) (hy : Is σ β y w) : v = w := by
  unfold eqHV at h
  split at h
  · obtain ⟨xs, rfl, h1, _⟩ := hx
    obtain ⟨ys, rfl, h2, _⟩ := hy
    rw [eqHL_ok h h1 h2]
  · exact eqH_ok h hx hy
theorem load_again {K : World} {F : Hp} {h : Tr Rs} {nx : Nat} {w : World} (G : GlobOk E σ F) (H : HR σ K β F h nx w) {t : TypeId} {av u u' : V} {x v : Value} (hav : Is σ β av x) (hl : loadV E h t av = some u') (hu : Is σ β u v) (hn : noSe u = true) (he : u' = u ∨ eqHV u u' = true) :
    (Instr.loadAt t x).run E.P w = .ok v w := by
  obtain ⟨y, h1, h2⟩ := loadV_ok G H hl hav
  rw [h1]
  rcases he with rfl | he
  · rw [Is.det hn hu h2]
  · rw [eqHV_ok he hu h2]
end
/-- a new block: its cells, its value by its name -/
def NewSem (E : Env) (σ : Nat → Value) (o : Oper) (fr : Tr V) (t : TypeId) (cs : List V) (k : Nat → V) : Prop :=
  ∃ val : Nat → Value, (∀ (β : Bt) r b c z, β r = some (⟨b, 0, c, z⟩ : Loc) → Is σ β (k r) (val b)) ∧
    ∀ (β : Bt) (a : Act), FrR σ β fr a.tmps → ∃ xs : List Value, (∀ w : World, (execOp a.eval o).run E.P w = .ok (.value (val w.heap.size)) (w.alloc (.cells xs.toArray t))) ∧ IsL σ β cs xs ∧ ∀ y ∈ xs, y.oneCell' = true
section
variable {σ : Nat → Value} {E : Env}
theorem new_alloc {o : Oper} {t : TypeId} (ho : o.op = .alloc t) {e : TE} (he : teOf E.P t = some e) (fr : Tr V) : NewSem E σ o fr t (zer e) (fun r => .pt r 0) := by
  refine ⟨fun b => .pointer (some ⟨b, 0, none⟩), fun β r b c z h => ⟨_, h, rfl⟩, fun β a _ => ⟨e.zero, fun w => ?_, zer_is e, te_one he⟩⟩
  obtain ⟨i, ud, zv, hi, hu, hz, _, hk, _, hs, _, hzz, hz1, hzl⟩ := te_spec he
  have hza : zv.cells = e.zero.toArray := by rw [hzz]
  have h2 : (newRow t e.zero.toArray).run E.P w = .ok ⟨w.heap.size, 0, none⟩ (w.alloc (.cells e.zero.toArray t)) := rfl
  simp [execOp, ho, Instr.alloc, zeroValue, typeInfo, hi, hz, newVar, h2, hza]
theorem new_slc (ok : OrcOk E σ) {o : Oper} {t : TypeId} {n : Nat} {parts : Array (Nat × Operand)} (ho : o.op = .buildSlice t n parts) {fr : Tr V} {e : TE} {l : List V} (h : slcOf E fr t n parts.toList = some (e, l)) : NewSem E σ o fr e.id l (fun r => .sl r 0 n n) := by
  obtain ⟨e', he', hc⟩ := obind_eq h
  obtain ⟨et, hu, he, hid⟩ := sliOf_ok he'
  obtain ⟨ps, hps, hc⟩ := obind_eq hc
  obtain ⟨l', hl, hc⟩ := obind_eq hc
  obtain ⟨hb, e1⟩ := brec_some hc
  cases e1
  refine ⟨fun b => .slice (some ⟨b, 0, none⟩) n n, fun β r b c z h => ⟨_, h, rfl⟩, fun β a hfr => ?_⟩
  obtain ⟨i, ud, zv, hi, hud, hz, _, hk, _, hs, _, hzz, hz1, hzl⟩ := te_spec he
  obtain ⟨p1, p2⟩ := evP_ok hfr hps
  obtain ⟨ys, f1, f2, f3⟩ := overlay_ok ok hl p1 p2 (rep_is (zer_is e) n) (reps_one hz1 n)
  refine ⟨ys, fun w => ?_, f2, f3⟩
  rw [hid]
  have hle : n * e.size ≤ 16777216 := Nat.le_of_ble_eq_true hb
  have h2 : (newRow et ys.toArray).run E.P w = .ok ⟨w.heap.size, 0, none⟩ (w.alloc (.cells ys.toArray et)) := rfl
  have hza : zv.cells = e.zero.toArray := by rw [hzz]
  have hp : (parts.map fun (i, x) => (i, a.eval x)).toList = parts.toList.map fun p => (p.1, a.eval p.2) := by simp
  have hzv : (zeroValue et).run E.P w = .ok zv w := by simp [zeroValue, typeInfo, hi, hz]
  have hsz2 : e.zero.length = e.size := hzl
  simp only [execOp, ho, Instr.buildSlice, Sem.run_bind, run_underlying hu, Result.andThen_ok, sizeOf_ok he, hp]
  rw [if_neg (by omega)]
  have hpl : (fun i => some (Nat.mul i e.size, e.size)) = fun i => some (i * e.size, e.size) := rfl
  rw [hpl] at f1
  have hr := rep_mod e.zero n
  simp only [List.size_toArray, hsz2] at hr
  split
  · rename_i h0
    have he0 : (List.replicate n e.zero).flatten = [] := List.eq_nil_of_length_eq_zero (by simp [hsz2, h0])
    have he : (Array.range (n * e.size)).map (fun x => (#[] : Array Value)[x % (#[] : Array Value).size]!) = (([] : List Value)).toArray := by rw [h0]; simp
    rw [he0] at f1
    simp only [Sem.run_bind, Sem.run_pure, Result.andThen_ok, he, f1, h2]
  · simp only [Sem.run_bind, Sem.run_pure, Result.andThen_ok, hzv, hza, List.size_toArray, hsz2, hr, f1, h2]
theorem isA_cases {o : Oper} (h : isA o = true) : o.guard = none ∧ ((∃ t, o.op = .alloc t) ∨ ∃ t n p, o.op = .buildSlice t n p) := by
  unfold isA at h
  split at h
  · rename_i hg
    refine ⟨hg, ?_⟩
    split at h
    · rename_i t ht; exact .inl ⟨t, ht⟩
    · rename_i t n p ht; exact .inr ⟨t, n, p, ht⟩
    · cases h
  · cases h
theorem aop_ok (ok : OrcOk E σ) {o : Oper} (ha : isA o = true) {call : Cal} {Y : Yi} {s : S} {K : S → V → O} {z : S} {u : V} (h : (opC o.op).f E call Y s K = .ok z u) :
    ∃ t cs k, NewSem E σ o s.fr t cs k ∧ K (s.new (.box t cs)) (k s.nx) = .ok z u := by
  rcases (isA_cases ha).2 with ⟨t, ho⟩ | ⟨t, n, p, ho⟩
  · rw [ho] at h
    obtain ⟨e, he, h⟩ := obad_eq (show obad 5 (teOf E.P t) (fun e => K (s.new (.box t (zer e))) (.pt s.nx 0)) = .ok z u from h)
    exact ⟨t, zer e, _, new_alloc ho he s.fr, h⟩
  · rw [ho] at h
    obtain ⟨⟨e, l⟩, he, h⟩ := obad_eq (show obad 6 (slcOf E s.fr t n p.toList) (fun p => K (s.new (.box p.1.id p.2)) (.sl s.nx 0 n n)) = .ok z u from h)
    exact ⟨e.id, l, _, new_slc ok ho he, h⟩
theorem hold_ok (ok : OrcOk E σ) {fr : Tr V} {o : Oper} (h : holdOk E fr o = true) : (∀ d, o.dst = some d → fr.get d = none) ∧ ∃ t cs k, NewSem E σ o fr t cs k := by
  unfold holdOk at h
  have h := Bool.and_eq_true_iff.1 h
  refine ⟨fun d hd => ?_, ?_⟩
  · have h1 := h.1
    rw [hd] at h1
    simpa using h1
  · have h2 := h.2
    split at h2
    · rename_i t ht
      cases he : teOf E.P t with
      | none => rw [he] at h2; cases h2
      | some e => exact ⟨t, _, _, new_alloc ht he fr⟩
    · rename_i t n p ht
      cases he : slcOf E fr t n p.toList with
      | none => rw [he] at h2; cases h2
      | some e => exact ⟨_, _, _, new_slc ok ht he⟩
    · cases h2
/-- an act -/
def ActSem (E : Env) (σ : Nat → Value) (Fs : Fence → Prop) (o : Oper) (s s1 : S) (v : V) : Prop :=
  OpSem E σ Fs o s s1 v ∧ (∀ cs b, o.op ≠ .select cs b) ∧ (isA o = true → ∃ t cs k, NewSem E σ o s.fr t cs k ∧ s1 = s.new (.box t cs) ∧ v = k s.nx)
theorem act_ok {Fs : Fence → Prop} (ok : OrcOk E σ) (hF : ∀ Fn, Fs Fn → Wd Fn) {call : Cal} (hc : CalOk E σ call) {o : Oper} {s : S} {K : S → V → O} {z : S} {u : V} (h : (opC o.op).f E call noY s K = .ok z u) : ∃ s1 v, ActSem E σ Fs o s s1 v ∧ K s1 v = .ok z u := by
  have hsel : ∀ cs b, o.op ≠ .select cs b := fun cs b e => by rw [e] at h; cases h
  cases ha : isA o with
  | false =>
    obtain ⟨s1, v, h1, h2⟩ := opC_ok ok hF hc noY_ok h
    exact ⟨s1, v, ⟨h1, hsel, fun e => by rw [ha] at e; cases e⟩, h2⟩
  | true =>
    obtain ⟨t, cs, k, hn, h2⟩ := aop_ok ok ha h
    refine ⟨s.new (.box t cs), k s.nx, ⟨⟨rfl, rfl, ?_⟩, hsel, fun _ => ⟨t, cs, k, hn, rfl, rfl⟩⟩, h2⟩
    obtain ⟨val, v1, v2⟩ := hn
    intro Fn fs Kw β F a w G hR a2 he next Q hnx
    have hnd : ∀ c, o.op ≠ .defer c := fun c e => by rcases (isA_cases ha).2 with ⟨t, q⟩ | ⟨t, n, p, q⟩ <;> (rw [q] at e; cases e)
    refine ⟨fun f _ => (hF Fn fs).fn f, ?_⟩
    obtain ⟨xs, x1, x2, x3⟩ := v2 β a hR.fr
    rw [sem_at (hF Fn fs) hnd, he, x1]
    exact hnx _ _ (β.add s.nx ⟨w.heap.size, 0, 0, 0⟩) (Bt.le_add (hR.mem.new _ (Nat.le_refl _)) _) (v1 _ _ _ _ _ (add_self _ _ _)) (new_ok hR.mem t x2 x3 0)
/-- what the plan says; sf: how it ends -/
def Pl (E : Env) (σ : Nat → Value) (Fs : Fence → Prop) (ops : Array Oper) (sf : S) : List (Ro × Tag) → (Nat → Prop) → (Nat → Prop) → Hl → S → Prop
  | [], L, _, _, s => (∀ j, j < ops.size → L j) ∧ s = sf
  | (r, .take) :: p, L, H, hl, s => ops[r.i]? = some r.o ∧ Ready L r ∧ Free ops L r ∧
    ((wants ops.toList s.fr r.o = some true ∧ ∃ v hl', takeV r.o.op E s.fr s.h = some v ∧ holdL r s.fr v hl = some hl' ∧ Pl E σ Fs ops sf p (fun j => L j ∨ j = r.i) H hl' (s.put r.o.dst v)) ∨
      (wants ops.toList s.fr r.o = some false ∧ Pl E σ Fs ops sf p (fun j => L j ∨ j = r.i) H hl (s.put r.o.dst (.tu []))))
  | (r, .hold) :: p, L, H, hl, s => ops[r.i]? = some r.o ∧ Ready L r ∧ Free ops L r ∧ isA r.o = true ∧ (∀ d, r.o.dst = some d → d ∉ r.o.looksAt ops) ∧ (∀ d, r.o.dst = some d → s.fr.get d = none) ∧ (∃ t cs k, NewSem E σ r.o s.fr t cs k) ∧ Pl E σ Fs ops sf p L (fun j => H j ∨ j = r.i) hl s
  | (r, .act) :: p, L, H, hl, s => ops[r.i]? = some r.o ∧ Ready L r ∧ Sole ops L H r ∧ (isA r.o = true → H r.i) ∧
    ((wants ops.toList s.fr r.o = some true ∧ ∃ s1 v, ActSem E σ Fs r.o s s1 v ∧ heldOk E s1.h (hl.filter fun x => not (has (depOf r.o) x.1)) = true ∧ Pl E σ Fs ops sf p (fun j => L j ∨ j = r.i) H (hl.filter fun x => not (has (depOf r.o) x.1)) (s1.put r.o.dst v)) ∨
      (wants ops.toList s.fr r.o = some false ∧ Pl E σ Fs ops sf p (fun j => L j ∨ j = r.i) H (hl.filter fun x => not (has (depOf r.o) x.1)) (s.put r.o.dst (.tu []))))
theorem set_add (L i : Nat) : (fun j => has (Nat.lor L (bit i)) j = true) = fun j => has L j = true ∨ j = i := funext fun j => propext (has_add L i j)
theorem pl_of {Fs : Fence → Prop} (ok : OrcOk E σ) (hF : ∀ Fn, Fs Fn → Wd Fn) {call : Cal} (hc : CalOk E σ call) {ops : Array Oper} {K : S → O} {z : S} {u : V} : ∀ (p : List (Ro × Tag)) (L H : Nat) (hl : Hl) (s : S), planOk (rosOf E ops 0 ops.toList) p L H = true → (∀ x ∈ p, x.1 ∈ rosOf E ops 0 ops.toList) →
    openE E call ops.toList p hl s K = .ok z u → ∃ sf, Pl E σ Fs ops sf p (fun j => has L j = true) (fun j => has H j = true) hl s ∧ K sf = .ok z u := by
  intro p
  induction p with
  | nil =>
    intro L H hl s hp _ h
    refine ⟨s, ⟨fun j hj => ?_, rfl⟩, h⟩
    obtain ⟨r, h1, h2, _⟩ := ros_all (E := E) (ops := ops) (l := ops.toList) (k := 0) (j := j) (o := ops[j]) (by simp [hj])
    have := List.all_eq_true.1 hp r h1
    rw [h2, Nat.zero_add] at this
    exact this
  | cons x p ih =>
    intro L H hl s hp hm h
    obtain ⟨r, t⟩ := x
    have hr := ros_ok (hm _ List.mem_cons_self)
    have hm' : ∀ x ∈ p, x.1 ∈ rosOf E ops 0 ops.toList := fun x hx => hm x (List.mem_cons_of_mem _ hx)
    cases t with
    | take =>
      have hp := Bool.and_eq_true_iff.1 (show (and (and (readyR L r) (freeR (rosOf E ops 0 ops.toList) L r)) (planOk (rosOf E ops 0 ops.toList) p (Nat.lor L (bit r.i)) H)) = true from hp)
      have hp1 := Bool.and_eq_true_iff.1 hp.1
      have hrd := ready_of hr hp1.1
      have hfr := free_of hr hp1.2
      unfold openE at h
      dsimp only at h
      split at h
      · rename_i hw
        obtain ⟨v, hv, h⟩ := obad_eq h
        obtain ⟨hl', hh, h⟩ := obad_eq h
        obtain ⟨sf, q1, q2⟩ := ih _ H hl' _ hp.2 hm' h
        rw [set_add] at q1
        exact ⟨sf, ⟨hr.1, hrd, hfr, .inl ⟨hw, v, hl', hv, hh, q1⟩⟩, q2⟩
      · rename_i hw
        obtain ⟨sf, q1, q2⟩ := ih _ H hl _ hp.2 hm' h
        rw [set_add] at q1
        exact ⟨sf, ⟨hr.1, hrd, hfr, .inr ⟨hw, q1⟩⟩, q2⟩
      · cases h
    | hold =>
      have hp := Bool.and_eq_true_iff.1 (show (and (and (and r.a (apt r.w r.u)) (and (readyR L r) (freeR (rosOf E ops 0 ops.toList) L r))) (planOk (rosOf E ops 0 ops.toList) p L (Nat.lor H (bit r.i)))) = true from hp)
      have hp1 := Bool.and_eq_true_iff.1 hp.1
      have hp2 := Bool.and_eq_true_iff.1 hp1.1
      have hp3 := Bool.and_eq_true_iff.1 hp1.2
      have hrd := ready_of hr hp3.1
      have hfr := free_of hr hp3.2
      obtain ⟨hk, h⟩ := obool (show (Bool.rec (.bad 44) (openE E call ops.toList p hl s K) (holdOk E s.fr r.o) : O) = .ok z u from h)
      obtain ⟨k1, k2⟩ := hold_ok ok hk
      obtain ⟨sf, q1, q2⟩ := ih L _ hl s hp.2 hm' h
      rw [set_add] at q1
      refine ⟨sf, ⟨hr.1, hrd, hfr, by rw [← hr.2.2.2.2]; exact hp2.1, fun d hd hl => ?_, k1, k2, q1⟩, q2⟩
      have h4 := hp2.2
      rw [hr.2.2.2.1, hr.2.2.1] at h4
      have := apt_iff h4 d ((dst_has _ _).2 hd)
      rw [(use_has _ _ _).2 hl] at this
      cases this
    | act =>
      have hp := Bool.and_eq_true_iff.1 (show (and (and (readyR L r) (and (soleR (rosOf E ops 0 ops.toList) L H r) (or (not r.a) (has H r.i)))) (planOk (rosOf E ops 0 ops.toList) p (Nat.lor L (bit r.i)) H)) = true from hp)
      have hp1 := Bool.and_eq_true_iff.1 hp.1
      have hp2 := Bool.and_eq_true_iff.1 hp1.2
      have hrd := ready_of hr hp1.1
      have hso := sole_of hp2.1
      have hah : isA r.o = true → has H r.i = true := fun e => by
        have := hp2.2
        rw [hr.2.2.2.2, e] at this
        exact this
      unfold openE at h
      dsimp only at h
      rw [hr.2.1] at h
      split at h
      · rename_i hw
        obtain ⟨s1, v, ha, h⟩ := act_ok (Fs := Fs) ok hF hc h
        obtain ⟨hh, h⟩ := obool h
        obtain ⟨sf, q1, q2⟩ := ih _ H _ _ hp.2 hm' h
        rw [set_add] at q1
        exact ⟨sf, ⟨hr.1, hrd, hso, hah, .inl ⟨hw, s1, v, ha, hh, q1⟩⟩, q2⟩
      · rename_i hw
        obtain ⟨sf, q1, q2⟩ := ih _ H _ _ hp.2 hm' h
        rw [set_add] at q1
        exact ⟨sf, ⟨hr.1, hrd, hso, hah, .inr ⟨hw, q1⟩⟩, q2⟩
      · cases h
end
end Go.Ex
namespace Go.Ex
open Go.RowKit
/-- taken first, and not come up yet -/
structure Tk1 where
  j : Nat
  o : Oper
  v : Value
/-- a new block that came up early -/
structure Fo where
  j : Nat
  o : Oper
  b : Nat
  ob : Obj
  v : Value
def aft (a : Act) : List Tk1 → Act
  | [] => a
  | x :: T => aft (a.put x.o.dst x.v) T
section
variable {ops : Array Oper}
theorem aft_put {dst : Option Tmp} {v : Value} : ∀ {T : List Tk1} {a : Act}, (∀ x ∈ T, ∀ d, dst = some d → x.o.dst ≠ some d) → aft (a.put dst v) T = (aft a T).put dst v := by
  intro T
  induction T with
  | nil => exact fun _ => rfl
  | cons x T ih =>
    intro a h
    show aft ((a.put dst v).put x.o.dst x.v) T = _
    rw [Act.put_comm a v x.v (h x List.mem_cons_self), ih (fun y hy => h y (List.mem_cons_of_mem _ hy))]
    rfl
theorem aft_exec {o : Oper} (hs : ∀ cs b, o.op ≠ .select cs b) : ∀ {T : List Tk1} {a : Act}, (∀ x ∈ T, ∀ d, x.o.dst = some d → d ∉ o.looksAt ops) → execOp (aft a T).eval o = execOp a.eval o := by
  intro T
  induction T with
  | nil => exact fun _ => rfl
  | cons x T ih =>
    intro a h
    exact (ih (fun y hy => h y (List.mem_cons_of_mem _ hy))).trans (execOp_put (ops := ops) o hs a x.o.dst x.v (h x List.mem_cons_self))
theorem aft_wanted {o : Oper} : ∀ {T : List Tk1} {a : Act}, (∀ x ∈ T, ∀ d, x.o.dst = some d → d ∉ o.looksAt ops) → Region.wanted o (yielded ops (aft a T).tmps) = Region.wanted o (yielded ops a.tmps) := by
  intro T
  induction T with
  | nil => exact fun _ => rfl
  | cons x T ih =>
    intro a h
    exact (ih (fun y hy => h y (List.mem_cons_of_mem _ hy))).trans (wanted_put (ops := ops) o a x.o.dst x.v (h x List.mem_cons_self))
theorem aft_app (x : Tk1) : ∀ (T : List Tk1) (a : Act), aft a (T ++ [x]) = (aft a T).put x.o.dst x.v := by
  intro T
  induction T with
  | nil => exact fun _ => rfl
  | cons y T ih => exact fun a => ih _
theorem put_size (a : Act) (d : Option Tmp) (v : Value) : (a.put d v).tmps.size = a.tmps.size := by cases d <;> simp [Act.put]
theorem put_get {a : Act} {dst : Option Tmp} {v : Value} {d : Nat} (h : dst ≠ some d) : (a.put dst v).tmps[d]? = a.tmps[d]? := by
  cases dst with
  | none => rfl
  | some e => exact Array.getElem?_setIfInBounds_ne (fun q => h (by rw [q]))
theorem aft_size : ∀ (T : List Tk1) (a : Act), (aft a T).tmps.size = a.tmps.size := by
  intro T
  induction T with
  | nil => exact fun _ => rfl
  | cons y T ih => exact fun a => (ih _).trans (put_size _ _ _)
theorem aft_get {d : Nat} : ∀ {T : List Tk1} {a : Act}, (∀ x ∈ T, x.o.dst ≠ some d) → (aft a T).tmps[d]? = a.tmps[d]? := by
  intro T
  induction T with
  | nil => exact fun _ => rfl
  | cons y T ih => exact fun h => (ih (fun x hx => h x (List.mem_cons_of_mem _ hx))).trans (put_get (h y List.mem_cons_self))
theorem looks_op {o : Oper} {p : Operand} {d : Nat} (hp : p ∈ o.op.operands) (e : p = .tmp d) : d ∈ o.looksAt ops := by
  subst e
  exact List.mem_append_left _ (List.mem_filterMap.2 ⟨.tmp d, by simpa using hp, rfl⟩)
end
/-- what is taken first comes to this, whenever it comes up -/
def Yl (E : Env) (σ : Nat → Value) (ops : Array Oper) (β : Bt) (h : Tr Rs) (hl : Hl) (a : Act) (x : Tk1) : Prop :=
  (Region.wanted x.o (yielded ops a.tmps) = true ∧ (∀ cs b, x.o.op ≠ .select cs b) ∧ (∀ c, x.o.op ≠ .defer c) ∧ ((∀ w, (execOp a.eval x.o).run E.P w = .ok (.value x.v) w) ∨
    ∃ t p av u u', x.o.op = .load t p ∧ (x.j, t, av, u) ∈ hl ∧ noSe u = true ∧ Is σ β av (a.eval p) ∧ Is σ β u x.v ∧ loadV E h t av = some u' ∧ (u' = u ∨ eqHV u u' = true))) ∨
  (Region.wanted x.o (yielded ops a.tmps) = false ∧ x.v = undef)
def TOk (E : Env) (σ : Nat → Value) (ops : Array Oper) (β : Bt) (h : Tr Rs) (hl : Hl) : Act → List Tk1 → Prop
  | _, [] => True
  | a, x :: T => Yl E σ ops β h hl a x ∧ ¬ Dp x.j x.o ∧ (∀ y ∈ T, (Dp x.j y.o ∨ Ap ops x.o y.o) ∧ ¬ Dp y.j x.o) ∧ TOk E σ ops β h hl (a.put x.o.dst x.v) T
section
variable {E : Env} {σ : Nat → Value} {ops : Array Oper} {β : Bt} {h : Tr Rs} {hl : Hl}
theorem Yl.congr {a a' : Act} {x : Tk1} (hw : Region.wanted x.o (yielded ops a'.tmps) = Region.wanted x.o (yielded ops a.tmps)) (he : (∀ cs b, x.o.op ≠ .select cs b) → execOp a'.eval x.o = execOp a.eval x.o) (hp : ∀ p ∈ x.o.op.operands, a'.eval p = a.eval p)
    (y : Yl E σ ops β h hl a x) : Yl E σ ops β h hl a' x := by
  rcases y with ⟨h1, hs, hdf, h2⟩ | ⟨h1, h2⟩
  · refine .inl ⟨hw.trans h1, hs, hdf, ?_⟩
    rcases h2 with h2 | ⟨t, p, av, u, u', ho, hm, hn, hav, hu, hl, heq⟩
    · left; intro w; rw [he hs]; exact h2 w
    · right
      refine ⟨t, p, av, u, u', ho, hm, hn, ?_, hu, hl, heq⟩
      rw [hp p (by rw [ho]; simp [Op.operands])]
      exact hav
  · exact .inr ⟨hw.trans h1, h2⟩
theorem put_ops {a : Act} {dst : Option Tmp} {v : Value} {o : Oper} (hd : ∀ d, dst = some d → d ∉ o.looksAt ops) : ∀ p ∈ o.op.operands, (a.put dst v).eval p = a.eval p :=
  fun _p hp => Act.eval_put fun d hdd e => hd d hdd (looks_op hp e)
theorem Yl.put {a : Act} {x : Tk1} {dst : Option Tmp} {v : Value} (hd : ∀ d, dst = some d → d ∉ x.o.looksAt ops) (y : Yl E σ ops β h hl a x) : Yl E σ ops β h hl (a.put dst v) x :=
  y.congr (wanted_put x.o a dst v hd) (fun hs => execOp_put (ops := ops) x.o hs a dst v hd) (put_ops hd)
theorem Yl.unput {a : Act} {x : Tk1} {dst : Option Tmp} {v : Value} (hd : ∀ d, dst = some d → d ∉ x.o.looksAt ops) (y : Yl E σ ops β h hl (a.put dst v) x) : Yl E σ ops β h hl a x :=
  y.congr (wanted_put x.o a dst v hd).symm (fun hs => (execOp_put (ops := ops) x.o hs a dst v hd).symm) (fun p hp => (put_ops hd p hp).symm)
theorem Yl.mono {β' : Bt} {h' : Tr Rs} {hl' : Hl} (le : Le β β') {a : Act} {x : Tk1} (hm : ∀ t av u u', (x.j, t, av, u) ∈ hl → loadV E h t av = some u' → (u' = u ∨ eqHV u u' = true) → (x.j, t, av, u) ∈ hl' ∧ ∃ u'', loadV E h' t av = some u'' ∧ (u'' = u ∨ eqHV u u'' = true))
    (y : Yl E σ ops β h hl a x) : Yl E σ ops β' h' hl' a x := by
  rcases y with ⟨h1, hs, hdf, h2⟩ | ⟨h1, h2⟩
  · refine .inl ⟨h1, hs, hdf, ?_⟩
    rcases h2 with h2 | ⟨t, p, av, u, u', ho, hmm, hn, hav, hu, hl, heq⟩
    · exact .inl h2
    · obtain ⟨q1, u'', q2, q3⟩ := hm t av u u' hmm hl heq
      exact .inr ⟨t, p, av, u, u'', ho, q1, hn, hav.mono le, hu.mono le, q2, q3⟩
  · exact .inr ⟨h1, h2⟩
theorem TOk.put {dst : Option Tmp} {v : Value} : ∀ {T : List Tk1} {a : Act}, (∀ x ∈ T, (∀ d, dst = some d → d ∉ x.o.looksAt ops) ∧ ∀ d, dst = some d → x.o.dst ≠ some d) → TOk E σ ops β h hl a T → TOk E σ ops β h hl (a.put dst v) T := by
  intro T
  induction T with
  | nil => exact fun _ _ => trivial
  | cons x T ih =>
    intro a hd ht
    obtain ⟨h1, h2, h3, h4⟩ := ht
    refine ⟨h1.put (hd x List.mem_cons_self).1, h2, h3, ?_⟩
    rw [Act.put_comm a v x.v (hd x List.mem_cons_self).2]
    exact ih (fun y hy => hd y (List.mem_cons_of_mem _ hy)) h4
theorem TOk.mono {β' : Bt} {h' : Tr Rs} {hl' : Hl} (le : Le β β') : ∀ {T : List Tk1} {a : Act}, (∀ x ∈ T, ∀ t av u u', (x.j, t, av, u) ∈ hl → loadV E h t av = some u' → (u' = u ∨ eqHV u u' = true) → (x.j, t, av, u) ∈ hl' ∧ ∃ u'', loadV E h' t av = some u'' ∧ (u'' = u ∨ eqHV u u'' = true)) →
    TOk E σ ops β h hl a T → TOk E σ ops β' h' hl' a T := by
  intro T
  induction T with
  | nil => exact fun _ _ => trivial
  | cons x T ih =>
    intro a hm ht
    obtain ⟨h1, h2, h3, h4⟩ := ht
    exact ⟨h1.mono le (hm x List.mem_cons_self), h2, h3, ih (fun y hy => hm y (List.mem_cons_of_mem _ hy)) h4⟩
theorem TOk.pre : ∀ {T1 T2 : List Tk1} {x : Tk1} {a : Act}, TOk E σ ops β h hl a (T1 ++ x :: T2) → ∀ y ∈ T1, Dp y.j x.o ∨ Ap ops y.o x.o := by
  intro T1
  induction T1 with
  | nil => exact fun _ y hy => by simp at hy
  | cons z T1 ih =>
    intro T2 x a ht y hy
    obtain ⟨h1, h2, h3, h4⟩ := ht
    rcases List.mem_cons.1 hy with rfl | hy
    · exact (h3 x (by simp)).1
    · exact ih h4 y hy
/-- one of them comes up -/
theorem TOk.take : ∀ {T1 T2 : List Tk1} {x : Tk1} {a : Act}, TOk E σ ops β h hl a (T1 ++ x :: T2) → (∀ y ∈ T1, Ap ops y.o x.o) →
    Yl E σ ops β h hl a x ∧ TOk E σ ops β h hl (a.put x.o.dst x.v) (T1 ++ T2) ∧ aft (a.put x.o.dst x.v) (T1 ++ T2) = aft a (T1 ++ x :: T2) := by
  intro T1
  induction T1 with
  | nil => exact fun ht _ => ⟨ht.1, ht.2.2.2, rfl⟩
  | cons y T1 ih =>
    intro T2 x a ht hap
    obtain ⟨h1, h2, h3, h4⟩ := ht
    obtain ⟨k1, k2, k3⟩ := ih h4 (fun z hz => hap z (List.mem_cons_of_mem _ hz))
    obtain ⟨p1, p2, p3⟩ := hap y List.mem_cons_self
    have hc := Act.put_comm a y.v x.v p2
    refine ⟨k1.unput p1, ⟨h1.put p3, h2, fun z hz => h3 z ?_, ?_⟩, ?_⟩
    · rcases List.mem_append.1 hz with hz | hz
      · exact List.mem_append_left _ hz
      · exact List.mem_append_right _ (List.mem_cons_of_mem _ hz)
    · rw [← hc]; exact k2
    · show aft ((a.put x.o.dst x.v).put y.o.dst y.v) (T1 ++ T2) = _
      rw [← hc]
      exact k3
theorem TOk.app {x : Tk1} : ∀ {T : List Tk1} {a : Act}, TOk E σ ops β h hl a T → Yl E σ ops β h hl (aft a T) x → ¬ Dp x.j x.o → (∀ t ∈ T, (Dp t.j x.o ∨ Ap ops t.o x.o) ∧ ¬ Dp x.j t.o) → TOk E σ ops β h hl a (T ++ [x]) := by
  intro T
  induction T with
  | nil => exact fun _ hy hd _ => ⟨hy, hd, fun y hy => by simp at hy, trivial⟩
  | cons y T ih =>
    intro a ht hy hd hap
    obtain ⟨h1, h2, h3, h4⟩ := ht
    refine ⟨h1, h2, fun z hz => ?_, ih h4 hy hd (fun t ht => hap t (List.mem_cons_of_mem _ ht))⟩
    rcases List.mem_append.1 hz with hz | hz
    · exact h3 z hz
    · simp at hz
      subst hz
      exact hap y List.mem_cons_self
end
/-- the state of a group that is under way -/
structure Inv (E : Env) (σ : Nat → Value) (Fs : Fence → Prop) (ops : Array Oper) (sf : S) (K : World) (F : Hp) (p : List (Ro × Tag)) (L H : Nat → Prop) (hl : Hl) (s : S) (T : List Tk1) (A : List Fo) (Fl : Hp) (β : Bt) (M : Nat → Prop) (a : Act) (w : World) : Prop where
  pl : Pl E σ Fs ops sf p L H hl s
  lS : ∀ k, L k → k < ops.size
  m : ∀ j, j < ops.size → (M j ↔ (L j ∧ ∀ x ∈ T, x.j ≠ j) ∨ ∃ x ∈ A, x.j = j)
  tI : ∀ x ∈ T, L x.j ∧ ops[x.j]? = some x.o ∧ ∀ k, Dp k x.o → L k
  tN : (T.map (·.j)).Nodup
  tF : ∀ x ∈ T, ∀ j o, ops[j]? = some o → ¬ L j → Dp x.j o ∨ Ap ops x.o o
  tO : TOk E σ ops β s.h hl a T
  hF : ∀ j o, ops[j]? = some o → H j → ¬ L j → isA o = true ∧ (∀ j' o', ops[j']? = some o' → ¬ L j' → j' ≠ j → Dp j o' ∨ Ap ops o o') ∧ (∀ k, Dp k o → L k) ∧ (∀ d, o.dst = some d → d ∉ o.looksAt ops) ∧ (∀ d, o.dst = some d → s.fr.get d = none) ∧
    ∃ (val : Nat → Value) (ob : Obj), ∀ w : World, (execOp (aft a T).eval o).run E.P w = .ok (.value (val w.heap.size)) (w.alloc ob)
  aI : ∀ x ∈ A, ¬ L x.j ∧ H x.j ∧ ops[x.j]? = some x.o ∧ (∀ k, Dp k x.o → M k)
  aV : ∀ x ∈ A, (∀ d, x.o.dst = some d → d < a.tmps.size → a.tmps[d]? = some x.v) ∧ ∃ val : Nat → Value, x.v = val x.b ∧ ∀ w : World, (execOp (aft a T).eval x.o).run E.P w = .ok (.value (val w.heap.size)) (w.alloc x.ob)
  aB : ∀ x ∈ A, Fl x.b = some x.ob ∧ F x.b = none ∧ ∀ y ∈ A, y.b = x.b → y.j = x.j
  f : ∀ b o, F b = some o → Fl b = some o
  r : R σ K β Fl s (aft a T) w
section
variable {E : Env} {σ : Nat → Value} {Fs : Fence → Prop} {ops : Array Oper} {sf : S} {K : World} {F : Hp}
theorem GlobOk.mono {F' : Hp} (G : GlobOk E σ F) (h : ∀ b o, F b = some o → F' b = some o) : GlobOk E σ F' := ⟨fun g hg => let ⟨xs, t, z, q1, q2⟩ := G.lies g hg; ⟨xs, t, z, h _ _ q1, q2⟩⟩
theorem HR.weaken {β : Bt} {Fl : Hp} {h : Tr Rs} {nx : Nat} {w : World} (H : HR σ K β Fl h nx w) (hf : ∀ b o, F b = some o → Fl b = some o) : HR σ K β F h nx w :=
  ⟨fun r x hx => let ⟨l, o, h1, h2, h3, h4⟩ := H.own r x hx; ⟨l, o, h1, h2, h3, by
    cases e : F l.b with
    | none => rfl
    | some q => rw [hf _ _ e] at h4; cases h4⟩, H.inj, fun b o q => H.keep b o (hf b o q), H.new, H.os, H.tape, H.out, H.size⟩
theorem isA_nosel {o : Oper} (h : isA o = true) : (∀ cs b, o.op ≠ .select cs b) ∧ (∀ c, o.op ≠ .defer c) := by
  rcases (isA_cases h).2 with ⟨t, q⟩ | ⟨t, n, p, q⟩ <;> exact ⟨fun cs b e => (by rw [q] at e; cases e), fun c e => (by rw [q] at e; cases e)⟩
/-- one more is taken -/
theorem Inv.take1 {p : List (Ro × Tag)} {L H : Nat → Prop} {hl hl' : Hl} {s : S} {T : List Tk1} {A : List Fo} {Fl : Hp} {β : Bt} {M : Nat → Prop} {a : Act} {w : World} {r : Ro} {t : Tag} (I : Inv E σ Fs ops sf K F ((r, t) :: p) L H hl s T A Fl β M a w)
    (hr : ops[r.i]? = some r.o) (hrd : Ready L r) (hfr : Free ops L r) (hnA : isA r.o = false) {v : V} {y : Value} (hv : Is σ β v y) (hsub : ∀ x, x ∈ hl → x ∈ hl') (hy : Yl E σ ops β s.h hl' (aft a T) ⟨r.i, r.o, y⟩)
    (hpl : Pl E σ Fs ops sf p (fun j => L j ∨ j = r.i) H hl' (s.put r.o.dst v)) :
    Inv E σ Fs ops sf K F p (fun j => L j ∨ j = r.i) H hl' (s.put r.o.dst v) (T ++ [⟨r.i, r.o, y⟩]) A Fl β M a w := by
  have hlt : r.i < ops.size := (Array.getElem?_eq_some_iff.1 hr).1
  have hsh : (s.put r.o.dst v).h = s.h := by cases r.o.dst <;> rfl
  have hnotA : ∀ x ∈ A, x.j ≠ r.i := fun x hx e => by
    obtain ⟨q1, q2, q3, _⟩ := I.aI x hx
    have := (I.hF x.j x.o q3 q2 q1).1
    rw [e, hr] at q3
    rw [← Option.some.inj q3, hnA] at this
    cases this
  have hT : ∀ x ∈ T, x.j ≠ r.i := fun x hx e => hrd.1 (e ▸ (I.tI x hx).1)
  have hfreeH : ∀ j o, ops[j]? = some o → H j → ¬ L j → j ≠ r.i → Ap ops o r.o := fun j o ho hH hL hne => by
    rcases (I.hF j o ho hH hL).2.1 r.i r.o hr hrd.1 (Ne.symm hne) with q | q
    · exact absurd (hrd.2 j q) hL
    · exact q
  have hsel : ∀ {o : Oper}, isA o = true → ∀ cs b, o.op ≠ .select cs b := fun h => (isA_nosel h).1
  refine ⟨hpl, ?_, ?_, ?_, ?_, ?_, ?_, ?_, ?_, ?_, I.aB, I.f, ?_⟩
  · rintro k (hk | rfl)
    · exact I.lS k hk
    · exact hlt
  · intro j hj
    rw [I.m j hj]
    constructor
    · rintro (⟨h1, h2⟩ | h)
      · refine .inl ⟨.inl h1, fun x hx => ?_⟩
        rcases List.mem_append.1 hx with hx | hx
        · exact h2 x hx
        · simp at hx
          subst hx
          exact fun e => hrd.1 (by rw [show r.i = j from e]; exact h1)
      · exact .inr h
    · rintro (⟨h1 | h1, h2⟩ | h)
      · exact .inl ⟨h1, fun x hx => h2 x (List.mem_append_left _ hx)⟩
      · exact absurd h1.symm (h2 ⟨r.i, r.o, y⟩ (by simp))
      · exact .inr h
  · intro x hx
    rcases List.mem_append.1 hx with hx | hx
    · obtain ⟨q1, q2, q3⟩ := I.tI x hx
      exact ⟨.inl q1, q2, fun k hk => .inl (q3 k hk)⟩
    · simp at hx
      subst hx
      exact ⟨.inr rfl, hr, fun k hk => .inl (hrd.2 k hk)⟩
  · rw [List.map_append, List.nodup_append]
    refine ⟨I.tN, by simp, fun x hx y hy => ?_⟩
    obtain ⟨t, ht, rfl⟩ := List.mem_map.1 hx
    simp at hy
    subst hy
    exact hT t ht
  · intro x hx j o ho hL
    rcases List.mem_append.1 hx with hx | hx
    · exact I.tF x hx j o ho (fun q => hL (.inl q))
    · simp at hx
      subst hx
      exact hfr j o ho (fun q => hL (.inl q)) (fun q => hL (.inr q))
  · rw [hsh]
    refine TOk.app (TOk.mono (Le.refl β) (fun x _ t av u u' h1 h2 h3 => ⟨hsub _ h1, u', h2, h3⟩) I.tO) hy (fun q => hrd.1 (hrd.2 _ q)) (fun t ht => ⟨I.tF t ht r.i r.o hr hrd.1, fun q => hrd.1 ((I.tI t ht).2.2 _ q)⟩)
  · intro j o ho hH hL
    have hL1 : ¬ L j := fun q => hL (.inl q)
    have hne : j ≠ r.i := fun q => hL (.inr q)
    obtain ⟨q1, q2, q3, q4, q5, val, ob, q6⟩ := I.hF j o ho hH hL1
    have hap := hfreeH j o ho hH hL1 hne
    refine ⟨q1, fun j' o' ho' hL' hj' => q2 j' o' ho' (fun q => hL' (.inl q)) hj', fun k hk => .inl (q3 k hk), q4, fun d hd => ?_, val, ob, fun w => ?_⟩
    · cases hrdst : r.o.dst with
      | none => exact q5 d hd
      | some e =>
        show (s.fr.set e v).get d = none
        rw [Tr.get_set_ne (fun e2 => hap.2.1 d hd (by rw [hrdst, e2]))]
        exact q5 d hd
    · rw [aft_app, execOp_put (ops := ops) o (hsel q1) (aft a T) r.o.dst y hap.2.2]
      exact q6 w
  · intro x hx
    obtain ⟨q1, q2, q3, q4⟩ := I.aI x hx
    exact ⟨fun q => q.elim q1 (hnotA x hx), q2, q3, q4⟩
  · intro x hx
    obtain ⟨q1, q2, q3, q4⟩ := I.aI x hx
    obtain ⟨k1, val, k2, k3⟩ := I.aV x hx
    have hap := hfreeH x.j x.o q3 q2 q1 (hnotA x hx)
    refine ⟨k1, val, k2, fun w => ?_⟩
    rw [aft_app, execOp_put (ops := ops) x.o (hsel (I.hF x.j x.o q3 q2 q1).1) (aft a T) r.o.dst y hap.2.2]
    exact k3 w
  · rw [aft_app]
    exact I.r.put rfl rfl (Le.refl β) hv I.r.mem r.o.dst
end
end Go.Ex
namespace Go.Ex
open Go.RowKit
section
variable {E : Env} {σ : Nat → Value} {Fs : Fence → Prop} {ops : Array Oper} {sf : S} {K : World} {F : Hp}
variable {p : List (Ro × Tag)} {L H : Nat → Prop} {hl : Hl} {s : S} {T : List Tk1} {A : List Fo} {Fl : Hp} {β : Bt} {M : Nat → Prop} {a : Act} {w : World} {r : Ro}
theorem Inv.take (ok : OrcOk E σ) (G : GlobOk E σ F) (I : Inv E σ Fs ops sf K F ((r, .take) :: p) L H hl s T A Fl β M a w) : ∃ hl' s' T', Inv E σ Fs ops sf K F p (fun j => L j ∨ j = r.i) H hl' s' T' A Fl β M a w := by
  obtain ⟨hr, hrd, hfr, hh⟩ := I.pl
  rcases hh with ⟨hw, v, hl', hv, hh, hpl⟩ | ⟨hw, hpl⟩
  · have hnA : isA r.o = false := by
      cases e : isA r.o with
      | false => rfl
      | true => rcases (isA_cases e).2 with ⟨t, q⟩ | ⟨t, n, p, q⟩ <;> (rw [q] at hv; cases hv)
    have hsel : ∀ cs b, r.o.op ≠ .select cs b := fun cs b e => by rw [e] at hv; cases hv
    have hnd : ∀ c, r.o.op ≠ .defer c := fun c e => by rw [e] at hv; cases hv
    obtain ⟨y, h1, h2, h3⟩ := takeV_ok ok (G.mono I.f) I.r.mem I.r.fr hv
    have hwant := wants_ok I.r.fr hw
    have key : (∀ x, x ∈ hl → x ∈ hl') ∧ Yl E σ ops β s.h hl' (aft a T) ⟨r.i, r.o, y⟩ := by
      unfold holdL at hh
      split at hh
      · rename_i t q ho
        obtain ⟨av, hav, hh⟩ := obind_eq hh
        obtain ⟨hn, rfl⟩ := brec_some (b := noSe v) hh
        refine ⟨fun x hx => List.mem_cons_of_mem _ hx, .inl ⟨hwant, hsel, hnd, .inr ⟨t, q, av, v, v, ho, List.mem_cons_self, hn, ev_ok I.r.fr hav, h1, ?_, .inl rfl⟩⟩⟩
        rw [ho] at hv
        obtain ⟨av', hav', hv⟩ := obind_eq (show obind (ev s.fr q) (loadV E s.h t) = some v from hv)
        rw [hav] at hav'
        cases hav'
        exact hv
      · rename_i hno
        cases hh
        refine ⟨fun x hx => hx, .inl ⟨hwant, hsel, hnd, .inl (h3 ?_)⟩⟩
        unfold isLoad
        split
        · rename_i t q ho; exact absurd ho (hno t q)
        · rfl
    exact ⟨_, _, _, I.take1 hr hrd hfr hnA h1 key.1 key.2 hpl⟩
  · have hnA : isA r.o = false := by
      cases e : isA r.o with
      | false => rfl
      | true =>
        have hg := (isA_cases e).1
        unfold wants at hw
        rw [hg] at hw
        cases hw
    exact ⟨_, _, _, I.take1 hr hrd hfr hnA (y := undef) undef_is (fun x hx => hx) (.inr ⟨wants_ok I.r.fr hw, rfl⟩) hpl⟩
theorem Inv.hold (I : Inv E σ Fs ops sf K F ((r, .hold) :: p) L H hl s T A Fl β M a w) : Inv E σ Fs ops sf K F p L (fun j => H j ∨ j = r.i) hl s T A Fl β M a w := by
  obtain ⟨hr, hrd, hfr, hA, hself, hdst, ⟨t, cs, k, val, v1, v2⟩, hpl⟩ := I.pl
  refine ⟨hpl, I.lS, I.m, I.tI, I.tN, I.tF, I.tO, fun j o ho hH hL => ?_, fun x hx => ?_, I.aV, I.aB, I.f, I.r⟩
  · rcases hH with hH | rfl
    · exact I.hF j o ho hH hL
    · rw [hr] at ho
      have ho := Option.some.inj ho
      subst ho
      obtain ⟨xs, x1, _⟩ := v2 β (aft a T) I.r.fr
      exact ⟨hA, fun j' o' ho' hL' hne => hfr j' o' ho' hL' hne, hrd.2, hself, hdst, val, _, x1⟩
  · obtain ⟨q1, q2, q3, q4⟩ := I.aI x hx
    exact ⟨q1, .inl q2, q3, q4⟩
theorem put_same {a : Act} {dst : Option Tmp} {v : Value} (h : ∀ d, dst = some d → d < a.tmps.size → a.tmps[d]? = some v) : a.put dst v = a := by
  cases dst with
  | none => rfl
  | some d =>
    show ({ a with tmps := a.tmps.setIfInBounds d v } : Act) = a
    have e : a.tmps.setIfInBounds d v = a.tmps := by
      apply Array.ext
      · simp
      · intro i h1 h2
        rw [Array.getElem_setIfInBounds]
        split
        · rename_i e
          subst e
          have := h d rfl h2
          rw [Array.getElem?_eq_getElem h2] at this
          exact (Option.some.inj this).symm
        · rfl
    rw [e]
theorem held_at {h : Tr Rs} {hl : Hl} (hh : heldOk E h hl = true) {j : Nat} {t : TypeId} {av u : V} (hm : (j, t, av, u) ∈ hl) : ∃ u'', loadV E h t av = some u'' ∧ (u'' = u ∨ eqHV u u'' = true) := by
  have := List.all_eq_true.1 hh _ hm
  dsimp only at this
  split at this
  · rename_i u'' hu; exact ⟨u'', hu, .inr this⟩
  · cases this
theorem filt {d : Nat} {hl : Hl} {j : Nat} {t : TypeId} {av u : V} (h : (j, t, av, u) ∈ hl) (hd : has d j = false) : (j, t, av, u) ∈ hl.filter fun x => not (has d x.1) :=
  List.mem_filter.2 ⟨h, by simp [hd]⟩
theorem Inv.notM (I : Inv E σ Fs ops sf K F p L H hl s T A Fl β M a w) {x : Tk1} (hx : x ∈ T) : ¬ M x.j := fun hM => by
  obtain ⟨q1, q2, _⟩ := I.tI x hx
  rcases (I.m x.j (Array.getElem?_eq_some_iff.1 q2).1).1 hM with ⟨_, q⟩ | ⟨y, hy, e⟩
  · exact q x hx rfl
  · exact (I.aI y hy).1 (e ▸ q1)
/-- a new block that came up early: the plan comes to it -/
theorem Inv.adopt (I : Inv E σ Fs ops sf K F ((r, .act) :: p) L H hl s T A Fl β M a w) {x : Fo} (hx : x ∈ A) (hxj : x.j = r.i) : ∃ hl' s' A' Fl' β', Le β β' ∧ Inv E σ Fs ops sf K F p (fun j => L j ∨ j = r.i) H hl' s' T A' Fl' β' M a w := by
  obtain ⟨hr, hrd, hso, hah, hh⟩ := I.pl
  obtain ⟨q1, q2, q3, q4⟩ := I.aI x hx
  rw [hxj, hr] at q3
  have hxo : r.o = x.o := Option.some.inj q3
  have hlt : r.i < ops.size := (Array.getElem?_eq_some_iff.1 hr).1
  obtain ⟨hA, hfree, hdeps, hself, hdst, _⟩ := I.hF r.i r.o hr (hxj ▸ q2) hrd.1
  have hwant : wants ops.toList s.fr r.o = some true := by unfold wants; rw [(isA_cases hA).1]
  obtain ⟨s1, v, ⟨_, hsel, hnew⟩, hheld, hpl⟩ := hh.elim (fun h => h.2) (fun h => by have h := h.1; rw [hwant] at h; cases h)
  obtain ⟨t, cs, k, ⟨val, v1, v2⟩, rfl, rfl⟩ := hnew hA
  obtain ⟨xs, x1, x2, x3⟩ := v2 β (aft a T) I.r.fr
  obtain ⟨g1, val', g2, g3⟩ := I.aV x hx
  obtain ⟨b1, b2, b3⟩ := I.aB x hx
  rw [← hxo] at g1 g3
  -- the block is the one
  have hsame : x.ob = .cells xs.toArray t ∧ x.v = val x.b := by
    have e1 := (g3 w).symm.trans (x1 w)
    injection e1 with e1 e2
    have e3 : ((w.alloc x.ob).heap[w.heap.size]?) = (w.alloc (.cells xs.toArray t)).heap[w.heap.size]? := by rw [e2]
    rw [heap_alloc_new, heap_alloc_new] at e3
    refine ⟨Option.some.inj e3, ?_⟩
    have hb : ∃ W : World, W.heap.size = x.b := ⟨{ w with heap := Array.replicate x.b (.cells #[] 0) }, by simp⟩
    obtain ⟨W, hW⟩ := hb
    have e4 := (g3 W).symm.trans (x1 W)
    injection e4 with e4 _
    injection e4 with e4
    rw [hW] at e4
    rw [g2, e4]
  obtain ⟨hob, hxv⟩ := hsame
  have hw : w.heap[x.b]? = some (.cells xs.toArray t) := by rw [← hob]; exact I.r.mem.keep _ _ b1
  obtain ⟨Fl', hFl'⟩ : ∃ Fl' : Hp, Fl' = fun b => if b = x.b then none else Fl b := ⟨_, rfl⟩
  have hFle : ∀ b o, Fl' b = some o → Fl b = some o := fun b o e => by
    rw [hFl'] at e
    dsimp only at e
    split at e
    · cases e
    · exact e
  have H0 := I.r.mem.weaken hFle
  have H1 : HR σ K (β.add s.nx ⟨x.b, 0, 0, 0⟩) Fl' (s.h.set s.nx (.box t cs)) (s.nx + 1) w :=
    H0.adopt ⟨rfl, rfl, rfl, Nat.le_refl _⟩ x.b _ ⟨x.b, 0, 0, 0⟩ (.box t cs) rfl hw ⟨rfl, xs, rfl, x2.mono (Bt.le_add (I.r.mem.new _ (Nat.le_refl _)) _), x3⟩ (fun _ _ _ => rfl) (by rw [hFl']; simp)
      (fun q y m hq hm e => by
        obtain ⟨l', o', k1, k2, k3, k4⟩ := I.r.mem.own q y hq
        rw [hm] at k1
        have k5 := Option.some.inj k1
        subst k5
        rw [e, b1] at k4
        cases k4)
  have le := Bt.le_add (I.r.mem.new _ (Nat.le_refl _)) (⟨x.b, 0, 0, 0⟩ : Loc)
  have hRv : Is σ (β.add s.nx ⟨x.b, 0, 0, 0⟩) (k s.nx) x.v := by rw [hxv]; exact v1 _ _ _ _ _ (add_self _ _ _)
  have hnotDp : ∀ y ∈ T, ¬ Dp y.j r.o := fun y hy q => I.notM hy (q4 _ (hxo ▸ q))
  have hTap : ∀ y ∈ T, Ap ops y.o r.o := fun y hy => (I.tF y hy r.i r.o hr hrd.1).elim (fun q => absurd q (hnotDp y hy)) id
  have hheldap : ∀ j o, ops[j]? = some o → H j → ¬ L j → j ≠ r.i → Ap ops o r.o := fun j o ho hH hL hne =>
    ((I.hF j o ho hH hL).2.1 r.i r.o hr hrd.1 (Ne.symm hne)).elim (fun q => absurd (hrd.2 j q) hL) id
  have hR0 : R σ K β Fl' s (aft a T) w := ⟨I.r.fr, H0, I.r.df⟩
  have hR' := hR0.put (s' := s.new (.box t cs)) rfl rfl le hRv H1 r.o.dst
  rw [put_same (a := aft a T) (dst := r.o.dst) (v := x.v) (fun d hd hlt => by
    rw [aft_size] at hlt
    rw [aft_get (fun y hy e => (hTap y hy).2.1 d e hd)]
    exact g1 d hd hlt)] at hR'
  refine ⟨_, _, A.filter (fun y => decide (y.j ≠ r.i)), Fl', _, le, ⟨hpl, ?_, ?_, ?_, I.tN, ?_, ?_, ?_, ?_, ?_, ?_, ?_, hR'⟩⟩
  · rintro j (h | rfl)
    · exact I.lS j h
    · exact hlt
  · intro j hj
    rw [I.m j hj]
    constructor
    · rintro (⟨h1, h2⟩ | ⟨y, hy, e⟩)
      · exact .inl ⟨.inl h1, h2⟩
      · by_cases hji : j = r.i
        · exact .inl ⟨.inr hji, fun z hz e2 => hrd.1 (by rw [← hji, ← e2]; exact (I.tI z hz).1)⟩
        · exact .inr ⟨y, List.mem_filter.2 ⟨hy, by simpa using (e ▸ hji)⟩, e⟩
    · rintro (⟨h1 | h1, h2⟩ | ⟨y, hy, e⟩)
      · exact .inl ⟨h1, h2⟩
      · exact .inr ⟨x, hx, hxj.trans h1.symm⟩
      · exact .inr ⟨y, (List.mem_filter.1 hy).1, e⟩
  · exact fun y hy => let ⟨c1, c2, c3⟩ := I.tI y hy; ⟨.inl c1, c2, fun k hk => .inl (c3 k hk)⟩
  · exact fun y hy j o ho hL => I.tF y hy j o ho (fun q => hL (.inl q))
  · have hsh : ((s.new (.box t cs)).put r.o.dst (k s.nx)).h = (s.new (.box t cs)).h := by cases r.o.dst <;> rfl
    rw [hsh]
    refine TOk.mono le (fun y hy t' av u u' h1 h2 h3 => ?_) I.tO
    have hd : has (depOf r.o) y.j = false := by
      cases e : has (depOf r.o) y.j with
      | false => rfl
      | true => exact absurd ((dep_has _ _).1 e) (hnotDp y hy)
    exact ⟨filt h1 hd, held_at hheld (filt h1 hd)⟩
  · intro j o ho hH hL
    have hL1 : ¬ L j := fun q => hL (.inl q)
    have hne : j ≠ r.i := fun q => hL (.inr q)
    obtain ⟨c1, c2, c3, c4, c5, c6⟩ := I.hF j o ho hH hL1
    have hap := hheldap j o ho hH hL1 hne
    refine ⟨c1, fun j' o' ho' hL' hj' => c2 j' o' ho' (fun q => hL' (.inl q)) hj', fun k hk => .inl (c3 k hk), c4, fun d hd => ?_, c6⟩
    cases hrdst : r.o.dst with
    | none => exact c5 d hd
    | some e =>
      show (s.fr.set e _).get d = none
      rw [Tr.get_set_ne (fun e2 => hap.2.1 d hd (by rw [hrdst, e2]))]
      exact c5 d hd
  · intro y hy
    obtain ⟨hy, hne⟩ := List.mem_filter.1 hy
    obtain ⟨c1, c2, c3, c4⟩ := I.aI y hy
    exact ⟨fun q => q.elim c1 (by simpa using hne), c2, c3, c4⟩
  · exact fun y hy => I.aV y (List.mem_filter.1 hy).1
  · intro y hy
    obtain ⟨hy, hne⟩ := List.mem_filter.1 hy
    obtain ⟨c1, c2, c3⟩ := I.aB y hy
    refine ⟨?_, c2, fun z hz e => c3 z (List.mem_filter.1 hz).1 e⟩
    rw [hFl']
    dsimp only
    rw [if_neg (fun e => by
      have := b3 y hy e
      rw [hxj] at this
      simp [this] at hne)]
    exact c1
  · intro b o e
    rw [hFl']
    dsimp only
    rw [if_neg (fun e2 => by rw [e2, b2] at e; cases e)]
    exact I.f b o e
end
end Go.Ex
namespace Go.Ex
open Go.RowKit
section
variable {E : Env} {σ : Nat → Value} {Fs : Fence → Prop} {ops : Array Oper} {sf : S} {K : World} {F : Hp} {Fn : Fence}
variable {p : List (Ro × Tag)} {L H : Nat → Prop} {hl : Hl} {s : S} {T : List Tk1} {A : List Fo} {Fl : Hp} {β : Bt} {M : Nat → Prop} {a : Act} {w : World} {r : Ro}
theorem nodup_mid {l1 l2 : List Nat} {x : Nat} (h : (l1 ++ x :: l2).Nodup) : x ∉ l1 ++ l2 ∧ (l1 ++ l2).Nodup := by
  rw [List.nodup_append] at h
  obtain ⟨h1, h2, h3⟩ := h
  obtain ⟨h4, h5⟩ := List.nodup_cons.1 h2
  refine ⟨fun hx => ?_, List.nodup_append.2 ⟨h1, h5, fun a ha b hb => h3 a ha b (List.mem_cons_of_mem _ hb)⟩⟩
  rcases List.mem_append.1 hx with hx | hx
  · exact h3 x hx x List.mem_cons_self rfl
  · exact h4 hx
/-- what was taken first comes up -/
theorem Inv.come (hWd : Wd Fn) (G : GlobOk E σ F) (I : Inv E σ Fs ops sf K F p L H hl s T A Fl β M a w) {x : Tk1} (hx : x ∈ T) (hrdy : ∀ k, Dp k x.o → M k) {Kc : Act → World → Prop} {Q : Exit → Act → World → Prop}
    (hK : ∀ a' w' T', Inv E σ Fs ops sf K F p L H hl s T' A Fl β (fun j => M j ∨ j = x.j) a' w' → Kc a' w') : wpOpIn Fn 0 E.P ops Q x.j Kc a w := by
  obtain ⟨T1, T2, rfl⟩ := List.append_of_mem hx
  have hap : ∀ y ∈ T1, Ap ops y.o x.o := fun y hy => (I.tO.pre y hy).elim (fun q => absurd (hrdy _ q) (I.notM (List.mem_append_left _ hy))) id
  obtain ⟨hy, ht, ha⟩ := I.tO.take hap
  have hsub : ∀ y, y ∈ T1 ++ T2 → y ∈ T1 ++ x :: T2 := fun y hy => by
    rcases List.mem_append.1 hy with h | h
    · exact List.mem_append_left _ h
    · exact List.mem_append_right _ (List.mem_cons_of_mem _ h)
  have hnd := I.tN
  rw [List.map_append, List.map_cons] at hnd
  have hnotin : ∀ y ∈ T1 ++ T2, y.j ≠ x.j := fun y hy e => by
    have h2 := (nodup_mid hnd).1
    rw [← List.map_append] at h2
    exact h2 (e ▸ List.mem_map_of_mem hy)
  have new : Inv E σ Fs ops sf K F p L H hl s (T1 ++ T2) A Fl β (fun j => M j ∨ j = x.j) (a.put x.o.dst x.v) w := by
    refine ⟨I.pl, I.lS, fun j hj => ?_, fun y hy => I.tI y (hsub y hy), ?_, fun y hy => I.tF y (hsub y hy), ht, fun j o ho hH hL => ?_, fun y hy => ?_, fun y hy => ?_, I.aB, I.f, by rw [ha]; exact I.r⟩
    · rw [I.m j hj]
      constructor
      · rintro ((⟨h1, h2⟩ | h) | rfl)
        · exact .inl ⟨h1, fun y hy => h2 y (hsub y hy)⟩
        · exact .inr h
        · exact .inl ⟨(I.tI x hx).1, hnotin⟩
      · rintro (⟨h1, h2⟩ | h)
        · by_cases e : j = x.j
          · exact .inr e
          · refine .inl (.inl ⟨h1, fun y hy => ?_⟩)
            rcases List.mem_append.1 hy with h | h
            · exact h2 y (List.mem_append_left _ h)
            · rcases List.mem_cons.1 h with rfl | h
              · exact Ne.symm e
              · exact h2 y (List.mem_append_right _ h)
        · exact .inl (.inr h)
    · rw [List.map_append]
      exact (nodup_mid hnd).2
    · rw [ha]; exact I.hF j o ho hH hL
    · obtain ⟨c1, c2, c3, c4⟩ := I.aI y hy
      exact ⟨c1, c2, c3, fun k hk => .inl (c4 k hk)⟩
    · obtain ⟨c1, c2⟩ := I.aV y hy
      rw [ha]
      refine ⟨fun d hd hlt => ?_, c2⟩
      rw [put_size] at hlt
      obtain ⟨e1, e2, e3, e4⟩ := I.aI y hy
      have hxy : Ap ops x.o y.o := (I.tF x hx y.j y.o e3 e1).elim (fun q => absurd (e4 _ q) (I.notM hx)) id
      rw [put_get (fun e => hxy.2.1 d e hd)]
      exact c1 d hd hlt
  have hKn := hK _ _ _ new
  unfold wpOpIn
  rw [(I.tI x hx).2.1]
  dsimp only
  rcases hy with ⟨h1, hs, hdf, h2⟩ | ⟨h1, h2⟩
  · rw [if_pos h1]
    refine ⟨fun f _ => hWd.fn f, ?_⟩
    have hrun : (execOp a.eval x.o).run E.P w = .ok (.value x.v) w := by
      rcases h2 with h2 | ⟨t, q, av, u, u', ho, hmm, hn, hav, hu, hlo, heq⟩
      · exact h2 w
      · have := load_again (G.mono I.f) I.r.mem hav hlo hu hn heq
        simp [execOp, ho, this]
    rw [sem_at hWd hdf, hrun]
    exact hKn
  · rw [if_neg (by rw [h1]; simp)]
    refine ⟨fun f _ => hWd.fn f, ?_⟩
    rw [← h2]
    exact hKn
/-- the operation that the plan carries out next comes up -/
theorem Inv.act1 (hWd : Wd Fn) (fs : Fs Fn) (G : GlobOk E σ F) (I : Inv E σ Fs ops sf K F ((r, .act) :: p) L H hl s T A Fl β M a w) (hnA : ∀ x ∈ A, x.j ≠ r.i) (hrdy : ∀ k, Dp k r.o → M k) {Kc : Act → World → Prop} {Q : Exit → Act → World → Prop}
    (hK : ∀ a' w' hl' s' β', Le β β' → Inv E σ Fs ops sf K F p (fun j => L j ∨ j = r.i) H hl' s' T A Fl β' (fun j => M j ∨ j = r.i) a' w' → Kc a' w') : wpOpIn Fn 0 E.P ops Q r.i Kc a w := by
  obtain ⟨hr, hrd, hso, hah, hh⟩ := I.pl
  have hlt : r.i < ops.size := (Array.getElem?_eq_some_iff.1 hr).1
  have hnotDp : ∀ y ∈ T, ¬ Dp y.j r.o := fun y hy q => I.notM hy (hrdy _ q)
  have hTap : ∀ y ∈ T, Ap ops y.o r.o := fun y hy => (I.tF y hy r.i r.o hr hrd.1).elim (fun q => absurd q (hnotDp y hy)) id
  have hheldap : ∀ j o, ops[j]? = some o → H j → ¬ L j → j ≠ r.i → Ap ops o r.o := fun j o ho hH hL hne =>
    ((I.hF j o ho hH hL).2.1 r.i r.o hr hrd.1 (Ne.symm hne)).elim (fun q => absurd (hrd.2 j q) hL) id
  have fin : ∀ (s1 : S) (v : V) (x : Value) (w' : World) (β' : Bt), s1.fr = s.fr → s1.df = s.df → Le β β' → Is σ β' v x → HR σ K β' Fl s1.h s1.nx w' →
      (∀ j t av u u', (j, t, av, u) ∈ hl → has (depOf r.o) j = false → loadV E s.h t av = some u' → (u' = u ∨ eqHV u u' = true) → ∃ u'', loadV E s1.h t av = some u'' ∧ (u'' = u ∨ eqHV u u'' = true)) →
      Pl E σ Fs ops sf p (fun j => L j ∨ j = r.i) H (hl.filter fun x => not (has (depOf r.o) x.1)) (s1.put r.o.dst v) → Kc (a.put r.o.dst x) w' := by
    intro s1 v x w' β' h1 h2 le hx H' hload hpl
    have haft : aft (a.put r.o.dst x) T = (aft a T).put r.o.dst x := aft_put (fun y hy d hd e => (hTap y hy).2.1 d e hd)
    refine hK _ _ _ _ _ le ⟨hpl, ?_, ?_, ?_, I.tN, ?_, ?_, ?_, ?_, ?_, I.aB, I.f, ?_⟩
    · rintro j (h | rfl)
      · exact I.lS j h
      · exact hlt
    · intro j hj
      rw [I.m j hj]
      constructor
      · rintro ((⟨h1, h2⟩ | h) | h)
        · exact .inl ⟨.inl h1, h2⟩
        · exact .inr h
        · exact .inl ⟨.inr h, fun z hz e2 => hrd.1 (by rw [← h, ← e2]; exact (I.tI z hz).1)⟩
      · rintro (⟨h1 | h1, h2⟩ | h)
        · exact .inl (.inl ⟨h1, h2⟩)
        · exact .inr h1
        · exact .inl (.inr h)
    · exact fun y hy => let ⟨c1, c2, c3⟩ := I.tI y hy; ⟨.inl c1, c2, fun k hk => .inl (c3 k hk)⟩
    · exact fun y hy j o ho hL => I.tF y hy j o ho (fun q => hL (.inl q))
    · have hsh : (s1.put r.o.dst v).h = s1.h := by cases r.o.dst <;> rfl
      rw [hsh]
      refine TOk.put (fun y hy => ⟨(hTap y hy).2.2, fun d hd e => (hTap y hy).2.1 d e hd⟩) (TOk.mono le (fun y hy t' av u u' h1 h2 h3 => ?_) I.tO)
      have hd : has (depOf r.o) y.j = false := by
        cases e : has (depOf r.o) y.j with
        | false => rfl
        | true => exact absurd ((dep_has _ _).1 e) (hnotDp y hy)
      exact ⟨filt h1 hd, hload _ _ _ _ _ h1 hd h2 h3⟩
    · intro j o ho hH hL
      have hL1 : ¬ L j := fun q => hL (.inl q)
      have hne : j ≠ r.i := fun q => hL (.inr q)
      obtain ⟨c1, c2, c3, c4, c5, val, ob, c6⟩ := I.hF j o ho hH hL1
      have hap := hheldap j o ho hH hL1 hne
      refine ⟨c1, fun j' o' ho' hL' hj' => c2 j' o' ho' (fun q => hL' (.inl q)) hj', fun k hk => .inl (c3 k hk), c4, fun d hd => ?_, val, ob, fun w => ?_⟩
      · cases hrdst : r.o.dst with
        | none => show s1.fr.get d = none; rw [h1]; exact c5 d hd
        | some e =>
          show (s1.fr.set e v).get d = none
          rw [Tr.get_set_ne (fun e2 => hap.2.1 d hd (by rw [hrdst, e2])), h1]
          exact c5 d hd
      · rw [haft, execOp_put (ops := ops) o (isA_nosel c1).1 (aft a T) r.o.dst x hap.2.2]
        exact c6 w
    · intro y hy
      obtain ⟨c1, c2, c3, c4⟩ := I.aI y hy
      exact ⟨fun q => q.elim c1 (hnA y hy), c2, c3, fun k hk => .inl (c4 k hk)⟩
    · intro y hy
      obtain ⟨c1, c2, c3, c4⟩ := I.aI y hy
      obtain ⟨g1, val, g2, g3⟩ := I.aV y hy
      have hap := hheldap y.j y.o c3 c2 c1 (hnA y hy)
      refine ⟨fun d hd hlt => ?_, val, g2, fun w => ?_⟩
      · rw [put_size] at hlt
        rw [put_get (fun e => hap.2.1 d hd e)]
        exact g1 d hd hlt
      · rw [haft, execOp_put (ops := ops) y.o (isA_nosel (I.hF y.j y.o c3 c2 c1).1).1 (aft a T) r.o.dst x hap.2.2]
        exact g3 w
    · rw [haft]
      exact I.r.put h1 h2 le hx H' r.o.dst
  have hwant : Region.wanted r.o (yielded ops a.tmps) = Region.wanted r.o (yielded ops (aft a T).tmps) := (aft_wanted (fun y hy => (hTap y hy).1)).symm
  unfold wpOpIn
  rw [hr]
  dsimp only
  rcases hh with ⟨hw, s1, v, ⟨⟨k1, k2, k3⟩, hsel, _⟩, hheld, hpl⟩ | ⟨hw, hpl⟩
  · rw [if_pos (by rw [hwant, wants_ok I.r.fr hw])]
    refine k3 Fn fs K β Fl (aft a T) w (G.mono I.f) I.r a (aft_exec hsel (fun y hy => (hTap y hy).1)).symm _ _ fun x w' β' le hx H' => fin s1 v x w' β' k1 k2 le hx H' (fun j t av u u' h1 h2 _ _ => held_at hheld (filt h1 h2)) hpl
  · rw [if_neg (by rw [hwant, wants_ok I.r.fr hw]; simp)]
    exact ⟨fun f _ => hWd.fn f, fin s (.tu []) undef w β rfl rfl (Le.refl β) undef_is I.r.mem (fun j t av u u' _ _ h3 h4 => ⟨u', h3, h4⟩) hpl⟩
/-- a new block comes up early -/
theorem Inv.float (hWd : Wd Fn) (I : Inv E σ Fs ops sf K F p L H hl s T A Fl β M a w) {i : Nat} {o : Oper} (hi : ops[i]? = some o) (hH : H i) (hL : ¬ L i) (hnA : ∀ x ∈ A, x.j ≠ i) (hrdy : ∀ k, Dp k o → M k) {Kc : Act → World → Prop} {Q : Exit → Act → World → Prop}
    (hK : ∀ a' w' A' Fl', Inv E σ Fs ops sf K F p L H hl s T A' Fl' β (fun j => M j ∨ j = i) a' w' → Kc a' w') : wpOpIn Fn 0 E.P ops Q i Kc a w := by
  obtain ⟨hA, hfree, hdeps, hself, hdst, val, ob, hrun⟩ := I.hF i o hi hH hL
  have hTap : ∀ y ∈ T, Ap ops y.o o := fun y hy => (I.tF y hy i o hi hL).elim (fun q => absurd (hrdy _ q) (I.notM hy)) id
  have hheldap : ∀ j o', ops[j]? = some o' → H j → ¬ L j → j ≠ i → Ap ops o' o := fun j o' ho hH' hL' hne =>
    ((I.hF j o' ho hH' hL').2.1 i o hi hL (Ne.symm hne)).elim (fun q => absurd (hdeps j q) hL') id
  have hlook : ∀ j o', ops[j]? = some o' → H j → ¬ L j → ∀ d, o.dst = some d → d ∉ o'.looksAt ops := fun j o' ho hH' hL' => by
    by_cases e : j = i
    · subst e
      rw [hi] at ho
      rw [← Option.some.inj ho]
      exact hself
    · exact (hheldap j o' ho hH' hL' e).2.2
  obtain ⟨v, hv⟩ : ∃ v, v = val w.heap.size := ⟨_, rfl⟩
  have haft : aft (a.put o.dst v) T = (aft a T).put o.dst v := aft_put (fun y hy d hd e => (hTap y hy).2.1 d e hd)
  obtain ⟨Fl', hFl'⟩ : ∃ Fl' : Hp, Fl' = fun b => if b = w.heap.size then some ob else Fl b := ⟨_, rfl⟩
  have hFlt : ∀ b q, Fl b = some q → b < w.heap.size := fun b q e => heap_lt (I.r.mem.keep _ _ e)
  have hmem : HR σ K β Fl' s.h s.nx (w.alloc ob) := by
    refine ⟨fun q y hq => ?_, I.r.mem.inj, fun b q e => ?_, I.r.mem.new, I.r.mem.os, I.r.mem.tape, I.r.mem.out, Nat.le_trans I.r.mem.size (same_alloc w ob).size⟩
    · obtain ⟨l, q', h1, h2, h3, h4⟩ := I.r.mem.own q y hq
      have hlt := heap_lt h2
      refine ⟨l, q', h1, by rw [Below.heap_alloc w ob l.b hlt]; exact h2, h3, ?_⟩
      rw [hFl']
      dsimp only
      rw [if_neg (by omega)]
      exact h4
    · rw [hFl'] at e
      dsimp only at e
      split at e
      · rename_i hb
        cases e
        rw [hb]
        exact heap_alloc_new w _
      · rw [Below.heap_alloc w ob b (hFlt b q e)]
        exact I.r.mem.keep _ _ e
  have hR : R σ K β Fl' s ((aft a T).put o.dst v) (w.alloc ob) := by
    refine ⟨⟨fun d u hd => ?_, fun d hd => ?_⟩, hmem, ?_⟩
    · obtain ⟨x, h1, h2⟩ := I.r.fr.is d u hd
      refine ⟨x, ?_, h2⟩
      rw [put_get (fun e => by rw [hdst d e] at hd; cases hd)]
      exact h1
    · rw [put_size]; exact I.r.fr.lt d hd
    · obtain ⟨ms, d1, d2⟩ := I.r.df
      refine ⟨ms, d1, ?_⟩
      rw [← d2]
      cases o.dst <;> rfl
  have new : Inv E σ Fs ops sf K F p L H hl s T (⟨i, o, w.heap.size, ob, v⟩ :: A) Fl' β (fun j => M j ∨ j = i) (a.put o.dst v) (w.alloc ob) := by
    refine ⟨I.pl, I.lS, ?_, I.tI, I.tN, I.tF, TOk.put (fun y hy => ⟨(hTap y hy).2.2, fun d hd e => (hTap y hy).2.1 d e hd⟩) I.tO, ?_, ?_, ?_, ?_, ?_, by rw [haft]; exact hR⟩
    · intro j hj
      rw [I.m j hj]
      constructor
      · rintro ((h | ⟨y, hy, e⟩) | h)
        · exact .inl h
        · exact .inr ⟨y, List.mem_cons_of_mem _ hy, e⟩
        · exact .inr ⟨_, List.mem_cons_self, h.symm⟩
      · rintro (h | ⟨y, hy, e⟩)
        · exact .inl (.inl h)
        · rcases List.mem_cons.1 hy with rfl | hy
          · exact .inr e.symm
          · exact .inl (.inr ⟨y, hy, e⟩)
    · intro j o' ho hH' hL'
      obtain ⟨c1, c2, c3, c4, c5, val', ob', c6⟩ := I.hF j o' ho hH' hL'
      refine ⟨c1, c2, c3, c4, c5, val', ob', fun w => ?_⟩
      rw [haft, execOp_put (ops := ops) o' (isA_nosel c1).1 (aft a T) o.dst v (hlook j o' ho hH' hL')]
      exact c6 w
    · intro y hy
      rcases List.mem_cons.1 hy with rfl | hy
      · exact ⟨hL, hH, hi, fun k hk => .inl (hrdy k hk)⟩
      · obtain ⟨c1, c2, c3, c4⟩ := I.aI y hy
        exact ⟨c1, c2, c3, fun k hk => .inl (c4 k hk)⟩
    · intro y hy
      rcases List.mem_cons.1 hy with rfl | hy
      · refine ⟨fun d hd hlt => ?_, val, hv, fun w => ?_⟩
        · rw [put_size] at hlt
          have hd : o.dst = some d := hd
          show (a.put o.dst v).tmps[d]? = some v
          rw [hd]
          simp [Act.put, hlt]
        · show (execOp (aft (a.put o.dst v) T).eval o).run E.P w = _
          rw [haft, execOp_put (ops := ops) o (isA_nosel hA).1 (aft a T) o.dst v hself]
          exact hrun w
      · obtain ⟨c1, c2, c3, c4⟩ := I.aI y hy
        obtain ⟨g1, val', g2, g3⟩ := I.aV y hy
        have hap := hheldap y.j y.o c3 c2 c1 (hnA y hy)
        refine ⟨fun d hd hlt => ?_, val', g2, fun w => ?_⟩
        · rw [put_size] at hlt
          rw [put_get (fun e => hap.2.1 d hd e)]
          exact g1 d hd hlt
        · rw [haft, execOp_put (ops := ops) y.o (isA_nosel (I.hF y.j y.o c3 c2 c1).1).1 (aft a T) o.dst v hap.2.2]
          exact g3 w
    · intro y hy
      rcases List.mem_cons.1 hy with rfl | hy
      · refine ⟨by rw [hFl']; simp, ?_, fun z hz e => ?_⟩
        · cases e : F w.heap.size with
          | none => rfl
          | some q => have := hFlt _ _ (I.f _ _ e); omega
        · rcases List.mem_cons.1 hz with rfl | hz
          · rfl
          · have := hFlt _ _ (I.aB z hz).1
            have e : z.b = w.heap.size := e
            omega
      · obtain ⟨c1, c2, c3⟩ := I.aB y hy
        have hlt := hFlt _ _ c1
        refine ⟨by rw [hFl']; dsimp only; rw [if_neg (by omega)]; exact c1, c2, fun z hz e => ?_⟩
        rcases List.mem_cons.1 hz with rfl | hz
        · have e : w.heap.size = y.b := e
          omega
        · exact c3 z hz e
    · intro b q e
      rw [hFl']
      dsimp only
      have := hFlt _ _ (I.f _ _ e)
      rw [if_neg (by omega)]
      exact I.f b q e
  unfold wpOpIn
  rw [hi]
  dsimp only
  rw [if_pos (by unfold Region.wanted; rw [(isA_cases hA).1])]
  refine ⟨fun f _ => hWd.fn f, ?_⟩
  have hrun' : (execOp a.eval o).run E.P w = .ok (.value v) (w.alloc ob) := by
    rw [← aft_exec (ops := ops) (isA_nosel hA).1 (T := T) (a := a) (fun y hy => (hTap y hy).1), hv]
    exact hrun w
  rw [sem_at hWd (isA_nosel hA).2, hrun']
  exact hK _ _ _ _ new
end
end Go.Ex
namespace Go.Ex
open Go.RowKit
section
variable {E : Env} {σ : Nat → Value} {Fs : Fence → Prop} {ops : Array Oper} {sf : S} {K : World} {F : Hp} {Fn : Fence}
theorem step_ok (ok : OrcOk E σ) (hWd : Wd Fn) (fs : Fs Fn) (G : GlobOk E σ F) {M : Nat → Prop} {a : Act} {w : World} {i : Nat} {oi : Oper} (hi : ops[i]? = some oi) (hMS : ∀ k, M k → k < ops.size) (hM : ¬ M i) (hrdy : ∀ k, Dp k oi → M k) {Kc : Act → World → Prop} {Q : Exit → Act → World → Prop} {β0 : Bt}
    (hK : ∀ p L H hl s T A Fl β a' w', Le β0 β → Inv E σ Fs ops sf K F p L H hl s T A Fl β (fun j => M j ∨ j = i) a' w' → Kc a' w') :
    ∀ (p : List (Ro × Tag)) (L H : Nat → Prop) (hl : Hl) (s : S) (T : List Tk1) (A : List Fo) (Fl : Hp) (β : Bt), Le β0 β → Inv E σ Fs ops sf K F p L H hl s T A Fl β M a w → wpOpIn Fn 0 E.P ops Q i Kc a w := by
  intro p
  induction p with
  | nil =>
    intro L H hl s T A Fl β le I
    have hlt := (Array.getElem?_eq_some_iff.1 hi).1
    by_cases hT : ∃ x ∈ T, x.j = i
    · obtain ⟨x, hx, rfl⟩ := hT
      have hxo := (I.tI x hx).2.1
      rw [hi] at hxo
      have e := Option.some.inj hxo
      subst e
      exact I.come hWd G hx hrdy fun a' w' T' I' => hK _ _ _ _ _ _ _ _ _ a' w' le I'
    · exact absurd ((I.m i hlt).2 (.inl ⟨I.pl.1 i hlt, fun x hx e => hT ⟨x, hx, e⟩⟩)) hM
  | cons q p ih =>
    intro L H hl s T A Fl β le I
    obtain ⟨r, t⟩ := q
    have hlt := (Array.getElem?_eq_some_iff.1 hi).1
    by_cases hT : ∃ x ∈ T, x.j = i
    · obtain ⟨x, hx, rfl⟩ := hT
      have hxo := (I.tI x hx).2.1
      rw [hi] at hxo
      have e := Option.some.inj hxo
      subst e
      exact I.come hWd G hx hrdy fun a' w' T' I' => hK _ _ _ _ _ _ _ _ _ a' w' le I'
    · have hL : ¬ L i := fun h => hM ((I.m i hlt).2 (.inl ⟨h, fun x hx e => hT ⟨x, hx, e⟩⟩))
      have hA : ∀ x ∈ A, x.j ≠ i := fun x hx e => hM ((I.m i hlt).2 (.inr ⟨x, hx, e⟩))
      cases t with
      | take =>
        obtain ⟨hl', s', T', I'⟩ := I.take ok G
        exact ih _ _ _ _ _ _ _ _ le I'
      | hold => exact ih _ _ _ _ _ _ _ _ le I.hold
      | act =>
        by_cases hra : ∃ x ∈ A, x.j = r.i
        · obtain ⟨x, hx, hxj⟩ := hra
          obtain ⟨hl', s', A', Fl', β', le', I'⟩ := I.adopt hx hxj
          exact ih _ _ _ _ _ _ _ _ (le.trans le') I'
        · have hnA : ∀ x ∈ A, x.j ≠ r.i := fun x hx e => hra ⟨x, hx, e⟩
          by_cases hri : i = r.i
          · subst hri
            have hro := I.pl.1
            rw [hi] at hro
            have e := Option.some.inj hro
            subst e
            exact I.act1 hWd fs G hnA hrdy fun a' w' hl' s' β' le' I' => hK _ _ _ _ _ _ _ _ _ a' w' (le.trans le') I'
          · rcases I.pl.2.2.1 i oi hi hL hri with ⟨_, hH⟩ | hno
            · exact I.float hWd hi hH hL hA hrdy fun a' w' A' Fl' I' => hK _ _ _ _ _ _ _ _ _ a' w' le I'
            · refine absurd (fun k hk => ?_) hno
              have hMk := hrdy k hk
              by_cases hkA : ∃ x ∈ A, x.j = k
              · obtain ⟨x, hx, rfl⟩ := hkA
                obtain ⟨c1, c2, c3, _⟩ := I.aI x hx
                exact .inr ⟨hnA x hx, x.o, c3, (I.hF x.j x.o c3 c2 c1).1⟩
              · left
                by_cases hks : k < ops.size
                · rcases (I.m k hks).1 hMk with ⟨h, _⟩ | h
                  · exact h
                  · exact absurd h hkA
                · exact absurd (hMS k hMk) hks
/-- none comes up any more -/
theorem fin_ok (ok : OrcOk E σ) (G : GlobOk E σ F) {M : Nat → Prop} {a : Act} {w : World} (hno : ∀ i oi, ops[i]? = some oi → ¬ M i → ¬ ∀ k, Dp k oi → M k) {β0 : Bt} :
    ∀ (p : List (Ro × Tag)) (L H : Nat → Prop) (hl : Hl) (s : S) (T : List Tk1) (A : List Fo) (Fl : Hp) (β : Bt), Le β0 β → Inv E σ Fs ops sf K F p L H hl s T A Fl β M a w → ∃ β', Le β0 β' ∧ R σ K β' F sf a w := by
  have noT : ∀ {p : List (Ro × Tag)} {L H : Nat → Prop} {hl : Hl} {s : S} {T : List Tk1} {A : List Fo} {Fl : Hp} {β : Bt}, Inv E σ Fs ops sf K F p L H hl s T A Fl β M a w → T = [] := by
    intro p L H hl s T A Fl β I
    cases T with
    | nil => rfl
    | cons x T =>
      exfalso
      obtain ⟨q1, q2, q3⟩ := I.tI x List.mem_cons_self
      refine hno x.j x.o q2 (I.notM List.mem_cons_self) fun k hk => ?_
      have hks := I.lS k (q3 k hk)
      refine (I.m k hks).2 (.inl ⟨q3 k hk, fun y hy e => ?_⟩)
      obtain ⟨_, h2, h3, _⟩ := I.tO
      rcases List.mem_cons.1 hy with rfl | hy
      · exact h2 (e ▸ hk)
      · exact (h3 y hy).2 (e ▸ hk)
  intro p
  induction p with
  | nil =>
    intro L H hl s T A Fl β le I
    have hT := noT I
    subst hT
    have hs := I.pl.2
    subst hs
    exact ⟨β, le, I.r.fr, I.r.mem.weaken I.f, I.r.df⟩
  | cons q p ih =>
    intro L H hl s T A Fl β le I
    obtain ⟨r, t⟩ := q
    cases t with
    | take =>
      obtain ⟨hl', s', T', I'⟩ := I.take ok G
      exact ih _ _ _ _ _ _ _ _ le I'
    | hold => exact ih _ _ _ _ _ _ _ _ le I.hold
    | act =>
      by_cases hra : ∃ x ∈ A, x.j = r.i
      · obtain ⟨x, hx, hxj⟩ := hra
        obtain ⟨hl', s', A', Fl', β', le', I'⟩ := I.adopt hx hxj
        exact ih _ _ _ _ _ _ _ _ (le.trans le') I'
      · exfalso
        have hT := noT I
        subst hT
        obtain ⟨hr, hrd, _⟩ := I.pl
        have hlt := (Array.getElem?_eq_some_iff.1 hr).1
        refine hno r.i r.o hr (fun hM => ?_) fun k hk => (I.m k (I.lS k (hrd.2 k hk))).2 (.inl ⟨hrd.2 k hk, fun x hx => by simp at hx⟩)
        rcases (I.m r.i hlt).1 hM with ⟨h, _⟩ | h
        · exact hrd.1 h
        · exact hra h
theorem count_set : ∀ (l : List Bool) (i : Nat), l[i]? = some false → (l.set i true).countP (fun b => !b) + 1 = l.countP (fun b => !b) := by
  intro l
  induction l with
  | nil => intro i h; simp at h
  | cons b l ih =>
    intro i h
    cases i with
    | zero => simp at h; subst h; simp
    | succ i =>
      have := ih i (by simpa using h)
      simp only [List.set_cons_succ, List.countP_cons]
      omega
theorem all_of_count {l : List Bool} (h : l.countP (fun b => !b) = 0) {i : Nat} (hi : i < l.length) : l[i]? = some true := by
  have := List.countP_eq_zero.1 h l[i] (List.getElem_mem hi)
  rw [List.getElem?_eq_getElem hi]
  simpa using this
theorem ready_iff {listed : Array Bool} (hs : listed.size = ops.size) {i : Nat} : i ∈ Region.ready .any ops listed ↔ ∃ o, ops[i]? = some o ∧ ¬ listed.getD i false = true ∧ ∀ k, Dp k o → listed.getD k false = true := by
  rw [mem_ready]
  constructor
  · rintro ⟨h1, o, ho, h2⟩
    have hlt : i < listed.size := by rw [hs]; exact (Array.getElem?_eq_some_iff.1 ho).1
    refine ⟨o, ho, ?_, fun k ⟨e, he, hb, hk⟩ => hk ▸ h2 e (by simpa using he) hb⟩
    simp [Array.getD, hlt] at h1 ⊢
    exact h1
  · rintro ⟨o, ho, h1, h2⟩
    have hlt : i < listed.size := by rw [hs]; exact (Array.getElem?_eq_some_iff.1 ho).1
    refine ⟨?_, o, ho, fun e he hb => h2 e.on ⟨e, by simpa using he, hb, rfl⟩⟩
    simp [Array.getD, hlt] at h1 ⊢
    exact h1
theorem any_ok (ok : OrcOk E σ) (hWd : Wd Fn) (fs : Fs Fn) (G : GlobOk E σ F) {β0 : Bt} {Q : Exit → Act → World → Prop} (hQ : ∀ a' w' β', Le β0 β' → R σ K β' F sf a' w' → Q .normal a' w') :
    ∀ (fuel : Nat) (listed : Array Bool) (a : Act) (w : World) (p : List (Ro × Tag)) (L H : Nat → Prop) (hl : Hl) (s : S) (T : List Tk1) (A : List Fo) (Fl : Hp) (β : Bt), listed.size = ops.size → listed.toList.countP (fun b => !b) ≤ fuel → Le β0 β →
    Inv E σ Fs ops sf K F p L H hl s T A Fl β (fun j => listed.getD j false = true) a w → wpAnyIn Fn 0 E.P .any ops Q fuel listed a w := by
  have last : ∀ (listed : Array Bool) (a : Act) (w : World) (p : List (Ro × Tag)) (L H : Nat → Prop) (hl : Hl) (s : S) (T : List Tk1) (A : List Fo) (Fl : Hp) (β : Bt), listed.size = ops.size → Le β0 β →
      Inv E σ Fs ops sf K F p L H hl s T A Fl β (fun j => listed.getD j false = true) a w → Region.ready .any ops listed = [] → Q .normal a w := by
    intro listed a w p L H hl s T A Fl β hs le I hr
    obtain ⟨β', le', hR⟩ := fin_ok ok G (fun i oi hi hM hk => by
      have : i ∈ Region.ready .any ops listed := (ready_iff hs).2 ⟨oi, hi, hM, hk⟩
      rw [hr] at this
      simp at this) p L H hl s T A Fl β le I
    exact hQ a w β' le' hR
  intro fuel
  induction fuel with
  | zero =>
    intro listed a w p L H hl s T A Fl β hs hc le I
    have hnil : Region.ready .any ops listed = [] := by
      cases e : Region.ready .any ops listed with
      | nil => rfl
      | cons i l =>
        exfalso
        obtain ⟨o, ho, hM, _⟩ := (ready_iff hs).1 (show i ∈ Region.ready .any ops listed by rw [e]; exact List.mem_cons_self)
        have hlt : i < listed.size := by rw [hs]; exact (Array.getElem?_eq_some_iff.1 ho).1
        have := all_of_count (Nat.le_zero.1 hc) (i := i) (by simpa using hlt)
        refine hM ?_
        simp [Array.getD, hlt]
        simpa [hlt] using this
    exact ⟨hnil, last listed a w p L H hl s T A Fl β hs le I hnil⟩
  | succ fuel ih =>
    intro listed a w p L H hl s T A Fl β hs hc le I
    refine ⟨fun hnil => last listed a w p L H hl s T A Fl β hs le I hnil, fun i hi => ?_⟩
    obtain ⟨o, ho, hM, hk⟩ := (ready_iff hs).1 hi
    have hlt : i < listed.size := by rw [hs]; exact (Array.getElem?_eq_some_iff.1 ho).1
    refine step_ok ok hWd fs G ho (fun k hk => ?_) hM hk (fun p' L' H' hl' s' T' A' Fl' β' a' w' le' I' => ?_) p L H hl s T A Fl β le I
    · rw [← hs]
      rcases Nat.lt_or_ge k listed.size with h | h
      · exact h
      · simp [Array.getD, Nat.not_lt.2 h] at hk
    · refine ih (listed.setIfInBounds i true) a' w' p' L' H' hl' s' T' A' Fl' β' (by simpa using hs) ?_ le' ?_
      · have hf : listed.toList[i]? = some false := by
          simp [Array.getD, hlt] at hM
          simp [hlt, hM]
        have := count_set listed.toList i hf
        simp only [Array.toList_setIfInBounds]
        omega
      · have e : (fun j => (listed.setIfInBounds i true).getD j false = true) = fun j => listed.getD j false = true ∨ j = i := by
          funext j
          apply propext
          simp only [Array.getD_eq_getD_getElem?]
          by_cases hj : i = j
          · subst hj; simp [hlt]
          · rw [Array.getElem?_setIfInBounds_ne hj]
            exact ⟨.inl, fun h => h.elim id fun e => absurd e.symm hj⟩
        rw [e]
        exact I'
theorem FrR.del {β : Bt} {fr : Tr V} {ts : Array Value} (f : FrR σ β fr ts) (d : Nat) : FrR σ β (fr.del d) ts := by
  refine ⟨fun t v h => ?_, fun t h => f.lt t (Tr.there_del.1 h)⟩
  by_cases e : d = t
  · subst e; rw [Tr.get_del] at h; cases h
  · rw [Tr.get_del_ne e] at h; exact f.is t v h
theorem clr_ok {β : Bt} {ts : Array Value} : ∀ (rs : List Ro) {fr : Tr V}, FrR σ β fr ts → FrR σ β (clrE rs fr) ts := by
  intro rs
  induction rs with
  | nil => exact fun f => f
  | cons r rs ih =>
    intro fr f
    refine ih ?_
    dsimp only
    split
    · split
      · exact f.del _
      · exact f
    · exact f
theorem draw_ok (ok : OrcOk E σ) (hF : ∀ Fn, Fs Fn → Wd Fn) {call : Cal} (hc : CalOk E σ call) (hm : E.P.follows .mixedOrders = true) : DrawOk E σ Fs call := by
  intro id ops s K z u h
  obtain ⟨hp, h⟩ := obool h
  obtain ⟨sf, q1, q2⟩ := pl_of ok hF hc (plan E ops) 0 0 [] (clr E ops s) hp (fun x hx => plan_mem _ _ _ _ x hx) h
  refine ⟨sf, fun Fn fs Kw β F a w G hR Q hQ => ?_, q2⟩
  refine wpIn_region_any hm ?_
  have hR1 : R σ Kw β F (clr E ops s) a { w with drawn := w.drawn + 1 } := by
    unfold clr
    split
    · exact ⟨clr_ok _ hR.fr, hR.mem.drew _, hR.df⟩
    · exact ⟨hR.fr, hR.mem.drew _, hR.df⟩
  have hget : ∀ j, ¬ (Array.replicate ops.size false).getD j false = true := fun j h => by
    rw [Array.getD_eq_getD_getElem?, Array.getElem?_replicate] at h
    split at h <;> simp at h
  have hz : ∀ j, ¬ has 0 j = true := fun j h => by rw [has_zero] at h; cases h
  refine any_ok (sf := sf) ok (hF Fn fs) fs G (β0 := β) hQ ops.size _ a _ (plan E ops) (fun j => has 0 j = true) (fun j => has 0 j = true) [] (clr E ops s) [] [] F β (by simp) (by
    have := List.countP_le_length (p := fun b : Bool => !b) (l := (Array.replicate ops.size false).toList)
    simpa using this) (Le.refl β) ⟨q1, fun k hk => absurd hk (hz k), fun j _ => ?_, fun x hx => by simp at hx, by simp, fun x hx => by simp at hx, trivial, fun j o _ hH _ => absurd hH (hz j), fun x hx => by simp at hx, fun x hx => by simp at hx, fun x hx => by simp at hx, fun b o e => e, hR1⟩
  exact ⟨fun h => absurd h (hget j), fun h => h.elim (fun q => absurd q.1 (hz j)) (fun ⟨x, hx, _⟩ => by simp at hx)⟩
theorem callN_ok (pk : ProgOk E σ) (hm : E.P.follows .mixedOrders = true) : ∀ n, CalOk E σ (callN E n) := by
  intro n
  induction n with
  | zero => intro g args s K z u h; cases h
  | succ n ih => exact callF_ok pk ih (draw_ok pk.orc (fun _ h => h) ih hm) (draw_ok pk.orc (fun _ h => .inl h) ih hm)
end
end Go.Ex
namespace Go.Ex
open Go.RowKit
section
variable {E : Env} {σ : Nat → Value}
/-- all that is there -/
def World.all (w : World) : Hp := fun b => w.heap[b]?
theorem start_mem (w : World) : HR σ w (fun _ => none) (World.all w) (.full 8192 13 0 1) 0 w := by
  have no : ∀ (r : Nat) (x : Rs), (Tr.full 8192 13 0 1).get r = some x → False := fun r x h => by
    have := Tr.full_get (α := Rs) (n := 8192) 13 0 1 r r
    rw [show (Tr.full 8192 13 0 1).get r = Tr.getN (Tr.full 8192 13 0 1) r r from rfl, this] at h
    cases h
  exact ⟨fun r x h => (no r x h).elim, fun r s x y l m h => (no r x h).elim, fun _ _ h => h, fun _ _ => rfl, rfl, rfl, rfl, Nat.le_refl _⟩
/-- what is behind a closed run: all that was there, and more -/
structure More (w w' : World) : Prop where
  old : ∀ (b : Nat) o, w.heap[b]? = some o → w'.heap[b]? = some o
  os : w'.os = w.os
  tape : w'.tape = w.tape
  out : w'.output = w.output
  size : w.heap.size ≤ w'.heap.size
theorem start_ok (pk : ProgOk E σ) (hm : E.P.follows .mixedOrders = true) {n : Nat} {g : FuncId} {args : List V} {sf : S} {v : V} (h : start E n g args = .ok sf v) {w : World} (G : GlobOk E σ (World.all w)) {xs : List Value} (hx : IsL σ (fun _ => none) args xs) :
    CallAt E.P g xs.toArray w fun e w' => ∃ x β, e = .returned x ∧ Is σ β v x ∧ More w w' := by
  obtain ⟨s', v', ⟨_, _, h3⟩, h4⟩ := callN_ok pk hm n g args _ _ sf v h
  cases h4
  have := h3 w (fun _ => none) (World.all w) w xs G (start_mem w) hx
  have key : ∀ e w', Comes1 E σ w (fun _ => none) (World.all w) sf v e w' → ∃ x β, e = .returned x ∧ Is σ β v x ∧ More w w' := by
    rintro e w' ⟨x, β', rfl, _, hv, H⟩
    exact ⟨x, β', rfl, hv, ⟨H.keep, H.os, H.tape, H.out, H.size⟩⟩
  rcases this with ⟨a, b⟩ | ⟨x, w', a, b⟩
  · exact .inl ⟨a, Calls.mono b key⟩
  · exact .inr ⟨x, w', a, key _ _ b⟩
/-- a value without blocks -/
def plainV (v : V) : Bool := match v with | .bl _ => true | .int _ _ => true | _ => false
theorem plainV_is {v : V} (h : plainV v = true) {β β' : Bt} {x : Value} (hx : Is σ β v x) : Is σ β' v x := by
  cases v <;> first | exact hx | cases h
/-- such a call is answered at once, wherever it stands -/
theorem prim_ok {E' : Env} (hP : E'.P = E.P) (hg : E'.glob = E.glob) {τ : Nat → Value} (hgl : ∀ g xs, (∀ β : Bt, IsL σ β (E.glob g) xs) → ∀ β : Bt, IsL τ β (E.glob g) xs) (pk : ProgOk E' τ) (hm : E'.P.follows .mixedOrders = true) {n : Nat} {g : FuncId} {args args' : List V} {sf : S} {v : V} (h : start E' n g args' = .ok sf v) (hv : plainV v = true)
    (hargs : ∀ (β : Bt) xs, IsL σ β args xs → IsL τ (fun _ => none) args' xs) (s : S) : CallSem E σ g args s s v := by
  refine ⟨rfl, rfl, fun K β F w xs G H hxs => ?_⟩
  have G' : GlobOk E' τ (World.all w) := ⟨fun g hne => by
    rw [hg] at hne ⊢
    obtain ⟨xs, t, z, q1, q2, q3⟩ := G.lies g hne
    exact ⟨xs, t, z, H.keep _ _ q1, hgl g xs q2, q3⟩⟩
  have := start_ok pk hm h G' (hargs β xs hxs)
  have key : ∀ e w', (∃ x β, e = .returned x ∧ Is τ β v x ∧ More w w') → Comes1 E σ K β F s v e w' := by
    rintro e w' ⟨x, β', rfl, hx, M⟩
    refine ⟨x, β, rfl, Le.refl β, ?_, ?_⟩
    · cases v <;> first | exact hx | cases hv
    · exact ⟨fun r y hy => let ⟨l, o, h1, h2, h3, h4⟩ := H.own r y hy; ⟨l, o, h1, M.old _ _ h2, h3, h4⟩, H.inj, fun b o q => M.old b o (H.keep b o q), H.new, M.os.trans H.os, M.tape.trans H.tape, M.out.trans H.out, Nat.le_trans H.size M.size⟩
  rw [hP] at this
  rcases this with ⟨a, b⟩ | ⟨x, w', a, b⟩
  · exact .inl ⟨a, Calls.mono b key⟩
  · exact .inr ⟨x, w', a, key _ _ b⟩
end
end Go.Ex
noncomputable section
namespace Go.Proofs.YtaiialpdlobioaaGreatDoor
open Go.Ex
def kindsZ : List Int := [0, 35, 119, 3, 123, 51, 19, 128, 257, 3, 3]
def powZ : List Int := [1, 10, 100, 1000, 10000, 100000, 1000000, 10000000, 100000000, 1000000000, 10000000000, 100000000000, 1000000000000, 10000000000000, 100000000000000, 1000000000000000, 10000000000000000, 100000000000000000, 1000000000000000000, 10000000000000000000]
def globQ (g : Nat) : List V := Bool.rec (Bool.rec [] (powZ.map (V.int .u64)) (Nat.beq g 2)) (kindsZ.map (V.int .i64)) (Nat.beq g 0)
/-- where a byte is first; how often it is there -/
def ixB (c : Nat) : List Nat → Nat → Int := List.rec (fun _ => .negSucc 0) (fun x _ ih i => Bool.rec (ih (Nat.succ i)) (.ofNat i) (Nat.beq x c))
def cnB (c : Nat) : List Nat → Nat := List.rec 0 (fun x _ ih => Bool.rec ih (Nat.succ ih) (Nat.beq x c))
def primQ (g : FuncId) (l : List V) : Option V := match l with
  | [.st s, .int .u8 (.ofNat c)] => Bool.rec none (Bool.rec (Bool.rec none (some (.int .i64 (.ofNat (cnB c s)))) (Nat.beq g 231)) (some (.int .i64 (ixB c s 0))) (Nat.beq g 314)) (Nat.ble c 255)
  | _ => none
def eqP (op : BinOp) : Option V := match op with
  | .eql => some (.bl true)
  | .neq => some (.bl false)
  | _ => none
def orcQ (op : BinOp) (t : TypeId) (x y : V) : Option V := match x with
  | .pt r o => match y with
    | .pt r' o' => Bool.rec none (Bool.rec none (eqP op) (and (Nat.beq r r') (Nat.beq o o'))) (Nat.beq t 155)
    | _ => none
  | _ => none
def EQ0 : Env := ⟨Tryz.prog, globQ, primQ, orcQ, fun _ => none, fun _ => none, 228, 100000⟩
/-- the law's own: its example is answered at once; letter 10 is how long the line is -/
def primQ1 (g : FuncId) (l : List V) : Option V := match l with
  | [] => Bool.rec none (some (.bl true)) (Nat.beq g 21)
  | l => primQ g l
def orcQ2 (long : Bool) (op : BinOp) : Option V := match op with
  | .gtr => some (.bl long)
  | _ => none
def orcQ1 (long : Bool) (op : BinOp) (t : TypeId) (x y : V) : Option V := match x with
  | .sy i => match y with
    | .int .i64 (.ofNat m) => Bool.rec none (Bool.rec none (orcQ2 long op) (Nat.beq m 300)) (Nat.beq i 10)
    | _ => none
  | x => orcQ op t x y
def lenQ (i : Nat) : Option V := Bool.rec none (some (.sy 10)) (Nat.beq i 0)
def EQ (long : Bool) : Env := ⟨Tryz.prog, globQ, primQ1, orcQ1 long, fun _ => none, lenQ, 228, 100000⟩
def isT (x : O) : Bool := match x with
  | .ok _ v => match v with
    | .bl b => b
    | _ => false
  | .bad _ => false
end Go.Proofs.YtaiialpdlobioaaGreatDoor
namespace Go.Proofs.YtaiialpdlobioaaGreatDoor
open Go.Ex Go.RowKit
theorem isT_ok {x : O} (h : isT x = true) : ∃ s, x = .ok s (.bl true) := by
  unfold isT at h
  split at h
  · split at h
    · subst h; exact ⟨_, rfl⟩
    · cases h
  · cases h
theorem names_all : (Tryz.prog.funcs.all fun f => !(f.name == "runtime.NumGoroutine")) = true := by kernel_rfl
theorem names_ok : NamesOk Tryz.prog := ⟨fun g f h => by
  have := Array.all_eq_true.1 names_all g (Array.getElem?_eq_some_iff.1 h).1
  rw [(Array.getElem?_eq_some_iff.1 h).2] at this
  simpa using this⟩
theorem follows_mixed : Tryz.prog.follows .mixedOrders = true := by kernel_rfl
theorem ne_run (x : Value) (w : World) : (callFunc 228 #[x]).run Tryz.prog w = .ok (.value x) w := by
  rw [run_callFunc_extern Tryz.func228 (by kernel_rfl) (by kernel_rfl) (by kernel_rfl) (e := Extern.AbiNoEscape.same) (by kernel_rfl)]
  rfl
theorem byte_beq {x c : Nat} (hx : x < 256) (hc : c < 256) : (UInt8.ofNat x == UInt8.ofNat c) = Nat.beq x c := by
  have h1 : (UInt8.ofNat x).toNat = x := by rw [UInt8.toNat_ofNat']; omega
  have h2 : (UInt8.ofNat c).toNat = c := by rw [UInt8.toNat_ofNat']; omega
  cases e : Nat.beq x c with
  | true =>
    obtain rfl := Nat.eq_of_beq_eq_true e
    exact beq_self_eq_true _
  | false =>
    refine beq_eq_false_iff_ne.2 fun h => Nat.ne_of_beq_eq_false e ?_
    have := congrArg UInt8.toNat h
    rwa [h1, h2] at this
theorem ixB_eq (c : Nat) (hc : c < 256) : ∀ (l : List Nat) (i : Nat), (∀ x ∈ l, x < 256) → ixB c l i = if Lib.indexByte (l.map UInt8.ofNat) (UInt8.ofNat c) == -1 then -1 else Lib.indexByte (l.map UInt8.ofNat) (UInt8.ofNat c) + i := by
  intro l
  induction l with
  | nil => intro i _; rfl
  | cons x l ih =>
    intro i h
    have hx := h x List.mem_cons_self
    have he := byte_beq hx hc
    show Bool.rec (motive := fun _ => Int) (ixB c l (Nat.succ i)) (.ofNat i) (Nat.beq x c) = _
    simp only [List.map_cons, Lib.indexByte, he]
    have hg := Lib.indexByte_ge (l.map UInt8.ofNat) (UInt8.ofNat c)
    cases hb : Nat.beq x c with
    | true => simp
    | false =>
      show ixB c l (Nat.succ i) = _
      rw [ih (i + 1) fun y hy => h y (List.mem_cons_of_mem _ hy)]
      simp only [Bool.false_eq_true, if_false, beq_iff_eq]
      by_cases q : Lib.indexByte (l.map UInt8.ofNat) (UInt8.ofNat c) = -1
      · simp [q]
      · rw [if_neg q, if_neg q, if_neg (by omega)]
        omega
theorem cnB_eq (c : Nat) (hc : c < 256) : ∀ (l : List Nat), (∀ x ∈ l, x < 256) → cnB c l = Lib.countByte (l.map UInt8.ofNat) (UInt8.ofNat c) := by
  intro l
  induction l with
  | nil => intro _; rfl
  | cons x l ih =>
    intro h
    have hx := h x List.mem_cons_self
    have he := byte_beq hx hc
    show Bool.rec (motive := fun _ => Nat) (cnB c l) (Nat.succ (cnB c l)) (Nat.beq x c) = _
    have := ih fun y hy => h y (List.mem_cons_of_mem _ hy)
    unfold Lib.countByte at this ⊢
    rw [List.map_cons, List.count_cons, he, ← this]
    cases Nat.beq x c <;> rfl
theorem index_run (s : ByteArray) (c : Int) (w : World) : (callFunc 314 #[.string s, .int .u8 c]).run Tryz.prog w = .ok (.value (.int .i64 (Lib.indexByte s.data.toList c.toNat.toUInt8))) w := by
  rw [run_callFunc_extern Tryz.func314 (by kernel_rfl) (by kernel_rfl) (by kernel_rfl) (e := Extern.BytealgIndexByte.indexByte) (by kernel_rfl), Lib.run_indexByteString]
  rfl
theorem count_run (s : ByteArray) (c : Int) (w : World) : (callFunc 231 #[.string s, .int .u8 c]).run Tryz.prog w = .ok (.value (.int .i64 (Lib.countByte s.data.toList c.toNat.toUInt8))) w := by
  rw [run_callFunc_extern Tryz.func231 (by kernel_rfl) (by kernel_rfl) (by kernel_rfl) (e := Extern.BytealgCount.count) (by kernel_rfl), Lib.run_countString]
  rfl
/-- a function without code that answers by its arguments alone -/
theorem prim_ext {E : Env} {σ : Nat → Value} {g : FuncId} {args : List V} {v : V} (h : ∀ (β : Bt) xs, IsL σ β args xs → ∃ y, (∀ β' : Bt, Is σ β' v y) ∧ ∀ w, (callFunc g xs.toArray).run E.P w = .ok (.value y) w) (s : S) : CallSem E σ g args s s v := by
  refine ⟨rfl, rfl, fun K β F w xs G H hx => ?_⟩
  obtain ⟨y, hy, hr⟩ := h β xs hx
  exact .inr ⟨y, w, hr w, y, β, rfl, Le.refl β, hy β, H⟩
theorem primQ_ok {E : Env} (hP : E.P = Tryz.prog) {σ : Nat → Value} {g : FuncId} {args : List V} {v : V} (h : primQ g args = some v) (s : S) : CallSem E σ g args s s v := by
  unfold primQ at h
  split at h
  · rename_i l c
    obtain ⟨hc, h⟩ := brec_none h
    have hc : c < 256 := Nat.lt_succ_of_le (Nat.le_of_ble_eq_true hc)
    have hb : (Ex.bytes l).data.toList = l.map UInt8.ofNat := by simp [Ex.bytes]
    cases e : Nat.beq g 314 with
    | true =>
      rw [e] at h
      cases h
      obtain rfl := Nat.eq_of_beq_eq_true e
      refine prim_ext (fun β xs hx => ?_) s
      obtain ⟨_, _, rfl, ⟨rfl, hs⟩, _, _, rfl, rfl, rfl⟩ := hx
      refine ⟨.int .i64 (ixB c l 0), fun _ => rfl, fun w => ?_⟩
      rw [hP]
      refine (index_run (Ex.bytes l) (Int.ofNat c) w).trans ?_
      rw [ixB_eq c hc l 0 hs, hb]
      have q : ∀ z : Int, z = if z == -1 then -1 else z + ((0 : Nat) : Int) := fun z => by
        by_cases e : z = -1
        · subst e; rfl
        · rw [if_neg (by simpa using e)]; simp
      exact congrArg (fun z => Result.ok (Next.value (Value.int .i64 z)) w) (q (Lib.indexByte (l.map UInt8.ofNat) (UInt8.ofNat c)))
    | false =>
      rw [e] at h
      obtain ⟨e, h⟩ := brec_none h
      cases h
      obtain rfl := Nat.eq_of_beq_eq_true e
      refine prim_ext (fun β xs hx => ?_) s
      obtain ⟨_, _, rfl, ⟨rfl, hs⟩, _, _, rfl, rfl, rfl⟩ := hx
      refine ⟨.int .i64 (.ofNat (cnB c l)), fun _ => rfl, fun w => ?_⟩
      rw [hP]
      refine (count_run (Ex.bytes l) (Int.ofNat c) w).trans ?_
      rw [cnB_eq c hc l hs, hb]
      rfl
  · cases h
theorem orcQ_ok {E : Env} (hP : E.P = Tryz.prog) {σ : Nat → Value} {op : BinOp} {t : TypeId} {x y v : V} (h : orcQ op t x y = some v) (β : Bt) (ox oy : Operand) (xv yv : Value) (hx : Is σ β x xv) (hy : Is σ β y yv) :
    ∃ z, Is σ β v z ∧ ∀ w, (do eqGuard op t ox oy xv yv; binOp op t xv yv : Sem Value).run E.P w = .ok z w := by
  unfold orcQ at h
  split at h
  · split at h
    · obtain ⟨e, h0⟩ := brec_none h
      clear h
      obtain rfl := Nat.eq_of_beq_eq_true e
      obtain ⟨e, h⟩ := brec_none h0
      clear h0
      rw [Bool.and_eq_true] at e
      obtain rfl := Nat.eq_of_beq_eq_true e.1
      obtain rfl := Nat.eq_of_beq_eq_true e.2
      obtain ⟨l, hl, rfl⟩ := hx
      obtain ⟨l', hl', rfl⟩ := hy
      obtain rfl := Option.some.inj (hl.symm.trans hl')
      have hp : Tryz.prog.underlying 155 = some (.pointer 157) := by kernel_rfl
      obtain ⟨j, hj⟩ : ∃ j, Tryz.prog.info? 157 = some j := Option.isSome_iff_exists.1 (by kernel_rfl)
      rw [hP]
      unfold eqP at h
      split at h
      · cases h
        refine ⟨.bool true, rfl, fun w => ?_⟩
        have := fun a => run_eql_ptr_same (P := Tryz.prog) w a hp hj
        simp [eqGuard, this]
      · cases h
        refine ⟨.bool false, rfl, fun w => ?_⟩
        have := fun a => Lib.run_neq_ptr_same (P := Tryz.prog) w a hp hj
        simp [eqGuard, this]
      · cases h
    · cases h
  · cases h
theorem isL_ints {σ : Nat → Value} {β : Bt} {k : IntKind} : ∀ {zs : List Int} {xs : List Value}, IsL σ β (zs.map (V.int k)) xs ↔ xs = zs.map (Value.int k) := by
  intro zs
  induction zs with
  | nil => intro xs; exact Iff.rfl
  | cons z zs ih =>
    intro xs
    constructor
    · rintro ⟨y, ys, rfl, rfl, h⟩
      rw [ih.1 h]
      rfl
    · rintro rfl
      exact ⟨_, _, rfl, rfl, ih.2 rfl⟩
/-- the tables lie where they are laid -/
def TabsAt (w : World) : Prop := (∃ t z, w.heap[(0 : Nat)]? = some (.cells (kindsZ.map (Value.int .i64)).toArray t z)) ∧ ∃ t z, w.heap[(2 : Nat)]? = some (.cells (powZ.map (Value.int .u64)).toArray t z)
theorem ints_one {k : IntKind} {zs : List Int} : ∀ y ∈ zs.map (Value.int k), y.oneCell' = true := by
  intro y hy
  obtain ⟨n, _, rfl⟩ := List.mem_map.1 hy
  rfl
theorem globOk_of {E : Env} (hg : E.glob = globQ) {σ : Nat → Value} {w : World} (h : TabsAt w) : GlobOk E σ (World.all w) := by
  obtain ⟨⟨t1, z1, h1⟩, t2, z2, h2⟩ := h
  refine ⟨fun g hne => ?_⟩
  rw [hg] at hne ⊢
  unfold globQ at hne ⊢
  cases e : Nat.beq g 0 with
  | true =>
    obtain rfl := Nat.eq_of_beq_eq_true e
    exact ⟨_, t1, z1, h1, fun β => isL_ints.2 rfl, ints_one⟩
  | false =>
    rw [e] at hne
    cases e2 : Nat.beq g 2 with
    | true =>
      obtain rfl := Nat.eq_of_beq_eq_true e2
      exact ⟨_, t2, z2, h2, fun β => isL_ints.2 rfl, ints_one⟩
    | false =>
      rw [e2] at hne
      exact absurd rfl hne
theorem pkQ0 : ProgOk EQ0 (fun _ => .bool true) where
  name := names_ok.name
  orc := ⟨fun _ => rfl, fun op t x y v h => orcQ_ok rfl h, fun _ _ h => (by cases h), fun _ _ h => (by cases h)⟩
  ne := ne_run
  prim := fun g args v h s => primQ_ok rfl h s
end Go.Proofs.YtaiialpdlobioaaGreatDoor
namespace Go.Proofs.YtaiialpdlobioaaGreatDoor
section
open Go.Ex Go.RowKit
/-- what is behind the call: all that was there -/
theorem more_below {w w' : World} (M : More w w') : Below w.heap.size w w' :=
  ⟨M.os, M.tape, M.out, M.size, fun k hk => by
    cases e : w.heap[k]? with
    | none => rw [Array.getElem?_eq_none_iff] at e; omega
    | some o => exact M.old k o e⟩
theorem hasBody_of {E : Env} (h : E.P = EQ0.P) {g : FuncId} (hb : hasBody EQ0 g = true) : hasBody E g = true := by
  unfold hasBody at hb ⊢
  rw [h]
  exact hb
theorem calls_of {E : Env} {σ : Nat → Value} (pk : ProgOk E σ) (hm : E.P.follows .mixedOrders = true) (hg : E.glob = globQ) (hP : E.P = EQ0.P) {g : FuncId} (hb : hasBody EQ0 g = true) {args : List V} (h : isT (Ex.start E 60 g args) = true) {w : World} (hk : TabsAt w)
    {xs : List Value} (hx : IsL σ (fun _ => none) args xs) : Calls E.P g xs.toArray w fun e w' => e = .returned (.bool true) ∧ Below w.heap.size w w' := by
  obtain ⟨sf, hs⟩ := isT_ok h
  rcases start_ok pk hm hs (globOk_of hg hk) hx with ⟨_, q⟩ | ⟨x, w', q, _⟩
  · refine Calls.mono q fun e w' he => ?_
    obtain ⟨x, β, rfl, hv, M⟩ := he
    have hv : x = .bool true := hv
    subst hv
    exact ⟨rfl, more_below M⟩
  · rw [hasBody_ok pk.toNamesOk (hasBody_of hP hb)] at q
    cases q
end
open Go.Sy Go.RowKit
/-- an error variable holds some error -/
def ErrAt (w : World) (g : Nat) : Prop := ∃ te pe, w.cell? ⟨g, 0, none⟩ = some (.iface te pe)
/-- the library's table of powers, the tables of the law's example, the two errors of numbers, as they lie when the program begins -/
structure EnvW (w : World) : Prop where
  pow : Lib.TabIs Tryz.prog w "internal/strconv.uint64pow10" .u64 Lib.pow10Tab
  tabs : TabsAt w
  syn : ErrAt w 5
  rng : ErrAt w 6
def EnvA : Asn := ⟨fun h => ∀ w, h.le (hp w) → EnvW w, fun e x w hw => x w (e.trans hw)⟩
theorem itoaZ (z : Int) (h0 : -9223372036854775808 ≤ z) (h1 : z ≤ 9223372036854775807) : Triple Tryz.prog 63 [.int .i64 z] [] [EnvA] Unit (fun _ => .string (mkB (Lib.itoa z))) (fun _ => True) (fun _ => []) := by
  intro w hm hn h1 h2 h3 h4 h5
  have hE : EnvW w := h5 EnvA List.mem_cons_self w h2
  refine (Any.strconv_Itoa Tryz.laysM171 z (by omega) (by omega) w hE.pow).mono fun e w' he => ?_
  obtain ⟨rfl, k, os, rfl⟩ := he
  have hb := Lib.below_grow w.heap.size w (Nat.le_refl _) k os
  exact ⟨(), Hp.emp, rfl, trivial, trivial, Hp.emp_le _, ⟨hb.os, hb.tape, hb.output, hb.size, fun b hl _ => hb.block b hl⟩, fun b q => absurd rfl q⟩
/-- strconv.Atoi at a number -/
theorem atoiOk (x : ByteArray) (hx : x.size ≤ 1000000) (z : Int) (h : Lib.atoiAll x.data.toList = .ok z) : Triple Tryz.prog 166 [.string x] [] [EnvA] Unit (fun _ => .tuple #[.int .i64 z, .nilIface]) (fun _ => True) (fun _ => []) := by
  intro w hm hn h1 h2 h3 h4 h5
  refine (Any.strconv_Atoi_ok Tryz.laysC172 x (by omega) z h w).mono fun e w' he => ?_
  obtain ⟨rfl, hw⟩ := he
  have hb : Below w.heap.size w w' := by
    rcases hw with rfl | ⟨t, rfl⟩
    · exact Below.refl _ _
    · exact Lib.bytesWorld_below _ _ _
  exact ⟨(), Hp.emp, rfl, trivial, trivial, Hp.emp_le _, ⟨hb.os, hb.tape, hb.output, hb.size, fun b hl _ => hb.block b hl⟩, fun b q => absurd rfl q⟩
/-- .. and at what is none -/
theorem atoiNo (x : ByteArray) (hx : x.size ≤ 1000000) (h : ∀ z, Lib.atoiAll x.data.toList ≠ .ok z) : Triple Tryz.prog 166 [.string x] [] [EnvA] (Int × Nat) (fun p => .tuple #[.int .i64 p.1, .iface 389 (.pointer (some ⟨p.2, 0, none⟩))]) (fun _ => True) (fun _ => []) := by
  intro w hm hn h1 h2 h3 h4 h5
  have hE : EnvW w := h5 EnvA List.mem_cons_self w h2
  cases ha : Lib.atoiAll x.data.toList with
  | «ok» z => exact absurd ha (h z)
  | «syntax» =>
    obtain ⟨te, pe, he⟩ := hE.syn
    refine (Any.strconv_Atoi_syntax Tryz.laysC172 x (by omega) ha _ w he (.inr ⟨te, pe, rfl⟩)).mono fun e w' he => ?_
    obtain ⟨N, rfl, _, _, hb⟩ := he
    exact ⟨(0, N), Hp.emp, rfl, trivial, trivial, Hp.emp_le _, ⟨hb.os, hb.tape, hb.output, hb.size, fun b hl _ => hb.block b hl⟩, fun b q => absurd rfl q⟩
  | «range» =>
    obtain ⟨te, pe, he⟩ := hE.rng
    refine (Any.strconv_Atoi_range Tryz.laysC172 x (by omega) ha _ w he (.inr ⟨te, pe, rfl⟩)).mono fun e w' he => ?_
    obtain ⟨N, rfl, _, _, hb⟩ := he
    exact ⟨(Lib.atoiSat x.data.toList, N), Hp.emp, rfl, trivial, trivial, Hp.emp_le _, ⟨hb.os, hb.tape, hb.output, hb.size, fun b hl _ => hb.block b hl⟩, fun b q => absurd rfl q⟩
/-- strings.Split at a space -/
theorem genCalls (x : ByteArray) (hx : x.size < 4294967281) (w : World) :
    Calls Tryz.prog 100 #[.string x, .string ⟨#[32]⟩, .int .i64 (0 : Nat), .int .i64 (-1)] w fun e w' => e = .returned (.slice (some ⟨w.heap.size, 0, none⟩) (wdsB x).length (wdsB x).length) ∧ w' = w.alloc (.cells ((wdsB x).flatMap encS).toArray 9) := by
  have L := Tryz.lays146
  have hlen := wdsB_len x
  have c := Any.strings_genSplit_core (P := Tryz.prog) { L with } (by kernel_rfl) x ⟨#[32]⟩ 0 (-1) (Lib.countB x ⟨#[32]⟩ + 1) w hx (Nat.le_refl _) (Nat.zero_le _)
    (fun y c _ => by
      have h := Any.strings_Index_one { L with } y 32 (w.alloc (.cells c (Tryz.lays146_ren.t 9)))
      rw [← index_one] at h
      exact h)
    (by
      have h := Any.strings_Count_one { L with } x 32 w
      rw [show Lib.countByte x.data.toList 32 = Lib.countB x ⟨#[32]⟩ from (Lib.count_one 32 _).symm] at h
      exact h) (by decide) (by decide)
    (by rw [if_pos (by decide)]; have := Lib.countB_le ⟨#[32]⟩ (Nat.le_refl _) x.size x (Nat.le_refl _); omega)
  rw [Nat.add_sub_cancel, split_wdsB, ← hlen, Lib.cellsOf_full, ← encS_flat] at c
  exact c
theorem genT (x : ByteArray) (hx : x.size ≤ 1000000) (n : Nat) (hn : n = (wdsB x).length) : Triple Tryz.prog 100 [.string x, .string ⟨#[32]⟩, .int .i64 0, .int .i64 (-1)] [] [] Nat (fun b => .slice (some ⟨b, 0, none⟩) n n) (fun _ => True) (fun b => [Row 9 1 (some ⟨b, 0, none⟩) n n ((wdsB x).flatMap encS)]) := by
  subst hn
  intro w hm hn _ _ _ _ _
  refine (genCalls x (by omega) w).mono fun e w' he => ?_
  obtain ⟨rfl, rfl⟩ := he
  have hlen := wdsB_len x
  have hle := Lib.countB_le ⟨#[32]⟩ (Nat.le_refl _) x.size x (Nat.le_refl _)
  have hsz : ((wdsB x).flatMap encS).length = (wdsB x).length := by rw [encS_flat, List.length_map]
  refine ⟨w.heap.size, Hp.one w.heap.size (.cells ((wdsB x).flatMap encS).toArray 9), rfl, trivial, starH_one.2 ⟨by rw [hsz, Nat.mul_one], fun c hc => ?_, .inr ⟨w.heap.size, _, rfl, Hp.one_self _ _, Nat.le_refl _, ?_, ?_, ?_⟩⟩, Hp.one_le (hp_alloc w _), ⟨rfl, rfl, rfl, by simp, fun b hb _ => Below.heap_alloc w _ b hb⟩, fun b hb => .inr ?_⟩
  · rw [encS_flat] at hc
    obtain ⟨y, _, rfl⟩ := List.mem_map.1 hc
    rfl
  · unfold maxLen
    omega
  · simp [hsz]
  · rw [Nat.mul_one, List.take_of_length_le (by simp [hsz])]
  · by_cases q : b = w.heap.size
    · omega
    · exact absurd (Hp.one_none q) hb
set_option maxHeartbeats 4000000 in
set_option maxRecDepth 100000 in
theorem splitT (x : ByteArray) (hx : x.size ≤ 1000000) (n : Nat) (hn : n = (wdsB x).length) : Triple Tryz.prog 53 [.string x, .string ⟨#[32]⟩] [] [] Nat (fun b => .slice (some ⟨b, 0, none⟩) n n) (fun _ => True) (fun b => [Row 9 1 (some ⟨b, 0, none⟩) n n ((wdsB x).flatMap encS)]) := by
  have T1 := genT x hx n hn
  refine triple_intro Tryz.tbs_ok Tryz.func53 rfl [.va (.string x), .va (.string ⟨#[32]⟩)] [] ⟨trivial, trivial, trivial⟩ rfl (by simp) ?_
  intro E
  refine go Tryz.tbs_ok 1000 ?_
  refine ev_callF (T1 ) [] [] rfl rfl (by decide) rfl (by simp) (fun _ => (by repeat (first | exact trivial | refine ⟨rfl, ?_⟩))) (fun x0 h1 => ?_)
  refine go Tryz.tbs_ok 1000 ?_
  refine ev_fin ⟨trivial, _, rfl, (x0), rfl, (by trivial), Frm.sel [0] rfl (by decide)⟩
end Go.Proofs.YtaiialpdlobioaaGreatDoor
namespace Go.Proofs.YtaiialpdlobioaaGreatDoor
open Go.Sy Go.RowKit
/-- a step's cells -/
def stpC (s : Stp) (A : Option Addr) (c : Nat) : List Value := [.int .i64 s.k, .int .i64 s.site, .int .i64 s.stream, .int .i64 s.index, .int .i64 s.oid, .int .i64 s.ostream, .int .i64 s.oexp, .int .i64 s.okind, .int .i64 s.oarg, .slice A s.keep.length c]
/-- a line's words: the first one and the others, as the program has them -/
structure Wds (x : ByteArray) (W : List ByteArray) (w : ByteArray) (ws : List (List UInt8)) : Prop where
  all : wdsB x = W
  l : wdsL x.data.toList = w.data.toList :: ws
  fst : ∃ h : 0 < W.length, W[0] = w
  len : W.length = ws.length + 1
  at_ : ∀ i (h : i < W.length), 1 ≤ i → ∃ h2 : i - 1 < ws.length, W[i].data.toList = ws[i - 1]
  le : ∀ i (h : i < W.length), W[i].size ≤ x.size
  tl : W.drop 1 = ws.map mkB
  num : W.length ≤ x.size + 1
theorem wds_of (x : ByteArray) : ∃ W w ws, Wds x W w ws := by
  cases h : wdsL x.data.toList with
  | nil => exact absurd h (wdsL_ne _)
  | cons w ws =>
    have hW : wdsB x = mkB w :: ws.map mkB := by unfold wdsB; rw [h]; rfl
    refine ⟨mkB w :: ws.map mkB, mkB w, ws, hW, h, ⟨Nat.succ_pos _, rfl⟩, by simp, fun i hi h1 => ?_, fun i hi => ?_, rfl, ?_⟩
    · obtain ⟨j, rfl⟩ : ∃ j, i = j + 1 := ⟨i - 1, by omega⟩
      have hj : j < ws.length := by simpa using hi
      refine ⟨hj, ?_⟩
      simp only [List.getElem_cons_succ, List.getElem_map, Nat.add_sub_cancel]
      rfl
    · have hm : (mkB w :: ws.map mkB)[i] ∈ (w :: ws).map mkB := List.getElem_mem _
      obtain ⟨v, hv, e⟩ := List.mem_map.1 hm
      have := wds_le x.data.toList v (by rw [h]; exact hv)
      rw [← e]
      rw [size_toList] at this
      exact this
    · rw [← hW, wdsB_len]
      have := Lib.countB_le ⟨#[32]⟩ (Nat.le_refl _) x.size x (Nat.le_refl _)
      omega
theorem many_of (k : Nat) (h0 : k ≠ 0) (h2 : k ≤ 12) : (k = 10 ∧ manyK k = -1) ∨ (k = 1 ∧ manyK k = 6) ∨ (k = 7 ∧ manyK k = 2) ∨ ((k = 8 ∨ k = 9) ∧ manyK k = 3) ∨ ((k = 2 ∨ k = 3 ∨ k = 4 ∨ k = 5 ∨ k = 6 ∨ k = 11 ∨ k = 12) ∧ manyK k = 1) := by
  have q : k = 1 ∨ k = 2 ∨ k = 3 ∨ k = 4 ∨ k = 5 ∨ k = 6 ∨ k = 7 ∨ k = 8 ∨ k = 9 ∨ k = 10 ∨ k = 11 ∨ k = 12 := by omega
  rcases q with rfl | rfl | rfl | rfl | rfl | rfl | rfl | rfl | rfl | rfl | rfl | rfl <;> decide
theorem kind_le (w : ByteArray) : kindB w ≤ 12 := by
  rcases Nat.eq_zero_or_pos (kindB w) with h | h
  · omega
  · exact (kind_word (w := w) (by omega)).2.1
theorem rNumS (y : ByteArray) (h : y.size ≤ 1000000000) (z : Int) (hz : numZ y.data.toList = some z) : Triple Tryz.prog 61 [.string y] [] [] Unit (fun _ => .tuple #[.int .i64 z, .bool true]) (fun _ => True) (fun _ => []) := by
  have := rNum y h
  rw [hz] at this
  exact this
theorem rNumN (y : ByteArray) (h : y.size ≤ 1000000000) (hz : numZ y.data.toList = none) : Triple Tryz.prog 61 [.string y] [] [] Unit (fun _ => .tuple #[.int .i64 0, .bool false]) (fun _ => True) (fun _ => []) := by
  have := rNum y h
  rw [hz] at this
  exact this
/-- the numbers that have been read -/
def numsTo (ws : List (List UInt8)) (i : Nat) (M : List Int) : Prop := numsZ (ws.take i) = some M
theorem numsTo.next {ws : List (List UInt8)} {i : Nat} {M : List Int} (h : numsTo ws i M) (hi : i < ws.length) {z : Int} (hz : numZ ws[i] = some z) : numsTo ws (i + 1) (M ++ [z]) := by
  unfold numsTo
  rw [← List.take_append_getElem hi, nums_snoc, h, hz]
  rfl
theorem numsTo.no {ws : List (List UInt8)} {i : Nat} {M : List Int} (_h : numsTo ws i M) (hi : i < ws.length) (hz : numZ ws[i] = none) : numsZ ws = none := by
  have e : numsZ (ws.take (i + 1)) = none := by
    rw [← List.take_append_getElem hi, nums_snoc, hz]
    cases numsZ (ws.take i) <;> rfl
  rw [← List.take_append_drop (i + 1) ws]
  exact nums_pre _ _ e
theorem numsTo.all {ws : List (List UInt8)} {i : Nat} {M : List Int} (h : numsTo ws i M) (hi : ws.length ≤ i) : numsZ ws = some M := by
  rw [numsTo, List.take_of_length_le hi] at h
  exact h
set_option maxHeartbeats 4000000 in
set_option maxRecDepth 100000 in
theorem rReadN (x : ByteArray) (hx9 : x.size ≤ 1000000) (hR : readB x = none) : Triple Tryz.prog 25 [.string x] [] [] Unit (fun _ => .tuple #[.agg (stpC stp0 none 0).toArray, .bool false]) (fun _ => True) (fun _ => []) := by
  obtain ⟨W, w, ws, hW⟩ := wds_of x
  have TW := rWords x hx9
  have TK := rKind w
  rw [hW.all] at TW
  obtain ⟨n, hn⟩ : ∃ n, n = W.length := ⟨_, rfl⟩
  obtain ⟨k, hk⟩ : ∃ k, k = kindB w := ⟨_, rfl⟩
  obtain ⟨m, hm⟩ : ∃ m, m = manyK k := ⟨_, rfl⟩
  have hk12 := kind_le w
  obtain ⟨h0, hW0⟩ := hW.fst
  have hlen := hW.len
  have hnum := hW.num
  have hle := fun i h => Nat.le_trans (hW.le i h) hx9
  rw [readB, hW.l, readW, show mkB w.data.toList = w from rfl, ← hk, ← hm] at hR
  rw [← hk, ← hm, ← hW0] at TK
  rw [← hn] at TW
  rw [← hk] at hk12
  have hR2 : k = 0 ∨ n < 2 ∨ (0 < m ∧ (n : Int) ≠ m + 1) ∨ (2 ≤ n ∧ numsZ ws = none) := by
    split at hR
    · rename_i hc
      rcases hc with hc | hc | ⟨hc, hc2⟩
      · exact .inl hc
      · exact .inr (.inl (by rw [hn, hlen, hc]; decide))
      · rcases Nat.eq_zero_or_pos k with q | q
        · exact .inl q
        · have := many_of k (by omega) hk12
          rw [← hm] at this
          have hm7 : 0 < m := by omega
          exact .inr (.inr (.inl ⟨hm7, fun e => hc2 (by omega)⟩))
    · rename_i hc
      have : numsZ ws = none := by
        cases hq : numsZ ws with
        | none => rfl
        | some M => rw [hq] at hR; cases hR
      refine .inr (.inr (.inr ⟨?_, this⟩))
      have : ws.length ≠ 0 := fun e => hc (.inr (.inl (List.eq_nil_of_length_eq_zero e)))
      omega
  have hm0 : k ≠ 0 → (m = -1 ∨ 0 < m) ∧ m ≤ 6 := fun q => by
    have := many_of k q hk12
    rw [← hm] at this
    omega
  have hkm : k = 0 → m = 0 := fun q => by rw [hm, q]; rfl
  refine triple_intro Tryz.tbs_ok Tryz.func25 rfl [.va (.string x)] [] ⟨trivial, trivial⟩ rfl (by simp) ?_
  intro E
  by_cases hk0 : k = 0
  · subst hk0
    refine go Tryz.tbs_ok 1000 ?_
    refine ev_new fun b0 => ?_
    refine ev_callF (TW ) [] [] rfl rfl (by decide) rfl (by simp) (fun _ => (by repeat (first | exact trivial | refine ⟨rfl, ?_⟩))) (fun ⟨x1, x2⟩ h3 => ?_)
    refine go Tryz.tbs_ok 1000 ?_
    refine ev_stop (go_index0 (sz := 1) Tryz.tbs_ok (.inr 1) (0) rfl rfl rfl rfl rfl rfl (by omega) rfl Row.at0 (fun g4 e5 => ?_))
    subst e5
    refine go Tryz.tbs_ok 1000 ?_
    have l6 : 0 < (W).length := (by omega)
    refine ev_stop (go_loadE Tryz.tbs_ok (.inr 1) (0) 0 rfl rfl rfl rfl (fun _ h => Row.rd h) (by omega) (fun _ => rfl) (by omega) l6 (by decide) ?_)
    refine go Tryz.tbs_ok 1000 ?_
    refine ev_callF (TK ) [] [] rfl rfl (by decide) rfl (by simp) (fun _ => (by repeat (first | exact trivial | refine ⟨rfl, ?_⟩))) (fun _ h7 => ?_)
    refine go Tryz.tbs_ok 1000 ?_
    refine ev_if_yes rfl ?_
    refine go Tryz.tbs_ok 1000 ?_
    refine ev_fin ⟨trivial, _, rfl, (()), rfl, (by trivial), Frm.nil _⟩
  obtain ⟨hm1, hm6⟩ := hm0 hk0
  clear hR hm0 hkm
  by_cases hn2 : n < 2
  · refine go Tryz.tbs_ok 1000 ?_
    refine ev_new fun b0 => ?_
    refine ev_callF (TW ) [] [] rfl rfl (by decide) rfl (by simp) (fun _ => (by repeat (first | exact trivial | refine ⟨rfl, ?_⟩))) (fun ⟨x1, x2⟩ h3 => ?_)
    refine go Tryz.tbs_ok 1000 ?_
    refine ev_stop (go_index0 (sz := 1) Tryz.tbs_ok (.inr 1) (0) rfl rfl rfl rfl rfl rfl (by omega) rfl Row.at0 (fun g4 e5 => ?_))
    subst e5
    refine go Tryz.tbs_ok 1000 ?_
    have l6 : 0 < (W).length := (by omega)
    refine ev_stop (go_loadE Tryz.tbs_ok (.inr 1) (0) 0 rfl rfl rfl rfl (fun _ h => Row.rd h) (by omega) (fun _ => rfl) (by omega) l6 (by decide) ?_)
    refine go Tryz.tbs_ok 1000 ?_
    refine ev_callF (TK ) [] [] rfl rfl (by decide) rfl (by simp) (fun _ => (by repeat (first | exact trivial | refine ⟨rfl, ?_⟩))) (fun _ h7 => ?_)
    refine go Tryz.tbs_ok 1000 ?_
    refine ev_if_no (beq_eq_false_iff_ne.2 (show ¬(↑k : Int) = 0 from (by omega))) ?_
    refine go Tryz.tbs_ok 1000 ?_
    refine ev_if_yes (decide_eq_true (show (↑n : Int) < 2 from (by omega))) ?_
    refine go Tryz.tbs_ok 1000 ?_
    refine ev_fin ⟨trivial, _, rfl, (()), rfl, (by trivial), Frm.nil _⟩
  by_cases hm2 : 0 < m ∧ (n : Int) ≠ m + 1
  · obtain ⟨hm2, hm3⟩ := hm2
    refine go Tryz.tbs_ok 1000 ?_
    refine ev_new fun b0 => ?_
    refine ev_callF (TW ) [] [] rfl rfl (by decide) rfl (by simp) (fun _ => (by repeat (first | exact trivial | refine ⟨rfl, ?_⟩))) (fun ⟨x1, x2⟩ h3 => ?_)
    refine go Tryz.tbs_ok 1000 ?_
    refine ev_stop (go_index0 (sz := 1) Tryz.tbs_ok (.inr 1) (0) rfl rfl rfl rfl rfl rfl (by omega) rfl Row.at0 (fun g4 e5 => ?_))
    subst e5
    refine go Tryz.tbs_ok 1000 ?_
    have l6 : 0 < (W).length := (by omega)
    refine ev_stop (go_loadE Tryz.tbs_ok (.inr 1) (0) 0 rfl rfl rfl rfl (fun _ h => Row.rd h) (by omega) (fun _ => rfl) (by omega) l6 (by decide) ?_)
    refine go Tryz.tbs_ok 1000 ?_
    refine ev_callF (TK ) [] [] rfl rfl (by decide) rfl (by simp) (fun _ => (by repeat (first | exact trivial | refine ⟨rfl, ?_⟩))) (fun _ h7 => ?_)
    refine go Tryz.tbs_ok 1000 ?_
    refine ev_if_no (beq_eq_false_iff_ne.2 (show ¬(↑k : Int) = 0 from (by omega))) ?_
    refine go Tryz.tbs_ok 1000 ?_
    refine ev_if_no (decide_eq_false (show ¬(↑n : Int) < 2 from (by omega))) ?_
    refine go Tryz.tbs_ok 1000 ?_
    refine ev_if_yes (decide_eq_true (by with_reducible assumption)) ?_
    refine go Tryz.tbs_ok 1000 ?_
    refine ev_w64 (by constructor <;> omega) ?_
    refine ev_if_yes (ne_yes (by with_reducible assumption)) ?_
    refine go Tryz.tbs_ok 1000 ?_
    refine ev_fin ⟨trivial, _, rfl, (()), rfl, (by trivial), Frm.nil _⟩
  have hns : numsZ ws = none := by
    rcases hR2 with q | q | q | q
    · exact absurd q hk0
    · exact absurd q hn2
    · exact absurd q hm2
    · exact q.2
  refine go_fact (Row 3 1 none 0 0 (([] : List Int).flatMap encN)) (Row.nilE _ _) ?_
  rcases (show ¬ 0 < m ∨ ((n : Int) = m + 1 ∧ 0 < m) by omega) with hm4 | ⟨hm4, hm5⟩
  · refine go Tryz.tbs_ok 1000 ?_
    refine ev_new fun b0 => ?_
    refine ev_callF (TW ) [] [] rfl rfl (by decide) rfl (by simp) (fun _ => (by repeat (first | exact trivial | refine ⟨rfl, ?_⟩))) (fun ⟨x1, x2⟩ h3 => ?_)
    refine go Tryz.tbs_ok 1000 ?_
    refine ev_stop (go_index0 (sz := 1) Tryz.tbs_ok (.inr 2) (0) rfl rfl rfl rfl rfl rfl (by omega) rfl Row.at0 (fun g4 e5 => ?_))
    subst e5
    refine go Tryz.tbs_ok 1000 ?_
    have l6 : 0 < (W).length := (by omega)
    refine ev_stop (go_loadE Tryz.tbs_ok (.inr 2) (0) 0 rfl rfl rfl rfl (fun _ h => Row.rd h) (by omega) (fun _ => rfl) (by omega) l6 (by decide) ?_)
    refine go Tryz.tbs_ok 1000 ?_
    refine ev_callF (TK ) [] [] rfl rfl (by decide) rfl (by simp) (fun _ => (by repeat (first | exact trivial | refine ⟨rfl, ?_⟩))) (fun _ h7 => ?_)
    refine go Tryz.tbs_ok 1000 ?_
    refine ev_if_no (beq_eq_false_iff_ne.2 (show ¬(↑k : Int) = 0 from (by omega))) ?_
    refine go Tryz.tbs_ok 1000 ?_
    refine ev_if_no (decide_eq_false (show ¬(↑n : Int) < 2 from (by omega))) ?_
    refine go Tryz.tbs_ok 1000 ?_
    refine ev_if_no (decide_eq_false (by with_reducible assumption)) ?_
    refine go Tryz.tbs_ok 1000 ?_
    refine ev_stop (go_loopR [3, 7, 8, 9, 10, 13, 17, 39, 40, 41, 42, 43, 44, 45, 46, 47, 48, 49, 50, 51, 52, 53, 54, 55, 56, 57, 58, 59] (fun (i, C, q, e, _) => [(7, .va (.slice C q e)), (8, .va (.int .i64 (i : Nat)))]) (fun (_, C, q, e, M) => [(0, .fact (Row 3 1 C q e (M.flatMap encN)))]) (fun (i, C, q, e, M) => 1 ≤ i ∧ i ≤ n ∧ q = M.length ∧ q + 1 = i ∧ numsTo ws (i - 1) M) (fun (i, _, _, _, _) => n - i) ((1, none, 0, 0, []) : Nat × Option Addr × Nat × Nat × List Int) ⟨Nat.le_refl _, by omega, rfl, rfl, rfl⟩ ⟨⟨by kernel_rfl, by kernel_rfl⟩, ⟨_, rfl⟩, ⟨_, rfl⟩, by kernel_rfl, by kernel_rfl⟩ (fun x_ h_ => ?_))
    obtain ⟨i, C, q, e, M⟩ := x_
    obtain ⟨hi1, hi, hq, hqi, hM⟩ := h_
    rcases Nat.lt_or_ge i n with hi2 | hi2
    · obtain ⟨hj, hj2⟩ := hW.at_ i (by omega) hi1
      have hle1 := hle i (by omega)
      cases hz : numZ ws[i - 1] with
      | none =>
        have T1 := rNumN (W[i]'(by omega)) (by omega) (by rw [hj2]; exact hz)
        refine go Tryz.tbs_ok 1000 ?_
        refine ev_if_yes (decide_eq_true (show (↑i : Int) < (↑n : Int) from (by omega))) ?_
        refine go Tryz.tbs_ok 1000 ?_
        refine ev_stop (go_atE (sz := 1) Tryz.tbs_ok (i) rfl rfl rfl rfl rfl rfl (by omega) ?_)
        refine go Tryz.tbs_ok 1000 ?_
        have l20 : i < (W).length := (by omega)
        refine ev_stop (go_loadE Tryz.tbs_ok (.inr 2) (i) 0 rfl rfl rfl rfl (fun _ h => Row.rd h) (by omega) (fun _ => rfl) (by omega) l20 (by decide) ?_)
        refine go Tryz.tbs_ok 1000 ?_
        refine ev_callF (T1 ) [] [] rfl rfl (by decide) rfl (by simp) (fun _ => (by repeat (first | exact trivial | refine ⟨rfl, ?_⟩))) (fun _ h21 => ?_)
        refine go Tryz.tbs_ok 1000 ?_
        refine ev_if_yes rfl ?_
        refine go Tryz.tbs_ok 1000 ?_
        refine ev_fin ⟨trivial, _, rfl, (()), rfl, (by trivial), Frm.nil _⟩
      | some z =>
        have T1 := rNumS (W[i]'(by omega)) (by omega) z (by rw [hj2]; exact hz)
        have hnx := hM.next hj hz
        refine go Tryz.tbs_ok 1000 ?_
        refine ev_if_yes (decide_eq_true (show (↑i : Int) < (↑n : Int) from (by omega))) ?_
        refine go Tryz.tbs_ok 1000 ?_
        refine ev_stop (go_atE (sz := 1) Tryz.tbs_ok (i) rfl rfl rfl rfl rfl rfl (by omega) ?_)
        refine go Tryz.tbs_ok 1000 ?_
        have l20 : i < (W).length := (by omega)
        refine ev_stop (go_loadE Tryz.tbs_ok (.inr 2) (i) 0 rfl rfl rfl rfl (fun _ h => Row.rd h) (by omega) (fun _ => rfl) (by omega) l20 (by decide) ?_)
        refine go Tryz.tbs_ok 1000 ?_
        refine ev_callF (T1 ) [] [] rfl rfl (by decide) rfl (by simp) (fun _ => (by repeat (first | exact trivial | refine ⟨rfl, ?_⟩))) (fun _ h21 => ?_)
        refine go Tryz.tbs_ok 1000 ?_
        refine ev_if_no rfl ?_
        refine go Tryz.tbs_ok 1000 ?_
        refine ev_new fun b22 => ?_
        refine ev_stop (go_appendE (sz := 1) (M := [_]) (enc := encN) Tryz.tbs_ok [0] [] (.inr 3) (M) ([z]) ((M) ++ ([z])) (q + 1) rfl rfl rfl rfl rfl rfl rfl (by decide) rfl (by decide) (fun _ p => starH_one.1 p) rfl (fun _ p => Pt.rd p rfl) (by first | rfl | simp) (by first | rfl | omega) (le_app (s := q + 1) (by omega) (by first | rfl | omega)) (le_appb (s := q + 1) (by omega) (by first | rfl | omega) (by decide)) (fun _ _ => (by repeat (first | exact trivial | refine ⟨rfl, ?_⟩))) (fun A23 c24 h25 => ?_))
        refine go Tryz.tbs_ok 1000 ?_
        refine ev_wrapN (i + 1) (by constructor <;> omega) (by rfl) ?_
        refine ev_fin (round_next ((i + 1, A23, q + 1, c24, M ++ [z])) (?_ : 1 ≤ i + 1 ∧ i + 1 ≤ n ∧ q + 1 = (M ++ [z]).length ∧ q + 1 + 1 = i + 1 ∧ numsTo ws (i + 1 - 1) (M ++ [z])) (show n - (i + 1) < n - i from (by omega)) ⟨⟨by kernel_rfl, by kernel_rfl⟩, ⟨_, rfl⟩, ⟨_, rfl⟩, by kernel_rfl, by kernel_rfl⟩)
        exact ⟨by omega, by omega, by rw [List.length_append, hq]; rfl, by omega, by rw [show i + 1 - 1 = i - 1 + 1 by omega]; exact hnx⟩
    · have := hM.all (by omega)
      rw [hns] at this
      cases this
  · refine go Tryz.tbs_ok 1000 ?_
    refine ev_new fun b0 => ?_
    refine ev_callF (TW ) [] [] rfl rfl (by decide) rfl (by simp) (fun _ => (by repeat (first | exact trivial | refine ⟨rfl, ?_⟩))) (fun ⟨x1, x2⟩ h3 => ?_)
    refine go Tryz.tbs_ok 1000 ?_
    refine ev_stop (go_index0 (sz := 1) Tryz.tbs_ok (.inr 2) (0) rfl rfl rfl rfl rfl rfl (by omega) rfl Row.at0 (fun g4 e5 => ?_))
    subst e5
    refine go Tryz.tbs_ok 1000 ?_
    have l6 : 0 < (W).length := (by omega)
    refine ev_stop (go_loadE Tryz.tbs_ok (.inr 2) (0) 0 rfl rfl rfl rfl (fun _ h => Row.rd h) (by omega) (fun _ => rfl) (by omega) l6 (by decide) ?_)
    refine go Tryz.tbs_ok 1000 ?_
    refine ev_callF (TK ) [] [] rfl rfl (by decide) rfl (by simp) (fun _ => (by repeat (first | exact trivial | refine ⟨rfl, ?_⟩))) (fun _ h7 => ?_)
    refine go Tryz.tbs_ok 1000 ?_
    refine ev_if_no (beq_eq_false_iff_ne.2 (show ¬(↑k : Int) = 0 from (by omega))) ?_
    refine go Tryz.tbs_ok 1000 ?_
    refine ev_if_no (decide_eq_false (show ¬(↑n : Int) < 2 from (by omega))) ?_
    refine go Tryz.tbs_ok 1000 ?_
    refine ev_if_yes (decide_eq_true (by with_reducible assumption)) ?_
    refine go Tryz.tbs_ok 1000 ?_
    refine ev_w64 (by constructor <;> omega) ?_
    refine ev_if_no (ne_no (by with_reducible assumption)) ?_
    refine go Tryz.tbs_ok 1000 ?_
    refine ev_stop (go_loopR [3, 7, 8, 9, 10, 13, 17, 39, 40, 41, 42, 43, 44, 45, 46, 47, 48, 49, 50, 51, 52, 53, 54, 55, 56, 57, 58, 59] (fun (i, C, q, e, _) => [(7, .va (.slice C q e)), (8, .va (.int .i64 (i : Nat)))]) (fun (_, C, q, e, M) => [(0, .fact (Row 3 1 C q e (M.flatMap encN)))]) (fun (i, C, q, e, M) => 1 ≤ i ∧ i ≤ n ∧ q = M.length ∧ q + 1 = i ∧ numsTo ws (i - 1) M) (fun (i, _, _, _, _) => n - i) ((1, none, 0, 0, []) : Nat × Option Addr × Nat × Nat × List Int) ⟨Nat.le_refl _, by omega, rfl, rfl, rfl⟩ ⟨⟨by kernel_rfl, by kernel_rfl⟩, ⟨_, rfl⟩, ⟨_, rfl⟩, by kernel_rfl, by kernel_rfl⟩ (fun x_ h_ => ?_))
    obtain ⟨i, C, q, e, M⟩ := x_
    obtain ⟨hi1, hi, hq, hqi, hM⟩ := h_
    rcases Nat.lt_or_ge i n with hi2 | hi2
    · obtain ⟨hj, hj2⟩ := hW.at_ i (by omega) hi1
      have hle1 := hle i (by omega)
      cases hz : numZ ws[i - 1] with
      | none =>
        have T1 := rNumN (W[i]'(by omega)) (by omega) (by rw [hj2]; exact hz)
        refine go Tryz.tbs_ok 1000 ?_
        refine ev_if_yes (decide_eq_true (show (↑i : Int) < (↑n : Int) from (by omega))) ?_
        refine go Tryz.tbs_ok 1000 ?_
        refine ev_stop (go_atE (sz := 1) Tryz.tbs_ok (i) rfl rfl rfl rfl rfl rfl (by omega) ?_)
        refine go Tryz.tbs_ok 1000 ?_
        have l20 : i < (W).length := (by omega)
        refine ev_stop (go_loadE Tryz.tbs_ok (.inr 2) (i) 0 rfl rfl rfl rfl (fun _ h => Row.rd h) (by omega) (fun _ => rfl) (by omega) l20 (by decide) ?_)
        refine go Tryz.tbs_ok 1000 ?_
        refine ev_callF (T1 ) [] [] rfl rfl (by decide) rfl (by simp) (fun _ => (by repeat (first | exact trivial | refine ⟨rfl, ?_⟩))) (fun _ h21 => ?_)
        refine go Tryz.tbs_ok 1000 ?_
        refine ev_if_yes rfl ?_
        refine go Tryz.tbs_ok 1000 ?_
        refine ev_fin ⟨trivial, _, rfl, (()), rfl, (by trivial), Frm.nil _⟩
      | some z =>
        have T1 := rNumS (W[i]'(by omega)) (by omega) z (by rw [hj2]; exact hz)
        have hnx := hM.next hj hz
        refine go Tryz.tbs_ok 1000 ?_
        refine ev_if_yes (decide_eq_true (show (↑i : Int) < (↑n : Int) from (by omega))) ?_
        refine go Tryz.tbs_ok 1000 ?_
        refine ev_stop (go_atE (sz := 1) Tryz.tbs_ok (i) rfl rfl rfl rfl rfl rfl (by omega) ?_)
        refine go Tryz.tbs_ok 1000 ?_
        have l20 : i < (W).length := (by omega)
        refine ev_stop (go_loadE Tryz.tbs_ok (.inr 2) (i) 0 rfl rfl rfl rfl (fun _ h => Row.rd h) (by omega) (fun _ => rfl) (by omega) l20 (by decide) ?_)
        refine go Tryz.tbs_ok 1000 ?_
        refine ev_callF (T1 ) [] [] rfl rfl (by decide) rfl (by simp) (fun _ => (by repeat (first | exact trivial | refine ⟨rfl, ?_⟩))) (fun _ h21 => ?_)
        refine go Tryz.tbs_ok 1000 ?_
        refine ev_if_no rfl ?_
        refine go Tryz.tbs_ok 1000 ?_
        refine ev_new fun b22 => ?_
        refine ev_stop (go_appendE (sz := 1) (M := [_]) (enc := encN) Tryz.tbs_ok [0] [] (.inr 3) (M) ([z]) ((M) ++ ([z])) (q + 1) rfl rfl rfl rfl rfl rfl rfl (by decide) rfl (by decide) (fun _ p => starH_one.1 p) rfl (fun _ p => Pt.rd p rfl) (by first | rfl | simp) (by first | rfl | omega) (le_app (s := q + 1) (by omega) (by first | rfl | omega)) (le_appb (s := q + 1) (by omega) (by first | rfl | omega) (by decide)) (fun _ _ => (by repeat (first | exact trivial | refine ⟨rfl, ?_⟩))) (fun A23 c24 h25 => ?_))
        refine go Tryz.tbs_ok 1000 ?_
        refine ev_wrapN (i + 1) (by constructor <;> omega) (by rfl) ?_
        refine ev_fin (round_next ((i + 1, A23, q + 1, c24, M ++ [z])) (?_ : 1 ≤ i + 1 ∧ i + 1 ≤ n ∧ q + 1 = (M ++ [z]).length ∧ q + 1 + 1 = i + 1 ∧ numsTo ws (i + 1 - 1) (M ++ [z])) (show n - (i + 1) < n - i from (by omega)) ⟨⟨by kernel_rfl, by kernel_rfl⟩, ⟨_, rfl⟩, ⟨_, rfl⟩, by kernel_rfl, by kernel_rfl⟩)
        exact ⟨by omega, by omega, by rw [List.length_append, hq]; rfl, by omega, by rw [show i + 1 - 1 = i - 1 + 1 by omega]; exact hnx⟩
    · have := hM.all (by omega)
      rw [hns] at this
      cases this
end Go.Proofs.YtaiialpdlobioaaGreatDoor
namespace Go.Proofs.YtaiialpdlobioaaGreatDoor
open Go.Sy Go.RowKit
theorem lay_keep (k : Int) (n : List Int) (h : k ≠ 10) : (layZ k n).keep = [] := by
  unfold layZ
  repeat' split
  all_goals first | rfl | omega
set_option maxHeartbeats 16000000 in
set_option maxRecDepth 100000 in
theorem rReadY (x : ByteArray) (hx9 : x.size ≤ 1000000) (s : Stp) (hR : readB x = some s) : Triple Tryz.prog 25 [.string x] [] [] (Option Addr × Nat) (fun (C, e) => .tuple #[.agg (stpC s C e).toArray, .bool true]) (fun _ => True) (fun (C, _) => [Rd 1 C s.keep.length (s.keep.flatMap encN)]) := by
  obtain ⟨W, w, ws, hW⟩ := wds_of x
  have TW := rWords x hx9
  have TK := rKind w
  rw [hW.all] at TW
  obtain ⟨n, hn⟩ : ∃ n, n = W.length := ⟨_, rfl⟩
  obtain ⟨k, hk⟩ : ∃ k, k = kindB w := ⟨_, rfl⟩
  obtain ⟨m, hm⟩ : ∃ m, m = manyK k := ⟨_, rfl⟩
  have hk12 := kind_le w
  obtain ⟨h0, hW0⟩ := hW.fst
  have hlen := hW.len
  have hnum := hW.num
  have hle := fun i h => Nat.le_trans (hW.le i h) hx9
  rw [readB, hW.l, readW, show mkB w.data.toList = w from rfl, ← hk, ← hm] at hR
  rw [← hk, ← hm, ← hW0] at TK
  rw [← hn] at TW
  rw [← hk] at hk12
  obtain ⟨M, hM, hs, hk0, hn2, hm2⟩ : ∃ M, numsZ ws = some M ∧ s = layZ k M ∧ k ≠ 0 ∧ 2 ≤ n ∧ (0 ≤ m → (n : Int) = m + 1) := by
    split at hR
    · cases hR
    · rename_i hc
      obtain ⟨⟨k', M⟩, h1, h2⟩ := Option.map_eq_some_iff.1 hR
      obtain ⟨M', h3, h4⟩ := Option.map_eq_some_iff.1 h1
      obtain ⟨rfl, rfl⟩ := Prod.mk.inj h4
      refine ⟨M', h3, h2.symm, fun q => hc (.inl q), ?_, fun q => ?_⟩
      · have : ws.length ≠ 0 := fun e => hc (.inr (.inl (List.eq_nil_of_length_eq_zero e)))
        omega
      · have : ¬ (ws.length : Int) ≠ m := fun e => hc (.inr (.inr ⟨q, e⟩))
        omega
  have hMl : M.length + 1 = n := by
    have := (nums_spec hM).1
    rw [hn, hlen, this, List.length_map]
  have hkm := many_of k hk0 hk12
  rw [← hm] at hkm
  clear hR hm hk
  refine triple_intro Tryz.tbs_ok Tryz.func25 rfl [.va (.string x)] [] ⟨trivial, trivial⟩ rfl (by simp) ?_
  intro E
  refine go_fact (Row 3 1 none 0 0 (([] : List Int).flatMap encN)) (Row.nilE _ _) ?_
  refine go_fact (Rd 1 none 0 (([] : List Int).flatMap encN)) (fun h => Row.rd (Row.nilE 3 1 h)) ?_
  rcases hkm with ⟨rfl, rfl⟩ | hkm
  · refine go Tryz.tbs_ok 1000 ?_
    refine ev_new fun b0 => ?_
    refine ev_callF (TW ) [] [] rfl rfl (by decide) rfl (by simp) (fun _ => (by repeat (first | exact trivial | refine ⟨rfl, ?_⟩))) (fun ⟨x1, x2⟩ h3 => ?_)
    refine go Tryz.tbs_ok 1000 ?_
    refine ev_stop (go_index0 (sz := 1) Tryz.tbs_ok (.inr 3) (0) rfl rfl rfl rfl rfl rfl (by omega) rfl Row.at0 (fun g4 e5 => ?_))
    subst e5
    refine go Tryz.tbs_ok 1000 ?_
    have l6 : 0 < (W).length := (by omega)
    refine ev_stop (go_loadE Tryz.tbs_ok (.inr 3) (0) 0 rfl rfl rfl rfl (fun _ h => Row.rd h) (by omega) (fun _ => rfl) (by omega) l6 (by decide) ?_)
    refine go Tryz.tbs_ok 1000 ?_
    refine ev_callF (TK ) [] [] rfl rfl (by decide) rfl (by simp) (fun _ => (by repeat (first | exact trivial | refine ⟨rfl, ?_⟩))) (fun _ h7 => ?_)
    refine go Tryz.tbs_ok 1000 ?_
    refine ev_if_no rfl ?_
    refine go Tryz.tbs_ok 1000 ?_
    refine ev_if_no (decide_eq_false (show ¬(↑n : Int) < 2 from (by omega))) ?_
    refine go Tryz.tbs_ok 1000 ?_
    refine ev_if_no rfl ?_
    refine go Tryz.tbs_ok 1000 ?_
    refine ev_stop (go_loopR [3, 7, 8, 9, 10, 13, 17, 39, 40, 41, 42, 43, 44, 45, 46, 47, 48, 49, 50, 51, 52, 53, 54, 55, 56, 57, 58, 59] (fun (i, C, q, e, _) => [(7, .va (.slice C q e)), (8, .va (.int .i64 (i : Nat)))]) (fun (_, C, q, e, N) => [(0, .fact (Row 3 1 C q e (N.flatMap encN)))]) (fun (i, C, q, e, N) => 1 ≤ i ∧ i ≤ n ∧ q = N.length ∧ q + 1 = i ∧ numsTo ws (i - 1) N ∧ q ≤ e) (fun (i, _, _, _, _) => n - i) ((1, none, 0, 0, []) : Nat × Option Addr × Nat × Nat × List Int) ⟨Nat.le_refl _, by omega, rfl, rfl, rfl, Nat.le_refl _⟩ ⟨⟨by kernel_rfl, by kernel_rfl⟩, ⟨_, rfl⟩, ⟨_, rfl⟩, by kernel_rfl, by kernel_rfl⟩ (fun x_ h_ => ?_))
    obtain ⟨i, C, q, e, N⟩ := x_
    obtain ⟨hi1, hi, hq, hqi, hN, hqe⟩ := h_
    rcases Nat.lt_or_ge i n with hi2 | hi2
    · obtain ⟨hj, hj2⟩ := hW.at_ i (by omega) hi1
      have hle1 := hle i (by omega)
      cases hz : numZ ws[i - 1] with
      | none =>
        have := hN.no hj hz
        rw [hM] at this
        cases this
      | some z =>
        have T1 := rNumS (W[i]'(by omega)) (by omega) z (by rw [hj2]; exact hz)
        have hnx := hN.next hj hz
        refine go Tryz.tbs_ok 1000 ?_
        refine ev_if_yes (decide_eq_true (show (↑i : Int) < (↑n : Int) from (by omega))) ?_
        refine go Tryz.tbs_ok 1000 ?_
        refine ev_stop (go_atE (sz := 1) Tryz.tbs_ok (i) rfl rfl rfl rfl rfl rfl (by omega) ?_)
        refine go Tryz.tbs_ok 1000 ?_
        have l20 : i < (W).length := (by omega)
        refine ev_stop (go_loadE Tryz.tbs_ok (.inr 3) (i) 0 rfl rfl rfl rfl (fun _ h => Row.rd h) (by omega) (fun _ => rfl) (by omega) l20 (by decide) ?_)
        refine go Tryz.tbs_ok 1000 ?_
        refine ev_callF (T1 ) [] [] rfl rfl (by decide) rfl (by simp) (fun _ => (by repeat (first | exact trivial | refine ⟨rfl, ?_⟩))) (fun _ h21 => ?_)
        refine go Tryz.tbs_ok 1000 ?_
        refine ev_if_no rfl ?_
        refine go Tryz.tbs_ok 1000 ?_
        refine ev_new fun b22 => ?_
        refine ev_stop (go_appendE (sz := 1) (M := [_]) (enc := encN) Tryz.tbs_ok [0] [] (.inr 4) (N) ([z]) ((N) ++ ([z])) (q + 1) rfl rfl rfl rfl rfl rfl rfl (by decide) rfl (by decide) (fun _ p => starH_one.1 p) rfl (fun _ p => Pt.rd p rfl) (by first | rfl | simp) (by first | rfl | omega) (le_app (s := q + 1) (by omega) (by first | rfl | omega)) (le_appb (s := q + 1) (by omega) (by first | rfl | omega) (by decide)) (fun _ _ => (by repeat (first | exact trivial | refine ⟨rfl, ?_⟩))) (fun A23 c24 h25 => ?_))
        refine go Tryz.tbs_ok 1000 ?_
        refine ev_wrapN (i + 1) (by constructor <;> omega) (by rfl) ?_
        refine ev_fin (round_next ((i + 1, A23, q + 1, c24, N ++ [z])) (?_ : 1 ≤ i + 1 ∧ i + 1 ≤ n ∧ q + 1 = (N ++ [z]).length ∧ q + 1 + 1 = i + 1 ∧ numsTo ws (i + 1 - 1) (N ++ [z]) ∧ q + 1 ≤ c24) (show n - (i + 1) < n - i from (by omega)) ⟨⟨by kernel_rfl, by kernel_rfl⟩, ⟨_, rfl⟩, ⟨_, rfl⟩, by kernel_rfl, by kernel_rfl⟩)
        exact ⟨by omega, by omega, by rw [List.length_append, hq]; rfl, by omega, by rw [show i + 1 - 1 = i - 1 + 1 by omega]; exact hnx, by assumption⟩
    obtain rfl : M = N := Option.some.inj (hM.symm.trans (hN.all (by omega)))
    obtain ⟨a, T, rfl⟩ : ∃ a T, M = a :: T := by
      cases M with
      | nil => simp at hMl; omega
      | cons a T => exact ⟨a, T, rfl⟩
    obtain rfl : s = ⟨10, a, 0, 0, 0, 0, 0, 0, 0, T⟩ := hs
    subst hq
    refine go Tryz.tbs_ok 1000 ?_
    refine ev_if_no (decide_eq_false (show ¬(↑i : Int) < (↑n : Int) from (by omega))) ?_
    refine go Tryz.tbs_ok 1000 ?_
    refine ev_fin (go Tryz.tbs_ok 1000 ?_)
    refine ev_if_no rfl ?_
    refine go Tryz.tbs_ok 1000 ?_
    refine ev_if_no rfl ?_
    refine go Tryz.tbs_ok 1000 ?_
    refine ev_if_no rfl ?_
    refine go Tryz.tbs_ok 1000 ?_
    refine ev_if_no rfl ?_
    refine go Tryz.tbs_ok 1000 ?_
    refine ev_if_no rfl ?_
    refine go Tryz.tbs_ok 1000 ?_
    refine ev_if_no rfl ?_
    refine go Tryz.tbs_ok 1000 ?_
    refine ev_if_no rfl ?_
    refine go Tryz.tbs_ok 1000 ?_
    refine ev_if_yes rfl ?_
    refine go Tryz.tbs_ok 1000 ?_
    refine ev_stop (go_draw Tryz.tbs_ok false [0] [(0,true),(1,true),(2,true),(3,true),(4,true),(5,true),(6,true),(7,false),(8,false)] rfl ?_)
    refine go Tryz.tbs_ok 1000 ?_
    refine ev_need ⟨⟨(by repeat (first | exact trivial | refine ⟨rfl, ?_⟩)), rfl⟩, by kernel_rfl⟩ ?_
    refine ev_stop (tk_index0 (sz := 1) Tryz.tbs_ok (.inr 0) (0) ⟨⟨(by repeat (first | exact trivial | refine ⟨rfl, ?_⟩)), rfl⟩, by kernel_rfl⟩ rfl rfl rfl rfl rfl rfl rfl (by omega) rfl Row.at0 (fun g60 e61 => ?_))
    subst e61
    refine go Tryz.tbs_ok 1000 ?_
    refine ev_need ⟨⟨(by repeat (first | exact trivial | refine ⟨rfl, ?_⟩)), rfl⟩, by kernel_rfl⟩ ?_
    have l62 : 0 < (a :: T).length := (by omega)
    refine ev_stop (tk_loadE Tryz.tbs_ok (.inr 0) (0) 0 ⟨⟨(by repeat (first | exact trivial | refine ⟨rfl, ?_⟩)), rfl⟩, by kernel_rfl⟩ rfl rfl rfl rfl rfl (fun _ h => Row.rd h) (by omega) (fun _ => rfl) (by omega) l62 (by decide) ?_)
    refine go Tryz.tbs_ok 1000 ?_
    refine ev_need ⟨⟨(by repeat (first | exact trivial | refine ⟨rfl, ?_⟩)), rfl⟩, by kernel_rfl⟩ ?_
    refine ev_stop (tk_back Tryz.tbs_ok (1) ((a :: T).length) (e) ⟨⟨(by repeat (first | exact trivial | refine ⟨rfl, ?_⟩)), rfl⟩, by kernel_rfl⟩ rfl rfl rfl rfl rfl rfl ⟨_, rfl⟩ rfl rfl (by decide) (by omega) (by omega) (by omega) ?_)
    refine go Tryz.tbs_ok 1000 ?_
    refine ev_need ⟨⟨(by repeat (first | exact trivial | refine ⟨rfl, ?_⟩)), rfl⟩, by kernel_rfl⟩ ?_
    refine ev_need ⟨⟨(by repeat (first | exact trivial | refine ⟨rfl, ?_⟩)), rfl⟩, by kernel_rfl⟩ ?_
    refine ev_need (by kernel_rfl) ?_
    refine ev_fin ⟨trivial, _, rfl, (backA (some ⟨g60, 0, none⟩) e 1 1, e - 1), rfl, trivial, Frm.imp (M := [Row 3 1 (some ⟨g60, 0, none⟩) (a :: T).length e ((a :: T).flatMap encN)]) [0] rfl (by decide) (fun h p => starH_one.2 ?_)⟩
    have := rd_part (lo := 1) (m := T.length) (mx := e) (L := a :: T) (enc := encN) (sz := 1) (fun _ => rfl) (Row.rd (starH_one.1 p)) (by simp; omega) (by simp at hqe; omega)
    rw [List.take_of_length_le (by simp; omega)] at this
    exact this
  · have hm0 : 0 < m ∧ m ≤ 6 := by omega
    have hnm : (n : Int) = m + 1 := hm2 (by omega)
    obtain ⟨hm3, hm4⟩ := hm0
    clear hm2
    refine go Tryz.tbs_ok 1000 ?_
    refine ev_new fun b0 => ?_
    refine ev_callF (TW ) [] [] rfl rfl (by decide) rfl (by simp) (fun _ => (by repeat (first | exact trivial | refine ⟨rfl, ?_⟩))) (fun ⟨x1, x2⟩ h3 => ?_)
    refine go Tryz.tbs_ok 1000 ?_
    refine ev_stop (go_index0 (sz := 1) Tryz.tbs_ok (.inr 3) (0) rfl rfl rfl rfl rfl rfl (by omega) rfl Row.at0 (fun g4 e5 => ?_))
    subst e5
    refine go Tryz.tbs_ok 1000 ?_
    have l6 : 0 < (W).length := (by omega)
    refine ev_stop (go_loadE Tryz.tbs_ok (.inr 3) (0) 0 rfl rfl rfl rfl (fun _ h => Row.rd h) (by omega) (fun _ => rfl) (by omega) l6 (by decide) ?_)
    refine go Tryz.tbs_ok 1000 ?_
    refine ev_callF (TK ) [] [] rfl rfl (by decide) rfl (by simp) (fun _ => (by repeat (first | exact trivial | refine ⟨rfl, ?_⟩))) (fun _ h7 => ?_)
    refine go Tryz.tbs_ok 1000 ?_
    refine ev_if_no (beq_eq_false_iff_ne.2 (show ¬(↑k : Int) = 0 from (by omega))) ?_
    refine go Tryz.tbs_ok 1000 ?_
    refine ev_if_no (decide_eq_false (show ¬(↑n : Int) < 2 from (by omega))) ?_
    refine go Tryz.tbs_ok 1000 ?_
    refine ev_if_yes (decide_eq_true (by with_reducible assumption)) ?_
    refine go Tryz.tbs_ok 1000 ?_
    refine ev_w64 (by constructor <;> omega) ?_
    refine ev_if_no (ne_no (by with_reducible assumption)) ?_
    refine go Tryz.tbs_ok 1000 ?_
    refine ev_stop (go_loopR [3, 7, 8, 9, 10, 13, 17, 39, 40, 41, 42, 43, 44, 45, 46, 47, 48, 49, 50, 51, 52, 53, 54, 55, 56, 57, 58, 59] (fun (i, C, q, e, _) => [(7, .va (.slice C q e)), (8, .va (.int .i64 (i : Nat)))]) (fun (_, C, q, e, N) => [(0, .fact (Row 3 1 C q e (N.flatMap encN)))]) (fun (i, C, q, e, N) => 1 ≤ i ∧ i ≤ n ∧ q = N.length ∧ q + 1 = i ∧ numsTo ws (i - 1) N) (fun (i, _, _, _, _) => n - i) ((1, none, 0, 0, []) : Nat × Option Addr × Nat × Nat × List Int) ⟨Nat.le_refl _, by omega, rfl, rfl, rfl⟩ ⟨⟨by kernel_rfl, by kernel_rfl⟩, ⟨_, rfl⟩, ⟨_, rfl⟩, by kernel_rfl, by kernel_rfl⟩ (fun x_ h_ => ?_))
    obtain ⟨i, C, q, e, N⟩ := x_
    obtain ⟨hi1, hi, hq, hqi, hN⟩ := h_
    rcases Nat.lt_or_ge i n with hi2 | hi2
    · obtain ⟨hj, hj2⟩ := hW.at_ i (by omega) hi1
      have hle1 := hle i (by omega)
      cases hz : numZ ws[i - 1] with
      | none =>
        have := hN.no hj hz
        rw [hM] at this
        cases this
      | some z =>
        have T1 := rNumS (W[i]'(by omega)) (by omega) z (by rw [hj2]; exact hz)
        have hnx := hN.next hj hz
        refine go Tryz.tbs_ok 1000 ?_
        refine ev_if_yes (decide_eq_true (show (↑i : Int) < (↑n : Int) from (by omega))) ?_
        refine go Tryz.tbs_ok 1000 ?_
        refine ev_stop (go_atE (sz := 1) Tryz.tbs_ok (i) rfl rfl rfl rfl rfl rfl (by omega) ?_)
        refine go Tryz.tbs_ok 1000 ?_
        have l20 : i < (W).length := (by omega)
        refine ev_stop (go_loadE Tryz.tbs_ok (.inr 3) (i) 0 rfl rfl rfl rfl (fun _ h => Row.rd h) (by omega) (fun _ => rfl) (by omega) l20 (by decide) ?_)
        refine go Tryz.tbs_ok 1000 ?_
        refine ev_callF (T1 ) [] [] rfl rfl (by decide) rfl (by simp) (fun _ => (by repeat (first | exact trivial | refine ⟨rfl, ?_⟩))) (fun _ h21 => ?_)
        refine go Tryz.tbs_ok 1000 ?_
        refine ev_if_no rfl ?_
        refine go Tryz.tbs_ok 1000 ?_
        refine ev_new fun b22 => ?_
        refine ev_stop (go_appendE (sz := 1) (M := [_]) (enc := encN) Tryz.tbs_ok [0] [] (.inr 4) (N) ([z]) ((N) ++ ([z])) (q + 1) rfl rfl rfl rfl rfl rfl rfl (by decide) rfl (by decide) (fun _ p => starH_one.1 p) rfl (fun _ p => Pt.rd p rfl) (by first | rfl | simp) (by first | rfl | omega) (le_app (s := q + 1) (by omega) (by first | rfl | omega)) (le_appb (s := q + 1) (by omega) (by first | rfl | omega) (by decide)) (fun _ _ => (by repeat (first | exact trivial | refine ⟨rfl, ?_⟩))) (fun A23 c24 h25 => ?_))
        refine go Tryz.tbs_ok 1000 ?_
        refine ev_wrapN (i + 1) (by constructor <;> omega) (by rfl) ?_
        refine ev_fin (round_next ((i + 1, A23, q + 1, c24, N ++ [z])) (?_ : 1 ≤ i + 1 ∧ i + 1 ≤ n ∧ q + 1 = (N ++ [z]).length ∧ q + 1 + 1 = i + 1 ∧ numsTo ws (i + 1 - 1) (N ++ [z])) (show n - (i + 1) < n - i from (by omega)) ⟨⟨by kernel_rfl, by kernel_rfl⟩, ⟨_, rfl⟩, ⟨_, rfl⟩, by kernel_rfl, by kernel_rfl⟩)
        exact ⟨by omega, by omega, by rw [List.length_append, hq]; rfl, by omega, by rw [show i + 1 - 1 = i - 1 + 1 by omega]; exact hnx⟩
    obtain rfl : M = N := Option.some.inj (hM.symm.trans (hN.all (by omega)))
    have hqm : (q : Int) = m := by omega
    rcases hkm with ⟨rfl, rfl⟩ | ⟨rfl, rfl⟩ | ⟨hkm, rfl⟩ | ⟨hkm, rfl⟩
    · obtain rfl : q = 6 := by omega
      obtain ⟨a, b, c, d, f, g, rfl⟩ : ∃ a b c d f g, M = [a, b, c, d, f, g] := by
        match M, hq.symm with
        | [a, b, c, d, f, g], _ => exact ⟨a, b, c, d, f, g, rfl⟩
      obtain rfl : s = ⟨1, a, 0, 0, b, c, d, f, g, []⟩ := hs
      refine go Tryz.tbs_ok 1000 ?_
      refine ev_if_no (decide_eq_false (show ¬(↑i : Int) < (↑n : Int) from (by omega))) ?_
      refine go Tryz.tbs_ok 1000 ?_
      refine ev_fin (go Tryz.tbs_ok 1000 ?_)
      refine ev_if_no rfl ?_
      refine go Tryz.tbs_ok 1000 ?_
      refine ev_if_no rfl ?_
      refine go Tryz.tbs_ok 1000 ?_
      refine ev_if_no rfl ?_
      refine go Tryz.tbs_ok 1000 ?_
      refine ev_if_yes rfl ?_
      refine go Tryz.tbs_ok 1000 ?_
      refine ev_stop (go_draw Tryz.tbs_ok false [0] [(0,true),(1,true),(2,true),(3,true),(4,true),(5,true),(6,true),(7,true),(8,true),(9,true),(10,true),(11,true),(12,true),(13,true),(14,true),(15,true),(16,true),(17,true),(18,true),(19,true),(20,true),(21,false),(22,false)] rfl ?_)
      refine go Tryz.tbs_ok 1000 ?_
      refine ev_need ⟨⟨(by repeat (first | exact trivial | refine ⟨rfl, ?_⟩)), rfl⟩, by kernel_rfl⟩ ?_
      refine ev_stop (tk_index0 (sz := 1) Tryz.tbs_ok (.inr 0) (0) ⟨⟨(by repeat (first | exact trivial | refine ⟨rfl, ?_⟩)), rfl⟩, by kernel_rfl⟩ rfl rfl rfl rfl rfl rfl rfl (by omega) rfl Row.at0 (fun g60 e61 => ?_))
      subst e61
      refine go Tryz.tbs_ok 1000 ?_
      refine ev_need ⟨⟨(by repeat (first | exact trivial | refine ⟨rfl, ?_⟩)), rfl⟩, by kernel_rfl⟩ ?_
      have l62 : 0 < ([a, b, c, d, f, g]).length := (by omega)
      refine ev_stop (tk_loadE Tryz.tbs_ok (.inr 0) (0) 0 ⟨⟨(by repeat (first | exact trivial | refine ⟨rfl, ?_⟩)), rfl⟩, by kernel_rfl⟩ rfl rfl rfl rfl rfl (fun _ h => Row.rd h) (by omega) (fun _ => rfl) (by omega) l62 (by decide) ?_)
      refine go Tryz.tbs_ok 1000 ?_
      refine ev_need ⟨⟨(by repeat (first | exact trivial | refine ⟨rfl, ?_⟩)), rfl⟩, by kernel_rfl⟩ ?_
      refine ev_stop (tk_atE (sz := 1) Tryz.tbs_ok (1) ⟨⟨(by repeat (first | exact trivial | refine ⟨rfl, ?_⟩)), rfl⟩, by kernel_rfl⟩ rfl rfl rfl rfl rfl rfl rfl (by omega) ?_)
      refine go Tryz.tbs_ok 1000 ?_
      refine ev_need ⟨⟨(by repeat (first | exact trivial | refine ⟨rfl, ?_⟩)), rfl⟩, by kernel_rfl⟩ ?_
      have l63 : 1 < ([a, b, c, d, f, g]).length := (by omega)
      refine ev_stop (tk_loadE Tryz.tbs_ok (.inr 0) (1) 0 ⟨⟨(by repeat (first | exact trivial | refine ⟨rfl, ?_⟩)), rfl⟩, by kernel_rfl⟩ rfl rfl rfl rfl rfl (fun _ h => Row.rd h) (by omega) (fun _ => rfl) (by omega) l63 (by decide) ?_)
      refine go Tryz.tbs_ok 1000 ?_
      refine ev_need ⟨⟨(by repeat (first | exact trivial | refine ⟨rfl, ?_⟩)), rfl⟩, by kernel_rfl⟩ ?_
      refine ev_stop (tk_atE (sz := 1) Tryz.tbs_ok (2) ⟨⟨(by repeat (first | exact trivial | refine ⟨rfl, ?_⟩)), rfl⟩, by kernel_rfl⟩ rfl rfl rfl rfl rfl rfl rfl (by omega) ?_)
      refine go Tryz.tbs_ok 1000 ?_
      refine ev_need ⟨⟨(by repeat (first | exact trivial | refine ⟨rfl, ?_⟩)), rfl⟩, by kernel_rfl⟩ ?_
      have l64 : 2 < ([a, b, c, d, f, g]).length := (by omega)
      refine ev_stop (tk_loadE Tryz.tbs_ok (.inr 0) (2) 0 ⟨⟨(by repeat (first | exact trivial | refine ⟨rfl, ?_⟩)), rfl⟩, by kernel_rfl⟩ rfl rfl rfl rfl rfl (fun _ h => Row.rd h) (by omega) (fun _ => rfl) (by omega) l64 (by decide) ?_)
      refine go Tryz.tbs_ok 1000 ?_
      refine ev_need ⟨⟨(by repeat (first | exact trivial | refine ⟨rfl, ?_⟩)), rfl⟩, by kernel_rfl⟩ ?_
      refine ev_stop (tk_atE (sz := 1) Tryz.tbs_ok (3) ⟨⟨(by repeat (first | exact trivial | refine ⟨rfl, ?_⟩)), rfl⟩, by kernel_rfl⟩ rfl rfl rfl rfl rfl rfl rfl (by omega) ?_)
      refine go Tryz.tbs_ok 1000 ?_
      refine ev_need ⟨⟨(by repeat (first | exact trivial | refine ⟨rfl, ?_⟩)), rfl⟩, by kernel_rfl⟩ ?_
      have l65 : 3 < ([a, b, c, d, f, g]).length := (by omega)
      refine ev_stop (tk_loadE Tryz.tbs_ok (.inr 0) (3) 0 ⟨⟨(by repeat (first | exact trivial | refine ⟨rfl, ?_⟩)), rfl⟩, by kernel_rfl⟩ rfl rfl rfl rfl rfl (fun _ h => Row.rd h) (by omega) (fun _ => rfl) (by omega) l65 (by decide) ?_)
      refine go Tryz.tbs_ok 1000 ?_
      refine ev_need ⟨⟨(by repeat (first | exact trivial | refine ⟨rfl, ?_⟩)), rfl⟩, by kernel_rfl⟩ ?_
      refine ev_stop (tk_atE (sz := 1) Tryz.tbs_ok (4) ⟨⟨(by repeat (first | exact trivial | refine ⟨rfl, ?_⟩)), rfl⟩, by kernel_rfl⟩ rfl rfl rfl rfl rfl rfl rfl (by omega) ?_)
      refine go Tryz.tbs_ok 1000 ?_
      refine ev_need ⟨⟨(by repeat (first | exact trivial | refine ⟨rfl, ?_⟩)), rfl⟩, by kernel_rfl⟩ ?_
      have l66 : 4 < ([a, b, c, d, f, g]).length := (by omega)
      refine ev_stop (tk_loadE Tryz.tbs_ok (.inr 0) (4) 0 ⟨⟨(by repeat (first | exact trivial | refine ⟨rfl, ?_⟩)), rfl⟩, by kernel_rfl⟩ rfl rfl rfl rfl rfl (fun _ h => Row.rd h) (by omega) (fun _ => rfl) (by omega) l66 (by decide) ?_)
      refine go Tryz.tbs_ok 1000 ?_
      refine ev_need ⟨⟨(by repeat (first | exact trivial | refine ⟨rfl, ?_⟩)), rfl⟩, by kernel_rfl⟩ ?_
      refine ev_stop (tk_atE (sz := 1) Tryz.tbs_ok (5) ⟨⟨(by repeat (first | exact trivial | refine ⟨rfl, ?_⟩)), rfl⟩, by kernel_rfl⟩ rfl rfl rfl rfl rfl rfl rfl (by omega) ?_)
      refine go Tryz.tbs_ok 1000 ?_
      refine ev_need ⟨⟨(by repeat (first | exact trivial | refine ⟨rfl, ?_⟩)), rfl⟩, by kernel_rfl⟩ ?_
      have l67 : 5 < ([a, b, c, d, f, g]).length := (by omega)
      refine ev_stop (tk_loadE Tryz.tbs_ok (.inr 0) (5) 0 ⟨⟨(by repeat (first | exact trivial | refine ⟨rfl, ?_⟩)), rfl⟩, by kernel_rfl⟩ rfl rfl rfl rfl rfl (fun _ h => Row.rd h) (by omega) (fun _ => rfl) (by omega) l67 (by decide) ?_)
      refine go Tryz.tbs_ok 1000 ?_
      refine ev_need ⟨⟨(by repeat (first | exact trivial | refine ⟨rfl, ?_⟩)), rfl⟩, by kernel_rfl⟩ ?_
      refine ev_need ⟨⟨(by repeat (first | exact trivial | refine ⟨rfl, ?_⟩)), rfl⟩, by kernel_rfl⟩ ?_
      refine ev_need (by kernel_rfl) ?_
      refine ev_fin ⟨trivial, _, rfl, ((none, 0)), rfl, (by trivial), Frm.sel [1] rfl (by decide)⟩
    · obtain rfl : q = 2 := by omega
      obtain ⟨a, b, rfl⟩ : ∃ a b, M = [a, b] := by
        match M, hq.symm with
        | [a, b], _ => exact ⟨a, b, rfl⟩
      obtain rfl : s = ⟨7, a, b, 0, 0, 0, 0, 0, 0, []⟩ := hs
      refine go Tryz.tbs_ok 1000 ?_
      refine ev_if_no (decide_eq_false (show ¬(↑i : Int) < (↑n : Int) from (by omega))) ?_
      refine go Tryz.tbs_ok 1000 ?_
      refine ev_fin (go Tryz.tbs_ok 1000 ?_)
      refine ev_if_no rfl ?_
      refine go Tryz.tbs_ok 1000 ?_
      refine ev_if_no rfl ?_
      refine go Tryz.tbs_ok 1000 ?_
      refine ev_if_no rfl ?_
      refine go Tryz.tbs_ok 1000 ?_
      refine ev_if_no rfl ?_
      refine go Tryz.tbs_ok 1000 ?_
      refine ev_if_yes rfl ?_
      refine go Tryz.tbs_ok 1000 ?_
      refine ev_stop (go_draw Tryz.tbs_ok false [0] [(0,true),(1,true),(2,true),(3,true),(4,true),(5,true),(6,true),(7,true),(8,false),(9,false)] rfl ?_)
      refine go Tryz.tbs_ok 1000 ?_
      refine ev_need ⟨⟨(by repeat (first | exact trivial | refine ⟨rfl, ?_⟩)), rfl⟩, by kernel_rfl⟩ ?_
      refine ev_stop (tk_index0 (sz := 1) Tryz.tbs_ok (.inr 0) (0) ⟨⟨(by repeat (first | exact trivial | refine ⟨rfl, ?_⟩)), rfl⟩, by kernel_rfl⟩ rfl rfl rfl rfl rfl rfl rfl (by omega) rfl Row.at0 (fun g60 e61 => ?_))
      subst e61
      refine go Tryz.tbs_ok 1000 ?_
      refine ev_need ⟨⟨(by repeat (first | exact trivial | refine ⟨rfl, ?_⟩)), rfl⟩, by kernel_rfl⟩ ?_
      have l62 : 0 < ([a, b]).length := (by omega)
      refine ev_stop (tk_loadE Tryz.tbs_ok (.inr 0) (0) 0 ⟨⟨(by repeat (first | exact trivial | refine ⟨rfl, ?_⟩)), rfl⟩, by kernel_rfl⟩ rfl rfl rfl rfl rfl (fun _ h => Row.rd h) (by omega) (fun _ => rfl) (by omega) l62 (by decide) ?_)
      refine go Tryz.tbs_ok 1000 ?_
      refine ev_need ⟨⟨(by repeat (first | exact trivial | refine ⟨rfl, ?_⟩)), rfl⟩, by kernel_rfl⟩ ?_
      refine ev_stop (tk_atE (sz := 1) Tryz.tbs_ok (1) ⟨⟨(by repeat (first | exact trivial | refine ⟨rfl, ?_⟩)), rfl⟩, by kernel_rfl⟩ rfl rfl rfl rfl rfl rfl rfl (by omega) ?_)
      refine go Tryz.tbs_ok 1000 ?_
      refine ev_need ⟨⟨(by repeat (first | exact trivial | refine ⟨rfl, ?_⟩)), rfl⟩, by kernel_rfl⟩ ?_
      have l63 : 1 < ([a, b]).length := (by omega)
      refine ev_stop (tk_loadE Tryz.tbs_ok (.inr 0) (1) 0 ⟨⟨(by repeat (first | exact trivial | refine ⟨rfl, ?_⟩)), rfl⟩, by kernel_rfl⟩ rfl rfl rfl rfl rfl (fun _ h => Row.rd h) (by omega) (fun _ => rfl) (by omega) l63 (by decide) ?_)
      refine go Tryz.tbs_ok 1000 ?_
      refine ev_need ⟨⟨(by repeat (first | exact trivial | refine ⟨rfl, ?_⟩)), rfl⟩, by kernel_rfl⟩ ?_
      refine ev_need ⟨⟨(by repeat (first | exact trivial | refine ⟨rfl, ?_⟩)), rfl⟩, by kernel_rfl⟩ ?_
      refine ev_need (by kernel_rfl) ?_
      refine ev_fin ⟨trivial, _, rfl, ((none, 0)), rfl, (by trivial), Frm.sel [1] rfl (by decide)⟩
    · obtain rfl : q = 3 := by omega
      obtain ⟨a, b, c, rfl⟩ : ∃ a b c, M = [a, b, c] := by
        match M, hq.symm with
        | [a, b, c], _ => exact ⟨a, b, c, rfl⟩
      rcases hkm with rfl | rfl
      · obtain rfl : s = ⟨8, a, b, c, 0, 0, 0, 0, 0, []⟩ := hs
        refine go Tryz.tbs_ok 1000 ?_
        refine ev_if_no (decide_eq_false (show ¬(↑i : Int) < (↑n : Int) from (by omega))) ?_
        refine go Tryz.tbs_ok 1000 ?_
        refine ev_fin (go Tryz.tbs_ok 1000 ?_)
        refine ev_if_no rfl ?_
        refine go Tryz.tbs_ok 1000 ?_
        refine ev_if_no rfl ?_
        refine go Tryz.tbs_ok 1000 ?_
        refine ev_if_no rfl ?_
        refine go Tryz.tbs_ok 1000 ?_
        refine ev_if_no rfl ?_
        refine go Tryz.tbs_ok 1000 ?_
        refine ev_if_no rfl ?_
        refine go Tryz.tbs_ok 1000 ?_
        refine ev_if_yes rfl ?_
        refine go Tryz.tbs_ok 1000 ?_
        refine ev_stop (go_draw Tryz.tbs_ok false [0] [(0,true),(1,true),(2,true),(3,true),(4,true),(5,true),(6,true),(7,true),(8,true),(9,true),(10,true),(11,false),(12,false)] rfl ?_)
        refine go Tryz.tbs_ok 1000 ?_
        refine ev_need ⟨⟨(by repeat (first | exact trivial | refine ⟨rfl, ?_⟩)), rfl⟩, by kernel_rfl⟩ ?_
        refine ev_stop (tk_index0 (sz := 1) Tryz.tbs_ok (.inr 0) (0) ⟨⟨(by repeat (first | exact trivial | refine ⟨rfl, ?_⟩)), rfl⟩, by kernel_rfl⟩ rfl rfl rfl rfl rfl rfl rfl (by omega) rfl Row.at0 (fun g60 e61 => ?_))
        subst e61
        refine go Tryz.tbs_ok 1000 ?_
        refine ev_need ⟨⟨(by repeat (first | exact trivial | refine ⟨rfl, ?_⟩)), rfl⟩, by kernel_rfl⟩ ?_
        have l62 : 0 < ([a, b, c]).length := (by omega)
        refine ev_stop (tk_loadE Tryz.tbs_ok (.inr 0) (0) 0 ⟨⟨(by repeat (first | exact trivial | refine ⟨rfl, ?_⟩)), rfl⟩, by kernel_rfl⟩ rfl rfl rfl rfl rfl (fun _ h => Row.rd h) (by omega) (fun _ => rfl) (by omega) l62 (by decide) ?_)
        refine go Tryz.tbs_ok 1000 ?_
        refine ev_need ⟨⟨(by repeat (first | exact trivial | refine ⟨rfl, ?_⟩)), rfl⟩, by kernel_rfl⟩ ?_
        refine ev_stop (tk_atE (sz := 1) Tryz.tbs_ok (1) ⟨⟨(by repeat (first | exact trivial | refine ⟨rfl, ?_⟩)), rfl⟩, by kernel_rfl⟩ rfl rfl rfl rfl rfl rfl rfl (by omega) ?_)
        refine go Tryz.tbs_ok 1000 ?_
        refine ev_need ⟨⟨(by repeat (first | exact trivial | refine ⟨rfl, ?_⟩)), rfl⟩, by kernel_rfl⟩ ?_
        have l63 : 1 < ([a, b, c]).length := (by omega)
        refine ev_stop (tk_loadE Tryz.tbs_ok (.inr 0) (1) 0 ⟨⟨(by repeat (first | exact trivial | refine ⟨rfl, ?_⟩)), rfl⟩, by kernel_rfl⟩ rfl rfl rfl rfl rfl (fun _ h => Row.rd h) (by omega) (fun _ => rfl) (by omega) l63 (by decide) ?_)
        refine go Tryz.tbs_ok 1000 ?_
        refine ev_need ⟨⟨(by repeat (first | exact trivial | refine ⟨rfl, ?_⟩)), rfl⟩, by kernel_rfl⟩ ?_
        refine ev_stop (tk_atE (sz := 1) Tryz.tbs_ok (2) ⟨⟨(by repeat (first | exact trivial | refine ⟨rfl, ?_⟩)), rfl⟩, by kernel_rfl⟩ rfl rfl rfl rfl rfl rfl rfl (by omega) ?_)
        refine go Tryz.tbs_ok 1000 ?_
        refine ev_need ⟨⟨(by repeat (first | exact trivial | refine ⟨rfl, ?_⟩)), rfl⟩, by kernel_rfl⟩ ?_
        have l64 : 2 < ([a, b, c]).length := (by omega)
        refine ev_stop (tk_loadE Tryz.tbs_ok (.inr 0) (2) 0 ⟨⟨(by repeat (first | exact trivial | refine ⟨rfl, ?_⟩)), rfl⟩, by kernel_rfl⟩ rfl rfl rfl rfl rfl (fun _ h => Row.rd h) (by omega) (fun _ => rfl) (by omega) l64 (by decide) ?_)
        refine go Tryz.tbs_ok 1000 ?_
        refine ev_need ⟨⟨(by repeat (first | exact trivial | refine ⟨rfl, ?_⟩)), rfl⟩, by kernel_rfl⟩ ?_
        refine ev_need ⟨⟨(by repeat (first | exact trivial | refine ⟨rfl, ?_⟩)), rfl⟩, by kernel_rfl⟩ ?_
        refine ev_need (by kernel_rfl) ?_
        refine ev_fin ⟨trivial, _, rfl, ((none, 0)), rfl, (by trivial), Frm.sel [1] rfl (by decide)⟩
      · obtain rfl : s = ⟨9, a, 0, 0, c, b, 0, 0, 0, []⟩ := hs
        refine go Tryz.tbs_ok 1000 ?_
        refine ev_if_no (decide_eq_false (show ¬(↑i : Int) < (↑n : Int) from (by omega))) ?_
        refine go Tryz.tbs_ok 1000 ?_
        refine ev_fin (go Tryz.tbs_ok 1000 ?_)
        refine ev_if_no rfl ?_
        refine go Tryz.tbs_ok 1000 ?_
        refine ev_if_no rfl ?_
        refine go Tryz.tbs_ok 1000 ?_
        refine ev_if_no rfl ?_
        refine go Tryz.tbs_ok 1000 ?_
        refine ev_if_no rfl ?_
        refine go Tryz.tbs_ok 1000 ?_
        refine ev_if_no rfl ?_
        refine go Tryz.tbs_ok 1000 ?_
        refine ev_if_no rfl ?_
        refine go Tryz.tbs_ok 1000 ?_
        refine ev_if_yes rfl ?_
        refine go Tryz.tbs_ok 1000 ?_
        refine ev_stop (go_draw Tryz.tbs_ok false [0] [(0,true),(1,true),(2,true),(3,true),(4,true),(5,true),(6,true),(7,true),(8,true),(9,true),(10,true),(11,true),(12,false),(13,false)] rfl ?_)
        refine go Tryz.tbs_ok 1000 ?_
        refine ev_need ⟨⟨(by repeat (first | exact trivial | refine ⟨rfl, ?_⟩)), rfl⟩, by kernel_rfl⟩ ?_
        refine ev_stop (tk_index0 (sz := 1) Tryz.tbs_ok (.inr 0) (0) ⟨⟨(by repeat (first | exact trivial | refine ⟨rfl, ?_⟩)), rfl⟩, by kernel_rfl⟩ rfl rfl rfl rfl rfl rfl rfl (by omega) rfl Row.at0 (fun g60 e61 => ?_))
        subst e61
        refine go Tryz.tbs_ok 1000 ?_
        refine ev_need ⟨⟨(by repeat (first | exact trivial | refine ⟨rfl, ?_⟩)), rfl⟩, by kernel_rfl⟩ ?_
        have l62 : 0 < ([a, b, c]).length := (by omega)
        refine ev_stop (tk_loadE Tryz.tbs_ok (.inr 0) (0) 0 ⟨⟨(by repeat (first | exact trivial | refine ⟨rfl, ?_⟩)), rfl⟩, by kernel_rfl⟩ rfl rfl rfl rfl rfl (fun _ h => Row.rd h) (by omega) (fun _ => rfl) (by omega) l62 (by decide) ?_)
        refine go Tryz.tbs_ok 1000 ?_
        refine ev_need ⟨⟨(by repeat (first | exact trivial | refine ⟨rfl, ?_⟩)), rfl⟩, by kernel_rfl⟩ ?_
        refine ev_stop (tk_atE (sz := 1) Tryz.tbs_ok (1) ⟨⟨(by repeat (first | exact trivial | refine ⟨rfl, ?_⟩)), rfl⟩, by kernel_rfl⟩ rfl rfl rfl rfl rfl rfl rfl (by omega) ?_)
        refine go Tryz.tbs_ok 1000 ?_
        refine ev_need ⟨⟨(by repeat (first | exact trivial | refine ⟨rfl, ?_⟩)), rfl⟩, by kernel_rfl⟩ ?_
        have l63 : 1 < ([a, b, c]).length := (by omega)
        refine ev_stop (tk_loadE Tryz.tbs_ok (.inr 0) (1) 0 ⟨⟨(by repeat (first | exact trivial | refine ⟨rfl, ?_⟩)), rfl⟩, by kernel_rfl⟩ rfl rfl rfl rfl rfl (fun _ h => Row.rd h) (by omega) (fun _ => rfl) (by omega) l63 (by decide) ?_)
        refine go Tryz.tbs_ok 1000 ?_
        refine ev_need ⟨⟨(by repeat (first | exact trivial | refine ⟨rfl, ?_⟩)), rfl⟩, by kernel_rfl⟩ ?_
        refine ev_stop (tk_atE (sz := 1) Tryz.tbs_ok (2) ⟨⟨(by repeat (first | exact trivial | refine ⟨rfl, ?_⟩)), rfl⟩, by kernel_rfl⟩ rfl rfl rfl rfl rfl rfl rfl (by omega) ?_)
        refine go Tryz.tbs_ok 1000 ?_
        refine ev_need ⟨⟨(by repeat (first | exact trivial | refine ⟨rfl, ?_⟩)), rfl⟩, by kernel_rfl⟩ ?_
        have l64 : 2 < ([a, b, c]).length := (by omega)
        refine ev_stop (tk_loadE Tryz.tbs_ok (.inr 0) (2) 0 ⟨⟨(by repeat (first | exact trivial | refine ⟨rfl, ?_⟩)), rfl⟩, by kernel_rfl⟩ rfl rfl rfl rfl rfl (fun _ h => Row.rd h) (by omega) (fun _ => rfl) (by omega) l64 (by decide) ?_)
        refine go Tryz.tbs_ok 1000 ?_
        refine ev_need ⟨⟨(by repeat (first | exact trivial | refine ⟨rfl, ?_⟩)), rfl⟩, by kernel_rfl⟩ ?_
        refine ev_need ⟨⟨(by repeat (first | exact trivial | refine ⟨rfl, ?_⟩)), rfl⟩, by kernel_rfl⟩ ?_
        refine ev_need (by kernel_rfl) ?_
        refine ev_fin ⟨trivial, _, rfl, ((none, 0)), rfl, (by trivial), Frm.sel [1] rfl (by decide)⟩
    · obtain rfl : q = 1 := by omega
      obtain ⟨a, rfl⟩ : ∃ a, M = [a] := by
        match M, hq.symm with
        | [a], _ => exact ⟨a, rfl⟩
      by_cases h456 : k = 4 ∨ k = 5 ∨ k = 6
      · obtain rfl : s = ⟨k, 0, 0, a, 0, 0, 0, 0, 0, []⟩ := hs.trans (by rw [layZ, if_pos (by omega)]; rfl)
        rcases h456 with rfl | rfl | rfl
        · refine go Tryz.tbs_ok 1000 ?_
          refine ev_if_no (decide_eq_false (show ¬(↑i : Int) < (↑n : Int) from (by omega))) ?_
          refine go Tryz.tbs_ok 1000 ?_
          refine ev_fin (go Tryz.tbs_ok 1000 ?_)
          refine ev_if_yes rfl ?_
          refine go Tryz.tbs_ok 1000 ?_
          refine ev_if_yes rfl ?_
          refine go Tryz.tbs_ok 1000 ?_
          refine ev_stop (go_index0 (sz := 1) Tryz.tbs_ok (.inr 0) (0) rfl rfl rfl rfl rfl rfl (by omega) rfl Row.at0 (fun g60 e61 => ?_))
          subst e61
          refine go Tryz.tbs_ok 1000 ?_
          have l62 : 0 < ([a]).length := (by omega)
          refine ev_stop (go_loadE Tryz.tbs_ok (.inr 0) (0) 0 rfl rfl rfl rfl (fun _ h => Row.rd h) (by omega) (fun _ => rfl) (by omega) l62 (by decide) ?_)
          refine go Tryz.tbs_ok 1000 ?_
          refine ev_fin ⟨trivial, _, rfl, ((none, 0)), rfl, (by trivial), Frm.sel [1] rfl (by decide)⟩
        · refine go Tryz.tbs_ok 1000 ?_
          refine ev_if_no (decide_eq_false (show ¬(↑i : Int) < (↑n : Int) from (by omega))) ?_
          refine go Tryz.tbs_ok 1000 ?_
          refine ev_fin (go Tryz.tbs_ok 1000 ?_)
          refine ev_if_no rfl ?_
          refine go Tryz.tbs_ok 1000 ?_
          refine ev_if_yes rfl ?_
          refine go Tryz.tbs_ok 1000 ?_
          refine ev_if_yes rfl ?_
          refine go Tryz.tbs_ok 1000 ?_
          refine ev_stop (go_index0 (sz := 1) Tryz.tbs_ok (.inr 0) (0) rfl rfl rfl rfl rfl rfl (by omega) rfl Row.at0 (fun g60 e61 => ?_))
          subst e61
          refine go Tryz.tbs_ok 1000 ?_
          have l62 : 0 < ([a]).length := (by omega)
          refine ev_stop (go_loadE Tryz.tbs_ok (.inr 0) (0) 0 rfl rfl rfl rfl (fun _ h => Row.rd h) (by omega) (fun _ => rfl) (by omega) l62 (by decide) ?_)
          refine go Tryz.tbs_ok 1000 ?_
          refine ev_fin ⟨trivial, _, rfl, ((none, 0)), rfl, (by trivial), Frm.sel [1] rfl (by decide)⟩
        · refine go Tryz.tbs_ok 1000 ?_
          refine ev_if_no (decide_eq_false (show ¬(↑i : Int) < (↑n : Int) from (by omega))) ?_
          refine go Tryz.tbs_ok 1000 ?_
          refine ev_fin (go Tryz.tbs_ok 1000 ?_)
          refine ev_if_no rfl ?_
          refine go Tryz.tbs_ok 1000 ?_
          refine ev_if_no rfl ?_
          refine go Tryz.tbs_ok 1000 ?_
          refine ev_if_yes rfl ?_
          refine go Tryz.tbs_ok 1000 ?_
          refine ev_stop (go_index0 (sz := 1) Tryz.tbs_ok (.inr 0) (0) rfl rfl rfl rfl rfl rfl (by omega) rfl Row.at0 (fun g60 e61 => ?_))
          subst e61
          refine go Tryz.tbs_ok 1000 ?_
          have l62 : 0 < ([a]).length := (by omega)
          refine ev_stop (go_loadE Tryz.tbs_ok (.inr 0) (0) 0 rfl rfl rfl rfl (fun _ h => Row.rd h) (by omega) (fun _ => rfl) (by omega) l62 (by decide) ?_)
          refine go Tryz.tbs_ok 1000 ?_
          refine ev_fin ⟨trivial, _, rfl, ((none, 0)), rfl, (by trivial), Frm.sel [1] rfl (by decide)⟩
      · obtain rfl : s = ⟨k, a, 0, 0, 0, 0, 0, 0, 0, []⟩ := hs.trans (by rw [layZ, if_neg (by omega), if_neg (by omega), if_neg (by omega), if_neg (by omega), if_neg (by omega), if_neg (by omega)]; rfl)
        have hk2 : 1 < k := by omega
        have hk4 : ¬ k = 4 := by omega
        have hk5 : ¬ k = 5 := by omega
        have hk6 : ¬ k = 6 := by omega
        have hk7 : ¬ k = 7 := by omega
        have hk8 : ¬ k = 8 := by omega
        have hk9 : ¬ k = 9 := by omega
        have hka : ¬ k = 10 := by omega
        refine go Tryz.tbs_ok 1000 ?_
        refine ev_if_no (decide_eq_false (show ¬(↑i : Int) < (↑n : Int) from (by omega))) ?_
        refine go Tryz.tbs_ok 1000 ?_
        refine ev_fin (go Tryz.tbs_ok 1000 ?_)
        refine ev_if_no (beq_eq_false_iff_ne.2 (show ¬(↑k : Int) = 4 from (by omega))) ?_
        refine go Tryz.tbs_ok 1000 ?_
        refine ev_if_no (beq_eq_false_iff_ne.2 (show ¬(↑k : Int) = 5 from (by omega))) ?_
        refine go Tryz.tbs_ok 1000 ?_
        refine ev_if_no (beq_eq_false_iff_ne.2 (show ¬(↑k : Int) = 6 from (by omega))) ?_
        refine go Tryz.tbs_ok 1000 ?_
        refine ev_if_no (beq_eq_false_iff_ne.2 (show ¬(↑k : Int) = 1 from (by omega))) ?_
        refine go Tryz.tbs_ok 1000 ?_
        refine ev_if_no (beq_eq_false_iff_ne.2 (show ¬(↑k : Int) = 7 from (by omega))) ?_
        refine go Tryz.tbs_ok 1000 ?_
        refine ev_if_no (beq_eq_false_iff_ne.2 (show ¬(↑k : Int) = 8 from (by omega))) ?_
        refine go Tryz.tbs_ok 1000 ?_
        refine ev_if_no (beq_eq_false_iff_ne.2 (show ¬(↑k : Int) = 9 from (by omega))) ?_
        refine go Tryz.tbs_ok 1000 ?_
        refine ev_if_no (beq_eq_false_iff_ne.2 (show ¬(↑k : Int) = 10 from (by omega))) ?_
        refine go Tryz.tbs_ok 1000 ?_
        refine ev_stop (go_index0 (sz := 1) Tryz.tbs_ok (.inr 0) (0) rfl rfl rfl rfl rfl rfl (by omega) rfl Row.at0 (fun g60 e61 => ?_))
        subst e61
        refine go Tryz.tbs_ok 1000 ?_
        have l62 : 0 < ([a]).length := (by omega)
        refine ev_stop (go_loadE Tryz.tbs_ok (.inr 0) (0) 0 rfl rfl rfl rfl (fun _ h => Row.rd h) (by omega) (fun _ => rfl) (by omega) l62 (by decide) ?_)
        refine go Tryz.tbs_ok 1000 ?_
        refine ev_fin ⟨trivial, _, rfl, ((none, 0)), rfl, (by trivial), Frm.sel [1] rfl (by decide)⟩
end Go.Proofs.YtaiialpdlobioaaGreatDoor
namespace Go.Proofs.YtaiialpdlobioaaGreatDoor
open Go.Sy Go.RowKit
set_option maxHeartbeats 4000000 in
set_option maxRecDepth 100000 in
theorem wordsT (k : Int) : Triple Tryz.prog 57 [.int .i64 k] [] [] Unit (fun _ => .tuple #[.string (wordK k), .int .i64 (manyK k)]) (fun _ => True) (fun _ => []) := by
  refine triple_intro Tryz.tbs_ok Tryz.func57 rfl [.va (.int .i64 k)] [] ⟨trivial, trivial⟩ rfl (by simp) ?_
  intro E
  obtain ⟨w, hw⟩ : ∃ w, w = wordK k := ⟨_, rfl⟩
  obtain ⟨m, hm⟩ : ∃ m, m = manyK k := ⟨_, rfl⟩
  rw [← hw, ← hm]
  refine go Tryz.tbs_ok 1000 ?_
  refine ev_if_eq (fun h0 => ?_) (fun h0 => ?_)
  refine go Tryz.tbs_ok 1000 ?_
  refine ev_fin ⟨trivial, _, rfl, (()), ?_, (by trivial), Frm.nil _⟩
  rotate_left
  refine go Tryz.tbs_ok 1000 ?_
  refine ev_if_eq (fun h1 => ?_) (fun h1 => ?_)
  refine go Tryz.tbs_ok 1000 ?_
  refine ev_fin ⟨trivial, _, rfl, (()), ?_, (by trivial), Frm.nil _⟩
  rotate_left
  refine go Tryz.tbs_ok 1000 ?_
  refine ev_if_eq (fun h2 => ?_) (fun h2 => ?_)
  refine go Tryz.tbs_ok 1000 ?_
  refine ev_fin ⟨trivial, _, rfl, (()), ?_, (by trivial), Frm.nil _⟩
  rotate_left
  refine go Tryz.tbs_ok 1000 ?_
  refine ev_if_eq (fun h3 => ?_) (fun h3 => ?_)
  refine go Tryz.tbs_ok 1000 ?_
  refine ev_fin ⟨trivial, _, rfl, (()), ?_, (by trivial), Frm.nil _⟩
  rotate_left
  refine go Tryz.tbs_ok 1000 ?_
  refine ev_if_eq (fun h4 => ?_) (fun h4 => ?_)
  refine go Tryz.tbs_ok 1000 ?_
  refine ev_fin ⟨trivial, _, rfl, (()), ?_, (by trivial), Frm.nil _⟩
  rotate_left
  refine go Tryz.tbs_ok 1000 ?_
  refine ev_if_eq (fun h5 => ?_) (fun h5 => ?_)
  refine go Tryz.tbs_ok 1000 ?_
  refine ev_fin ⟨trivial, _, rfl, (()), ?_, (by trivial), Frm.nil _⟩
  rotate_left
  refine go Tryz.tbs_ok 1000 ?_
  refine ev_if_eq (fun h6 => ?_) (fun h6 => ?_)
  refine go Tryz.tbs_ok 1000 ?_
  refine ev_fin ⟨trivial, _, rfl, (()), ?_, (by trivial), Frm.nil _⟩
  rotate_left
  refine go Tryz.tbs_ok 1000 ?_
  refine ev_if_eq (fun h7 => ?_) (fun h7 => ?_)
  refine go Tryz.tbs_ok 1000 ?_
  refine ev_fin ⟨trivial, _, rfl, (()), ?_, (by trivial), Frm.nil _⟩
  rotate_left
  refine go Tryz.tbs_ok 1000 ?_
  refine ev_if_eq (fun h8 => ?_) (fun h8 => ?_)
  refine go Tryz.tbs_ok 1000 ?_
  refine ev_fin ⟨trivial, _, rfl, (()), ?_, (by trivial), Frm.nil _⟩
  rotate_left
  refine go Tryz.tbs_ok 1000 ?_
  refine ev_if_eq (fun h9 => ?_) (fun h9 => ?_)
  refine go Tryz.tbs_ok 1000 ?_
  refine ev_fin ⟨trivial, _, rfl, (()), ?_, (by trivial), Frm.nil _⟩
  rotate_left
  refine go Tryz.tbs_ok 1000 ?_
  refine ev_if_eq (fun h10 => ?_) (fun h10 => ?_)
  refine go Tryz.tbs_ok 1000 ?_
  refine ev_fin ⟨trivial, _, rfl, (()), ?_, (by trivial), Frm.nil _⟩
  rotate_left
  refine go Tryz.tbs_ok 1000 ?_
  refine ev_if_eq (fun h11 => ?_) (fun h11 => ?_)
  refine go Tryz.tbs_ok 1000 ?_
  refine ev_fin ⟨trivial, _, rfl, (()), ?_, (by trivial), Frm.nil _⟩
  rotate_left
  refine go Tryz.tbs_ok 1000 ?_
  refine ev_fin ⟨trivial, _, rfl, (()), ?_, (by trivial), Frm.nil _⟩
  rotate_left
  all_goals first
    | (have h0 : ¬ (1 ≤ k ∧ k ≤ 12) := by omega
       rw [hw, hm, wordK, manyK, if_neg h0, if_neg h0]
       rfl)
    | (subst_vars; kernel_rfl)
set_option maxHeartbeats 4000000 in
set_option maxRecDepth 100000 in
theorem numberS (x : ByteArray) (hx : x.size ≤ 1000000) (z : Int) (hz : numZ x.data.toList = some z) : Triple Tryz.prog 101 [.string x] [] [EnvA] Unit (fun _ => .tuple #[.int .i64 z, .bool true]) (fun _ => True) (fun _ => []) := by
  obtain ⟨h1, h2, h3⟩ := num_some hz
  have T1 := atoiOk x hx z (by rw [h1]; exact atoi_itoa h2 h3)
  have T2 := itoaZ z (by omega) (by omega)
  have hx2 : mkB (Lib.itoa z) = x := by rw [← h1]; rfl
  rw [hx2] at T2
  refine triple_intro Tryz.tbs_ok Tryz.func101 rfl [.va (.string x)] [] ⟨trivial, trivial⟩ rfl (by simp) ?_
  intro E
  refine go Tryz.tbs_ok 1000 ?_
  refine ev_callF (T1 ) [] [.inl 0] rfl rfl (by decide) rfl (by simp) (fun _ => (by repeat (first | exact trivial | refine ⟨rfl, ?_⟩))) (fun _ h0 => ?_)
  refine go Tryz.tbs_ok 1000 ?_
  refine ev_stop (go_ifNil (by kernel_rfl) true rfl rfl rfl ?_)
  refine go Tryz.tbs_ok 1000 ?_
  refine ev_if_yes (decide_eq_true (by with_reducible assumption)) ?_
  refine go Tryz.tbs_ok 1000 ?_
  refine ev_if_yes (decide_eq_true (by with_reducible assumption)) ?_
  refine go Tryz.tbs_ok 1000 ?_
  refine ev_callF (T2 ) [] [.inl 0] rfl rfl (by decide) rfl (by simp) (fun _ => (by repeat (first | exact trivial | refine ⟨rfl, ?_⟩))) (fun _ h1 => ?_)
  refine go Tryz.tbs_ok 1000 ?_
  refine ev_fin ⟨trivial, _, rfl, (()), ?_, (by trivial), Frm.nil _⟩
  show Value.tuple #[.int .i64 z, .bool (decide (x = x))] = .tuple #[.int .i64 z, .bool true]
  rw [decide_eq_true rfl]
set_option maxHeartbeats 4000000 in
set_option maxRecDepth 100000 in
theorem numberN (x : ByteArray) (hx : x.size ≤ 1000000) (hz : numZ x.data.toList = none) : Triple Tryz.prog 101 [.string x] [] [EnvA] Int (fun z => .tuple #[.int .i64 z, .bool false]) (fun _ => True) (fun _ => []) := by
  by_cases ha : ∃ z, Lib.atoiAll x.data.toList = .ok z
  · obtain ⟨z, ha⟩ := ha
    have hp := num_prog x.data.toList
    rw [hz, ha] at hp
    have hb := Lib.atoiAll_bounds ha
    have T1 := atoiOk x hx z ha
    have T2 := itoaZ z (by omega) (by omega)
    refine triple_intro Tryz.tbs_ok Tryz.func101 rfl [.va (.string x)] [] ⟨trivial, trivial⟩ rfl (by simp) ?_
    intro E
    by_cases h1 : -1000000000 < z
    · by_cases h2 : z < 1000000000
      · have h3 : ¬ mkB (Lib.itoa z) = x := fun e => by
          have e2 : Lib.itoa z = x.data.toList := by rw [← e]; rfl
          simp [h1, h2, e2] at hp
        refine go Tryz.tbs_ok 1000 ?_
        refine ev_callF (T1 ) [] [.inl 0] rfl rfl (by decide) rfl (by simp) (fun _ => (by repeat (first | exact trivial | refine ⟨rfl, ?_⟩))) (fun _ h0 => ?_)
        refine go Tryz.tbs_ok 1000 ?_
        refine ev_stop (go_ifNil (by kernel_rfl) true rfl rfl rfl ?_)
        refine go Tryz.tbs_ok 1000 ?_
        refine ev_if_yes (decide_eq_true (by with_reducible assumption)) ?_
        refine go Tryz.tbs_ok 1000 ?_
        refine ev_if_yes (decide_eq_true (by with_reducible assumption)) ?_
        refine go Tryz.tbs_ok 1000 ?_
        refine ev_callF (T2 ) [] [.inl 0] rfl rfl (by decide) rfl (by simp) (fun _ => (by repeat (first | exact trivial | refine ⟨rfl, ?_⟩))) (fun _ h1 => ?_)
        refine go Tryz.tbs_ok 1000 ?_
        refine ev_fin ⟨trivial, _, rfl, z, ?_, trivial, Frm.nil _⟩
        show Value.tuple #[.int .i64 z, .bool (decide (mkB (Lib.itoa z) = x))] = .tuple #[.int .i64 z, .bool false]
        rw [decide_eq_false h3]
      · refine go Tryz.tbs_ok 1000 ?_
        refine ev_callF (T1 ) [] [.inl 0] rfl rfl (by decide) rfl (by simp) (fun _ => (by repeat (first | exact trivial | refine ⟨rfl, ?_⟩))) (fun _ h0 => ?_)
        refine go Tryz.tbs_ok 1000 ?_
        refine ev_stop (go_ifNil (by kernel_rfl) true rfl rfl rfl ?_)
        refine go Tryz.tbs_ok 1000 ?_
        refine ev_if_yes (decide_eq_true (by with_reducible assumption)) ?_
        refine go Tryz.tbs_ok 1000 ?_
        refine ev_if_no (decide_eq_false (by with_reducible assumption)) ?_
        refine go Tryz.tbs_ok 1000 ?_
        refine ev_fin ⟨trivial, _, rfl, (z), rfl, (by trivial), Frm.nil _⟩
    · refine go Tryz.tbs_ok 1000 ?_
      refine ev_callF (T1 ) [] [.inl 0] rfl rfl (by decide) rfl (by simp) (fun _ => (by repeat (first | exact trivial | refine ⟨rfl, ?_⟩))) (fun _ h0 => ?_)
      refine go Tryz.tbs_ok 1000 ?_
      refine ev_stop (go_ifNil (by kernel_rfl) true rfl rfl rfl ?_)
      refine go Tryz.tbs_ok 1000 ?_
      refine ev_if_no (decide_eq_false (by with_reducible assumption)) ?_
      refine go Tryz.tbs_ok 1000 ?_
      refine ev_fin ⟨trivial, _, rfl, (z), rfl, (by trivial), Frm.nil _⟩
  · have T1 := atoiNo x hx (fun z e => ha ⟨z, e⟩)
    refine triple_intro Tryz.tbs_ok Tryz.func101 rfl [.va (.string x)] [] ⟨trivial, trivial⟩ rfl (by simp) ?_
    intro E
    refine go Tryz.tbs_ok 1000 ?_
    refine ev_callF (T1 ) [] [.inl 0] rfl rfl (by decide) rfl (by simp) (fun _ => (by repeat (first | exact trivial | refine ⟨rfl, ?_⟩))) (fun ⟨x0, x1⟩ h2 => ?_)
    refine go Tryz.tbs_ok 1000 ?_
    refine ev_stop (go_ifNil (by kernel_rfl) false rfl rfl rfl ?_)
    refine go Tryz.tbs_ok 1000 ?_
    refine ev_fin ⟨trivial, _, rfl, (x0), rfl, (by trivial), Frm.nil _⟩
def numsL (L : List ByteArray) : Option (List Int) := numsZ (L.map fun y => y.data.toList)
set_option maxHeartbeats 4000000 in
set_option maxRecDepth 100000 in
theorem numbersN (A : Option Addr) (L : List ByteArray) (n c : Nat) (hn : n = L.length) (hn1 : n ≤ 1000000) (hL : ∀ i (h : i < L.length), L[i].size ≤ 1000000) (hz : numsL L = none) : Triple Tryz.prog 54 [.slice A n c] [] [EnvA, Rd 1 A n (L.flatMap encS)] Unit (fun _ => .tuple #[.slice none 0 0, .bool false]) (fun _ => True) (fun _ => []) := by
  obtain ⟨ws, hws⟩ : ∃ ws, ws = L.map fun y : ByteArray => y.data.toList := ⟨_, rfl⟩
  have hwl : ws.length = L.length := by rw [hws, List.length_map]
  have hat : ∀ i (h : i < L.length), L[i].data.toList = ws[i]'(by omega) := fun i h => by simp [hws]
  rw [numsL, ← hws] at hz
  refine triple_intro Tryz.tbs_ok Tryz.func54 rfl [.va (.slice A n c)] [] ⟨trivial, trivial⟩ rfl (by simp) ?_
  intro E
  refine go_fact (Row 3 1 none 0 0 (([] : List Int).flatMap encN)) (Row.nilE _ _) ?_
  refine go Tryz.tbs_ok 1000 ?_
  refine ev_stop (go_loopR [2, 3, 4, 6, 7, 8, 11, 12, 13, 14, 15, 16, 17, 18, 19, 20, 21, 22, 23, 24, 25, 26] (fun (i, C, q, e, _) => [(4, .va (.slice C q e)), (11, .va (.int .i64 (i : Nat)))]) (fun (_, C, q, e, N) => [(0, .fact (Row 3 1 C q e (N.flatMap encN)))]) (fun (i, C, q, e, N) => i ≤ n ∧ q = N.length ∧ q = i ∧ numsTo ws i N) (fun (i, _, _, _, _) => n - i) ((0, none, 0, 0, []) : Nat × Option Addr × Nat × Nat × List Int) ⟨Nat.zero_le _, rfl, rfl, rfl⟩ ⟨⟨by kernel_rfl, by kernel_rfl⟩, ⟨_, rfl⟩, ⟨_, rfl⟩, by kernel_rfl, by kernel_rfl⟩ (fun x_ h_ => ?_))
  obtain ⟨i, C, q, e, N⟩ := x_
  obtain ⟨hi, hq, hqi, hN⟩ := h_
  rcases Nat.lt_or_ge i n with hi2 | hi2
  · have hj : i < ws.length := by omega
    have hj2 := hat i (by omega)
    have hle1 := hL i (by omega)
    cases hz2 : numZ ws[i] with
    | none =>
      have T1 := numberN (L[i]'(by omega)) (by omega) (by rw [hj2]; exact hz2)
      refine go Tryz.tbs_ok 1000 ?_
      refine ev_if_yes (decide_eq_true (show (↑i : Int) < (↑n : Int) from (by omega))) ?_
      refine go Tryz.tbs_ok 1000 ?_
      refine ev_stop (go_indexE (sz := 1) Tryz.tbs_ok (.inl 1) (i) rfl rfl rfl rfl rfl rfl (by omega) rfl (fun _ h => h) (fun g20 o22 e21 => ?_))
      subst e21
      refine go Tryz.tbs_ok 1000 ?_
      have l23 : i < (L).length := (by omega)
      refine ev_stop (go_loadE Tryz.tbs_ok (.inl 1) (i) 0 rfl rfl rfl rfl (fun _ h => h) (by omega) (fun _ => rfl) (by omega) l23 (by decide) ?_)
      refine go Tryz.tbs_ok 1000 ?_
      refine ev_callF (T1 ) [] [.inl 0] rfl rfl (by decide) rfl (by simp) (fun _ => (by repeat (first | exact trivial | refine ⟨rfl, ?_⟩))) (fun x24 h25 => ?_)
      refine go Tryz.tbs_ok 1000 ?_
      refine ev_if_yes rfl ?_
      refine go Tryz.tbs_ok 1000 ?_
      refine ev_fin ⟨trivial, _, rfl, (()), rfl, (by trivial), Frm.nil _⟩
    | some z =>
      have T1 := numberS (L[i]'(by omega)) (by omega) z (by rw [hj2]; exact hz2)
      have hnx := hN.next hj hz2
      refine go Tryz.tbs_ok 1000 ?_
      refine ev_if_yes (decide_eq_true (show (↑i : Int) < (↑n : Int) from (by omega))) ?_
      refine go Tryz.tbs_ok 1000 ?_
      refine ev_stop (go_indexE (sz := 1) Tryz.tbs_ok (.inl 1) (i) rfl rfl rfl rfl rfl rfl (by omega) rfl (fun _ h => h) (fun g20 o22 e21 => ?_))
      subst e21
      refine go Tryz.tbs_ok 1000 ?_
      have l23 : i < (L).length := (by omega)
      refine ev_stop (go_loadE Tryz.tbs_ok (.inl 1) (i) 0 rfl rfl rfl rfl (fun _ h => h) (by omega) (fun _ => rfl) (by omega) l23 (by decide) ?_)
      refine go Tryz.tbs_ok 1000 ?_
      refine ev_callF (T1 ) [] [.inl 0] rfl rfl (by decide) rfl (by simp) (fun _ => (by repeat (first | exact trivial | refine ⟨rfl, ?_⟩))) (fun _ h24 => ?_)
      refine go Tryz.tbs_ok 1000 ?_
      refine ev_if_no rfl ?_
      refine go Tryz.tbs_ok 1000 ?_
      refine ev_new fun b25 => ?_
      refine ev_stop (go_appendE (sz := 1) (M := [_]) (enc := encN) Tryz.tbs_ok [0] [] (.inr 1) (N) ([z]) ((N) ++ ([z])) (q + 1) rfl rfl rfl rfl rfl rfl rfl (by decide) rfl (by decide) (fun _ p => starH_one.1 p) rfl (fun _ p => Pt.rd p rfl) (by first | rfl | simp) (by first | rfl | omega) (le_app (s := q + 1) (by omega) (by first | rfl | omega)) (le_appb (s := q + 1) (by omega) (by first | rfl | omega) (by decide)) (fun _ _ => (by repeat (first | exact trivial | refine ⟨rfl, ?_⟩))) (fun A26 c27 h28 => ?_))
      refine go Tryz.tbs_ok 1000 ?_
      refine ev_wrapN (i + 1) (by constructor <;> omega) (by rfl) ?_
      refine ev_fin (round_next ((i + 1, A26, q + 1, c27, N ++ [z])) (show i + 1 ≤ n ∧ q + 1 = (N ++ [z]).length ∧ q + 1 = i + 1 ∧ numsTo ws (i + 1) (N ++ [z]) from (by (refine ⟨?_, ?_, ?_, ?_⟩ <;> first | assumption | omega | (simp only [List.length_append, List.length_cons, List.length_nil] <;> omega) | rfl))) (show n - (i + 1) < n - i from (by omega)) ⟨⟨by kernel_rfl, by kernel_rfl⟩, ⟨_, rfl⟩, ⟨_, rfl⟩, by kernel_rfl, by kernel_rfl⟩)
  · have := hN.all (by omega)
    rw [hz] at this
    cases this
set_option maxHeartbeats 4000000 in
set_option maxRecDepth 100000 in
theorem numbersS (A : Option Addr) (L : List ByteArray) (n c : Nat) (hn : n = L.length) (hn1 : n ≤ 1000000) (hL : ∀ i (h : i < L.length), L[i].size ≤ 1000000) (M : List Int) (hz : numsL L = some M) : Triple Tryz.prog 54 [.slice A n c] [] [EnvA, Rd 1 A n (L.flatMap encS)] (Option Addr × Nat) (fun (C, e) => .tuple #[.slice C n e, .bool true]) (fun (_, e) => n ≤ e) (fun (C, e) => [Row 3 1 C n e (M.flatMap encN)]) := by
  obtain ⟨ws, hws⟩ : ∃ ws, ws = L.map fun y : ByteArray => y.data.toList := ⟨_, rfl⟩
  have hwl : ws.length = L.length := by rw [hws, List.length_map]
  have hat : ∀ i (h : i < L.length), L[i].data.toList = ws[i]'(by omega) := fun i h => by simp [hws]
  rw [numsL, ← hws] at hz
  have hMl : M.length = n := by
    have := (nums_spec hz).1
    rw [hn, ← hwl, this, List.length_map]
  refine triple_intro Tryz.tbs_ok Tryz.func54 rfl [.va (.slice A n c)] [] ⟨trivial, trivial⟩ rfl (by simp) ?_
  intro E
  refine go_fact (Row 3 1 none 0 0 (([] : List Int).flatMap encN)) (Row.nilE _ _) ?_
  refine go Tryz.tbs_ok 1000 ?_
  refine ev_stop (go_loopR [2, 3, 4, 6, 7, 8, 11, 12, 13, 14, 15, 16, 17, 18, 19, 20, 21, 22, 23, 24, 25, 26] (fun (i, C, q, e, _) => [(4, .va (.slice C q e)), (11, .va (.int .i64 (i : Nat)))]) (fun (_, C, q, e, N) => [(0, .fact (Row 3 1 C q e (N.flatMap encN)))]) (fun (i, C, q, e, N) => i ≤ n ∧ q = N.length ∧ q = i ∧ numsTo ws i N ∧ q ≤ e) (fun (i, _, _, _, _) => n - i) ((0, none, 0, 0, []) : Nat × Option Addr × Nat × Nat × List Int) ⟨Nat.zero_le _, rfl, rfl, rfl, Nat.le_refl _⟩ ⟨⟨by kernel_rfl, by kernel_rfl⟩, ⟨_, rfl⟩, ⟨_, rfl⟩, by kernel_rfl, by kernel_rfl⟩ (fun x_ h_ => ?_))
  obtain ⟨i, C, q, e, N⟩ := x_
  obtain ⟨hi, hq, hqi, hN, hqe⟩ := h_
  rcases Nat.lt_or_ge i n with hi2 | hi2
  · have hj : i < ws.length := by omega
    have hj2 := hat i (by omega)
    have hle1 := hL i (by omega)
    cases hz2 : numZ ws[i] with
    | none =>
      have := hN.no hj hz2
      rw [hz] at this
      cases this
    | some z =>
      have T1 := numberS (L[i]'(by omega)) (by omega) z (by rw [hj2]; exact hz2)
      have hnx := hN.next hj hz2
      refine go Tryz.tbs_ok 1000 ?_
      refine ev_if_yes (decide_eq_true (show (↑i : Int) < (↑n : Int) from (by omega))) ?_
      refine go Tryz.tbs_ok 1000 ?_
      refine ev_stop (go_indexE (sz := 1) Tryz.tbs_ok (.inl 1) (i) rfl rfl rfl rfl rfl rfl (by omega) rfl (fun _ h => h) (fun g20 o22 e21 => ?_))
      subst e21
      refine go Tryz.tbs_ok 1000 ?_
      have l23 : i < (L).length := (by omega)
      refine ev_stop (go_loadE Tryz.tbs_ok (.inl 1) (i) 0 rfl rfl rfl rfl (fun _ h => h) (by omega) (fun _ => rfl) (by omega) l23 (by decide) ?_)
      refine go Tryz.tbs_ok 1000 ?_
      refine ev_callF (T1 ) [] [.inl 0] rfl rfl (by decide) rfl (by simp) (fun _ => (by repeat (first | exact trivial | refine ⟨rfl, ?_⟩))) (fun _ h24 => ?_)
      refine go Tryz.tbs_ok 1000 ?_
      refine ev_if_no rfl ?_
      refine go Tryz.tbs_ok 1000 ?_
      refine ev_new fun b25 => ?_
      refine ev_stop (go_appendE (sz := 1) (M := [_]) (enc := encN) Tryz.tbs_ok [0] [] (.inr 1) (N) ([z]) ((N) ++ ([z])) (q + 1) rfl rfl rfl rfl rfl rfl rfl (by decide) rfl (by decide) (fun _ p => starH_one.1 p) rfl (fun _ p => Pt.rd p rfl) (by first | rfl | simp) (by first | rfl | omega) (le_app (s := q + 1) (by omega) (by first | rfl | omega)) (le_appb (s := q + 1) (by omega) (by first | rfl | omega) (by decide)) (fun _ _ => (by repeat (first | exact trivial | refine ⟨rfl, ?_⟩))) (fun A26 c27 h28 => ?_))
      refine go Tryz.tbs_ok 1000 ?_
      refine ev_wrapN (i + 1) (by constructor <;> omega) (by rfl) ?_
      refine ev_fin (round_next ((i + 1, A26, q + 1, c27, N ++ [z])) (?_ : i + 1 ≤ n ∧ q + 1 = (N ++ [z]).length ∧ q + 1 = i + 1 ∧ numsTo ws (i + 1) (N ++ [z]) ∧ q + 1 ≤ c27) (show n - (i + 1) < n - i from (by omega)) ⟨⟨by kernel_rfl, by kernel_rfl⟩, ⟨_, rfl⟩, ⟨_, rfl⟩, by kernel_rfl, by kernel_rfl⟩)
      exact ⟨by omega, by rw [List.length_append, hq]; rfl, by omega, hnx, by assumption⟩
  · obtain rfl : M = N := Option.some.inj (hz.symm.trans (hN.all (by omega)))
    obtain rfl : q = n := by omega
    refine go Tryz.tbs_ok 1000 ?_
    refine ev_if_no (decide_eq_false (show ¬(↑i : Int) < (↑q : Int) from (by omega))) ?_
    refine go Tryz.tbs_ok 1000 ?_
    refine ev_fin (go Tryz.tbs_ok 1000 ?_)
    refine ev_fin ⟨trivial, _, rfl, ((C, e)), rfl, (by trivial), Frm.sel [0] rfl (by decide)⟩
/-- the numbers of a step, laid into it -/
def layG (k : Nat) (m : Nat) : Prop := (k = 1 ∧ m = 6) ∨ (k = 7 ∧ m = 2) ∨ ((k = 8 ∨ k = 9) ∧ m = 3) ∨ ((k = 2 ∨ k = 3 ∨ k = 4 ∨ k = 5 ∨ k = 6 ∨ k = 11 ∨ k = 12) ∧ m = 1)
set_option maxHeartbeats 4000000 in
set_option maxRecDepth 100000 in
theorem layT (k : Nat) (A : Option Addr) (M : List Int) (n c : Nat) (hn : n = M.length) (hk : layG k n) : Triple Tryz.prog 58 [.agg #[.int .i64 (k : Nat), .int .i64 0, .int .i64 0, .int .i64 0, .int .i64 0, .int .i64 0, .int .i64 0, .int .i64 0, .int .i64 0, .slice none 0 0], .slice A n c] [] [Rd 1 A n (M.flatMap encN)] Unit (fun _ => .agg (stpC (layZ k M) none 0).toArray) (fun _ => True) (fun _ => []) := by
  refine triple_intro Tryz.tbs_ok Tryz.func58 rfl [.ag [.va (.int .i64 (k : Nat)), .va (.int .i64 0), .va (.int .i64 0), .va (.int .i64 0), .va (.int .i64 0), .va (.int .i64 0), .va (.int .i64 0), .va (.int .i64 0), .va (.int .i64 0), .va (.slice none 0 0)], .va (.slice A n c)] [] ⟨by repeat (first | exact trivial | refine ⟨trivial, ?_⟩), trivial, trivial⟩ rfl (by simp) ?_
  intro E
  rcases hk with ⟨rfl, rfl⟩ | ⟨rfl, rfl⟩ | ⟨hk, rfl⟩ | ⟨hk, rfl⟩
  · obtain ⟨a, b, d, e, f, g, rfl⟩ : ∃ a b d e f g, M = [a, b, d, e, f, g] := by
      match M, hn.symm with
      | [a, b, d, e, f, g], _ => exact ⟨a, b, d, e, f, g, rfl⟩
    refine go Tryz.tbs_ok 1000 ?_
    refine ev_new fun b0 => ?_
    refine ev_new fun b1 => ?_
    refine ev_if_no rfl ?_
    refine go Tryz.tbs_ok 1000 ?_
    refine ev_if_no rfl ?_
    refine go Tryz.tbs_ok 1000 ?_
    refine ev_if_no rfl ?_
    refine go Tryz.tbs_ok 1000 ?_
    refine ev_stop (go_indexE (sz := 1) Tryz.tbs_ok (.inl 0) (0) rfl rfl rfl rfl rfl rfl (by omega) rfl (fun _ h => h) (fun g2 o4 e3 => ?_))
    subst e3
    refine go Tryz.tbs_ok 1000 ?_
    have l5 : 0 < ([a, b, d, e, f, g]).length := (by omega)
    refine ev_stop (go_loadE Tryz.tbs_ok (.inl 0) (0) 0 rfl rfl rfl rfl (fun _ h => h) (by omega) (fun _ => rfl) (by omega) l5 (by decide) ?_)
    refine go Tryz.tbs_ok 1000 ?_
    refine ev_if_yes rfl ?_
    refine go Tryz.tbs_ok 1000 ?_
    refine ev_stop (go_draw Tryz.tbs_ok false [] [(0,true),(1,true),(2,true),(3,true),(4,true),(5,true),(6,true),(7,true),(8,true),(9,true),(10,true),(11,true),(12,true),(13,true),(14,true),(15,true),(16,true),(17,false)] rfl ?_)
    refine go Tryz.tbs_ok 1000 ?_
    refine ev_need ⟨⟨(by repeat (first | exact trivial | refine ⟨rfl, ?_⟩)), rfl⟩, by kernel_rfl⟩ ?_
    refine ev_stop (tk_atE (sz := 1) Tryz.tbs_ok (1) ⟨⟨(by repeat (first | exact trivial | refine ⟨rfl, ?_⟩)), rfl⟩, by kernel_rfl⟩ rfl rfl rfl rfl rfl rfl rfl (by omega) ?_)
    refine go Tryz.tbs_ok 1000 ?_
    refine ev_need ⟨⟨(by repeat (first | exact trivial | refine ⟨rfl, ?_⟩)), rfl⟩, by kernel_rfl⟩ ?_
    have l6 : 1 < ([a, b, d, e, f, g]).length := (by omega)
    refine ev_stop (tk_loadE Tryz.tbs_ok (.inl 0) (1) 0 ⟨⟨(by repeat (first | exact trivial | refine ⟨rfl, ?_⟩)), rfl⟩, by kernel_rfl⟩ rfl rfl rfl rfl rfl (fun _ h => h) (by omega) (fun _ => rfl) (by omega) l6 (by decide) ?_)
    refine go Tryz.tbs_ok 1000 ?_
    refine ev_need ⟨⟨(by repeat (first | exact trivial | refine ⟨rfl, ?_⟩)), rfl⟩, by kernel_rfl⟩ ?_
    refine ev_stop (tk_atE (sz := 1) Tryz.tbs_ok (2) ⟨⟨(by repeat (first | exact trivial | refine ⟨rfl, ?_⟩)), rfl⟩, by kernel_rfl⟩ rfl rfl rfl rfl rfl rfl rfl (by omega) ?_)
    refine go Tryz.tbs_ok 1000 ?_
    refine ev_need ⟨⟨(by repeat (first | exact trivial | refine ⟨rfl, ?_⟩)), rfl⟩, by kernel_rfl⟩ ?_
    have l7 : 2 < ([a, b, d, e, f, g]).length := (by omega)
    refine ev_stop (tk_loadE Tryz.tbs_ok (.inl 0) (2) 0 ⟨⟨(by repeat (first | exact trivial | refine ⟨rfl, ?_⟩)), rfl⟩, by kernel_rfl⟩ rfl rfl rfl rfl rfl (fun _ h => h) (by omega) (fun _ => rfl) (by omega) l7 (by decide) ?_)
    refine go Tryz.tbs_ok 1000 ?_
    refine ev_need ⟨⟨(by repeat (first | exact trivial | refine ⟨rfl, ?_⟩)), rfl⟩, by kernel_rfl⟩ ?_
    refine ev_stop (tk_atE (sz := 1) Tryz.tbs_ok (3) ⟨⟨(by repeat (first | exact trivial | refine ⟨rfl, ?_⟩)), rfl⟩, by kernel_rfl⟩ rfl rfl rfl rfl rfl rfl rfl (by omega) ?_)
    refine go Tryz.tbs_ok 1000 ?_
    refine ev_need ⟨⟨(by repeat (first | exact trivial | refine ⟨rfl, ?_⟩)), rfl⟩, by kernel_rfl⟩ ?_
    have l8 : 3 < ([a, b, d, e, f, g]).length := (by omega)
    refine ev_stop (tk_loadE Tryz.tbs_ok (.inl 0) (3) 0 ⟨⟨(by repeat (first | exact trivial | refine ⟨rfl, ?_⟩)), rfl⟩, by kernel_rfl⟩ rfl rfl rfl rfl rfl (fun _ h => h) (by omega) (fun _ => rfl) (by omega) l8 (by decide) ?_)
    refine go Tryz.tbs_ok 1000 ?_
    refine ev_need ⟨⟨(by repeat (first | exact trivial | refine ⟨rfl, ?_⟩)), rfl⟩, by kernel_rfl⟩ ?_
    refine ev_stop (tk_atE (sz := 1) Tryz.tbs_ok (4) ⟨⟨(by repeat (first | exact trivial | refine ⟨rfl, ?_⟩)), rfl⟩, by kernel_rfl⟩ rfl rfl rfl rfl rfl rfl rfl (by omega) ?_)
    refine go Tryz.tbs_ok 1000 ?_
    refine ev_need ⟨⟨(by repeat (first | exact trivial | refine ⟨rfl, ?_⟩)), rfl⟩, by kernel_rfl⟩ ?_
    have l9 : 4 < ([a, b, d, e, f, g]).length := (by omega)
    refine ev_stop (tk_loadE Tryz.tbs_ok (.inl 0) (4) 0 ⟨⟨(by repeat (first | exact trivial | refine ⟨rfl, ?_⟩)), rfl⟩, by kernel_rfl⟩ rfl rfl rfl rfl rfl (fun _ h => h) (by omega) (fun _ => rfl) (by omega) l9 (by decide) ?_)
    refine go Tryz.tbs_ok 1000 ?_
    refine ev_need ⟨⟨(by repeat (first | exact trivial | refine ⟨rfl, ?_⟩)), rfl⟩, by kernel_rfl⟩ ?_
    refine ev_stop (tk_atE (sz := 1) Tryz.tbs_ok (5) ⟨⟨(by repeat (first | exact trivial | refine ⟨rfl, ?_⟩)), rfl⟩, by kernel_rfl⟩ rfl rfl rfl rfl rfl rfl rfl (by omega) ?_)
    refine go Tryz.tbs_ok 1000 ?_
    refine ev_need ⟨⟨(by repeat (first | exact trivial | refine ⟨rfl, ?_⟩)), rfl⟩, by kernel_rfl⟩ ?_
    have l10 : 5 < ([a, b, d, e, f, g]).length := (by omega)
    refine ev_stop (tk_loadE Tryz.tbs_ok (.inl 0) (5) 0 ⟨⟨(by repeat (first | exact trivial | refine ⟨rfl, ?_⟩)), rfl⟩, by kernel_rfl⟩ rfl rfl rfl rfl rfl (fun _ h => h) (by omega) (fun _ => rfl) (by omega) l10 (by decide) ?_)
    refine go Tryz.tbs_ok 1000 ?_
    refine ev_need ⟨⟨(by repeat (first | exact trivial | refine ⟨rfl, ?_⟩)), rfl⟩, by kernel_rfl⟩ ?_
    refine ev_need (by kernel_rfl) ?_
    refine ev_fin ⟨trivial, _, rfl, (()), rfl, (by trivial), Frm.nil _⟩
  · obtain ⟨a, b, rfl⟩ : ∃ a b, M = [a, b] := by
      match M, hn.symm with
      | [a, b], _ => exact ⟨a, b, rfl⟩
    refine go Tryz.tbs_ok 1000 ?_
    refine ev_new fun b0 => ?_
    refine ev_new fun b1 => ?_
    refine ev_if_no rfl ?_
    refine go Tryz.tbs_ok 1000 ?_
    refine ev_if_no rfl ?_
    refine go Tryz.tbs_ok 1000 ?_
    refine ev_if_no rfl ?_
    refine go Tryz.tbs_ok 1000 ?_
    refine ev_stop (go_indexE (sz := 1) Tryz.tbs_ok (.inl 0) (0) rfl rfl rfl rfl rfl rfl (by omega) rfl (fun _ h => h) (fun g2 o4 e3 => ?_))
    subst e3
    refine go Tryz.tbs_ok 1000 ?_
    have l5 : 0 < ([a, b]).length := (by omega)
    refine ev_stop (go_loadE Tryz.tbs_ok (.inl 0) (0) 0 rfl rfl rfl rfl (fun _ h => h) (by omega) (fun _ => rfl) (by omega) l5 (by decide) ?_)
    refine go Tryz.tbs_ok 1000 ?_
    refine ev_if_no rfl ?_
    refine go Tryz.tbs_ok 1000 ?_
    refine ev_if_yes rfl ?_
    refine go Tryz.tbs_ok 1000 ?_
    refine ev_stop (go_atE (sz := 1) Tryz.tbs_ok (1) rfl rfl rfl rfl rfl rfl (by omega) ?_)
    refine go Tryz.tbs_ok 1000 ?_
    have l6 : 1 < ([a, b]).length := (by omega)
    refine ev_stop (go_loadE Tryz.tbs_ok (.inl 0) (1) 0 rfl rfl rfl rfl (fun _ h => h) (by omega) (fun _ => rfl) (by omega) l6 (by decide) ?_)
    refine go Tryz.tbs_ok 1000 ?_
    refine ev_fin ⟨trivial, _, rfl, (()), rfl, (by trivial), Frm.nil _⟩
  · obtain ⟨a, b, d, rfl⟩ : ∃ a b d, M = [a, b, d] := by
      match M, hn.symm with
      | [a, b, d], _ => exact ⟨a, b, d, rfl⟩
    rcases hk with rfl | rfl
    · refine go Tryz.tbs_ok 1000 ?_
      refine ev_new fun b0 => ?_
      refine ev_new fun b1 => ?_
      refine ev_if_no rfl ?_
      refine go Tryz.tbs_ok 1000 ?_
      refine ev_if_no rfl ?_
      refine go Tryz.tbs_ok 1000 ?_
      refine ev_if_no rfl ?_
      refine go Tryz.tbs_ok 1000 ?_
      refine ev_stop (go_indexE (sz := 1) Tryz.tbs_ok (.inl 0) (0) rfl rfl rfl rfl rfl rfl (by omega) rfl (fun _ h => h) (fun g2 o4 e3 => ?_))
      subst e3
      refine go Tryz.tbs_ok 1000 ?_
      have l5 : 0 < ([a, b, d]).length := (by omega)
      refine ev_stop (go_loadE Tryz.tbs_ok (.inl 0) (0) 0 rfl rfl rfl rfl (fun _ h => h) (by omega) (fun _ => rfl) (by omega) l5 (by decide) ?_)
      refine go Tryz.tbs_ok 1000 ?_
      refine ev_if_no rfl ?_
      refine go Tryz.tbs_ok 1000 ?_
      refine ev_if_no rfl ?_
      refine go Tryz.tbs_ok 1000 ?_
      refine ev_if_yes rfl ?_
      refine go Tryz.tbs_ok 1000 ?_
      refine ev_stop (go_draw Tryz.tbs_ok false [] [(0,true),(1,true),(2,true),(3,true),(4,true),(5,true),(6,true),(7,false),(8,false),(9,false)] rfl ?_)
      refine go Tryz.tbs_ok 1000 ?_
      refine ev_need ⟨⟨(by repeat (first | exact trivial | refine ⟨rfl, ?_⟩)), rfl⟩, by kernel_rfl⟩ ?_
      refine ev_stop (tk_atE (sz := 1) Tryz.tbs_ok (1) ⟨⟨(by repeat (first | exact trivial | refine ⟨rfl, ?_⟩)), rfl⟩, by kernel_rfl⟩ rfl rfl rfl rfl rfl rfl rfl (by omega) ?_)
      refine go Tryz.tbs_ok 1000 ?_
      refine ev_need ⟨⟨(by repeat (first | exact trivial | refine ⟨rfl, ?_⟩)), rfl⟩, by kernel_rfl⟩ ?_
      have l6 : 1 < ([a, b, d]).length := (by omega)
      refine ev_stop (tk_loadE Tryz.tbs_ok (.inl 0) (1) 0 ⟨⟨(by repeat (first | exact trivial | refine ⟨rfl, ?_⟩)), rfl⟩, by kernel_rfl⟩ rfl rfl rfl rfl rfl (fun _ h => h) (by omega) (fun _ => rfl) (by omega) l6 (by decide) ?_)
      refine go Tryz.tbs_ok 1000 ?_
      refine ev_need ⟨⟨(by repeat (first | exact trivial | refine ⟨rfl, ?_⟩)), rfl⟩, by kernel_rfl⟩ ?_
      refine ev_stop (tk_atE (sz := 1) Tryz.tbs_ok (2) ⟨⟨(by repeat (first | exact trivial | refine ⟨rfl, ?_⟩)), rfl⟩, by kernel_rfl⟩ rfl rfl rfl rfl rfl rfl rfl (by omega) ?_)
      refine go Tryz.tbs_ok 1000 ?_
      refine ev_need ⟨⟨(by repeat (first | exact trivial | refine ⟨rfl, ?_⟩)), rfl⟩, by kernel_rfl⟩ ?_
      have l7 : 2 < ([a, b, d]).length := (by omega)
      refine ev_stop (tk_loadE Tryz.tbs_ok (.inl 0) (2) 0 ⟨⟨(by repeat (first | exact trivial | refine ⟨rfl, ?_⟩)), rfl⟩, by kernel_rfl⟩ rfl rfl rfl rfl rfl (fun _ h => h) (by omega) (fun _ => rfl) (by omega) l7 (by decide) ?_)
      refine go Tryz.tbs_ok 1000 ?_
      refine ev_need ⟨⟨(by repeat (first | exact trivial | refine ⟨rfl, ?_⟩)), rfl⟩, by kernel_rfl⟩ ?_
      refine ev_need ⟨⟨(by repeat (first | exact trivial | refine ⟨rfl, ?_⟩)), rfl⟩, by kernel_rfl⟩ ?_
      refine ev_need ⟨⟨(by repeat (first | exact trivial | refine ⟨rfl, ?_⟩)), rfl⟩, by kernel_rfl⟩ ?_
      refine ev_need (by kernel_rfl) ?_
      refine ev_fin ⟨trivial, _, rfl, (()), rfl, (by trivial), Frm.nil _⟩
    · refine go Tryz.tbs_ok 1000 ?_
      refine ev_new fun b0 => ?_
      refine ev_new fun b1 => ?_
      refine ev_if_no rfl ?_
      refine go Tryz.tbs_ok 1000 ?_
      refine ev_if_no rfl ?_
      refine go Tryz.tbs_ok 1000 ?_
      refine ev_if_no rfl ?_
      refine go Tryz.tbs_ok 1000 ?_
      refine ev_stop (go_indexE (sz := 1) Tryz.tbs_ok (.inl 0) (0) rfl rfl rfl rfl rfl rfl (by omega) rfl (fun _ h => h) (fun g2 o4 e3 => ?_))
      subst e3
      refine go Tryz.tbs_ok 1000 ?_
      have l5 : 0 < ([a, b, d]).length := (by omega)
      refine ev_stop (go_loadE Tryz.tbs_ok (.inl 0) (0) 0 rfl rfl rfl rfl (fun _ h => h) (by omega) (fun _ => rfl) (by omega) l5 (by decide) ?_)
      refine go Tryz.tbs_ok 1000 ?_
      refine ev_if_no rfl ?_
      refine go Tryz.tbs_ok 1000 ?_
      refine ev_if_no rfl ?_
      refine go Tryz.tbs_ok 1000 ?_
      refine ev_if_no rfl ?_
      refine go Tryz.tbs_ok 1000 ?_
      refine ev_if_yes rfl ?_
      refine go Tryz.tbs_ok 1000 ?_
      refine ev_stop (go_draw Tryz.tbs_ok false [] [(0,true),(1,true),(2,true),(3,true),(4,true),(5,true),(6,true),(7,true),(8,false)] rfl ?_)
      refine go Tryz.tbs_ok 1000 ?_
      refine ev_need ⟨⟨(by repeat (first | exact trivial | refine ⟨rfl, ?_⟩)), rfl⟩, by kernel_rfl⟩ ?_
      refine ev_stop (tk_atE (sz := 1) Tryz.tbs_ok (1) ⟨⟨(by repeat (first | exact trivial | refine ⟨rfl, ?_⟩)), rfl⟩, by kernel_rfl⟩ rfl rfl rfl rfl rfl rfl rfl (by omega) ?_)
      refine go Tryz.tbs_ok 1000 ?_
      refine ev_need ⟨⟨(by repeat (first | exact trivial | refine ⟨rfl, ?_⟩)), rfl⟩, by kernel_rfl⟩ ?_
      have l6 : 1 < ([a, b, d]).length := (by omega)
      refine ev_stop (tk_loadE Tryz.tbs_ok (.inl 0) (1) 0 ⟨⟨(by repeat (first | exact trivial | refine ⟨rfl, ?_⟩)), rfl⟩, by kernel_rfl⟩ rfl rfl rfl rfl rfl (fun _ h => h) (by omega) (fun _ => rfl) (by omega) l6 (by decide) ?_)
      refine go Tryz.tbs_ok 1000 ?_
      refine ev_need ⟨⟨(by repeat (first | exact trivial | refine ⟨rfl, ?_⟩)), rfl⟩, by kernel_rfl⟩ ?_
      refine ev_stop (tk_atE (sz := 1) Tryz.tbs_ok (2) ⟨⟨(by repeat (first | exact trivial | refine ⟨rfl, ?_⟩)), rfl⟩, by kernel_rfl⟩ rfl rfl rfl rfl rfl rfl rfl (by omega) ?_)
      refine go Tryz.tbs_ok 1000 ?_
      refine ev_need ⟨⟨(by repeat (first | exact trivial | refine ⟨rfl, ?_⟩)), rfl⟩, by kernel_rfl⟩ ?_
      have l7 : 2 < ([a, b, d]).length := (by omega)
      refine ev_stop (tk_loadE Tryz.tbs_ok (.inl 0) (2) 0 ⟨⟨(by repeat (first | exact trivial | refine ⟨rfl, ?_⟩)), rfl⟩, by kernel_rfl⟩ rfl rfl rfl rfl rfl (fun _ h => h) (by omega) (fun _ => rfl) (by omega) l7 (by decide) ?_)
      refine go Tryz.tbs_ok 1000 ?_
      refine ev_need ⟨⟨(by repeat (first | exact trivial | refine ⟨rfl, ?_⟩)), rfl⟩, by kernel_rfl⟩ ?_
      refine ev_need (by kernel_rfl) ?_
      refine ev_fin ⟨trivial, _, rfl, (()), rfl, (by trivial), Frm.nil _⟩
  · obtain ⟨a, rfl⟩ : ∃ a, M = [a] := by
      match M, hn.symm with
      | [a], _ => exact ⟨a, rfl⟩
    by_cases h456 : k = 4 ∨ k = 5 ∨ k = 6
    · rw [show layZ k [a] = ⟨k, 0, 0, a, 0, 0, 0, 0, 0, []⟩ by rw [layZ, if_pos (by omega)]; rfl]
      rcases h456 with rfl | rfl | rfl
      · refine go Tryz.tbs_ok 1000 ?_
        refine ev_new fun b0 => ?_
        refine ev_new fun b1 => ?_
        refine ev_if_yes rfl ?_
        refine go Tryz.tbs_ok 1000 ?_
        refine ev_if_yes rfl ?_
        refine go Tryz.tbs_ok 1000 ?_
        refine ev_stop (go_indexE (sz := 1) Tryz.tbs_ok (.inl 0) (0) rfl rfl rfl rfl rfl rfl (by omega) rfl (fun _ h => h) (fun g2 o4 e3 => ?_))
        subst e3
        refine go Tryz.tbs_ok 1000 ?_
        have l5 : 0 < ([a]).length := (by omega)
        refine ev_stop (go_loadE Tryz.tbs_ok (.inl 0) (0) 0 rfl rfl rfl rfl (fun _ h => h) (by omega) (fun _ => rfl) (by omega) l5 (by decide) ?_)
        refine go Tryz.tbs_ok 1000 ?_
        refine ev_fin ⟨trivial, _, rfl, (()), rfl, (by trivial), Frm.nil _⟩
      · refine go Tryz.tbs_ok 1000 ?_
        refine ev_new fun b0 => ?_
        refine ev_new fun b1 => ?_
        refine ev_if_no rfl ?_
        refine go Tryz.tbs_ok 1000 ?_
        refine ev_if_yes rfl ?_
        refine go Tryz.tbs_ok 1000 ?_
        refine ev_if_yes rfl ?_
        refine go Tryz.tbs_ok 1000 ?_
        refine ev_stop (go_indexE (sz := 1) Tryz.tbs_ok (.inl 0) (0) rfl rfl rfl rfl rfl rfl (by omega) rfl (fun _ h => h) (fun g2 o4 e3 => ?_))
        subst e3
        refine go Tryz.tbs_ok 1000 ?_
        have l5 : 0 < ([a]).length := (by omega)
        refine ev_stop (go_loadE Tryz.tbs_ok (.inl 0) (0) 0 rfl rfl rfl rfl (fun _ h => h) (by omega) (fun _ => rfl) (by omega) l5 (by decide) ?_)
        refine go Tryz.tbs_ok 1000 ?_
        refine ev_fin ⟨trivial, _, rfl, (()), rfl, (by trivial), Frm.nil _⟩
      · refine go Tryz.tbs_ok 1000 ?_
        refine ev_new fun b0 => ?_
        refine ev_new fun b1 => ?_
        refine ev_if_no rfl ?_
        refine go Tryz.tbs_ok 1000 ?_
        refine ev_if_no rfl ?_
        refine go Tryz.tbs_ok 1000 ?_
        refine ev_if_yes rfl ?_
        refine go Tryz.tbs_ok 1000 ?_
        refine ev_stop (go_indexE (sz := 1) Tryz.tbs_ok (.inl 0) (0) rfl rfl rfl rfl rfl rfl (by omega) rfl (fun _ h => h) (fun g2 o4 e3 => ?_))
        subst e3
        refine go Tryz.tbs_ok 1000 ?_
        have l5 : 0 < ([a]).length := (by omega)
        refine ev_stop (go_loadE Tryz.tbs_ok (.inl 0) (0) 0 rfl rfl rfl rfl (fun _ h => h) (by omega) (fun _ => rfl) (by omega) l5 (by decide) ?_)
        refine go Tryz.tbs_ok 1000 ?_
        refine ev_fin ⟨trivial, _, rfl, (()), rfl, (by trivial), Frm.nil _⟩
    · rw [show layZ k [a] = ⟨k, a, 0, 0, 0, 0, 0, 0, 0, []⟩ by rw [layZ, if_neg (by omega), if_neg (by omega), if_neg (by omega), if_neg (by omega), if_neg (by omega), if_neg (by omega)]; rfl]
      have hk2 : 1 < k := by omega
      have hk4 : ¬ k = 4 := by omega
      have hk5 : ¬ k = 5 := by omega
      have hk6 : ¬ k = 6 := by omega
      have hk7 : ¬ k = 7 := by omega
      have hk8 : ¬ k = 8 := by omega
      have hk9 : ¬ k = 9 := by omega
      have hka : ¬ k = 10 := by omega
      refine go Tryz.tbs_ok 1000 ?_
      refine ev_new fun b0 => ?_
      refine ev_new fun b1 => ?_
      refine ev_if_no (beq_eq_false_iff_ne.2 (show ¬(↑k : Int) = 4 from (by omega))) ?_
      refine go Tryz.tbs_ok 1000 ?_
      refine ev_if_no (beq_eq_false_iff_ne.2 (show ¬(↑k : Int) = 5 from (by omega))) ?_
      refine go Tryz.tbs_ok 1000 ?_
      refine ev_if_no (beq_eq_false_iff_ne.2 (show ¬(↑k : Int) = 6 from (by omega))) ?_
      refine go Tryz.tbs_ok 1000 ?_
      refine ev_stop (go_indexE (sz := 1) Tryz.tbs_ok (.inl 0) (0) rfl rfl rfl rfl rfl rfl (by omega) rfl (fun _ h => h) (fun g2 o4 e3 => ?_))
      subst e3
      refine go Tryz.tbs_ok 1000 ?_
      have l5 : 0 < ([a]).length := (by omega)
      refine ev_stop (go_loadE Tryz.tbs_ok (.inl 0) (0) 0 rfl rfl rfl rfl (fun _ h => h) (by omega) (fun _ => rfl) (by omega) l5 (by decide) ?_)
      refine go Tryz.tbs_ok 1000 ?_
      refine ev_if_no (beq_eq_false_iff_ne.2 (show ¬(↑k : Int) = 1 from (by omega))) ?_
      refine go Tryz.tbs_ok 1000 ?_
      refine ev_if_no (beq_eq_false_iff_ne.2 (show ¬(↑k : Int) = 7 from (by omega))) ?_
      refine go Tryz.tbs_ok 1000 ?_
      refine ev_if_no (beq_eq_false_iff_ne.2 (show ¬(↑k : Int) = 8 from (by omega))) ?_
      refine go Tryz.tbs_ok 1000 ?_
      refine ev_if_no (beq_eq_false_iff_ne.2 (show ¬(↑k : Int) = 9 from (by omega))) ?_
      refine go Tryz.tbs_ok 1000 ?_
      refine ev_if_no (beq_eq_false_iff_ne.2 (show ¬(↑k : Int) = 10 from (by omega))) ?_
      refine go Tryz.tbs_ok 1000 ?_
      refine ev_fin ⟨trivial, _, rfl, (()), rfl, (by trivial), Frm.nil _⟩
set_option maxHeartbeats 4000000 in
set_option maxRecDepth 100000 in
theorem layX (A : Option Addr) (a : Int) (M : List Int) (n c : Nat) (hn : n = (a :: M).length) (hc : n ≤ c) : Triple Tryz.prog 58 [.agg #[.int .i64 (10 : Nat), .int .i64 0, .int .i64 0, .int .i64 0, .int .i64 0, .int .i64 0, .int .i64 0, .int .i64 0, .int .i64 0, .slice none 0 0], .slice A n c] [] [Rd 1 A n ((a :: M).flatMap encN)] Unit (fun _ => .agg #[.int .i64 (10 : Nat), .int .i64 a, .int .i64 0, .int .i64 0, .int .i64 0, .int .i64 0, .int .i64 0, .int .i64 0, .int .i64 0, .slice (backA A c 1 1) (n - 1) (c - 1)]) (fun _ => True) (fun _ => []) := by
  refine triple_intro Tryz.tbs_ok Tryz.func58 rfl [.ag [.va (.int .i64 (10 : Nat)), .va (.int .i64 0), .va (.int .i64 0), .va (.int .i64 0), .va (.int .i64 0), .va (.int .i64 0), .va (.int .i64 0), .va (.int .i64 0), .va (.int .i64 0), .va (.slice none 0 0)], .va (.slice A n c)] [] ⟨by repeat (first | exact trivial | refine ⟨trivial, ?_⟩), trivial, trivial⟩ rfl (by simp) ?_
  intro E
  have h1 : 1 ≤ n := by rw [hn]; exact Nat.succ_pos _
  refine go Tryz.tbs_ok 1000 ?_
  refine ev_new fun b0 => ?_
  refine ev_new fun b1 => ?_
  refine ev_if_no rfl ?_
  refine go Tryz.tbs_ok 1000 ?_
  refine ev_if_no rfl ?_
  refine go Tryz.tbs_ok 1000 ?_
  refine ev_if_no rfl ?_
  refine go Tryz.tbs_ok 1000 ?_
  refine ev_stop (go_indexE (sz := 1) Tryz.tbs_ok (.inl 0) (0) rfl rfl rfl rfl rfl rfl (by omega) rfl (fun _ h => h) (fun g2 o4 e3 => ?_))
  subst e3
  refine go Tryz.tbs_ok 1000 ?_
  have l5 : 0 < (a :: M).length := (by omega)
  refine ev_stop (go_loadE Tryz.tbs_ok (.inl 0) (0) 0 rfl rfl rfl rfl (fun _ h => h) (by omega) (fun _ => rfl) (by omega) l5 (by decide) ?_)
  refine go Tryz.tbs_ok 1000 ?_
  refine ev_if_no rfl ?_
  refine go Tryz.tbs_ok 1000 ?_
  refine ev_if_no rfl ?_
  refine go Tryz.tbs_ok 1000 ?_
  refine ev_if_no rfl ?_
  refine go Tryz.tbs_ok 1000 ?_
  refine ev_if_no rfl ?_
  refine go Tryz.tbs_ok 1000 ?_
  refine ev_if_yes rfl ?_
  refine go Tryz.tbs_ok 1000 ?_
  refine ev_stop (go_back Tryz.tbs_ok (1) (n) (c) rfl rfl rfl rfl rfl ⟨_, rfl⟩ rfl rfl (by decide) (by omega) (by omega) (by omega) ?_)
  refine go Tryz.tbs_ok 1000 ?_
  refine ev_fin ⟨trivial, _, rfl, (()), rfl, (by trivial), Frm.nil _⟩
end Go.Proofs.YtaiialpdlobioaaGreatDoor
namespace Go.Proofs.YtaiialpdlobioaaGreatDoor
open Go.Sy Go.RowKit
/-- the words ahead of a kind are not this one -/
def notTo (w : ByteArray) (k : Nat) : Prop := ∀ i : Nat, 1 ≤ i → i < k → wordK i ≠ w
theorem notTo.next {w : ByteArray} {k : Nat} (h : notTo w k) (hk : ¬ wordK k = w) : notTo w (k + 1) := fun i h1 h2 => by
  rcases Nat.lt_or_ge i k with q | q
  · exact h i h1 q
  · obtain rfl : i = k := by omega
    exact hk
theorem row_tail {A : Option Addr} {n c : Nat} {x : ByteArray} {L : List ByteArray} {h : Hp} (hn : n = L.length) (hc : n + 1 ≤ c) (p : (Row 9 1 A (n + 1) c ((x :: L).flatMap encS)).holds h) : (Rd 1 (backA A c 1 1) n (L.flatMap encS)).holds h := by
  have := rd_part (lo := 1) (m := n) (mx := c) (L := x :: L) (enc := encS) (sz := 1) (fun _ => rfl) (Row.rd p) (by omega) (by omega)
  rw [List.take_of_length_le (by simp; omega)] at this
  exact this
set_option maxHeartbeats 4000000 in
set_option maxRecDepth 100000 in
theorem readN (x : ByteArray) (hx9 : x.size ≤ 100000) (hR : readB x = none) : Triple Tryz.prog 24 [.string x] [] [EnvA] Unit (fun _ => .tuple #[.agg (stpC stp0 none 0).toArray, .bool false]) (fun _ => True) (fun _ => []) := by
  obtain ⟨W, w, ws, hW⟩ := wds_of x
  obtain ⟨v, L, rfl⟩ : ∃ v L, W = v :: L := by
    obtain ⟨h, _⟩ := hW.fst
    cases W with
    | nil => exact absurd h (Nat.lt_irrefl 0)
    | cons v L => exact ⟨v, L, rfl⟩
  obtain ⟨_, hv⟩ := hW.fst
  obtain rfl : v = w := hv
  have hLl : L = ws.map mkB := hW.tl
  have hnum := hW.num
  have hle := hW.le
  obtain ⟨n, hn⟩ : ∃ n, n = L.length := ⟨_, rfl⟩
  have hwl : ws.length = n := by rw [hn, hLl, List.length_map]
  have hnL : numsL L = numsZ ws := by
    unfold numsL
    rw [hLl, List.map_map]
    exact congrArg numsZ (List.map_id' _)
  have TS := splitT x (by omega) (n + 1) (by rw [hW.all, hn]; rfl)
  rw [hW.all] at TS
  rw [List.length_cons] at hnum
  have hL9 : ∀ i (h : i < L.length), L[i].size ≤ 1000000 := fun i h => Nat.le_trans (hle (i + 1) (Nat.succ_lt_succ h)) (by omega)
  have hrd : ∀ (b : Nat) (N : List Asn), N = [EnvA, Rd 1 (backA (some ⟨b, 0, none⟩) (n + 1) 1 1) (n + 1 - 1) (L.flatMap encS)] → ∀ X ∈ N, ∃ Y ∈ [EnvA, Row 9 1 (some ⟨b, 0, none⟩) (n + 1) (n + 1) ((v :: L).flatMap encS)], ∀ h, Y.holds h → X.holds h := fun b N hN X hX => by
    subst hN
    simp only [List.mem_cons, List.not_mem_nil, or_false] at hX
    rcases hX with rfl | rfl
    · exact ⟨EnvA, List.mem_cons_self, fun _ q => q⟩
    · exact ⟨_, List.mem_cons_of_mem _ List.mem_cons_self, fun _ q => row_tail hn (Nat.le_refl _) q⟩
  have hka : ∀ k : Nat, 1 ≤ k → k < 13 → notTo v k → wordK k = v → kindB v = k := fun k h1 h2 h3 h4 => kind_at h1 (by omega) h4 h3
  rw [readB, hW.l, readW, show mkB v.data.toList = v from rfl] at hR
  refine triple_intro Tryz.tbs_ok Tryz.func24 rfl [.va (.string x)] [] ⟨trivial, trivial⟩ rfl (by simp) ?_
  intro E
  refine go Tryz.tbs_ok 1000 ?_
  refine ev_new fun b0 => ?_
  refine ev_callF (TS ) [] [] rfl rfl (by decide) rfl (by simp) (fun _ => (by repeat (first | exact trivial | refine ⟨rfl, ?_⟩))) (fun x1 h2 => ?_)
  refine go Tryz.tbs_ok 1000 ?_
  refine ev_stop (go_loopR [3, 5, 6, 7, 8, 9, 12, 13, 14, 15, 16, 17, 18, 19, 20, 21, 22, 23, 24, 25, 26, 27, 28, 29, 30, 31, 32, 33, 34, 35, 36, 37, 38, 39, 40, 41, 42, 43, 44, 45, 46, 47, 48, 49, 50, 51, 52, 53] (fun (k : Nat) => [(5, .va (.int .i64 (k : Nat)))]) (fun _ => []) (fun k => 1 ≤ k ∧ k ≤ 13 ∧ notTo v k) (fun k => 13 - k) (1 : Nat) ⟨Nat.le_refl _, by decide, fun i h1 h2 => absurd h2 (by omega)⟩ ⟨⟨by kernel_rfl, by kernel_rfl⟩, ⟨_, rfl⟩, ⟨_, rfl⟩, by kernel_rfl, by kernel_rfl⟩ (fun k h_ => ?_))
  obtain ⟨hk1, hk2, hno⟩ := h_
  rcases Nat.lt_or_ge k 13 with hk3 | hk3
  · obtain ⟨m, hm⟩ : ∃ m, m = manyK k := ⟨_, rfl⟩
    have TW := wordsT (k : Int)
    rw [← hm] at TW
    by_cases hkv : wordK k = (v :: L)[0]'(Nat.succ_pos _)
    · have hkb := hka k hk1 hk3 hno hkv
      cases hz : numsZ ws with
      | none =>
        have TN := fun b => (numbersN (backA (some ⟨b, 0, none⟩) (n + 1) 1 1) L (n + 1 - 1) (n + 1 - 1) (by omega) (by omega) hL9 (hnL.trans hz)).reads (hrd b _ rfl)
        refine go Tryz.tbs_ok 1000 ?_
        refine ev_if_yes (decide_eq_true (show (↑k : Int) ≤ 12 from (by omega))) ?_
        refine go Tryz.tbs_ok 1000 ?_
        refine ev_callF (TW ) [] [] rfl rfl (by decide) rfl (by simp) (fun _ => (by repeat (first | exact trivial | refine ⟨rfl, ?_⟩))) (fun _ h20 => ?_)
        refine go Tryz.tbs_ok 1000 ?_
        refine ev_stop (go_atE (sz := 1) Tryz.tbs_ok (0) rfl rfl rfl rfl rfl rfl (by omega) ?_)
        refine go Tryz.tbs_ok 1000 ?_
        have l21 : 0 < (v :: L).length := (by omega)
        refine ev_stop (go_loadE Tryz.tbs_ok (.inr 1) (0) 0 rfl rfl rfl rfl (fun _ h => Row.rd h) (by omega) (fun _ => rfl) (by omega) l21 (by decide) ?_)
        refine go Tryz.tbs_ok 1000 ?_
        refine ev_if_no (dec_no (by with_reducible assumption)) ?_
        refine go Tryz.tbs_ok 1000 ?_
        refine ev_stop (go_back Tryz.tbs_ok (1) (n + 1) (n + 1) rfl rfl rfl rfl rfl ⟨_, rfl⟩ rfl rfl (by decide) (by omega) (by omega) (by omega) ?_)
        refine go Tryz.tbs_ok 1000 ?_
        refine ev_callF (TN (x1)) [] [.inl 0, .inr 1] rfl rfl (by decide) rfl (by simp) (fun _ => (by repeat (first | exact trivial | refine ⟨rfl, ?_⟩))) (fun _ h22 => ?_)
        refine go Tryz.tbs_ok 1000 ?_
        refine ev_if_yes rfl ?_
        refine go Tryz.tbs_ok 1000 ?_
        refine ev_fin ⟨trivial, _, rfl, (()), rfl, (by trivial), Frm.nil _⟩
      | some M =>
        have hml : M.length = n := by rw [← hwl, (nums_spec hz).1, List.length_map]
        have TN := fun b => (numbersS (backA (some ⟨b, 0, none⟩) (n + 1) 1 1) L (n + 1 - 1) (n + 1 - 1) (by omega) (by omega) hL9 M (hnL.trans hz)).reads (hrd b _ rfl)
        rw [hkb, ← hm, hz] at hR
        have hor : n = 0 ∨ (0 ≤ m ∧ (n : Int) ≠ m) := by
          split at hR
          · rename_i hc
            rcases hc with hc | hc | ⟨hc, hc2⟩
            · omega
            · exact .inl (by rw [← hwl, hc]; rfl)
            · exact .inr ⟨hc, by rw [← hwl]; exact hc2⟩
          · cases hR
        rw [show n + 1 - 1 = n from rfl] at TN
        by_cases h0 : n = 0
        · by_cases hm0 : 0 ≤ m ∧ (n : Int) ≠ m
          · obtain ⟨hm0, hm1⟩ := hm0
            refine go Tryz.tbs_ok 1000 ?_
            refine ev_if_yes (decide_eq_true (show (↑k : Int) ≤ 12 from (by omega))) ?_
            refine go Tryz.tbs_ok 1000 ?_
            refine ev_callF (TW ) [] [] rfl rfl (by decide) rfl (by simp) (fun _ => (by repeat (first | exact trivial | refine ⟨rfl, ?_⟩))) (fun _ h20 => ?_)
            refine go Tryz.tbs_ok 1000 ?_
            refine ev_stop (go_atE (sz := 1) Tryz.tbs_ok (0) rfl rfl rfl rfl rfl rfl (by omega) ?_)
            refine go Tryz.tbs_ok 1000 ?_
            have l21 : 0 < (v :: L).length := (by omega)
            refine ev_stop (go_loadE Tryz.tbs_ok (.inr 1) (0) 0 rfl rfl rfl rfl (fun _ h => Row.rd h) (by omega) (fun _ => rfl) (by omega) l21 (by decide) ?_)
            refine go Tryz.tbs_ok 1000 ?_
            refine ev_if_no (dec_no (by with_reducible assumption)) ?_
            refine go Tryz.tbs_ok 1000 ?_
            refine ev_stop (go_back Tryz.tbs_ok (1) (n + 1) (n + 1) rfl rfl rfl rfl rfl ⟨_, rfl⟩ rfl rfl (by decide) (by omega) (by omega) (by omega) ?_)
            refine go Tryz.tbs_ok 1000 ?_
            refine ev_callF (TN (x1)) [] [.inl 0, .inr 1] rfl rfl (by decide) rfl (by simp) (fun _ => (by repeat (first | exact trivial | refine ⟨rfl, ?_⟩))) (fun ⟨x22, x23⟩ h24 => ?_)
            refine go Tryz.tbs_ok 1000 ?_
            refine ev_if_no rfl ?_
            refine go Tryz.tbs_ok 1000 ?_
            refine ev_if_yes (decide_eq_true (by with_reducible assumption)) ?_
            refine go Tryz.tbs_ok 1000 ?_
            refine ev_if_yes (ne_yes (by with_reducible assumption)) ?_
            refine go Tryz.tbs_ok 1000 ?_
            refine ev_fin ⟨trivial, _, rfl, (()), rfl, (by trivial), Frm.nil _⟩
          · rcases (show ¬ 0 ≤ m ∨ (0 ≤ m ∧ (n : Int) = m) by omega) with hm2 | ⟨hm2, hm3⟩
            · refine go Tryz.tbs_ok 1000 ?_
              refine ev_if_yes (decide_eq_true (show (↑k : Int) ≤ 12 from (by omega))) ?_
              refine go Tryz.tbs_ok 1000 ?_
              refine ev_callF (TW ) [] [] rfl rfl (by decide) rfl (by simp) (fun _ => (by repeat (first | exact trivial | refine ⟨rfl, ?_⟩))) (fun _ h20 => ?_)
              refine go Tryz.tbs_ok 1000 ?_
              refine ev_stop (go_atE (sz := 1) Tryz.tbs_ok (0) rfl rfl rfl rfl rfl rfl (by omega) ?_)
              refine go Tryz.tbs_ok 1000 ?_
              have l21 : 0 < (v :: L).length := (by omega)
              refine ev_stop (go_loadE Tryz.tbs_ok (.inr 1) (0) 0 rfl rfl rfl rfl (fun _ h => Row.rd h) (by omega) (fun _ => rfl) (by omega) l21 (by decide) ?_)
              refine go Tryz.tbs_ok 1000 ?_
              refine ev_if_no (dec_no (by with_reducible assumption)) ?_
              refine go Tryz.tbs_ok 1000 ?_
              refine ev_stop (go_back Tryz.tbs_ok (1) (n + 1) (n + 1) rfl rfl rfl rfl rfl ⟨_, rfl⟩ rfl rfl (by decide) (by omega) (by omega) (by omega) ?_)
              refine go Tryz.tbs_ok 1000 ?_
              refine ev_callF (TN (x1)) [] [.inl 0, .inr 1] rfl rfl (by decide) rfl (by simp) (fun _ => (by repeat (first | exact trivial | refine ⟨rfl, ?_⟩))) (fun ⟨x22, x23⟩ h24 => ?_)
              refine go Tryz.tbs_ok 1000 ?_
              refine ev_if_no rfl ?_
              refine go Tryz.tbs_ok 1000 ?_
              refine ev_if_no (decide_eq_false (by with_reducible assumption)) ?_
              refine go Tryz.tbs_ok 1000 ?_
              refine ev_if_yes (beq_iff_eq.2 (show (↑n : Int) = 0 from (by omega))) ?_
              refine go Tryz.tbs_ok 1000 ?_
              refine ev_fin ⟨trivial, _, rfl, (()), rfl, (by trivial), Frm.nil _⟩
            · refine go Tryz.tbs_ok 1000 ?_
              refine ev_if_yes (decide_eq_true (show (↑k : Int) ≤ 12 from (by omega))) ?_
              refine go Tryz.tbs_ok 1000 ?_
              refine ev_callF (TW ) [] [] rfl rfl (by decide) rfl (by simp) (fun _ => (by repeat (first | exact trivial | refine ⟨rfl, ?_⟩))) (fun _ h20 => ?_)
              refine go Tryz.tbs_ok 1000 ?_
              refine ev_stop (go_atE (sz := 1) Tryz.tbs_ok (0) rfl rfl rfl rfl rfl rfl (by omega) ?_)
              refine go Tryz.tbs_ok 1000 ?_
              have l21 : 0 < (v :: L).length := (by omega)
              refine ev_stop (go_loadE Tryz.tbs_ok (.inr 1) (0) 0 rfl rfl rfl rfl (fun _ h => Row.rd h) (by omega) (fun _ => rfl) (by omega) l21 (by decide) ?_)
              refine go Tryz.tbs_ok 1000 ?_
              refine ev_if_no (dec_no (by with_reducible assumption)) ?_
              refine go Tryz.tbs_ok 1000 ?_
              refine ev_stop (go_back Tryz.tbs_ok (1) (n + 1) (n + 1) rfl rfl rfl rfl rfl ⟨_, rfl⟩ rfl rfl (by decide) (by omega) (by omega) (by omega) ?_)
              refine go Tryz.tbs_ok 1000 ?_
              refine ev_callF (TN (x1)) [] [.inl 0, .inr 1] rfl rfl (by decide) rfl (by simp) (fun _ => (by repeat (first | exact trivial | refine ⟨rfl, ?_⟩))) (fun ⟨x22, x23⟩ h24 => ?_)
              refine go Tryz.tbs_ok 1000 ?_
              refine ev_if_no rfl ?_
              refine go Tryz.tbs_ok 1000 ?_
              refine ev_if_yes (decide_eq_true (by with_reducible assumption)) ?_
              refine go Tryz.tbs_ok 1000 ?_
              refine ev_if_no (ne_no (by with_reducible assumption)) ?_
              refine go Tryz.tbs_ok 1000 ?_
              refine ev_if_yes (beq_iff_eq.2 (show (↑n : Int) = 0 from (by omega))) ?_
              refine go Tryz.tbs_ok 1000 ?_
              refine ev_fin ⟨trivial, _, rfl, (()), rfl, (by trivial), Frm.nil _⟩
        · have hm0 : 0 ≤ m ∧ (n : Int) ≠ m := by omega
          obtain ⟨hm0, hm1⟩ := hm0
          refine go Tryz.tbs_ok 1000 ?_
          refine ev_if_yes (decide_eq_true (show (↑k : Int) ≤ 12 from (by omega))) ?_
          refine go Tryz.tbs_ok 1000 ?_
          refine ev_callF (TW ) [] [] rfl rfl (by decide) rfl (by simp) (fun _ => (by repeat (first | exact trivial | refine ⟨rfl, ?_⟩))) (fun _ h20 => ?_)
          refine go Tryz.tbs_ok 1000 ?_
          refine ev_stop (go_atE (sz := 1) Tryz.tbs_ok (0) rfl rfl rfl rfl rfl rfl (by omega) ?_)
          refine go Tryz.tbs_ok 1000 ?_
          have l21 : 0 < (v :: L).length := (by omega)
          refine ev_stop (go_loadE Tryz.tbs_ok (.inr 1) (0) 0 rfl rfl rfl rfl (fun _ h => Row.rd h) (by omega) (fun _ => rfl) (by omega) l21 (by decide) ?_)
          refine go Tryz.tbs_ok 1000 ?_
          refine ev_if_no (dec_no (by with_reducible assumption)) ?_
          refine go Tryz.tbs_ok 1000 ?_
          refine ev_stop (go_back Tryz.tbs_ok (1) (n + 1) (n + 1) rfl rfl rfl rfl rfl ⟨_, rfl⟩ rfl rfl (by decide) (by omega) (by omega) (by omega) ?_)
          refine go Tryz.tbs_ok 1000 ?_
          refine ev_callF (TN (x1)) [] [.inl 0, .inr 1] rfl rfl (by decide) rfl (by simp) (fun _ => (by repeat (first | exact trivial | refine ⟨rfl, ?_⟩))) (fun ⟨x22, x23⟩ h24 => ?_)
          refine go Tryz.tbs_ok 1000 ?_
          refine ev_if_no rfl ?_
          refine go Tryz.tbs_ok 1000 ?_
          refine ev_if_yes (decide_eq_true (by with_reducible assumption)) ?_
          refine go Tryz.tbs_ok 1000 ?_
          refine ev_if_yes (ne_yes (by with_reducible assumption)) ?_
          refine go Tryz.tbs_ok 1000 ?_
          refine ev_fin ⟨trivial, _, rfl, (()), rfl, (by trivial), Frm.nil _⟩
    · refine go Tryz.tbs_ok 1000 ?_
      refine ev_if_yes (decide_eq_true (show (↑k : Int) ≤ 12 from (by omega))) ?_
      refine go Tryz.tbs_ok 1000 ?_
      refine ev_callF (TW ) [] [] rfl rfl (by decide) rfl (by simp) (fun _ => (by repeat (first | exact trivial | refine ⟨rfl, ?_⟩))) (fun _ h20 => ?_)
      refine go Tryz.tbs_ok 1000 ?_
      refine ev_stop (go_atE (sz := 1) Tryz.tbs_ok (0) rfl rfl rfl rfl rfl rfl (by omega) ?_)
      refine go Tryz.tbs_ok 1000 ?_
      have l21 : 0 < (v :: L).length := (by omega)
      refine ev_stop (go_loadE Tryz.tbs_ok (.inr 1) (0) 0 rfl rfl rfl rfl (fun _ h => Row.rd h) (by omega) (fun _ => rfl) (by omega) l21 (by decide) ?_)
      refine go Tryz.tbs_ok 1000 ?_
      refine ev_if_yes (dec_yes (by with_reducible assumption)) ?_
      refine go Tryz.tbs_ok 1000 ?_
      refine ev_wrapN (k + 1) (by constructor <;> omega) (by rfl) ?_
      refine ev_fin (round_next (k + 1) (?_ : 1 ≤ k + 1 ∧ k + 1 ≤ 13 ∧ notTo v (k + 1)) (show 13 - (k + 1) < 13 - k from (by omega)) ⟨⟨by kernel_rfl, by kernel_rfl⟩, ⟨_, rfl⟩, ⟨_, rfl⟩, by kernel_rfl, by kernel_rfl⟩)
      exact ⟨by omega, by omega, hno.next hkv⟩
  · refine go Tryz.tbs_ok 1000 ?_
    refine ev_if_no (decide_eq_false (show ¬(↑k : Int) ≤ 12 from (by omega))) ?_
    refine go Tryz.tbs_ok 1000 ?_
    refine ev_fin (go Tryz.tbs_ok 1000 ?_)
    refine ev_fin ⟨trivial, _, rfl, (()), rfl, (by trivial), Frm.nil _⟩
end Go.Proofs.YtaiialpdlobioaaGreatDoor
namespace Go.Proofs.YtaiialpdlobioaaGreatDoor
open Go.Sy Go.RowKit
set_option maxHeartbeats 4000000 in
set_option maxRecDepth 100000 in
theorem readY (x : ByteArray) (hx9 : x.size ≤ 100000) (s : Stp) (hR : readB x = some s) : Triple Tryz.prog 24 [.string x] [] [EnvA] (Option Addr × Nat) (fun (C, e) => .tuple #[.agg (stpC s C e).toArray, .bool true]) (fun _ => True) (fun (C, _) => [Rd 1 C s.keep.length (s.keep.flatMap encN)]) := by
  obtain ⟨W, w, ws, hW⟩ := wds_of x
  obtain ⟨v, L, rfl⟩ : ∃ v L, W = v :: L := by
    obtain ⟨h, _⟩ := hW.fst
    cases W with
    | nil => exact absurd h (Nat.lt_irrefl 0)
    | cons v L => exact ⟨v, L, rfl⟩
  obtain ⟨_, hv⟩ := hW.fst
  obtain rfl : v = w := hv
  have hLl : L = ws.map mkB := hW.tl
  have hnum := hW.num
  have hle := hW.le
  obtain ⟨n, hn⟩ : ∃ n, n = L.length := ⟨_, rfl⟩
  have hwl : ws.length = n := by rw [hn, hLl, List.length_map]
  have hnL : numsL L = numsZ ws := by
    unfold numsL
    rw [hLl, List.map_map]
    exact congrArg numsZ (List.map_id' _)
  have TS := splitT x (by omega) (n + 1) (by rw [hW.all, hn]; rfl)
  rw [hW.all] at TS
  rw [List.length_cons] at hnum
  have hL9 : ∀ i (h : i < L.length), L[i].size ≤ 1000000 := fun i h => Nat.le_trans (hle (i + 1) (Nat.succ_lt_succ h)) (by omega)
  have hrd : ∀ (b : Nat) (N : List Asn), N = [EnvA, Rd 1 (backA (some ⟨b, 0, none⟩) (n + 1) 1 1) (n + 1 - 1) (L.flatMap encS)] → ∀ X ∈ N, ∃ Y ∈ [EnvA, Row 9 1 (some ⟨b, 0, none⟩) (n + 1) (n + 1) ((v :: L).flatMap encS)], ∀ h, Y.holds h → X.holds h := fun b N hN X hX => by
    subst hN
    simp only [List.mem_cons, List.not_mem_nil, or_false] at hX
    rcases hX with rfl | rfl
    · exact ⟨EnvA, List.mem_cons_self, fun _ q => q⟩
    · exact ⟨_, List.mem_cons_of_mem _ List.mem_cons_self, fun _ q => row_tail hn (Nat.le_refl _) q⟩
  have hka : ∀ k : Nat, 1 ≤ k → k < 13 → notTo v k → wordK k = v → kindB v = k := fun k h1 h2 h3 h4 => kind_at h1 (by omega) h4 h3
  rw [readB, hW.l, readW, show mkB v.data.toList = v from rfl] at hR
  obtain ⟨M, hz, hs, hk0, hn0, hm2⟩ : ∃ M, numsZ ws = some M ∧ s = layZ (kindB v) M ∧ kindB v ≠ 0 ∧ n ≠ 0 ∧ (0 ≤ manyK (kindB v) → (n : Int) = manyK (kindB v)) := by
    split at hR
    · cases hR
    · rename_i hc
      obtain ⟨⟨k', M⟩, h1, h2⟩ := Option.map_eq_some_iff.1 hR
      obtain ⟨M', h3, h4⟩ := Option.map_eq_some_iff.1 h1
      obtain ⟨rfl, rfl⟩ := Prod.mk.inj h4
      refine ⟨M', h3, h2.symm, fun q => hc (.inl q), ?_, fun q => ?_⟩
      · have : ws.length ≠ 0 := fun e => hc (.inr (.inl (List.eq_nil_of_length_eq_zero e)))
        omega
      · have : ¬ (ws.length : Int) ≠ manyK (kindB v) := fun e => hc (.inr (.inr ⟨q, e⟩))
        omega
  have hkm := many_of (kindB v) hk0 (kind_le v)
  have hml : M.length = n := by rw [← hwl, (nums_spec hz).1, List.length_map]
  have TN := fun b => (numbersS (backA (some ⟨b, 0, none⟩) (n + 1) 1 1) L (n + 1 - 1) (n + 1 - 1) (by omega) (by omega) hL9 M (hnL.trans hz)).reads (hrd b _ rfl)
  rw [show n + 1 - 1 = n from rfl] at TN
  clear hR
  refine triple_intro Tryz.tbs_ok Tryz.func24 rfl [.va (.string x)] [] ⟨trivial, trivial⟩ rfl (by simp) ?_
  intro E
  refine go_fact (Rd 1 none 0 (([] : List Int).flatMap encN)) (fun h => Row.rd (Row.nilE 3 1 h)) ?_
  refine go Tryz.tbs_ok 1000 ?_
  refine ev_new fun b0 => ?_
  refine ev_callF (TS ) [] [] rfl rfl (by decide) rfl (by simp) (fun _ => (by repeat (first | exact trivial | refine ⟨rfl, ?_⟩))) (fun x1 h2 => ?_)
  refine go Tryz.tbs_ok 1000 ?_
  refine ev_stop (go_loopR [3, 5, 6, 7, 8, 9, 12, 13, 14, 15, 16, 17, 18, 19, 20, 21, 22, 23, 24, 25, 26, 27, 28, 29, 30, 31, 32, 33, 34, 35, 36, 37, 38, 39, 40, 41, 42, 43, 44, 45, 46, 47, 48, 49, 50, 51, 52, 53] (fun (k : Nat) => [(5, .va (.int .i64 (k : Nat)))]) (fun _ => []) (fun k => 1 ≤ k ∧ k ≤ 13 ∧ notTo v k) (fun k => 13 - k) (1 : Nat) ⟨Nat.le_refl _, by decide, fun i h1 h2 => absurd h2 (by omega)⟩ ⟨⟨by kernel_rfl, by kernel_rfl⟩, ⟨_, rfl⟩, ⟨_, rfl⟩, by kernel_rfl, by kernel_rfl⟩ (fun k h_ => ?_))
  obtain ⟨hk1, hk2, hno⟩ := h_
  rcases Nat.lt_or_ge k 13 with hk3 | hk3
  · obtain ⟨m, hm⟩ : ∃ m, m = manyK k := ⟨_, rfl⟩
    have TW := wordsT (k : Int)
    rw [← hm] at TW
    by_cases hkv : wordK k = (v :: L)[0]'(Nat.succ_pos _)
    · have hkb := hka k hk1 hk3 hno hkv
      rw [hkb] at hs hm2 hkm
      rw [← hm] at hm2 hkm
      rcases hkm with ⟨rfl, rfl⟩ | hkm
      · obtain ⟨a, T, rfl⟩ : ∃ a T, M = a :: T := by
          cases M with
          | nil => exact absurd hml.symm hn0
          | cons a T => exact ⟨a, T, rfl⟩
        obtain rfl : s = ⟨10, a, 0, 0, 0, 0, 0, 0, 0, T⟩ := hs
        obtain rfl : n = (a :: T).length := hml.symm
        have TL := fun C e h => (layX C a T (a :: T).length e rfl h).reads (N' := [Row 3 1 C (a :: T).length e ((a :: T).flatMap encN)]) fun X hX => by
          rw [List.mem_singleton.1 hX]
          exact ⟨_, List.mem_singleton_self _, fun _ q => Row.rd q⟩
        refine go Tryz.tbs_ok 1000 ?_
        refine ev_if_yes rfl ?_
        refine go Tryz.tbs_ok 1000 ?_
        refine ev_callF (TW ) [] [] rfl rfl (by decide) rfl (by simp) (fun _ => (by repeat (first | exact trivial | refine ⟨rfl, ?_⟩))) (fun _ h20 => ?_)
        refine go Tryz.tbs_ok 1000 ?_
        refine ev_stop (go_atE (sz := 1) Tryz.tbs_ok (0) rfl rfl rfl rfl rfl rfl (by omega) ?_)
        refine go Tryz.tbs_ok 1000 ?_
        have l21 : 0 < (v :: L).length := (by omega)
        refine ev_stop (go_loadE Tryz.tbs_ok (.inr 2) (0) 0 rfl rfl rfl rfl (fun _ h => Row.rd h) (by omega) (fun _ => rfl) (by omega) l21 (by decide) ?_)
        refine go Tryz.tbs_ok 1000 ?_
        refine ev_if_no (dec_no (by with_reducible assumption)) ?_
        refine go Tryz.tbs_ok 1000 ?_
        refine ev_stop (go_back Tryz.tbs_ok (1) ((a :: T).length + 1) ((a :: T).length + 1) rfl rfl rfl rfl rfl ⟨_, rfl⟩ rfl rfl (by decide) (by omega) (by omega) (by omega) ?_)
        refine go Tryz.tbs_ok 1000 ?_
        refine ev_callF (TN (x1)) [] [.inl 0, .inr 2] rfl rfl (by decide) rfl (by simp) (fun _ => (by repeat (first | exact trivial | refine ⟨rfl, ?_⟩))) (fun ⟨x22, x23⟩ h24 => ?_)
        refine go Tryz.tbs_ok 1000 ?_
        refine ev_if_no rfl ?_
        refine go Tryz.tbs_ok 1000 ?_
        refine ev_if_no rfl ?_
        refine go Tryz.tbs_ok 1000 ?_
        refine ev_if_no rfl ?_
        refine go Tryz.tbs_ok 1000 ?_
        refine ev_callF (TL (x22) (x23) (by with_reducible assumption)) [] [.inr 3] rfl rfl (by decide) rfl (by simp) (fun _ => (by repeat (first | exact trivial | refine ⟨rfl, ?_⟩))) (fun _ h25 => ?_)
        refine go Tryz.tbs_ok 1000 ?_
        have hqe : (a :: T).length ≤ x23 := by assumption
        refine ev_fin ⟨trivial, _, rfl, (backA x22 x23 1 1, x23 - 1), rfl, trivial, Frm.imp (M := [Row 3 1 x22 (a :: T).length x23 ((a :: T).flatMap encN)]) [3] rfl (by decide) (fun h p => starH_one.2 ?_)⟩
        have := rd_part (lo := 1) (m := T.length) (mx := x23) (L := a :: T) (enc := encN) (sz := 1) (fun _ => rfl) (Row.rd (starH_one.1 p)) (by simp; omega) (by simp at hqe; omega)
        rw [List.take_of_length_le (by simp; omega)] at this
        exact this
      · have hlg : layG k n := by
          have := hm2 (by omega)
          unfold layG
          omega
        have hnm := hm2 (by omega)
        have hm3 : 0 ≤ m := by omega
        have hkt : (layZ k M).keep = [] := lay_keep k M (by omega)
        obtain ⟨y, hy⟩ : ∃ y, y = layZ k M := ⟨_, rfl⟩
        rw [← hy] at hs hkt
        obtain rfl : s = y := hs
        have TL := fun C e => (layT k C M n e hml.symm hlg).reads (N' := [Row 3 1 C n e (M.flatMap encN)]) fun X hX => by
          rw [List.mem_singleton.1 hX]
          exact ⟨_, List.mem_singleton_self _, fun _ q => Row.rd q⟩
        rw [← hy] at TL
        obtain ⟨k0, a, b, c, d, f, g, o, p, kp⟩ := s
        obtain rfl : kp = [] := hkt
        refine go Tryz.tbs_ok 1000 ?_
        refine ev_if_yes (decide_eq_true (show (↑k : Int) ≤ 12 from (by omega))) ?_
        refine go Tryz.tbs_ok 1000 ?_
        refine ev_callF (TW ) [] [] rfl rfl (by decide) rfl (by simp) (fun _ => (by repeat (first | exact trivial | refine ⟨rfl, ?_⟩))) (fun _ h20 => ?_)
        refine go Tryz.tbs_ok 1000 ?_
        refine ev_stop (go_atE (sz := 1) Tryz.tbs_ok (0) rfl rfl rfl rfl rfl rfl (by omega) ?_)
        refine go Tryz.tbs_ok 1000 ?_
        have l21 : 0 < (v :: L).length := (by omega)
        refine ev_stop (go_loadE Tryz.tbs_ok (.inr 2) (0) 0 rfl rfl rfl rfl (fun _ h => Row.rd h) (by omega) (fun _ => rfl) (by omega) l21 (by decide) ?_)
        refine go Tryz.tbs_ok 1000 ?_
        refine ev_if_no (dec_no (by with_reducible assumption)) ?_
        refine go Tryz.tbs_ok 1000 ?_
        refine ev_stop (go_back Tryz.tbs_ok (1) (n + 1) (n + 1) rfl rfl rfl rfl rfl ⟨_, rfl⟩ rfl rfl (by decide) (by omega) (by omega) (by omega) ?_)
        refine go Tryz.tbs_ok 1000 ?_
        refine ev_callF (TN (x1)) [] [.inl 0, .inr 2] rfl rfl (by decide) rfl (by simp) (fun _ => (by repeat (first | exact trivial | refine ⟨rfl, ?_⟩))) (fun ⟨x22, x23⟩ h24 => ?_)
        refine go Tryz.tbs_ok 1000 ?_
        refine ev_if_no rfl ?_
        refine go Tryz.tbs_ok 1000 ?_
        refine ev_if_yes (decide_eq_true (by with_reducible assumption)) ?_
        refine go Tryz.tbs_ok 1000 ?_
        refine ev_if_no (ne_no (by with_reducible assumption)) ?_
        refine go Tryz.tbs_ok 1000 ?_
        refine ev_if_no (beq_eq_false_iff_ne.2 (show ¬(↑n : Int) = 0 from (by omega))) ?_
        refine go Tryz.tbs_ok 1000 ?_
        refine ev_callF (TL (x22) (x23)) [] [.inr 3] rfl rfl (by decide) rfl (by simp) (fun _ => (by repeat (first | exact trivial | refine ⟨rfl, ?_⟩))) (fun _ h25 => ?_)
        refine go Tryz.tbs_ok 1000 ?_
        refine ev_fin ⟨trivial, _, rfl, ((none, 0)), rfl, (by trivial), Frm.sel [0] rfl (by decide)⟩
    · refine go Tryz.tbs_ok 1000 ?_
      refine ev_if_yes (decide_eq_true (show (↑k : Int) ≤ 12 from (by omega))) ?_
      refine go Tryz.tbs_ok 1000 ?_
      refine ev_callF (TW ) [] [] rfl rfl (by decide) rfl (by simp) (fun _ => (by repeat (first | exact trivial | refine ⟨rfl, ?_⟩))) (fun _ h20 => ?_)
      refine go Tryz.tbs_ok 1000 ?_
      refine ev_stop (go_atE (sz := 1) Tryz.tbs_ok (0) rfl rfl rfl rfl rfl rfl (by omega) ?_)
      refine go Tryz.tbs_ok 1000 ?_
      have l21 : 0 < (v :: L).length := (by omega)
      refine ev_stop (go_loadE Tryz.tbs_ok (.inr 2) (0) 0 rfl rfl rfl rfl (fun _ h => Row.rd h) (by omega) (fun _ => rfl) (by omega) l21 (by decide) ?_)
      refine go Tryz.tbs_ok 1000 ?_
      refine ev_if_yes (dec_yes (by with_reducible assumption)) ?_
      refine go Tryz.tbs_ok 1000 ?_
      refine ev_wrapN (k + 1) (by constructor <;> omega) (by rfl) ?_
      refine ev_fin (round_next (k + 1) (?_ : 1 ≤ k + 1 ∧ k + 1 ≤ 13 ∧ notTo v (k + 1)) (show 13 - (k + 1) < 13 - k from (by omega)) ⟨⟨by kernel_rfl, by kernel_rfl⟩, ⟨_, rfl⟩, ⟨_, rfl⟩, by kernel_rfl, by kernel_rfl⟩)
      exact ⟨by omega, by omega, hno.next hkv⟩
  · exact absurd hk0 (fun q => q (kind_none fun i h1 h2 => hno i h1 (by omega)))
end Go.Proofs.YtaiialpdlobioaaGreatDoor
namespace Go.Proofs.YtaiialpdlobioaaGreatDoor
open Go.Sy Go.RowKit
set_option maxRecDepth 100000 in
theorem ok_ord : EqOk Tryz.prog 23 := ⟨by kernel_rfl, by kernel_rfl⟩
set_option maxRecDepth 100000 in
theorem eq_ord (a b c d e a' b' c' d' e' : Int) (n : Nat) (w : World) : (Op.equalIn (n + 2) 23 (.agg #[.int .i64 a, .int .i64 b, .int .i64 c, .int .i64 d, .int .i64 e]) (.agg #[.int .i64 a', .int .i64 b', .int .i64 c', .int .i64 d', .int .i64 e'])).run Tryz.prog w
   = .ok (a == a' && (b == b' && (c == c' && (d == d' && (e == e' && true))))) w := by
  refine eq_struct ok_ord rfl ?_
  iterate 5 refine eqF_int (by decide) Tryz.underlying3 rfl rfl ?_
  exact eqF_nil
set_option maxRecDepth 100000 in
theorem equalN (C D : Option Addr) (L M : List Int) (m n d e : Nat) (hm : m = L.length) (hn : n = M.length) (h1 : m ≤ 1000000) :
    Triple Tryz.prog 109 [.slice C m d, .slice D n e] [] [Rd 1 C m (L.flatMap encN), Rd 1 D n (M.flatMap encN)] Unit (fun _ => .bool (decide (L = M))) (fun _ => True) (fun _ => []) := by
  refine triple_intro Tryz.tbs_ok Tryz.func109 rfl [.va (.slice C m d), .va (.slice D n e)] [] ⟨trivial, trivial, trivial⟩ rfl (by simp) ?_
  intro E
  refine go Tryz.tbs_ok 1000 ?_
  refine ev_if_ne (fun h0 => ?_) (fun h0 => ?_)
  refine go Tryz.tbs_ok 1000 ?_
  refine ev_fin ⟨trivial, _, rfl, (()), ?_, (by trivial), Frm.nil _⟩
  rotate_left
  refine go Tryz.tbs_ok 1000 ?_
  rotate_left
  · have : m ≠ n := by omega
    rw [decide_eq_false (fun e => this (by rw [hm, hn, e]))]
    rfl
  have hmn : m = n := by omega
  refine ev_stop (go_loopR [4, 5, 13, 14, 15, 16, 17, 18, 19, 20, 21, 22, 23, 24, 25] (fun i => [(13, .va (.int .i64 (i : Nat)))]) (fun _ => []) (fun i => i ≤ m ∧ L.take i = M.take i) (fun i => m - i) (0 : Nat) ⟨Nat.zero_le _, rfl⟩ ⟨⟨by kernel_rfl, by kernel_rfl⟩, ⟨_, rfl⟩, ⟨_, rfl⟩, by kernel_rfl, by kernel_rfl⟩ (fun i h_ => ?_))
  obtain ⟨hi, hE⟩ := h_
  rcases Nat.lt_or_ge i m with him | him
  · have hil : i < L.length := by omega
    have hin : i < M.length := by omega
    refine go Tryz.tbs_ok 1000 ?_
    refine ev_if_yes (decide_eq_true (show (↑i : Int) < (↑m : Int) from (by omega))) ?_
    refine go Tryz.tbs_ok 1000 ?_
    refine ev_stop (go_draw Tryz.tbs_ok true [] [(0,true),(1,true),(2,true),(3,true),(4,true),(5,true),(6,true),(7,true),(8,true)] rfl ?_)
    refine go Tryz.tbs_ok 1000 ?_
    refine ev_need ⟨⟨(by repeat (first | exact trivial | refine ⟨rfl, ?_⟩)), rfl⟩, by kernel_rfl⟩ ?_
    refine ev_stop (tk_indexE (sz := 1) Tryz.tbs_ok (.inl 0) (i) ⟨⟨(by repeat (first | exact trivial | refine ⟨rfl, ?_⟩)), rfl⟩, by kernel_rfl⟩ rfl rfl rfl rfl rfl rfl rfl (by omega) rfl (fun _ h => h) (fun g10 o12 e11 => ?_))
    subst e11
    refine go Tryz.tbs_ok 1000 ?_
    refine ev_need ⟨⟨(by repeat (first | exact trivial | refine ⟨rfl, ?_⟩)), rfl⟩, by kernel_rfl⟩ ?_
    have l13 : i < (L).length := (by omega)
    refine ev_stop (tk_loadE Tryz.tbs_ok (.inl 0) (i) 0 ⟨⟨(by repeat (first | exact trivial | refine ⟨rfl, ?_⟩)), rfl⟩, by kernel_rfl⟩ rfl rfl rfl rfl rfl (fun _ h => h) (by omega) (fun _ => rfl) (by omega) l13 (by decide) ?_)
    refine go Tryz.tbs_ok 1000 ?_
    refine ev_need ⟨⟨(by repeat (first | exact trivial | refine ⟨rfl, ?_⟩)), rfl⟩, by kernel_rfl⟩ ?_
    refine ev_stop (tk_indexE (sz := 1) Tryz.tbs_ok (.inl 1) (i) ⟨⟨(by repeat (first | exact trivial | refine ⟨rfl, ?_⟩)), rfl⟩, by kernel_rfl⟩ rfl rfl rfl rfl rfl rfl rfl (by omega) rfl (fun _ h => h) (fun g14 o16 e15 => ?_))
    subst e15
    refine go Tryz.tbs_ok 1000 ?_
    refine ev_need ⟨⟨(by repeat (first | exact trivial | refine ⟨rfl, ?_⟩)), rfl⟩, by kernel_rfl⟩ ?_
    have l17 : i < (M).length := (by omega)
    refine ev_stop (tk_loadE Tryz.tbs_ok (.inl 1) (i) 0 ⟨⟨(by repeat (first | exact trivial | refine ⟨rfl, ?_⟩)), rfl⟩, by kernel_rfl⟩ rfl rfl rfl rfl rfl (fun _ h => h) (by omega) (fun _ => rfl) (by omega) l17 (by decide) ?_)
    refine go Tryz.tbs_ok 1000 ?_
    refine ev_need ⟨⟨(by repeat (first | exact trivial | refine ⟨rfl, ?_⟩)), rfl⟩, by kernel_rfl⟩ ?_
    refine ev_if_ne (fun h18 => ?_) (fun h18 => ?_)
    refine go Tryz.tbs_ok 1000 ?_
    refine ev_fin ⟨trivial, _, rfl, (()), ?_, (by trivial), Frm.nil _⟩
    rotate_left
    refine go Tryz.tbs_ok 1000 ?_
    refine ev_wrapN (i + 1) (by constructor <;> omega) (by rfl) ?_
    refine ev_fin (round_next (i + 1) (?_ : i + 1 ≤ m ∧ List.take (i + 1) L = List.take (i + 1) M) (show m - (i + 1) < m - i from (by omega)) ⟨⟨by kernel_rfl, by kernel_rfl⟩, ⟨_, rfl⟩, ⟨_, rfl⟩, by kernel_rfl, by kernel_rfl⟩)
    rotate_left
    · rw [decide_eq_false (fun e => by subst e; exact absurd rfl ‹_›)]
      rfl
    · have he : L[i] = M[i] := by assumption
      exact ⟨by omega, by rw [← List.take_append_getElem hil, ← List.take_append_getElem hin, hE, he]⟩
  · have hir : i = m := by omega
    rw [List.take_of_length_le (by omega), List.take_of_length_le (by omega)] at hE
    rw [decide_eq_true hE]
    refine go Tryz.tbs_ok 1000 ?_
    refine ev_if_no (decide_eq_false (show ¬(↑i : Int) < (↑m : Int) from (by omega))) ?_
    refine go Tryz.tbs_ok 1000 ?_
    refine ev_fin (go Tryz.tbs_ok 1000 ?_)
    refine ev_fin ⟨trivial, _, rfl, (()), rfl, (by trivial), Frm.nil _⟩
end Go.Proofs.YtaiialpdlobioaaGreatDoor
namespace Go.Proofs.YtaiialpdlobioaaGreatDoor
open Go.Sy Go.RowKit
theorem stp_eq (k s t i a b c d e : Int) (L : List Int) (k' s' t' i' a' b' c' d' e' : Int) (M : List Int) : decide ((⟨k, s, t, i, a, b, c, d, e, L⟩ : Stp) = ⟨k', s', t', i', a', b', c', d', e', M⟩) = (decide (k = k') && decide (s = s') && decide (t = t') && decide (i = i') && (a == a' && (b == b' && (c == c' && (d == d' && (e == e' && true))))) && decide (L = M)) := by
  simp [Stp.mk.injEq, Bool.decide_and, Bool.and_assoc]
  rfl
set_option maxHeartbeats 4000000 in
set_option maxRecDepth 100000 in
theorem sameT (x y : Stp) (A B : Option Addr) (m n p q : Nat) (hm : m = x.keep.length) (hn : n = y.keep.length) (hm1 : m ≤ 1000000) : Triple Tryz.prog 64 [.agg (stpC x A p).toArray, .agg (stpC y B q).toArray] [] [Rd 1 A m (x.keep.flatMap encN), Rd 1 B n (y.keep.flatMap encN)] Unit (fun _ => .bool (decide (x = y))) (fun _ => True) (fun _ => []) := by
  obtain ⟨k, s, t, i, o1, o2, o3, o4, o5, L⟩ := x
  obtain ⟨k', s', t', i', q1, q2, q3, q4, q5, M⟩ := y
  have T1 := equalN A B L M m n p q hm hn hm1
  rw [stp_eq]
  obtain ⟨u, hu⟩ : ∃ u, u = (o1 == q1 && (o2 == q2 && (o3 == q3 && (o4 == q4 && (o5 == q5 && true))))) := ⟨_, rfl⟩
  have TO := fun w => eq_ord o1 o2 o3 o4 o5 q1 q2 q3 q4 q5 9998 w
  rw [← hu] at TO ⊢
  clear hu
  refine triple_intro Tryz.tbs_ok Tryz.func64 rfl [.ag [.va (.int .i64 k), .va (.int .i64 s), .va (.int .i64 t), .va (.int .i64 i), .va (.int .i64 o1), .va (.int .i64 o2), .va (.int .i64 o3), .va (.int .i64 o4), .va (.int .i64 o5), .va (.slice A L.length p)], .ag [.va (.int .i64 k'), .va (.int .i64 s'), .va (.int .i64 t'), .va (.int .i64 i'), .va (.int .i64 q1), .va (.int .i64 q2), .va (.int .i64 q3), .va (.int .i64 q4), .va (.int .i64 q5), .va (.slice B M.length q)]] [] ⟨by repeat (first | exact trivial | refine ⟨trivial, ?_⟩), by repeat (first | exact trivial | refine ⟨trivial, ?_⟩), trivial⟩ rfl (by simp) ?_
  intro E
  subst hm
  subst hn
  refine go Tryz.tbs_ok 1000 ?_
  refine ev_new fun b0 => ?_
  refine ev_new fun b1 => ?_
  refine ev_if_eq (fun h2 => ?_) (fun h2 => ?_)
  refine go Tryz.tbs_ok 1000 ?_
  refine ev_if_eq (fun h3 => ?_) (fun h3 => ?_)
  refine go Tryz.tbs_ok 1000 ?_
  refine ev_if_eq (fun h4 => ?_) (fun h4 => ?_)
  refine go Tryz.tbs_ok 1000 ?_
  refine ev_if_eq (fun h5 => ?_) (fun h5 => ?_)
  refine go Tryz.tbs_ok 1000 ?_
  rotate_left
  refine go Tryz.tbs_ok 1000 ?_
  refine ev_fin ⟨trivial, _, rfl, (()), ?_, (by trivial), Frm.nil _⟩
  rotate_left
  refine go Tryz.tbs_ok 1000 ?_
  refine ev_fin ⟨trivial, _, rfl, (()), ?_, (by trivial), Frm.nil _⟩
  rotate_left
  refine go Tryz.tbs_ok 1000 ?_
  refine ev_fin ⟨trivial, _, rfl, (()), ?_, (by trivial), Frm.nil _⟩
  rotate_left
  refine go Tryz.tbs_ok 1000 ?_
  refine ev_fin ⟨trivial, _, rfl, (()), ?_, (by trivial), Frm.nil _⟩
  rotate_left
  · refine ev_stop (go_val rfl (.bq u) trivial (fun _ w hR => eql_run (ev_denv hR.fr rfl rfl) (ev_denv hR.fr rfl rfl) (by kernel_rfl) (TO w)) ?_)
    refine go Tryz.tbs_ok 1000 ?_
    refine ev_if (fun h40 => ?_) (fun h40 => ?_)
    refine go Tryz.tbs_ok 1000 ?_
    refine ev_callF (T1 ) [] [.inl 0, .inl 1] rfl rfl (by decide) rfl (by simp) (fun _ => (by repeat (first | exact trivial | refine ⟨rfl, ?_⟩))) (fun _ h41 => ?_)
    refine go Tryz.tbs_ok 1000 ?_
    refine ev_fin ⟨trivial, _, rfl, (()), ?_, (by trivial), Frm.nil _⟩
    rotate_left
    refine go Tryz.tbs_ok 1000 ?_
    refine ev_fin ⟨trivial, _, rfl, (()), ?_, (by trivial), Frm.nil _⟩
    rotate_left
    all_goals (show Value.bool _ = Value.bool _; simp [*])
  all_goals (show Value.bool _ = Value.bool _; simp [*])
end Go.Proofs.YtaiialpdlobioaaGreatDoor
namespace Go.Proofs.YtaiialpdlobioaaGreatDoor
open Go.Sy Go.RowKit
set_option maxHeartbeats 4000000 in
set_option maxRecDepth 100000 in
/-- a step is the same as itself -/
theorem sameStep (x : Stp) (A B : Option Addr) (p q n : Nat) (hn : n = x.keep.length) (hn1 : n ≤ 1000000) : Triple Tryz.prog 26 [.agg (stpC x A p).toArray, .agg (stpC x B q).toArray] [] [Rd 1 A n (x.keep.flatMap encN), Rd 1 B n (x.keep.flatMap encN)] Unit (fun _ => .bool true) (fun _ => True) (fun _ => []) := by
  obtain ⟨k, s, t, i, o1, o2, o3, o4, o5, L⟩ := x
  have TO := fun w => eq_ord o1 o2 o3 o4 o5 o1 o2 o3 o4 o5 9998 w
  have hu : (o1 == o1 && (o2 == o2 && (o3 == o3 && (o4 == o4 && (o5 == o5 && true))))) = true := by simp
  rw [hu] at TO
  obtain ⟨m, hm⟩ : ∃ m, m = L.length := ⟨_, rfl⟩
  obtain rfl : n = m := hn.trans hm.symm
  refine triple_intro Tryz.tbs_ok Tryz.func26 rfl [.ag [.va (.int .i64 k), .va (.int .i64 s), .va (.int .i64 t), .va (.int .i64 i), .va (.int .i64 o1), .va (.int .i64 o2), .va (.int .i64 o3), .va (.int .i64 o4), .va (.int .i64 o5), .va (.slice A L.length p)], .ag [.va (.int .i64 k), .va (.int .i64 s), .va (.int .i64 t), .va (.int .i64 i), .va (.int .i64 o1), .va (.int .i64 o2), .va (.int .i64 o3), .va (.int .i64 o4), .va (.int .i64 o5), .va (.slice B L.length q)]] [] ⟨by repeat (first | exact trivial | refine ⟨trivial, ?_⟩), by repeat (first | exact trivial | refine ⟨trivial, ?_⟩), trivial⟩ rfl (by simp) ?_
  intro E
  rw [← hm]
  refine go Tryz.tbs_ok 1000 ?_
  refine ev_new fun b0 => ?_
  refine ev_new fun b1 => ?_
  refine ev_if_no (ne_no (show k = k from (by omega))) ?_
  refine go Tryz.tbs_ok 1000 ?_
  refine ev_if_no (ne_no (show s = s from (by omega))) ?_
  refine go Tryz.tbs_ok 1000 ?_
  refine ev_if_no (ne_no (show t = t from (by omega))) ?_
  refine go Tryz.tbs_ok 1000 ?_
  refine ev_if_no (ne_no (show i = i from (by omega))) ?_
  refine go Tryz.tbs_ok 1000 ?_
  refine ev_stop (go_val rfl (.bl false) trivial (fun _ w hR => neq_run (ev_denv hR.fr rfl rfl) (ev_denv hR.fr rfl rfl) (by kernel_rfl) (TO w)) ?_)
  refine go Tryz.tbs_ok 1000 ?_
  refine ev_if_no (ne_no (show (↑n : Int) = (↑n : Int) from (by omega))) ?_
  refine go Tryz.tbs_ok 1000 ?_
  refine ev_stop (go_loopR [0, 1, 4, 5, 34, 36, 48, 49, 50, 51, 52, 53, 54, 55, 56, 57, 58, 59, 60, 61, 62, 63, 64, 65] (fun j => [(5, .va (.int .i64 (j : Nat)))]) (fun _ => []) (fun j => j ≤ n ∧ True) (fun j => n - j) (0 : Nat) ⟨Nat.zero_le _, trivial⟩ ⟨⟨by kernel_rfl, by kernel_rfl⟩, ⟨_, rfl⟩, ⟨_, rfl⟩, by kernel_rfl, by kernel_rfl⟩ (fun j h_ => ?_))
  obtain ⟨hj, hE⟩ := h_
  rcases Nat.lt_or_ge j n with him | him
  · have hil : j < L.length := by omega
    refine go Tryz.tbs_ok 1000 ?_
    refine ev_if_yes (decide_eq_true (show (↑j : Int) < (↑n : Int) from (by omega))) ?_
    refine go Tryz.tbs_ok 1000 ?_
    refine ev_stop (go_draw Tryz.tbs_ok true [0, 1] [(0,true),(1,true),(2,true),(3,true),(4,true),(5,true),(6,true),(7,true),(8,true),(9,true),(10,true)] rfl ?_)
    refine go Tryz.tbs_ok 1000 ?_
    refine ev_need ⟨⟨(by repeat (first | exact trivial | refine ⟨rfl, ?_⟩)), rfl⟩, by kernel_rfl⟩ ?_
    refine ev_stop (tk_indexE (sz := 1) Tryz.tbs_ok (.inl 0) (j) ⟨⟨(by repeat (first | exact trivial | refine ⟨rfl, ?_⟩)), rfl⟩, by kernel_rfl⟩ rfl rfl rfl rfl rfl rfl rfl (by omega) rfl (fun _ h => h) (fun g60 o62 e61 => ?_))
    subst e61
    refine go Tryz.tbs_ok 1000 ?_
    refine ev_need ⟨⟨(by repeat (first | exact trivial | refine ⟨rfl, ?_⟩)), rfl⟩, by kernel_rfl⟩ ?_
    have l63 : j < (L).length := (by omega)
    refine ev_stop (tk_loadE Tryz.tbs_ok (.inl 0) (j) 0 ⟨⟨(by repeat (first | exact trivial | refine ⟨rfl, ?_⟩)), rfl⟩, by kernel_rfl⟩ rfl rfl rfl rfl rfl (fun _ h => h) (by omega) (fun _ => rfl) (by omega) l63 (by decide) ?_)
    refine go Tryz.tbs_ok 1000 ?_
    refine ev_need ⟨⟨(by repeat (first | exact trivial | refine ⟨rfl, ?_⟩)), rfl⟩, by kernel_rfl⟩ ?_
    refine ev_stop (tk_indexE (sz := 1) Tryz.tbs_ok (.inl 1) (j) ⟨⟨(by repeat (first | exact trivial | refine ⟨rfl, ?_⟩)), rfl⟩, by kernel_rfl⟩ rfl rfl rfl rfl rfl rfl rfl (by omega) rfl (fun _ h => h) (fun g64 o66 e65 => ?_))
    subst e65
    refine go Tryz.tbs_ok 1000 ?_
    refine ev_need ⟨⟨(by repeat (first | exact trivial | refine ⟨rfl, ?_⟩)), rfl⟩, by kernel_rfl⟩ ?_
    have l67 : j < (L).length := (by omega)
    refine ev_stop (tk_loadE Tryz.tbs_ok (.inl 1) (j) 0 ⟨⟨(by repeat (first | exact trivial | refine ⟨rfl, ?_⟩)), rfl⟩, by kernel_rfl⟩ rfl rfl rfl rfl rfl (fun _ h => h) (by omega) (fun _ => rfl) (by omega) l67 (by decide) ?_)
    refine go Tryz.tbs_ok 1000 ?_
    refine ev_need ⟨⟨(by repeat (first | exact trivial | refine ⟨rfl, ?_⟩)), rfl⟩, by kernel_rfl⟩ ?_
    refine ev_if_no (ne_no (show L[j] = L[j] from (by omega))) ?_
    refine go Tryz.tbs_ok 1000 ?_
    refine ev_wrapN (j + 1) (by constructor <;> omega) (by rfl) ?_
    refine ev_fin (round_next (j + 1) (show j + 1 ≤ n ∧ True from (by trivial)) (show n - (j + 1) < n - j from (by omega)) ⟨⟨by kernel_rfl, by kernel_rfl⟩, ⟨_, rfl⟩, ⟨_, rfl⟩, by kernel_rfl, by kernel_rfl⟩)
  · refine go Tryz.tbs_ok 1000 ?_
    refine ev_if_no (decide_eq_false (show ¬(↑j : Int) < (↑n : Int) from (by omega))) ?_
    refine go Tryz.tbs_ok 1000 ?_
    refine ev_fin (go Tryz.tbs_ok 1000 ?_)
    refine ev_fin ⟨trivial, _, rfl, (()), rfl, (by trivial), Frm.nil _⟩
end Go.Proofs.YtaiialpdlobioaaGreatDoor
namespace Go.Proofs.YtaiialpdlobioaaGreatDoor
open Go.Sy Go.RowKit
set_option maxHeartbeats 8000000 in
set_option maxRecDepth 100000 in
theorem takeT (x : Stp) (A : Option Addr) (p m n : Nat) (hm : m = x.keep.length) (hm1 : m ≤ 1000000) (R : List Int) (hR : R = takeZ x) (hn : n = R.length) : Triple Tryz.prog 62 [.agg (stpC x A p).toArray] [] [Rd 1 A m (x.keep.flatMap encN)] (Option Addr × Nat) (fun (C, e) => .slice C n e) (fun _ => True) (fun (C, e) => [Row 3 1 C n e (R.flatMap encN)]) := by
  obtain ⟨k, s, t, i, o1, o2, o3, o4, o5, L⟩ := x
  obtain rfl : m = L.length := hm
  subst hn
  refine triple_intro Tryz.tbs_ok Tryz.func62 rfl [.ag [.va (.int .i64 k), .va (.int .i64 s), .va (.int .i64 t), .va (.int .i64 i), .va (.int .i64 o1), .va (.int .i64 o2), .va (.int .i64 o3), .va (.int .i64 o4), .va (.int .i64 o5), .va (.slice A L.length p)]] [] ⟨by repeat (first | exact trivial | refine ⟨trivial, ?_⟩), trivial⟩ rfl (by simp) ?_
  intro E
  by_cases h456 : k = 4 ∨ k = 5 ∨ k = 6
  · obtain rfl : R = [i] := hR.trans (if_pos h456)
    rcases h456 with rfl | rfl | rfl
    · refine go Tryz.tbs_ok 1000 ?_
      refine ev_new fun b0 => ?_
      refine ev_new fun b1 => ?_
      refine ev_if_yes rfl ?_
      refine go Tryz.tbs_ok 1000 ?_
      refine ev_if_yes rfl ?_
      refine go Tryz.tbs_ok 1000 ?_
      refine ev_new fun b2 => ?_
      refine ev_fin ⟨trivial, _, rfl, (some ⟨b2, 0, none⟩, 1), rfl, trivial, Frm.imp (M := [Pt b2 3 (([i] : List Int).flatMap encN)]) [2] rfl (by decide) (fun h p => starH_one.2 (Pt.row (starH_one.1 p) rfl (show 1 ≤ maxLen by decide)))⟩
    · refine go Tryz.tbs_ok 1000 ?_
      refine ev_new fun b0 => ?_
      refine ev_new fun b1 => ?_
      refine ev_if_no rfl ?_
      refine go Tryz.tbs_ok 1000 ?_
      refine ev_if_yes rfl ?_
      refine go Tryz.tbs_ok 1000 ?_
      refine ev_if_yes rfl ?_
      refine go Tryz.tbs_ok 1000 ?_
      refine ev_new fun b2 => ?_
      refine ev_fin ⟨trivial, _, rfl, (some ⟨b2, 0, none⟩, 1), rfl, trivial, Frm.imp (M := [Pt b2 3 (([i] : List Int).flatMap encN)]) [2] rfl (by decide) (fun h p => starH_one.2 (Pt.row (starH_one.1 p) rfl (show 1 ≤ maxLen by decide)))⟩
    · refine go Tryz.tbs_ok 1000 ?_
      refine ev_new fun b0 => ?_
      refine ev_new fun b1 => ?_
      refine ev_if_no rfl ?_
      refine go Tryz.tbs_ok 1000 ?_
      refine ev_if_no rfl ?_
      refine go Tryz.tbs_ok 1000 ?_
      refine ev_if_yes rfl ?_
      refine go Tryz.tbs_ok 1000 ?_
      refine ev_new fun b2 => ?_
      refine ev_fin ⟨trivial, _, rfl, (some ⟨b2, 0, none⟩, 1), rfl, trivial, Frm.imp (M := [Pt b2 3 (([i] : List Int).flatMap encN)]) [2] rfl (by decide) (fun h p => starH_one.2 (Pt.row (starH_one.1 p) rfl (show 1 ≤ maxLen by decide)))⟩
  have h4 : ¬ k = 4 := by omega
  have h5 : ¬ k = 5 := by omega
  have h6 : ¬ k = 6 := by omega
  rw [takeZ, if_neg h456] at hR
  by_cases h1 : k = 1
  · obtain rfl : R = [s, o1, o2, o3, o4, o5] := hR.trans (if_pos h1)
    subst h1
    refine go Tryz.tbs_ok 1000 ?_
    refine ev_new fun b0 => ?_
    refine ev_new fun b1 => ?_
    refine ev_if_no rfl ?_
    refine go Tryz.tbs_ok 1000 ?_
    refine ev_if_no rfl ?_
    refine go Tryz.tbs_ok 1000 ?_
    refine ev_if_no rfl ?_
    refine go Tryz.tbs_ok 1000 ?_
    refine ev_if_yes rfl ?_
    refine go Tryz.tbs_ok 1000 ?_
    refine ev_new fun b2 => ?_
    refine ev_fin ⟨trivial, _, rfl, (some ⟨b2, 0, none⟩, 6), rfl, trivial, Frm.imp (M := [Pt b2 3 (([s, o1, o2, o3, o4, o5] : List Int).flatMap encN)]) [2] rfl (by decide) (fun h p => starH_one.2 (Pt.row (starH_one.1 p) rfl (show 6 ≤ maxLen by decide)))⟩
  rw [if_neg h1] at hR
  by_cases h7 : k = 7
  · obtain rfl : R = [s, t] := hR.trans (if_pos h7)
    subst h7
    refine go Tryz.tbs_ok 1000 ?_
    refine ev_new fun b0 => ?_
    refine ev_new fun b1 => ?_
    refine ev_if_no rfl ?_
    refine go Tryz.tbs_ok 1000 ?_
    refine ev_if_no rfl ?_
    refine go Tryz.tbs_ok 1000 ?_
    refine ev_if_no rfl ?_
    refine go Tryz.tbs_ok 1000 ?_
    refine ev_if_no rfl ?_
    refine go Tryz.tbs_ok 1000 ?_
    refine ev_if_yes rfl ?_
    refine go Tryz.tbs_ok 1000 ?_
    refine ev_new fun b2 => ?_
    refine ev_fin ⟨trivial, _, rfl, (some ⟨b2, 0, none⟩, 2), rfl, trivial, Frm.imp (M := [Pt b2 3 (([s, t] : List Int).flatMap encN)]) [2] rfl (by decide) (fun h p => starH_one.2 (Pt.row (starH_one.1 p) rfl (show 2 ≤ maxLen by decide)))⟩
  rw [if_neg h7] at hR
  by_cases h8 : k = 8
  · obtain rfl : R = [s, t, i] := hR.trans (if_pos h8)
    subst h8
    refine go Tryz.tbs_ok 1000 ?_
    refine ev_new fun b0 => ?_
    refine ev_new fun b1 => ?_
    refine ev_if_no rfl ?_
    refine go Tryz.tbs_ok 1000 ?_
    refine ev_if_no rfl ?_
    refine go Tryz.tbs_ok 1000 ?_
    refine ev_if_no rfl ?_
    refine go Tryz.tbs_ok 1000 ?_
    refine ev_if_no rfl ?_
    refine go Tryz.tbs_ok 1000 ?_
    refine ev_if_no rfl ?_
    refine go Tryz.tbs_ok 1000 ?_
    refine ev_if_yes rfl ?_
    refine go Tryz.tbs_ok 1000 ?_
    refine ev_new fun b2 => ?_
    refine ev_fin ⟨trivial, _, rfl, (some ⟨b2, 0, none⟩, 3), rfl, trivial, Frm.imp (M := [Pt b2 3 (([s, t, i] : List Int).flatMap encN)]) [2] rfl (by decide) (fun h p => starH_one.2 (Pt.row (starH_one.1 p) rfl (show 3 ≤ maxLen by decide)))⟩
  rw [if_neg h8] at hR
  by_cases h9 : k = 9
  · obtain rfl : R = [s, o2, o1] := hR.trans (if_pos h9)
    subst h9
    refine go Tryz.tbs_ok 1000 ?_
    refine ev_new fun b0 => ?_
    refine ev_new fun b1 => ?_
    refine ev_if_no rfl ?_
    refine go Tryz.tbs_ok 1000 ?_
    refine ev_if_no rfl ?_
    refine go Tryz.tbs_ok 1000 ?_
    refine ev_if_no rfl ?_
    refine go Tryz.tbs_ok 1000 ?_
    refine ev_if_no rfl ?_
    refine go Tryz.tbs_ok 1000 ?_
    refine ev_if_no rfl ?_
    refine go Tryz.tbs_ok 1000 ?_
    refine ev_if_no rfl ?_
    refine go Tryz.tbs_ok 1000 ?_
    refine ev_if_yes rfl ?_
    refine go Tryz.tbs_ok 1000 ?_
    refine ev_new fun b2 => ?_
    refine ev_fin ⟨trivial, _, rfl, (some ⟨b2, 0, none⟩, 3), rfl, trivial, Frm.imp (M := [Pt b2 3 (([s, o2, o1] : List Int).flatMap encN)]) [2] rfl (by decide) (fun h p => starH_one.2 (Pt.row (starH_one.1 p) rfl (show 3 ≤ maxLen by decide)))⟩
  rw [if_neg h9] at hR
  by_cases h10 : k = 10
  · obtain rfl : R = s :: L := hR.trans (if_pos h10)
    subst h10
    refine go Tryz.tbs_ok 1000 ?_
    refine ev_new fun b0 => ?_
    refine ev_new fun b1 => ?_
    refine ev_if_no rfl ?_
    refine go Tryz.tbs_ok 1000 ?_
    refine ev_if_no rfl ?_
    refine go Tryz.tbs_ok 1000 ?_
    refine ev_if_no rfl ?_
    refine go Tryz.tbs_ok 1000 ?_
    refine ev_if_no rfl ?_
    refine go Tryz.tbs_ok 1000 ?_
    refine ev_if_no rfl ?_
    refine go Tryz.tbs_ok 1000 ?_
    refine ev_if_no rfl ?_
    refine go Tryz.tbs_ok 1000 ?_
    refine ev_if_no rfl ?_
    refine go Tryz.tbs_ok 1000 ?_
    refine ev_if_yes rfl ?_
    refine go Tryz.tbs_ok 1000 ?_
    refine ev_new fun b2 => ?_
    refine ev_stop (go_appendE (sz := 1) (M := [_]) (enc := encN) Tryz.tbs_ok [2] [some b2] (.inl 0) ([s]) (L) (([s]) ++ (L)) (1 + L.length) rfl rfl rfl rfl rfl rfl rfl (by decide) rfl (by decide) (fun _ p => Pt.row (starH_one.1 p) rfl (by decide)) rfl (fun _ h => h) (by first | rfl | simp) (by first | rfl | omega) (le_app (s := 1 + L.length) (by omega) (by first | rfl | omega)) (le_appb (s := 1 + L.length) (by omega) (by first | rfl | omega) (by decide)) (fun _ _ => (by repeat (first | exact trivial | refine ⟨rfl, ?_⟩))) (fun A3 c4 h5 => ?_))
    refine go Tryz.tbs_ok 1000 ?_
    refine ev_fin ⟨trivial, _, rfl, (A3, c4), ?_, trivial, Frm.imp (M := [Row 3 1 A3 (1 + L.length) c4 ((s :: L).flatMap encN)]) [3] rfl (by decide) (fun h p => ?_)⟩
    · show Value.slice A3 (1 + L.length) c4 = Value.slice A3 (L.length + 1) c4
      rw [Nat.add_comm]
    · rw [Nat.add_comm] at p
      exact p
  rw [if_neg h10] at hR
  obtain rfl : R = [s] := hR
  refine go Tryz.tbs_ok 1000 ?_
  refine ev_new fun b0 => ?_
  refine ev_new fun b1 => ?_
  refine ev_if_no (beq_eq_false_iff_ne.2 (by with_reducible assumption)) ?_
  refine go Tryz.tbs_ok 1000 ?_
  refine ev_if_no (beq_eq_false_iff_ne.2 (by with_reducible assumption)) ?_
  refine go Tryz.tbs_ok 1000 ?_
  refine ev_if_no (beq_eq_false_iff_ne.2 (by with_reducible assumption)) ?_
  refine go Tryz.tbs_ok 1000 ?_
  refine ev_if_no (beq_eq_false_iff_ne.2 (by with_reducible assumption)) ?_
  refine go Tryz.tbs_ok 1000 ?_
  refine ev_if_no (beq_eq_false_iff_ne.2 (by with_reducible assumption)) ?_
  refine go Tryz.tbs_ok 1000 ?_
  refine ev_if_no (beq_eq_false_iff_ne.2 (by with_reducible assumption)) ?_
  refine go Tryz.tbs_ok 1000 ?_
  refine ev_if_no (beq_eq_false_iff_ne.2 (by with_reducible assumption)) ?_
  refine go Tryz.tbs_ok 1000 ?_
  refine ev_if_no (beq_eq_false_iff_ne.2 (by with_reducible assumption)) ?_
  refine go Tryz.tbs_ok 1000 ?_
  refine ev_new fun b2 => ?_
  refine ev_fin ⟨trivial, _, rfl, (some ⟨b2, 0, none⟩, 1), rfl, trivial, Frm.imp (M := [Pt b2 3 (([s] : List Int).flatMap encN)]) [2] rfl (by decide) (fun h p => starH_one.2 (Pt.row (starH_one.1 p) rfl (show 1 ≤ maxLen by decide)))⟩
end Go.Proofs.YtaiialpdlobioaaGreatDoor
namespace Go.Proofs.YtaiialpdlobioaaGreatDoor
open Go.Sy Go.RowKit
/-- all numbers of a step are ints -/
def i64 (z : Int) : Prop := -9223372036854775808 ≤ z ∧ z ≤ 9223372036854775807
structure StpOk (x : Stp) : Prop where
  ks : i64 x.k ∧ i64 x.site ∧ i64 x.stream ∧ i64 x.index ∧ i64 x.oid ∧ i64 x.ostream ∧ i64 x.oexp ∧ i64 x.okind ∧ i64 x.oarg
  kp : ∀ z ∈ x.keep, i64 z
theorem take_ok {x : Stp} (h : StpOk x) : ∀ z ∈ takeZ x, i64 z := by
  obtain ⟨h0, h1, h2, h3, h4, h5, h6, h7, h8⟩ := h.ks
  intro z hz
  unfold takeZ at hz
  repeat' split at hz
  all_goals simp only [List.mem_cons, List.not_mem_nil, or_false] at hz
  all_goals first
    | (rcases hz with rfl | hz <;> first | assumption | exact h.kp z hz)
    | (subst hz; assumption)
    | (rcases hz with rfl | rfl <;> assumption)
    | (rcases hz with rfl | rfl | rfl <;> assumption)
    | (rcases hz with rfl | rfl | rfl | rfl | rfl | rfl <;> assumption)
theorem take_len (x : Stp) : (takeZ x).length ≤ 6 + x.keep.length := by
  unfold takeZ
  repeat' split
  all_goals simp
  all_goals omega
/-- the line up to so many numbers -/
def lineTo (x : Stp) (j : Nat) : ByteArray := ((takeZ x).take j).foldl (fun l n => l ++ (⟨#[32]⟩ ++ mkB (Lib.itoa n))) (wordK x.k)
theorem lineTo_next (x : Stp) (j : Nat) (hj : j < (takeZ x).length) : lineTo x (j + 1) = lineTo x j ++ (⟨#[32]⟩ ++ mkB (Lib.itoa ((takeZ x)[j]))) := by
  unfold lineTo
  rw [← List.take_append_getElem hj, List.foldl_append]
  rfl
theorem lineTo_all (x : Stp) (j : Nat) (hj : (takeZ x).length ≤ j) : lineTo x j = lineB x := by
  unfold lineTo
  rw [List.take_of_length_le hj]
  rfl
theorem mkB_size (l : List UInt8) : (mkB l).size = l.length := rfl
theorem wordK_size (k : Int) : (wordK k).size ≤ 10 := by
  unfold wordK
  split
  · rename_i h
    have q : k = 1 ∨ k = 2 ∨ k = 3 ∨ k = 4 ∨ k = 5 ∨ k = 6 ∨ k = 7 ∨ k = 8 ∨ k = 9 ∨ k = 10 ∨ k = 11 ∨ k = 12 := by omega
    rcases q with rfl | rfl | rfl | rfl | rfl | rfl | rfl | rfl | rfl | rfl | rfl | rfl <;> decide
  · decide
theorem lineTo_size {x : Stp} (h : StpOk x) : ∀ j, (lineTo x j).size ≤ 10 + 22 * j
  | 0 => by
    show (wordK x.k).size ≤ _
    exact wordK_size _
  | j + 1 => by
    have ih := lineTo_size h j
    rcases Nat.lt_or_ge j (takeZ x).length with hj | hj
    · rw [lineTo_next x j hj]
      have hz := take_ok h _ (List.getElem_mem hj)
      have := Lib.itoa_length_le (takeZ x)[j] hz.1 hz.2
      rw [ByteArray.size_append, ByteArray.size_append, mkB_size]
      have : (⟨#[32]⟩ : ByteArray).size = 1 := rfl
      omega
    · rw [lineTo_all x _ (by omega), ← lineTo_all x j hj]
      omega
set_option maxHeartbeats 8000000 in
set_option maxRecDepth 100000 in
/-- the line of a step that is read as it -/
theorem writeY (x : Stp) (h : StpOk x) (A : Option Addr) (p m : Nat) (hm : m = x.keep.length) (hm1 : m ≤ 500) (hR : readB (lineB x) = some x) : Triple Tryz.prog 27 [.agg (stpC x A p).toArray] [] [EnvA, Rd 1 A m (x.keep.flatMap encN)] Unit (fun _ => .tuple #[.string (lineB x), .bool true]) (fun _ => True) (fun _ => []) := by
  subst hm
  obtain ⟨M, hM⟩ : ∃ M, M = takeZ x := ⟨_, rfl⟩
  obtain ⟨n, hn⟩ : ∃ n, n = M.length := ⟨_, rfl⟩
  have hMx := take_ok h
  have hMl := take_len x
  have hls := lineTo_size h
  have hla := lineTo_all x n (by rw [hn, hM]; exact Nat.le_refl _)
  have hnx := lineTo_next x
  rw [← hM] at hMx hMl
  have hm1' : x.keep.length ≤ 1000000 := by omega
  have T1 := wordsT x.k
  have T2 := takeT x A p x.keep.length n rfl hm1' M hM hn
  have T3 := readY (lineB x) (by rw [← hla]; have := hls n; omega) x hR
  have T4 := fun B q => sameT x x A B x.keep.length x.keep.length p q rfl rfl hm1'
  obtain ⟨y, hy⟩ : ∃ y, y = lineB x := ⟨_, rfl⟩
  rw [← hy] at hla T3 ⊢
  obtain ⟨F, hF⟩ : ∃ F : Nat → ByteArray, F = lineTo x := ⟨_, rfl⟩
  have hF0 : F 0 = wordK x.k := by rw [hF]; rfl
  rw [← hF] at hla hls hnx
  rw [← hF0] at T1
  have hx : x = ⟨x.k, x.site, x.stream, x.index, x.oid, x.ostream, x.oexp, x.okind, x.oarg, x.keep⟩ := rfl
  refine triple_intro Tryz.tbs_ok Tryz.func27 rfl [.ag [.va (.int .i64 x.k), .va (.int .i64 x.site), .va (.int .i64 x.stream), .va (.int .i64 x.index), .va (.int .i64 x.oid), .va (.int .i64 x.ostream), .va (.int .i64 x.oexp), .va (.int .i64 x.okind), .va (.int .i64 x.oarg), .va (.slice A x.keep.length p)]] [] ⟨by repeat (first | exact trivial | refine ⟨trivial, ?_⟩), trivial⟩ rfl (by simp) ?_
  intro E
  refine go Tryz.tbs_ok 1000 ?_
  refine ev_new fun b0 => ?_
  refine ev_callF (T1 ) [] [] rfl rfl (by decide) rfl (by simp) (fun _ => (by repeat (first | exact trivial | refine ⟨rfl, ?_⟩))) (fun _ h1 => ?_)
  refine go Tryz.tbs_ok 1000 ?_
  refine ev_callF (T2 ) [] [.inl 1] rfl rfl (by decide) rfl (by simp) (fun _ => (by repeat (first | exact trivial | refine ⟨rfl, ?_⟩))) (fun ⟨x2, x3⟩ h4 => ?_)
  refine go Tryz.tbs_ok 1000 ?_
  refine ev_stop (go_loopR [0, 4, 7, 10, 13, 16, 19, 20, 21, 22, 23, 24, 25, 26, 27, 28] (fun (j, s) => [(4, .va (.string s)), (19, .va (.int .i64 (j : Nat)))]) (fun _ => []) (fun (j, s) => j ≤ n ∧ s = F j) (fun (j, _) => n - j) ((0, F 0) : Nat × ByteArray) ⟨Nat.zero_le _, rfl⟩ ⟨⟨by kernel_rfl, by kernel_rfl⟩, ⟨_, rfl⟩, ⟨_, rfl⟩, by kernel_rfl, by kernel_rfl⟩ (fun x_ h_ => ?_))
  obtain ⟨j, s⟩ := x_
  obtain ⟨hj, hs⟩ := h_
  rcases Nat.lt_or_ge j n with hjn | hjn
  · have hjM : j < M.length := by omega
    have hz := hMx _ (List.getElem_mem hjM)
    have T5 := itoaZ (M[j]'hjM) hz.1 hz.2
    have hs1 : (⟨#[32]⟩ : ByteArray).size = 1 := rfl
    have hs2 : (mkB (Lib.itoa (M[j]'hjM))).size ≤ 21 := Lib.itoa_length_le _ hz.1 hz.2
    have hs3 := hls j
    rw [← hs] at hs3
    have hs4 : (⟨#[32]⟩ ++ mkB (Lib.itoa (M[j]'hjM))).size ≤ 22 := by rw [ByteArray.size_append]; omega
    have hn2 := hnx j (by rw [← hM]; exact hjM)
    simp only [← hM, ← hs] at hn2
    refine go Tryz.tbs_ok 1000 ?_
    refine ev_if_yes (decide_eq_true (show (↑j : Int) < (↑n : Int) from (by omega))) ?_
    refine go Tryz.tbs_ok 1000 ?_
    refine ev_stop (go_index0 (sz := 1) Tryz.tbs_ok (.inr 1) (j) rfl rfl rfl rfl rfl rfl (by omega) rfl Row.at0 (fun g20 e21 => ?_))
    subst e21
    refine go Tryz.tbs_ok 1000 ?_
    have l22 : j < (M).length := (by omega)
    refine ev_stop (go_loadE Tryz.tbs_ok (.inr 1) (j) 0 rfl rfl rfl rfl (fun _ h => Row.rd h) (by omega) (fun _ => rfl) (by omega) l22 (by decide) ?_)
    refine go Tryz.tbs_ok 1000 ?_
    refine ev_callF (T5 ) [] [.inl 0] rfl rfl (by decide) rfl (by simp) (fun _ => (by repeat (first | exact trivial | refine ⟨rfl, ?_⟩))) (fun _ h23 => ?_)
    refine go Tryz.tbs_ok 1000 ?_
    refine ev_stop (go_bin (.va _) trivial rfl rfl rfl rfl rfl (by decide) (by decide) (fun w => cat_run (by omega) w) ?_)
    refine go Tryz.tbs_ok 1000 ?_
    refine ev_stop (go_bin (.va _) trivial rfl rfl rfl rfl rfl (by decide) (by decide) (fun w => cat_run (by omega) w) ?_)
    refine go Tryz.tbs_ok 1000 ?_
    refine ev_wrapN (j + 1) (by constructor <;> omega) (by rfl) ?_
    refine ev_fin (round_next ((j + 1, s ++ ({ data := #[32] : ByteArray } ++ mkB (Lib.itoa M[j])))) (?_ : j + 1 ≤ n ∧ s ++ ({ data := #[32] : ByteArray } ++ mkB (Lib.itoa M[j])) = F (j + 1)) (show n - (j + 1) < n - j from (by omega)) ⟨⟨by kernel_rfl, by kernel_rfl⟩, ⟨_, rfl⟩, ⟨_, rfl⟩, by kernel_rfl, by kernel_rfl⟩)
    exact ⟨by omega, hn2.symm⟩
  · obtain rfl : j = n := by omega
    obtain rfl : s = y := hs.trans hla
    refine go Tryz.tbs_ok 1000 ?_
    refine ev_if_no (decide_eq_false (show ¬(↑j : Int) < (↑j : Int) from (by omega))) ?_
    refine go Tryz.tbs_ok 1000 ?_
    refine ev_fin (go Tryz.tbs_ok 1000 ?_)
    refine ev_callF (T3 ) [] [.inl 0] rfl rfl (by decide) rfl (by simp) (fun _ => (by repeat (first | exact trivial | refine ⟨rfl, ?_⟩))) (fun ⟨x20, x21⟩ h22 => ?_)
    refine go Tryz.tbs_ok 1000 ?_
    refine ev_new fun b23 => ?_
    refine ev_if_no rfl ?_
    refine go Tryz.tbs_ok 1000 ?_
    refine ev_callF (T4 (x20) (x21)) [] [.inl 1, .inr 2] rfl rfl (by decide) rfl (by simp) (fun _ => (by repeat (first | exact trivial | refine ⟨rfl, ?_⟩))) (fun _ h24 => ?_)
    refine go Tryz.tbs_ok 1000 ?_
    refine ev_if_no (dec_no (by rfl)) ?_
    refine go Tryz.tbs_ok 1000 ?_
    refine ev_fin ⟨trivial, _, rfl, (()), rfl, (by trivial), Frm.nil _⟩
end Go.Proofs.YtaiialpdlobioaaGreatDoor
namespace Go.Proofs.YtaiialpdlobioaaGreatDoor
open Go.Sy Go.RowKit
set_option maxHeartbeats 8000000 in
set_option maxRecDepth 100000 in
/-- of a step that its line is not read as there is none -/
theorem writeN (x : Stp) (h : StpOk x) (A : Option Addr) (p m : Nat) (hm : m = x.keep.length) (hm1 : m ≤ 500) (hR : readB (lineB x) ≠ some x) : Triple Tryz.prog 27 [.agg (stpC x A p).toArray] [] [EnvA, Rd 1 A m (x.keep.flatMap encN)] Unit (fun _ => .tuple #[.string ⟨#[]⟩, .bool false]) (fun _ => True) (fun _ => []) := by
  subst hm
  obtain ⟨M, hM⟩ : ∃ M, M = takeZ x := ⟨_, rfl⟩
  obtain ⟨n, hn⟩ : ∃ n, n = M.length := ⟨_, rfl⟩
  have hMx := take_ok h
  have hMl := take_len x
  have hls := lineTo_size h
  have hla := lineTo_all x n (by rw [hn, hM]; exact Nat.le_refl _)
  have hnx := lineTo_next x
  rw [← hM] at hMx hMl
  have hm1' : x.keep.length ≤ 1000000 := by omega
  have T1 := wordsT x.k
  have T2 := takeT x A p x.keep.length n rfl hm1' M hM hn
  have hsz : (lineB x).size ≤ 100000 := by rw [← hla]; have := hls n; omega
  obtain ⟨y, hy⟩ : ∃ y, y = lineB x := ⟨_, rfl⟩
  rw [← hy] at hla hR hsz
  obtain ⟨F, hF⟩ : ∃ F : Nat → ByteArray, F = lineTo x := ⟨_, rfl⟩
  have hF0 : F 0 = wordK x.k := by rw [hF]; rfl
  rw [← hF] at hla hls hnx
  rw [← hF0] at T1
  have hx : x = ⟨x.k, x.site, x.stream, x.index, x.oid, x.ostream, x.oexp, x.okind, x.oarg, x.keep⟩ := rfl
  refine triple_intro Tryz.tbs_ok Tryz.func27 rfl [.ag [.va (.int .i64 x.k), .va (.int .i64 x.site), .va (.int .i64 x.stream), .va (.int .i64 x.index), .va (.int .i64 x.oid), .va (.int .i64 x.ostream), .va (.int .i64 x.oexp), .va (.int .i64 x.okind), .va (.int .i64 x.oarg), .va (.slice A x.keep.length p)]] [] ⟨by repeat (first | exact trivial | refine ⟨trivial, ?_⟩), trivial⟩ rfl (by simp) ?_
  intro E
  refine go Tryz.tbs_ok 1000 ?_
  refine ev_new fun b0 => ?_
  refine ev_callF (T1 ) [] [] rfl rfl (by decide) rfl (by simp) (fun _ => (by repeat (first | exact trivial | refine ⟨rfl, ?_⟩))) (fun _ h1 => ?_)
  refine go Tryz.tbs_ok 1000 ?_
  refine ev_callF (T2 ) [] [.inl 1] rfl rfl (by decide) rfl (by simp) (fun _ => (by repeat (first | exact trivial | refine ⟨rfl, ?_⟩))) (fun ⟨x2, x3⟩ h4 => ?_)
  refine go Tryz.tbs_ok 1000 ?_
  refine ev_stop (go_loopR [0, 4, 7, 10, 13, 16, 19, 20, 21, 22, 23, 24, 25, 26, 27, 28] (fun (j, s) => [(4, .va (.string s)), (19, .va (.int .i64 (j : Nat)))]) (fun _ => []) (fun (j, s) => j ≤ n ∧ s = F j) (fun (j, _) => n - j) ((0, F 0) : Nat × ByteArray) ⟨Nat.zero_le _, rfl⟩ ⟨⟨by kernel_rfl, by kernel_rfl⟩, ⟨_, rfl⟩, ⟨_, rfl⟩, by kernel_rfl, by kernel_rfl⟩ (fun x_ h_ => ?_))
  obtain ⟨j, s⟩ := x_
  obtain ⟨hj, hs⟩ := h_
  rcases Nat.lt_or_ge j n with hjn | hjn
  · have hjM : j < M.length := by omega
    have hz := hMx _ (List.getElem_mem hjM)
    have T5 := itoaZ (M[j]'hjM) hz.1 hz.2
    have hs1 : (⟨#[32]⟩ : ByteArray).size = 1 := rfl
    have hs2 : (mkB (Lib.itoa (M[j]'hjM))).size ≤ 21 := Lib.itoa_length_le _ hz.1 hz.2
    have hs3 := hls j
    rw [← hs] at hs3
    have hs4 : (⟨#[32]⟩ ++ mkB (Lib.itoa (M[j]'hjM))).size ≤ 22 := by rw [ByteArray.size_append]; omega
    have hn2 := hnx j (by rw [← hM]; exact hjM)
    simp only [← hM, ← hs] at hn2
    refine go Tryz.tbs_ok 1000 ?_
    refine ev_if_yes (decide_eq_true (show (↑j : Int) < (↑n : Int) from (by omega))) ?_
    refine go Tryz.tbs_ok 1000 ?_
    refine ev_stop (go_index0 (sz := 1) Tryz.tbs_ok (.inr 1) (j) rfl rfl rfl rfl rfl rfl (by omega) rfl Row.at0 (fun g20 e21 => ?_))
    subst e21
    refine go Tryz.tbs_ok 1000 ?_
    have l22 : j < (M).length := (by omega)
    refine ev_stop (go_loadE Tryz.tbs_ok (.inr 1) (j) 0 rfl rfl rfl rfl (fun _ h => Row.rd h) (by omega) (fun _ => rfl) (by omega) l22 (by decide) ?_)
    refine go Tryz.tbs_ok 1000 ?_
    refine ev_callF (T5 ) [] [.inl 0] rfl rfl (by decide) rfl (by simp) (fun _ => (by repeat (first | exact trivial | refine ⟨rfl, ?_⟩))) (fun _ h23 => ?_)
    refine go Tryz.tbs_ok 1000 ?_
    refine ev_stop (go_bin (.va _) trivial rfl rfl rfl rfl rfl (by decide) (by decide) (fun w => cat_run (by omega) w) ?_)
    refine go Tryz.tbs_ok 1000 ?_
    refine ev_stop (go_bin (.va _) trivial rfl rfl rfl rfl rfl (by decide) (by decide) (fun w => cat_run (by omega) w) ?_)
    refine go Tryz.tbs_ok 1000 ?_
    refine ev_wrapN (j + 1) (by constructor <;> omega) (by rfl) ?_
    refine ev_fin (round_next ((j + 1, s ++ ({ data := #[32] : ByteArray } ++ mkB (Lib.itoa M[j])))) (?_ : j + 1 ≤ n ∧ s ++ ({ data := #[32] : ByteArray } ++ mkB (Lib.itoa M[j])) = F (j + 1)) (show n - (j + 1) < n - j from (by omega)) ⟨⟨by kernel_rfl, by kernel_rfl⟩, ⟨_, rfl⟩, ⟨_, rfl⟩, by kernel_rfl, by kernel_rfl⟩)
    exact ⟨by omega, hn2.symm⟩
  · obtain rfl : j = n := by omega
    obtain rfl : s = y := hs.trans hla
    cases hr : readB s with
    | none =>
      have T3 := readN s hsz hr
      refine go Tryz.tbs_ok 1000 ?_
      refine ev_if_no (decide_eq_false (show ¬(↑j : Int) < (↑j : Int) from (by omega))) ?_
      refine go Tryz.tbs_ok 1000 ?_
      refine ev_fin (go Tryz.tbs_ok 1000 ?_)
      refine ev_callF (T3 ) [] [.inl 0] rfl rfl (by decide) rfl (by simp) (fun _ => (by repeat (first | exact trivial | refine ⟨rfl, ?_⟩))) (fun _ h20 => ?_)
      refine go Tryz.tbs_ok 1000 ?_
      refine ev_new fun b21 => ?_
      refine ev_if_yes rfl ?_
      refine go Tryz.tbs_ok 1000 ?_
      refine ev_fin ⟨trivial, _, rfl, (()), rfl, (by trivial), Frm.nil _⟩
    | some z =>
      have hne : x ≠ z := fun e => hR (by rw [hr, e])
      have T3 := readY s hsz z hr
      have T4 := fun B q => sameT x z A B x.keep.length z.keep.length p q rfl rfl hm1'
      rw [decide_eq_false hne] at T4
      refine go Tryz.tbs_ok 1000 ?_
      refine ev_if_no (decide_eq_false (show ¬(↑j : Int) < (↑j : Int) from (by omega))) ?_
      refine go Tryz.tbs_ok 1000 ?_
      refine ev_fin (go Tryz.tbs_ok 1000 ?_)
      refine ev_callF (T3 ) [] [.inl 0] rfl rfl (by decide) rfl (by simp) (fun _ => (by repeat (first | exact trivial | refine ⟨rfl, ?_⟩))) (fun ⟨x20, x21⟩ h22 => ?_)
      refine go Tryz.tbs_ok 1000 ?_
      refine ev_new fun b23 => ?_
      refine ev_if_no rfl ?_
      refine go Tryz.tbs_ok 1000 ?_
      refine ev_callF (T4 (x20) (x21)) [] [.inl 1, .inr 2] rfl rfl (by decide) rfl (by simp) (fun _ => (by repeat (first | exact trivial | refine ⟨rfl, ?_⟩))) (fun _ h24 => ?_)
      refine go Tryz.tbs_ok 1000 ?_
      refine ev_if_yes rfl ?_
      refine go Tryz.tbs_ok 1000 ?_
      refine ev_fin ⟨trivial, _, rfl, (()), rfl, (by trivial), Frm.nil _⟩
end Go.Proofs.YtaiialpdlobioaaGreatDoor
