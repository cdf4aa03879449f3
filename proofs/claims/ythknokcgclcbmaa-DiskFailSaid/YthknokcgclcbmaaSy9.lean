/-
  What is proved: the machine is sound: what holds of what it comes to, holds of the code. Conditions: none.
-/
import Derived.Test.YthknokcgclcbmaaSy8
namespace Go.Sy
open Go.RowKit

theorem Act.eval_put_other {a : Act} : a.put none = fun _ => a := rfl

theorem noNo_den {fr : List SV} {res : List Res} {a : Act} (h : FrOk fr res a) (l : List Operand) (hn : ∀ x ∈ l, ev fr x ≠ .no) : l.map a.eval = SV.denL (l.map (ev fr)) := by
  rw [SV.denL_eq, List.map_map]
  exact List.map_congr_left fun x hx => ev_den h rfl (hn x hx)

theorem callee_run {P : Program} {T : Tbs} (hT : TbsOk P T) {fr : List SV} {res : List Res} {a : Act} (h : FrOk fr res a) {o : Oper} {c : Call} (ho : o.op = .call c) {k : FuncId} {args : List SV}
    (hc : calleeS fr c = some (k, args)) (hn : noNo args = true) (hk : T.lo ≤ k ∧ k < T.nf ∧ T.ex.all (fun e => !(e == k)) = true) (w : World) :
    (execOp a.eval o).run P w = .ok (.enter k (SV.denL args).toArray) w ∧ SV.goodL (blkAt res) args := by
  obtain ⟨fn, hf, hb, hname⟩ := hT.fns k hk
  obtain ⟨callee, cargs, ts⟩ := c
  have hfin : ∀ (first caps : List SV), args = first ++ (cargs.toList.map (ev fr) ++ caps) → ∀ x ∈ cargs.toList, ev fr x ≠ .no := fun first caps e x hx hno => by
    have := List.all_eq_true.1 hn (ev fr x) (by rw [e]; exact List.mem_append_right _ (List.mem_append_left _ (List.mem_map_of_mem hx)))
    rw [hno] at this
    cases this
  have hcf : ∀ as : Array Value, (callFunc k as).run P w = .ok (.enter k as) w := fun as => by
    have h1 : fn.name ≠ "runtime.NumGoroutine" := by simpa using hname
    have h2 : fn.body ≠ none := by rintro e; rw [e] at hb; cases hb
    simp [callFunc, hf, h1, h2]
  cases callee with
  | value f =>
    simp only [calleeS] at hc
    split at hc
    · rename_i k' first caps hfv
      cases hc
      have hd := noNo_den h cargs.toList (hfin _ _ rfl)
      refine ⟨?_, ?_⟩
      · have he : SV.denL (first.toList.map vaS ++ (cargs.toList.map (ev fr) ++ caps.toList.map vaS)) = first.toList ++ (cargs.toList.map a.eval ++ caps.toList) := by
          rw [hd]; simp [SV.denL_eq, vaS_den, Function.comp_def]
        rw [he]
        simp only [execOp, ho, resolve, Deferred.ofValue, ev_den h hfv (by simp), SV.den, invoke, Sem.run_bind, Sem.run_pure, Result.andThen_ok, hcf]
        exact congrArg (fun x => Result.ok (Next.enter k x) w) (Array.ext' (by simp))
      · refine (SV.goodL_iff _ _).2 fun y hy => ?_
        rcases List.mem_append.1 hy with hy | hy
        · obtain ⟨x, _, rfl⟩ := List.mem_map.1 hy; exact vaS_good _ _
        · rcases List.mem_append.1 hy with hy | hy
          · obtain ⟨x, _, rfl⟩ := List.mem_map.1 hy; exact ev_good h x
          · obtain ⟨x, _, rfl⟩ := List.mem_map.1 hy; exact vaS_good _ _
    · rename_i k' first caps hfv
      cases hc
      have hd := noNo_den h cargs.toList (hfin _ _ rfl)
      have hg := ev_good h f
      rw [hfv] at hg
      refine ⟨?_, ?_⟩
      · have he : SV.denL (first ++ (cargs.toList.map (ev fr) ++ caps)) = SV.denL first ++ (cargs.toList.map a.eval ++ SV.denL caps) := by
          rw [hd]; simp [SV.denL_eq]
        rw [he]
        simp only [execOp, ho, resolve, Deferred.ofValue, ev_den h hfv (by simp), SV.den, invoke, Sem.run_bind, Sem.run_pure, Result.andThen_ok, hcf]
        exact congrArg (fun x => Result.ok (Next.enter k x) w) (Array.ext' (by simp))
      · refine (SV.goodL_iff _ _).2 fun y hy => ?_
        rcases List.mem_append.1 hy with hy | hy
        · exact (SV.goodL_iff _ _).1 hg.1 y hy
        · rcases List.mem_append.1 hy with hy | hy
          · obtain ⟨x, _, rfl⟩ := List.mem_map.1 hy; exact ev_good h x
          · exact (SV.goodL_iff _ _).1 hg.2 y hy
    · cases hc
  | builtin b => cases hc
  | invoke r m => cases hc

theorem put_frame (fr : List SV) (res : List Res) (ro : List Asn) (d : Option Tmp) (x : SV) : (⟨putF fr d x, res, ro⟩ : St) = St.put ⟨fr, res, ro⟩ d x := by cases d <;> rfl

theorem Go.step {P : Program} {E : Entry} {ops : Array Oper} {o : Oper} {l : List Oper} {r : List It} {st : St} {Q : Exit → St → Prop}
    (h : ∀ a w, R E st a w → Region.wanted o (yielded ops a.tmps) = true ∧ o.wp P a w (wpList P ops (post P r (Fin Q E)) l) (post P r (Fin Q E))) : Go P E (.o ops (o :: l) :: r) st Q :=
  fun a w hR => wpList_run (h a w hR).1 (h a w hR).2

theorem call_wp {P : Program} {E : Entry} {st : St} {a : Act} {w : World} (hR : R E st a w) {k : FuncId} {args : List SV} {o : Oper} (hrun : (execOp a.eval o).run P w = .ok (.enter k (SV.denL args).toArray) w)
    (hg : SV.goodL (blkAt st.res) args) {K : SV → St → Prop} (h : CallEv P E k args st K) {next : Act → World → Prop} {Q : Exit → Act → World → Prop}
    (hK : ∀ sv st', K sv st' → ∀ a' w', R E (st'.put o.dst sv) a' w' → next a' w') : o.wp P a w next Q := by
  unfold Oper.wp
  rw [hrun]
  simp only [Oper.upon]
  obtain ⟨hs, hi, hres⟩ := hR.res
  refine (h w hs hi hres hg).mono fun e w' he => ?_
  obtain ⟨sv, st', rfl, hgood, hfr, hblk, hres', hk⟩ := he
  have hR' : R E st' a w' := ⟨by rw [hfr]; exact hR.fr.mono hblk, hres'⟩
  exact hK sv st' hk _ _ (hR'.put o.dst (SV.is_den sv) hgood)

theorem ask_put {fr : List SV} {res : List Res} {a : Act} (hF : FrOk fr res a) {d : Tmp} {b : Bool} (hd : fr[d]? ≠ none) (hv : a.tmps.getD d undef = .bool b) : FrOk (fr.set d (.bl b)) res a := by
  have hlt : d < fr.length := by
    cases e : fr[d]? with
    | none => exact absurd e hd
    | some x => exact (List.getElem?_eq_some_iff.1 e).1
  refine ⟨by simpa using hF.size, fun t x hx => ?_, fun x hx => ?_, hF.defers⟩
  · rw [List.getElem?_set] at hx
    split at hx
    · rename_i e; subst e
      first
        | (cases hx; exact hv)
        | (split at hx
           · cases hx; exact hv
           · cases hx)
    · exact hF.is t x hx
  · rcases List.mem_or_eq_of_mem_set hx with hx | hx
    · exact hF.good x hx
    · subst hx; trivial

theorem heldOk_mem : ∀ {held : List (Nat × Res)} {res : List Res}, heldOk held res → ∀ p ∈ held, res[p.1]? = some p.2 := by
  intro held
  induction held with
  | nil => intro res _ p hp; cases hp
  | cons q held ih =>
    obtain ⟨i, x⟩ := q
    intro res h p hp
    rcases List.mem_cons.1 hp with rfl | hp
    · exact h.1
    · exact ih h.2 p hp
theorem heldW_of {held : List (Nat × Res)} {res : List Res} (h : heldOk held res) {E : Entry} {ro : List Asn} {w : World} {hs : Nat → Hp} {hi : Hp} (hR : ResOk E res ro w hs hi) : HeldW held ro w :=
  ⟨fun p hp => p.2.asn.mono (hR.le p.1) (hR.holds p.1 p.2 (heldOk_mem h p hp)), fun A hA => A.mono hR.rle (hR.rholds A hA)⟩
theorem heldB_mem : ∀ {held : List (Nat × Res)} {i : Nat}, heldB held i = true → ∃ x, (i, x) ∈ held := by
  intro held
  induction held with
  | nil => intro i h; cases h
  | cons q held ih =>
    obtain ⟨j, x⟩ := q
    intro i h
    simp only [heldB] at h
    split at h
    · rename_i e; subst e; exact ⟨x, List.mem_cons_self ..⟩
    · obtain ⟨y, hy⟩ := ih h; exact ⟨y, List.mem_cons_of_mem _ hy⟩
theorem heldGo_get (held : List (Nat × Res)) : ∀ (res : List Res) (k i : Nat), (heldOf.go held k res)[i]? = (res[i]?).map fun x => if heldB held (k + i) = true then x else .dead x.blk := by
  intro res
  induction res with
  | nil => intro k i; rfl
  | cons x res ih =>
    intro k i
    cases i with
    | zero => rfl
    | succ i =>
      simp only [heldOf.go, List.getElem?_cons_succ, ih]
      rw [show k + 1 + i = k + (i + 1) by omega]
theorem heldOf_blk (held : List (Nat × Res)) (res : List Res) : blkAt (heldOf held res) = blkAt res := by
  funext r
  unfold blkAt heldOf
  rw [heldGo_get]
  cases res[r]? with
  | none => rfl
  | some x => dsimp only [Option.map_some]; split <;> rfl
theorem heldOf_boxW {held : List (Nat × Res)} {res : List Res} (h : heldOk held res) {ro : List Asn} {w : World} (hw : HeldW held ro w) : BoxW (heldOf held res) w := fun r b t cs e => by
  unfold heldOf at e
  rw [heldGo_get] at e
  cases hx : res[r]? with
  | none => rw [hx] at e; cases e
  | some x =>
    rw [hx] at e
    simp only [Option.map_some, Nat.zero_add, Option.some.injEq] at e
    split at e
    · rename_i hb
      obtain ⟨y, hy⟩ := heldB_mem hb
      have := heldOk_mem h _ hy
      rw [hx] at this
      cases this
      subst e
      exact (hw.1 _ hy).1
    · cases e
theorem heldOf_good {held : List (Nat × Res)} {res : List Res} (h : resGood res) : resGood (heldOf held res) := fun x hx => by
  obtain ⟨i, hi⟩ := List.mem_iff_getElem?.1 hx
  unfold heldOf at hi
  rw [heldGo_get] at hi
  cases hy : res[i]? with
  | none => rw [hy] at hi; cases hi
  | some y =>
    rw [hy] at hi
    simp only [Option.map_some, Option.some.injEq] at hi
    split at hi
    · subst hi
      rw [heldOf_blk]
      exact h y (List.mem_of_getElem? hy)
    · subst hi; trivial

theorem takeOk_spec {ops : Array Oper} {full : Bool} {listed : Array Bool} {i : Nat} (h : takeOk ops full listed i = true) : i ∈ Region.ready .any ops listed ∧ Region.free .any ops listed i = true ∧
    (full = true ∨ ∃ z oz, ops[z]? = some oz ∧ listed.getD z true = false ∧ ∃ e ∈ oz.after, Region.binds .any e = true ∧ e.on = i) := by
  unfold takeOk at h
  simp only [Bool.and_eq_true, Bool.or_eq_true] at h
  obtain ⟨⟨h1, h2⟩, h3⟩ := h
  refine ⟨by simpa using h1, h2, ?_⟩
  rcases h3 with h3 | h3
  · exact .inl h3
  · right
    obtain ⟨z, _, hz⟩ := List.any_eq_true.1 h3
    simp only [Bool.and_eq_true, Bool.not_eq_true'] at hz
    obtain ⟨hz1, hz2⟩ := hz
    split at hz2
    · rename_i oz hoz
      obtain ⟨e, he, hb⟩ := Array.any_eq_true'.1 hz2
      simp only [Bool.and_eq_true, beq_iff_eq] at hb
      exact ⟨z, oz, hoz, hz1, e, he, hb.1, hb.2⟩
    · cases hz2
theorem planOk_noSelect {ops : Array Oper} {full : Bool} : ∀ {plan : List (Nat × Bool)} {listed : List Bool}, planOk ops full plan listed = true → Region.noSelect ops = true := by
  intro plan
  induction plan with
  | nil => intro listed h; simp only [planOk, Bool.and_eq_true] at h; exact h.1.2
  | cons x plan ih =>
    obtain ⟨i, b⟩ := x
    intro listed h
    simp only [planOk] at h
    cases hb : (!b && decide (ops.size ≤ i)) with
    | true => rw [hb] at h; exact h
    | false => rw [hb] at h; simp only [cond_false, Bool.and_eq_true] at h; exact ih h.2

theorem wp_post {P : Program} {o : Oper} {a : Act} {w : World} {next : Act → World → Prop} {Q Q' : Exit → Act → World → Prop} (hp : ∀ c a w, Q (.panic c) a w → Q' (.panic c) a w) (ho : LetsOut Q → LetsOut Q') (h : o.wp P a w next Q) : o.wp P a w next Q' := by
  unfold Oper.wp at *
  generalize (execOp a.eval o).run P w = r at *
  cases r with
  | ok n w' =>
    cases n <;> simp only [Oper.upon] at h ⊢
    case enter f args =>
      exact Calls.mono h (fun e w'' he => by cases e <;> first | exact he | exact hp _ _ _ he | exact ho he)
    all_goals exact h
  | halt x w' =>
    cases x <;> simp only [Oper.upon] at h ⊢
    case panic v => exact hp _ _ _ h
theorem wpOp_of_list {P : Program} {ops : Array Oper} {Q Q' : Exit → Act → World → Prop} {i : Nat} {o : Oper} (ho : ops[i]? = some o) {a : Act} {w : World} (hp : ∀ c a w, Q (.panic c) a w → Q' (.panic c) a w) (hl : LetsOut Q → LetsOut Q')
    (h : wpList P ops Q [o] a w) : wpOp P ops Q' i (fun a w => Q .normal a w) a w := by
  unfold wpOp
  simp only [ho]
  unfold wpList at h
  split
  · rename_i hw
    rw [if_pos hw] at h
    rcases h with h | ⟨h1, h2⟩
    · exact .inl (wp_post hp hl (Oper.wp_mono (fun a w h => h) h))
    · exact .inr ⟨h1, hl h2⟩
  · rename_i hw
    rw [if_neg hw] at h
    exact h
theorem post_out {P : Program} {Q : Exit → Act → World → Prop} : ∀ {todo : List It}, post P todo Q .outgrown = Q .outgrown := by
  intro todo
  induction todo with
  | nil => rfl
  | cons x todo ih => cases x <;> exact ih

theorem runD_ok {P : Program} {T : Tbs} (hT : TbsOk P T) {E : Entry} {Q : Exit → St → Prop} {ops : Array Oper} {full : Bool} {held : List (Nat × Res)} {res : List Res} {ro : List Asn} {r : List It} {K : List (Nat × Bool) → List Bool → List SV → Out}
    (hh : heldOk held res)
    (hK : ∀ plan listed fr, planOk ops full plan listed = true → (plan = [] ∨ ∃ i p, plan = (i, false) :: p) → outSat P E Q (K plan listed fr) → Go P E (.d ops full held ro plan listed :: r) ⟨fr, res, ro⟩ Q) :
    ∀ (plan : List (Nat × Bool)) (listed : List Bool) (fr : List SV), planOk ops full plan listed = true → outSat P E Q (runD T ops full held ro res ro r K plan listed fr) → Go P E (.d ops full held ro plan listed :: r) ⟨fr, res, ro⟩ Q := by
  intro plan
  induction plan with
  | nil => intro listed fr hp h; exact hK [] listed fr hp (.inl rfl) h
  | cons x p ih =>
    obtain ⟨i, b⟩ := x
    intro listed fr hp h
    cases b with
    | false => exact hK _ listed fr hp (.inr ⟨i, p, rfl⟩) h
    | true =>
      have hns := planOk_noSelect hp
      have hp' : takeOk ops full listed.toArray i = true ∧ i < ops.size ∧ planOk ops full p (listed.set i true) = true := by
        simp only [planOk, Bool.not_true, Bool.false_and, cond_false, if_true, Bool.and_eq_true, decide_eq_true_eq] at hp
        exact ⟨hp.1.1, hp.1.2, hp.2⟩
      obtain ⟨hready, hfree, hz⟩ := takeOk_spec hp'.1
      simp only [runD] at h
      split at h
      · exact h
      · rename_i o ho
        have ho' : ops[i]? = some o := by simpa using ho
        have take : ∀ (v : Value) (fr' : List SV) (a : Act) (w : World), R E ⟨fr, res, ro⟩ a w → YieldsIf P ops (HeldW held ro) o v a → R E ⟨fr', res, ro⟩ (a.put o.dst v) w →
            Go P E (.d ops full held ro p (listed.set i true) :: r) ⟨fr', res, ro⟩ Q → post P (.d ops full held ro ((i, true) :: p) listed :: r) (Fin Q E) .normal a w := fun v fr' a w hR hy hR' hgo => by
          obtain ⟨hs, hi', hres⟩ := hR.res
          have hW := heldW_of hh hres
          refine ⟨fun _ => hW, ?_⟩
          refine wpD_take ho' (Region.noSelect_spec hns) (fun c a w hq => by rw [post_panic] at hq ⊢; exact hq) p.length listed.toArray a w (Region.free_spec ho' hfree) hready hy hW hz ?_
          have h1 := (hgo _ w hR').2
          rwa [← List.setIfInBounds_toArray] at h1
        split at h
        · exact h
        · rename_i hg
          rw [forceL_eq] at h
          have hgo := ih (listed.set i true) _ hp'.2.2 h
          intro a w hR
          have h1 := guard_spec hR.fr (ops := ops) o
          rw [hg] at h1
          refine take undef _ a w hR (.inr ⟨h1, rfl⟩) ?_ hgo
          rw [put_frame]
          exact hR.put o.dst (x := .va (.tuple #[])) rfl trivial
        · rename_i b d hg
          rw [forceL_eq, forceL_eq] at h
          intro a w hR
          have h1 := guard_spec hR.fr (ops := ops) o
          rw [hg] at h1
          have hR' : R E ⟨fr.set d (.bl b), res, ro⟩ a w := ⟨ask_put hR.fr h1.1 h1.2, hR.res⟩
          cases b
          · exact h.2 rfl a w hR'
          · exact h.1 rfl a w hR'
        · rename_i hg
          have hw : ∀ a w, R E ⟨fr, res, ro⟩ a w → Region.wanted o (yielded ops a.tmps) = true := fun a w hR => by
            have h1 := guard_spec hR.fr (ops := ops) o
            rw [hg] at h1
            exact h1
          have hs := stepOp_ok hT.tab o ⟨fr, heldOf held res, ro⟩
          have hfr : ∀ a w, R E ⟨fr, res, ro⟩ a w → FrOk fr (heldOf held res) a := fun a w hR => hR.fr.mono fun r b e => by rw [heldOf_blk]; exact e
          split at h
          · exact h
          · rename_i x hno hx
            rw [hx] at hs
            rw [forceV_eq, forceL_eq] at h
            have hgo := ih (listed.set i true) _ hp'.2.2 h
            intro a w hR
            obtain ⟨hs', hi', hres⟩ := hR.res
            obtain ⟨v, hrun, his⟩ := hs.1 a w (hfr a w hR) (heldOf_boxW hh (heldW_of hh hres))
            refine take v _ a w hR (.inl ⟨hw a w hR, fun w' hW' => ?_⟩) ?_ hgo
            · obtain ⟨v', hrun', his'⟩ := hs.1 a w' (hfr a w hR) (heldOf_boxW hh hW')
              rw [hrun', SV.den_of_is his' hno, SV.den_of_is his hno]
            · rw [put_frame]
              refine hR.put o.dst his ?_
              have := hs.2 a (hfr a w hR) (heldOf_good hres.good)
              rw [heldOf_blk] at this
              exact this
          · rename_i k e hx
            rw [hx] at hs
            simp only [outSat] at h
            rw [forceL_eq] at h
            have hgo := ih (listed.set i true) _ hp'.2.2 h
            intro a w hR
            refine take (.int k (k.wrap e)) _ a w hR (.inl ⟨hw a w hR, fun w' _ => hs a w' (hfr a w hR)⟩) ?_ hgo
            rw [put_frame]
            exact hR.put o.dst (x := .va (.int k (k.wrap e))) rfl trivial
          · exact h

theorem run_ok {P : Program} {T : Tbs} (hT : TbsOk P T) {E : Entry} {Q : Exit → St → Prop} : ∀ (n : Nat) (todo : List It) (st : St), outSat P E Q (run T n todo st) → Go P E todo st Q := by
  intro n
  induction n with
  | zero => intro todo ⟨fr, res, ro⟩ h; exact h
  | succ n ih =>
    intro todo st h
    obtain ⟨fr, res, ro⟩ := st
    cases todo with
    | nil => intro a w hR; exact ⟨_, h, hR⟩
    | cons x r =>
      cases x with
      | k id => exact ih r _ h
      | d ops full held ro0 plan listed =>
        have gen : outSat P E Q (.need ((heldOk held res ∧ ro0 = ro) ∧ planOk ops full plan listed = true) (runD T ops full held ro0 res ro r (fun plan listed fr => match plan with
            | [] => run T n r ⟨fr, res, ro⟩
            | (i, b) :: p => match ops.toList[i]? with
              | some o => run T n (.o ops [o] :: .d ops full held ro0 p (listed.set i true) :: r) ⟨fr, res, ro⟩
              | none => .stop (.d ops full held ro0 ((i, b) :: p) listed :: r) ⟨fr, res, ro⟩) plan listed fr)) → Go P E (.d ops full held ro0 plan listed :: r) ⟨fr, res, ro⟩ Q := fun h => by
          obtain ⟨⟨⟨hh, hro⟩, hp⟩, h⟩ := h
          subst hro
          refine runD_ok hT hh (fun plan listed fr hp hpl h => ?_) plan listed fr hp h
          rcases hpl with rfl | ⟨i, p, rfl⟩
          · have hgo := ih r _ h
            intro a w hR
            obtain ⟨hs, hi, hres⟩ := hR.res
            simp only [planOk, Bool.and_eq_true, List.isEmpty_iff] at hp
            exact ⟨fun _ => heldW_of hh hres, hp.1.1, hgo a w hR⟩
          · simp only at h
            split at h
            · rename_i o ho
              have ho' : ops[i]? = some o := by simpa using ho
              have hgo := ih _ _ h
              have hlt : i < ops.size := (Array.getElem?_eq_some_iff.1 ho').1
              simp only [planOk, show decide (ops.size ≤ i) = false from decide_eq_false (by omega), Bool.and_false, cond_false, Bool.and_eq_true, Bool.false_eq_true, if_false, beq_iff_eq, decide_eq_true_eq] at hp
              intro a w hR
              obtain ⟨hs, hi, hres⟩ := hR.res
              refine ⟨fun _ => heldW_of hh hres, ?_⟩
              show wpD P ops (post P r (Fin Q E)) (HeldW held ro0) full (p.length + 1) listed.toArray a w
              refine ⟨(fun h0 => by (rw [hp.1.1] at h0; cases h0)), fun j hj => ?_⟩
              rw [hp.1.1] at hj
              simp at hj
              subst hj
              have h1 := hgo a w hR
              refine wpOp_mono (fun a' w' h2 => ?_) (wpOp_of_list (Q := post P (.d ops full held ro0 p (listed.set j true) :: r) (Fin Q E)) (Q' := post P r (Fin Q E)) ho' (fun c a w hq => hq) (fun hl => hl) h1)
              rw [List.setIfInBounds_toArray]
              exact h2
            · exact h
        cases plan with
        | cons x p => cases full <;> exact gen h
        | nil =>
          cases full with
          | true => exact gen h
          | false =>
            obtain ⟨hp, h⟩ := h
            have hgo := ih r _ h
            intro a w hR
            simp only [planOk, Bool.and_eq_true, List.isEmpty_iff, beq_iff_eq] at hp
            refine ⟨fun hn => ?_, hp.1.1, hgo a w hR⟩
            rcases hn with hn | ⟨k, hk, hl⟩
            · cases hn
            · have h1 : k < listed.length := by rw [hp.2.2]; exact hk
              have h2 := List.all_eq_true.1 hp.2.1 listed[k] (List.getElem_mem h1)
              simp [Array.getD_eq_getD_getElem?, List.getElem?_eq_getElem h1, h2] at hl
      | c code =>
        cases code with
        | skip => intro a w hR; exact wp_skip (ih r _ h a w hR)
        | label id => intro a w hR; exact wp_label (ih r _ h a w hR)
        | seq x y =>
          intro a w hR
          refine wp_seq (Code.wp_mono (Q := post P (.c y :: r) (Fin Q E)) (fun e a w hq => ?_) (ih _ _ h a w hR))
          cases e <;> exact hq
        | block id b =>
          intro a w hR
          refine wp_block (Code.wp_mono (fun e a w hq => ?_) (ih _ _ h a w hR))
          cases e with
          | exit j =>
            simp only [post] at hq
            simp only [Exit.inBlock]
            split at hq
            · rename_i e; subst e; simpa using hq
            · rename_i e; simpa [e, Ne.symm e] using hq
          | _ => exact hq
        | region id ops b =>
          cases b with
          | true => exact h
          | false =>
            intro a w hR
            exact wp_region_list (ih _ _ h a w hR)
        | cond c x y =>
          simp only [run] at h
          split at h
          · rename_i hc
            intro a w hR
            exact wp_cond (t := true) (ev_den hR.fr hc (by simp)) (ih _ _ h a w hR)
          · rename_i hc
            intro a w hR
            exact wp_cond (t := false) (ev_den hR.fr hc (by simp)) (ih _ _ h a w hR)
          · rename_i b hc
            intro a w hR
            refine wp_cond (t := b) (ev_den hR.fr hc (by simp)) ?_
            cases b
            · exact h.2 rfl a w hR
            · exact h.1 rfl a w hR
          · rename_i b hc
            intro a w hR
            refine wp_cond (t := b) (ev_den hR.fr hc (by simp)) ?_
            cases b
            · exact h.2 rfl a w hR
            · exact h.1 rfl a w hR
          · exact h
        | exit id =>
          simp only [run] at h
          split at h
          · rename_i r' hp
            intro a w hR
            refine wp_exit ?_
            show post P r (Fin Q E) (.exit id) a w
            rw [post_pop hp]
            exact ih _ _ h a w hR
          · rename_i hp
            intro a w hR
            refine wp_exit ?_
            show post P r (Fin Q E) (.exit id) a w
            rw [post_exit hp]
            exact ⟨_, h, hR⟩
        | ret =>
          intro a w hR
          refine wp_ret ?_
          show post P r (Fin Q E) .ret a w
          rw [post_ret]
          exact ⟨_, h, hR⟩
        | _ => exact h
      | o ops l =>
        cases l with
        | nil => intro a w hR; exact ih r _ h a w hR
        | cons o l =>
          simp only [run] at h
          split at h
          · exact h
          · rename_i hg
            rw [forceL_eq, put_frame] at h
            intro a w hR
            have h1 := guard_spec hR.fr (ops := ops) o
            rw [hg] at h1
            refine wpList_skip h1 (ih _ _ h _ w ?_)
            exact hR.put o.dst (x := .va (.tuple #[])) rfl trivial
          · rename_i b d hg
            intro a w hR
            have h1 := guard_spec hR.fr (ops := ops) o
            rw [hg] at h1
            rw [forceL_eq, forceL_eq] at h
            obtain ⟨hd, hv⟩ := h1
            have hlt : d < fr.length := by
              cases e : fr[d]? with
              | none => exact absurd e hd
              | some x => exact (List.getElem?_eq_some_iff.1 e).1
            have hput : a.put (some d) (.bool b) = a := by
              unfold Act.put
              have hlt' : d < a.tmps.size := by rw [hR.fr.size]; exact hlt
              have he : a.tmps[d] = .bool b := by simpa [Array.getD_eq_getD_getElem?, Array.getElem?_eq_getElem hlt'] using hv
              simp only
              congr 1
              apply Array.ext
              · simp
              · intro i h1 h2
                rw [Array.getElem_setIfInBounds]
                split
                · rename_i e; subst e; exact he.symm
                · rfl
            have hR' : R E (St.put ⟨fr, res, ro⟩ (some d) (.bl b)) a w := by
              have := hR.put (some d) (x := .bl b) (v := .bool b) rfl trivial
              rw [hput] at this
              exact this
            cases b
            · exact h.2 rfl a w hR'
            · exact h.1 rfl a w hR'
          · rename_i hg
            have hw : ∀ a w, R E ⟨fr, res, ro⟩ a w → Region.wanted o (yielded ops a.tmps) = true := fun a w hR => by
              have h1 := guard_spec hR.fr (ops := ops) o
              rw [hg] at h1
              exact h1
            have hs := stepOp_ok hT.tab o ⟨fr, res, ro⟩
            split at h
            · rename_i x hx
              rw [hx] at hs
              rw [forceV_eq, forceL_eq, put_frame] at h
              refine Go.step fun a w hR => ⟨hw a w hR, ?_⟩
              obtain ⟨hs', hi', hres⟩ := hR.res
              obtain ⟨v, hrun, his⟩ := hs.1 a w hR.fr hres.boxW
              exact wp_value hrun (ih _ _ h _ _ (hR.put o.dst his (hs.2 a hR.fr hres.good)))
            · rename_i k e hx
              rw [hx] at hs
              simp only [outSat] at h
              rw [forceL_eq, put_frame] at h
              refine Go.step fun a w hR => ⟨hw a w hR, ?_⟩
              exact wp_value (hs a w hR.fr) (ih _ _ h _ _ (hR.put o.dst (x := .va (.int k (k.wrap e))) rfl trivial))
            · rename_i res' hx
              rw [hx] at hs
              rw [forceR_eq, forceL_eq, put_frame] at h
              refine Go.step fun a w hR => ⟨hw a w hR, ?_⟩
              obtain ⟨w', hrun, hres, hblk⟩ := hs E a w hR
              refine wp_skip' hrun (ih _ _ h _ _ ?_)
              have hR' : R E ⟨fr, res', ro⟩ a w' := ⟨hR.fr.mono fun r b e => by rw [hblk]; exact e, hres⟩
              exact hR'.put o.dst (x := .va (.tuple #[])) rfl trivial
            · rename_i t cells len hx
              rw [hx] at hs
              rw [forceLV_eq] at h
              simp only [outSat] at h
              refine Go.step fun a w hR => ⟨hw a w hR, ?_⟩
              obtain ⟨w', b, hrun, hres⟩ := hs E a w hR
              have h := h b
              rw [forceR_eq, lenK_eq, forceV_eq, forceL_eq, put_frame] at h
              refine wp_value hrun (ih _ _ h _ _ ?_)
              have hR' : R E ⟨fr, res ++ [.box b t cells], ro⟩ a w' := ⟨hR.fr.mono (blkAt_append _ _), hres⟩
              have hb : blkAt (res ++ [.box b t cells]) res.length = some b := by simp [blkAt, Res.blk]
              refine hR'.put o.dst ?_ ?_
              · cases len <;> rfl
              · cases len <;> exact hb
            · rename_i hx
              split at h
              · rename_i c hc
                split at h
                · rename_i k args hk
                  split at h
                  · rename_i hn
                    split at h
                    · rename_i hlt
                      rw [forceLV_eq] at h
                      refine Go.step fun a w hR => ⟨hw a w hR, ?_⟩
                      obtain ⟨hrun, hgood⟩ := callee_run hT hR.fr hc hk hn hlt w
                      exact call_wp hR hrun hgood h fun sv st' hk a' w' hR' => hk a' w' hR'
                    · exact h
                  · exact h
                · exact h
              · exact h
end Go.Sy
