/-
  What is proved: how a triple is shown by the machine, and how one is used at a call. Conditions: none.
-/
import Derived.Test.YthknokcgclcbmaaSy9
namespace Go.Sy
open Go.RowKit

def fnOk (P : Program) (f : Nat) : Bool := match P.funcs[f]? with | some fn => fn.body.isSome && !(fn.name == "runtime.NumGoroutine") | none => false
theorem fns_of {P : Program} {lo n : Nat} {ex : List Nat} (h : (List.range' lo (n - lo)).all (fun f => fnOk P f || ex.any (fun e => e == f)) = true) : ∀ f, lo ≤ f ∧ f < n ∧ ex.all (fun e => !(e == f)) = true → ∃ fn, P.funcs[f]? = some fn ∧ fn.body.isSome = true ∧ (fn.name == "runtime.NumGoroutine") = false := fun f hf => by
  have := List.all_eq_true.1 h f (List.mem_range'_1.2 (by omega))
  have h2 : ex.any (fun e => e == f) = false := by
    cases hb : ex.any (fun e => e == f)
    · rfl
    · obtain ⟨x, hx, he⟩ := List.any_eq_true.1 hb
      have := List.all_eq_true.1 hf.2.2 x hx
      rw [he] at this
      cases this
  rw [h2, Bool.or_false] at this
  unfold fnOk at this
  split at this
  · rename_i fn e; exact ⟨fn, e, by simpa using this⟩
  · cases this
def forceA : List Asn → (List Asn → Out) → Out
  | [], k => k []
  | x :: l, k => forceA l fun l => k (x :: l)
theorem forceA_eq : ∀ (l : List Asn) (k : List Asn → Out), forceA l k = k l
  | [], _ => rfl
  | _ :: l, _ => forceA_eq l _
def SV.isNo : SV → Bool
  | .no => true
  | _ => false
theorem ev_denv {fr : List SV} {res : List Res} {a : Act} (h : FrOk fr res a) {x : Operand} {y : SV} (e : ev fr x = y) (hu : y.isNo = false) : a.eval x = y.den :=
  ev_den h e (fun e => by subst e; cases hu)
def start (T : Tbs) (n : Nat) (todo : List It) : St → Out
  | ⟨fr, res, ro⟩ => forceLV fr fun fr => forceR res fun res => forceA ro fun ro => run T n todo ⟨fr, res, ro⟩
theorem go {P : Program} {T : Tbs} (hT : TbsOk P T) (n : Nat) {E : Entry} {todo : List It} {st : St} {Q : Exit → St → Prop} (h : outSat P E Q (start T n todo st)) : Go P E todo st Q := by
  obtain ⟨fr, res, ro⟩ := st
  simp only [start] at h
  rw [forceLV_eq, forceR_eq, forceA_eq] at h
  exact run_ok hT n todo _ h

section
variable {P : Program} {E : Entry} {Q : Exit → St → Prop}
theorem ev_if {b : Bool} {t1 t2 : List It} {s1 s2 : St} (h1 : b = true → Go P E t1 s1 Q) (h2 : b = false → Go P E t2 s2 Q) : outSat P E Q (.iff b t1 s1 t2 s2) := ⟨h1, h2⟩
theorem ev_if_lt {p : Prop} [Decidable p] {t1 t2 : List It} {s1 s2 : St} (h1 : p → Go P E t1 s1 Q) (h2 : ¬ p → Go P E t2 s2 Q) : outSat P E Q (.iff (decide p) t1 s1 t2 s2) :=
  ⟨fun h => h1 (of_decide_eq_true h), fun h => h2 (of_decide_eq_false h)⟩
theorem ev_if_eq {x y : Int} {t1 t2 : List It} {s1 s2 : St} (h1 : x = y → Go P E t1 s1 Q) (h2 : x ≠ y → Go P E t2 s2 Q) : outSat P E Q (.iff (x == y) t1 s1 t2 s2) :=
  ⟨fun h => h1 (by simpa using h), fun h => h2 (by simpa using h)⟩
theorem ev_if_ne {x y : Int} {t1 t2 : List It} {s1 s2 : St} (h1 : x ≠ y → Go P E t1 s1 Q) (h2 : x = y → Go P E t2 s2 Q) : outSat P E Q (.iff (!(x == y)) t1 s1 t2 s2) :=
  ⟨fun h => h1 (by simpa using h), fun h => h2 (by simpa using h)⟩
theorem ev_if_yes {b : Bool} {t1 t2 : List It} {s1 s2 : St} (h : b = true) (h1 : Go P E t1 s1 Q) : outSat P E Q (.iff b t1 s1 t2 s2) := ⟨fun _ => h1, fun e => by rw [h] at e; cases e⟩
theorem ev_if_no {b : Bool} {t1 t2 : List It} {s1 s2 : St} (h : b = false) (h2 : Go P E t2 s2 Q) : outSat P E Q (.iff b t1 s1 t2 s2) := ⟨fun e => by (rw [h] at e; cases e), fun _ => h2⟩
theorem ev_new {k : Nat → Out} (h : ∀ b, outSat P E Q (k b)) : outSat P E Q (.new k) := h
theorem ev_wrap {k : IntKind} {e z : Int} {c : Int → Out} (hz : k.wrap e = z) (h : outSat P E Q (c z)) : outSat P E Q (.wrap k e c) := by subst hz; exact h
theorem wrap64 {e : Int} (h : -9223372036854775808 ≤ e ∧ e ≤ 9223372036854775807) : IntKind.i64.wrap e = e := by
  rw [IntKind.wrap_i64]; omega
theorem ev_w64 {e : Int} {c : Int → Out} (hz : -9223372036854775808 ≤ e ∧ e ≤ 9223372036854775807) (h : outSat P E Q (c e)) : outSat P E Q (.wrap .i64 e c) := ev_wrap (wrap64 hz) h
theorem ev_fin {e : Exit} {st : St} (h : Q e st) : outSat P E Q (.fin e st) := h
theorem ev_stop {todo : List It} {st : St} (h : Go P E todo st Q) : outSat P E Q (.stop todo st) := h
end

/-! results -/
def retS (T : Tab) (st : St) : List ResultVar → Option (List SV)
  | [] => some []
  | .tmp t :: l => match st.fr[t]?, retS T st l with
    | some .no, _ => none
    | some x, some r => some (x :: r)
    | _, _ => none
  | .cell a t :: l => match st.fr[a]?, te T t with
    | some (.pt r _ off), some e => (match boxAt st.res r with
      | some (_, cs) => (match loadS e cs off, retS T st l with
        | some x, some r => some (x :: r)
        | _, _ => none)
      | none => none)
    | _, _ => none
def retV : List SV → Value
  | [x] => x.den
  | l => .tuple (SV.denL l).toArray
def resF (tmps : Array Value) (r : ResultVar) : Sem Value := match r with
  | .tmp t => pure (tmps.getD t undef)
  | .cell a t => do loadVar t (← asAddr (tmps.getD a undef))
theorem retS_ok {P : Program} {T : Tab} (hT : TabOk P T) {E : Entry} {st : St} {a : Act} {w : World} (h : R E st a w) : ∀ (l : List ResultVar) {svs : List SV}, retS T st l = some svs →
    (l.mapM (resF a.tmps)).run P w = .ok (SV.denL svs) w := by
  intro l
  induction l with
  | nil => intro svs hs; simp only [retS] at hs; cases hs; rfl
  | cons x l ih =>
    intro svs hs
    cases x with
    | tmp t =>
      simp only [retS] at hs
      split at hs
      · cases hs
      · rename_i x r hno hx hr
        cases hs
        have h1 := SV.den_of_is (h.fr.is t x hx) hno
        simp only [List.mapM_cons, Sem.run_bind, resF, Sem.run_pure, Result.andThen_ok, h1]
        rw [ih hr]; rfl
      · cases hs
    | cell ad t =>
      simp only [retS] at hs
      split at hs
      · rename_i r b off e hx ht
        split at hs
        · rename_i t' cs hb
          obtain ⟨b', hb⟩ := boxAt_spec hb
          split at hs
          · rename_i x r' hx' hr
            cases hs
            have h1 := SV.den_of_is (h.fr.is ad _ hx) (by simp)
            obtain ⟨hs', hi, hR⟩ := h.res
            have hg := h.fr.good _ (List.mem_of_getElem? hx)
            have : b' = b := by simpa [SV.good, blkAt, hb, Res.blk] using hg
            subst this
            have hw : w.heap[b']? = some (.cells (SV.denL cs).toArray t' (0, 0)) := hR.le r b' _ (hR.holds r _ hb).1
            simp only [List.mapM_cons, Sem.run_bind, resF, Sem.run_pure, Result.andThen_ok, h1, SV.den, asAddr, loadS_ok hT ht hw hx']
            rw [ih hr]; rfl
          · cases hs
        · cases hs
      · cases hs
theorem results_ok {P : Program} {T : Tab} (hT : TabOk P T) {E : Entry} {st : St} {a : Act} {w : World} (h : R E st a w) {fn : Func} {svs : List SV} (hs : retS T st fn.results.toList = some svs) :
    (results fn a.tmps).run P w = .ok (retV svs) w := by
  have h1 := retS_ok hT h fn.results.toList hs
  show (do let vs ← fn.results.mapM (resF a.tmps); pure (if h : vs.size = 1 then vs[0] else .tuple vs) : Sem Value).run P w = _
  rw [Array.mapM_eq_mapM_toList]
  simp only [Sem.run_bind, Sem.run_map, h1]
  simp only [Result.andThen_ok, Sem.run_pure]
  congr 1
  match svs with
  | [] => rfl
  | [x] => rfl
  | x :: y :: l => simp [retV, SV.denL]

/-- what is held, regrouped -/
def Frm (res : List Res) (l : List Asn) : Prop := ∀ hs : Nat → Hp, (∀ i j, i ≠ j → (hs i).dis (hs j)) → (∀ (i : Nat) (x : Res), res[i]? = some x → x.asn.holds (hs i)) →
  ∀ k : Hp, (∀ i, (hs i).le k) → ∃ h', Asn.starH l h' ∧ h'.le k ∧ ∀ b, h' b ≠ none → ∃ i, i < res.length ∧ hs i b ≠ none

def Ends (T : Tab) (fn : Func) (X : Type) (ret : X → Value) (good : X → Prop) (post : X → List Asn) : Exit → St → Prop := fun e st =>
  (match e with | .normal => True | .ret => True | _ => False) ∧ ∃ svs, retS T st fn.results.toList = some svs ∧ ∃ x, retV svs = ret x ∧ good x ∧ Frm st.res (post x)

theorem starH_le (l : List Asn) {h : Hp} (hs : Asn.starH l h) : Asn.starH l h := hs

/-- A TRIPLE, SHOWN BY THE MACHINE. svs, res: the arguments and what is held, as the machine is to see them. -/
theorem triple_intro {P : Program} {T : Tbs} (hT : TbsOk P T) {f : FuncId} {fn : Func} {c : Code} (hf : P.funcs[f]? = some fn) (hb : fn.body = some c) (svs : List SV) (res : List Res) {N : List Asn} {X : Type} {ret : X → Value} {good : X → Prop} {post : X → List Asn}
    (hgood : SV.goodL (blkAt res) svs) (hno : noNo svs = true) (hcells : ∀ x ∈ res, match x with | .box _ _ cs => SV.goodL (blkAt res) cs | _ => True)
    (h : ∀ E, Go P E [.c c] ⟨svs ++ List.replicate (fn.ntmps - svs.length) (.va undef), res, N⟩ (Ends T.tab fn X ret good post)) :
    Triple P f (SV.denL svs) (res.map Res.asn) N X ret good post := by
  intro w hm hn hmw hnw hd hM hN
  obtain ⟨hs, h1, h2, h3⟩ := Asn.starH_split _ hM
  have hres : ResOk ⟨w, hm⟩ res N w (fun i => if i < res.length then hs i else Hp.emp) hn := by
    refine ⟨fun i => ?_, fun i j hij => ?_, fun i x hx => ?_, hnw, fun i => ?_, hN, Ext.refl _ _, fun i b hb => ?_, fun x hx => ?_⟩
    · split
      · exact (h1 i).trans hmw
      · exact Hp.emp_le _
    · split
      · split
        · exact h2 i j hij
        · exact Hp.dis_emp _
      · exact Hp.emp_dis _
    · have hlt := (List.getElem?_eq_some_iff.1 hx).1
      rw [if_pos hlt]
      exact h3 i _ (by rw [List.getElem?_map, hx]; rfl)
    · split
      · exact hd.mono (h1 i) (Hp.le_refl _)
      · exact Hp.emp_dis _
    · split at hb
      · left; intro e; exact hb (Hp.le_none (h1 i) e)
      · exact absurd rfl hb
    · have := hcells x hx
      cases x with
      | box b t cs =>
        refine ⟨this, fun y hy => ?_⟩
        obtain ⟨i, hi⟩ := List.mem_iff_getElem?.1 hx
        have h4 : (Res.asn (.box b t cs)).holds (hs i) := h3 i _ (by rw [List.getElem?_map, hi]; rfl)
        exact h4.2 _ (by rw [SV.denL_eq]; exact List.mem_map_of_mem hy)
      | fact A => trivial
      | dead b => trivial
  have hgo := h ⟨w, hm⟩
  refine calls_of_wp hf hb (Code.wp_mono (fun e a w' hq => ?_) (hgo { tmps := (SV.denL svs).toArray ++ Array.replicate (fn.ntmps - (SV.denL svs).toArray.size) undef, defers := [] } w ⟨⟨?_, ?_, ?_, rfl⟩, _, _, hres⟩))
  · have key : ∀ st, (∃ svs', retS T.tab st fn.results.toList = some svs' ∧ ∃ x, retV svs' = ret x ∧ good x ∧ Frm st.res (post x)) → R ⟨w, hm⟩ st a w' → a.defers = [] ∧ ∃ v, (results fn a.tmps).run P w' = .ok v w' ∧
        ∃ (x : X) (hm' : Hp), (Ending.returned v) = .returned (ret x) ∧ good x ∧ Asn.starH (post x) hm' ∧ hm'.le (hp w') ∧ Ext hm w w' ∧ (∀ b, hm' b ≠ none → hm b ≠ none ∨ w.heap.size ≤ b) := by
      rintro st ⟨svs', hsv, x, hx, hg, hfrm⟩ hR
      obtain ⟨hs', hi', hres'⟩ := hR.res
      obtain ⟨h', a1, a2, a3⟩ := hfrm hs' hres'.dis hres'.holds (hp w') hres'.le
      refine ⟨hR.fr.defers, _, results_ok hT.tab hR hsv, x, h', by rw [hx], hg, a1, a2, hres'.ext, fun b hb => ?_⟩
      obtain ⟨i, _, hi⟩ := a3 b hb
      exact hres'.old i b hi
    cases e with
    | normal => obtain ⟨st, ⟨_, hq⟩, hR⟩ := hq; exact key st hq hR
    | ret => obtain ⟨st, ⟨_, hq⟩, hR⟩ := hq; exact key st hq hR
    | exit id => obtain ⟨st, ⟨hf, _⟩, _⟩ := hq; exact hf.elim
    | goto id => obtain ⟨st, ⟨hf, _⟩, _⟩ := hq; exact hf.elim
    | panic c => exact hq.elim
    | outgrown => exact hq.elim
  · simp [SV.denL_eq]
  · intro t x hx
    simp only [Array.getD_eq_getD_getElem?, List.getElem?_append] at hx ⊢
    by_cases hl : t < svs.length
    · rw [if_pos hl] at hx
      have hnx : x ≠ .no := fun e => by
        have := List.all_eq_true.1 hno x (List.mem_of_getElem? hx)
        rw [e] at this; cases this
      have : ((SV.denL svs).toArray ++ Array.replicate (fn.ntmps - (SV.denL svs).toArray.size) undef)[t]? = some x.den := by
        rw [Array.getElem?_append_left (by simpa [SV.denL_eq] using hl)]
        simp [SV.denL_eq, hx]
      rw [this]
      exact SV.is_den x
    · rw [if_neg hl] at hx
      rw [List.getElem?_replicate] at hx
      split at hx
      · cases hx
        have : ((SV.denL svs).toArray ++ Array.replicate (fn.ntmps - (SV.denL svs).toArray.size) undef)[t]?.getD undef = undef := by
          rw [Array.getElem?_append_right (by simp [SV.denL_eq]; omega)]
          rw [Array.getElem?_replicate]
          split <;> rfl
        rw [this]
        rfl
      · cases hx
  · intro x hx
    rcases List.mem_append.1 hx with hx | hx
    · exact (SV.goodL_iff _ _).1 hgood x hx
    · rw [List.eq_of_mem_replicate hx]; trivial
end Go.Sy
