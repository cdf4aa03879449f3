/-
  What is proved: strings: their order, what is cut out of them. Conditions: none.
-/
import Derived.Test.YthknokcgclcbmaaSyr
namespace Go.Sy
open Go.RowKit

theorem bl_irrefl : ∀ a : List UInt8, Op.bytesLess a a = false
  | [] => rfl
  | x :: a => by simp [Op.bytesLess, bl_irrefl a]
theorem bl_trans : ∀ {a b c : List UInt8}, Op.bytesLess a b = true → Op.bytesLess b c = true → Op.bytesLess a c = true
  | a, [], _, h, _ => by cases a <;> simp [Op.bytesLess] at h
  | a, y :: b, [], _, h => by simp [Op.bytesLess] at h
  | [], _ :: _, _ :: _, _, _ => rfl
  | x :: a, y :: b, z :: c, h1, h2 => by
    simp only [Op.bytesLess, Bool.or_eq_true, Bool.and_eq_true, decide_eq_true_eq, beq_iff_eq] at h1 h2 ⊢
    rcases h1 with h1 | ⟨rfl, h1⟩
    · rcases h2 with h2 | ⟨rfl, h2⟩
      · exact .inl (UInt8.lt_trans h1 h2)
      · exact .inl h1
    · rcases h2 with h2 | ⟨rfl, h2⟩
      · exact .inl h2
      · exact .inr ⟨rfl, bl_trans h1 h2⟩
theorem bl_total : ∀ {a b : List UInt8}, Op.bytesLess a b = false → Op.bytesLess b a = false → a = b
  | [], [], _, _ => rfl
  | [], _ :: _, h, _ => by simp [Op.bytesLess] at h
  | _ :: _, [], _, h => by simp [Op.bytesLess] at h
  | x :: a, y :: b, h1, h2 => by
    simp only [Op.bytesLess, Bool.or_eq_false_iff, Bool.and_eq_false_imp, decide_eq_false_iff_not, beq_iff_eq] at h1 h2
    have e : x = y := UInt8.le_antisymm (UInt8.not_lt.1 h2.1) (UInt8.not_lt.1 h1.1)
    subst e
    rw [bl_total (h1.2 rfl) (h2.2 rfl)]
/-- a string comes ahead of another -/
def ltS (a b : ByteArray) : Prop := Op.bytesLess a.data.toList b.data.toList = true
instance (a b : ByteArray) : Decidable (ltS a b) := by unfold ltS; exact inferInstance
theorem ltS.irrefl (a : ByteArray) : ¬ ltS a a := by unfold ltS; rw [bl_irrefl]; decide
theorem ltS.trans {a b c : ByteArray} (h1 : ltS a b) (h2 : ltS b c) : ltS a c := bl_trans h1 h2
theorem ltS.total {a b : ByteArray} (h1 : ¬ ltS a b) (h2 : ¬ ltS b a) : a = b := by
  unfold ltS at h1 h2
  have := bl_total (by simpa using h1) (by simpa using h2)
  obtain ⟨a⟩ := a
  obtain ⟨b⟩ := b
  exact congrArg ByteArray.mk (Array.toList_inj.1 this)
theorem ltS.asymm {a b : ByteArray} (h1 : ltS a b) : ¬ ltS b a := fun h2 => ltS.irrefl a (h1.trans h2)
theorem ltS.ne {a b : ByteArray} (h1 : ltS a b) : a ≠ b := fun e => ltS.irrefl a (by rw [← e] at h1; exact h1)
theorem lts_dec (a b : ByteArray) : Op.bytesLess a.toList b.toList = decide (ltS a b) := by
  rw [ByteArray.toList_eq, ByteArray.toList_eq, Bool.eq_iff_iff, decide_eq_true_iff]
  exact Iff.rfl
theorem les_dec (a b : ByteArray) : (Op.bytesLess a.toList b.toList || a.toList == b.toList) = decide (¬ ltS b a) := by
  rw [lts_dec, bytes_beq, Bool.eq_iff_iff, Bool.or_eq_true, decide_eq_true_iff, decide_eq_true_iff, decide_eq_true_iff]
  constructor
  · rintro (h | rfl)
    · exact h.asymm
    · exact ltS.irrefl _
  · intro h
    by_cases h2 : ltS a b
    · exact .inl h2
    · exact .inr (ltS.total h2 h)
section
variable {P : Program} {T : Tbs} {E : Entry} {Q : Exit → St → Prop} {ops : Array Oper} {l : List Oper} {r : List It} {st : St}
theorem lss_runS {t : TypeId} {a b : ByteArray} (w : World) : (binOp .lss t (.string a) (.string b)).run P w = .ok (.bool (decide (ltS a b))) w := by
  simp only [binOp, Op.stringOp, lts_dec]; rfl
theorem gtr_runS {t : TypeId} {a b : ByteArray} (w : World) : (binOp .gtr t (.string a) (.string b)).run P w = .ok (.bool (decide (ltS b a))) w := by
  simp only [binOp, Op.stringOp, les_dec, decide_not, Bool.not_not]; rfl
theorem leq_runS {t : TypeId} {a b : ByteArray} (w : World) : (binOp .leq t (.string a) (.string b)).run P w = .ok (.bool (decide (¬ ltS b a))) w := by
  simp only [binOp, Op.stringOp, les_dec]; rfl
theorem geq_runS {t : TypeId} {a b : ByteArray} (w : World) : (binOp .geq t (.string a) (.string b)).run P w = .ok (.bool (decide (¬ ltS a b))) w := by
  simp only [binOp, Op.stringOp, lts_dec, decide_not]; rfl
theorem dec_yes {p : Prop} [Decidable p] (h : ¬ p) : (!decide p) = true := by simp [h]
theorem ev_if_nd {p : Prop} [Decidable p] {t1 t2 : List It} {s1 s2 : St} (h1 : ¬ p → Go P E t1 s1 Q) (h2 : p → Go P E t2 s2 Q) : outSat P E Q (.iff (!decide p) t1 s1 t2 s2) :=
  ⟨fun h => h1 (by simpa using h), fun h => h2 (by simpa using h)⟩
/-! s[lo:hi] -/
theorem sliceS_run (hT : TbsOk P T) {dst : Option Tmp} {t : TypeId} {x : Operand} {lo hi : Option Operand} {ty : TypeId} {pos : String} {after : Array Edge} {gd : Option (Nat × Bool)} (s : ByteArray) (lo' hi' : Nat) {fr : List SV} {res : List Res} {a : Act} (hF : FrOk fr res a)
    (hx : (ev fr x).den = .string s) (hxno : (ev fr x).isNo = false) (ht : (te T.tab t).map (·.k) = some .string)
    (hlo : bound fr lo 0 lo') (hhi : bound fr hi s.size hi') (h1 : lo' ≤ hi') (h2 : hi' ≤ s.size) (w : World) :
    (execOp a.eval ⟨dst, .slice t x lo hi none, ty, pos, after, gd⟩).run P w = .ok (.value (.string (s.extract lo' hi'))) w := by
  obtain ⟨e, he, hk⟩ : ∃ e, te T.tab t = some e ∧ e.k = .string := by
    cases hq : te T.tab t with
    | none => rw [hq] at ht; cases ht
    | some e => rw [hq] at ht; exact ⟨e, rfl, by simpa using ht⟩
  obtain ⟨i, u, z, hi1, hu, hz, hk', _⟩ := te_spec hT.tab he
  have hus : u = .string := by
    rw [hk] at hk'
    cases u <;> simp [tkOf] at hk' ⊢
  subst hus
  have e1 : a.eval x = .string s := by rw [ev_denv hF rfl hxno, hx]
  have hl : ∀ (o : Option Operand) d n, bound fr o d n → match o with | none => n = d | some o => ∃ k, a.eval o = .int k (n : Int) := by
    intro o d n hb
    cases o with
    | none => exact hb
    | some o =>
      obtain ⟨k, hk⟩ := hb
      exact ⟨k, by rw [ev_denv hF rfl (by rw [hk]; rfl), hk]; rfl⟩
  have hlo2 := hl _ _ _ hlo
  have hhi2 := hl _ _ _ hhi
  cases lo with
  | none =>
    cases hi with
    | none => subst hlo2 hhi2; simp [execOp, e1, Instr.sliceAt, Instr.slice, run_underlying hu, Instr.sliceBounds]
    | some oh =>
      obtain ⟨k2, k2h⟩ := hhi2
      subst hlo2
      simp [execOp, e1, k2h, Instr.sliceAt, Instr.slice, run_underlying hu, Instr.sliceBounds, sliceBound_run h2]
  | some ol =>
    obtain ⟨k1, k1h⟩ := hlo2
    cases hi with
    | none => subst hhi2; simp [execOp, e1, k1h, Instr.sliceAt, Instr.slice, run_underlying hu, Instr.sliceBounds, sliceBound_run h1]
    | some oh =>
      obtain ⟨k2, k2h⟩ := hhi2
      simp [execOp, e1, k1h, k2h, Instr.sliceAt, Instr.slice, run_underlying hu, Instr.sliceBounds, sliceBound_run h1, sliceBound_run h2]
theorem go_sliceS (hT : TbsOk P T) {dst : Option Tmp} {t : TypeId} {x : Operand} {lo hi : Option Operand} {ty : TypeId} {pos : String} {after : Array Edge} {gd : Option (Nat × Bool)} {s : ByteArray} (lo' hi' : Nat)
    (hg : guardS ops st.fr ⟨dst, .slice t x lo hi none, ty, pos, after, gd⟩ = .run) (hx : (ev st.fr x).den = .string s) (hxno : (ev st.fr x).isNo = false) (ht : (te T.tab t).map (·.k) = some .string)
    (hlo : bound st.fr lo 0 lo') (hhi : bound st.fr hi s.size hi') (h1 : lo' ≤ hi') (h2 : hi' ≤ s.size)
    (h : Go P E (.o ops l :: r) (st.put dst (.va (.string (s.extract lo' hi')))) Q) : Go P E (.o ops (⟨dst, .slice t x lo hi none, ty, pos, after, gd⟩ :: l) :: r) st Q :=
  go_val (o := ⟨dst, .slice t x lo hi none, ty, pos, after, gd⟩) hg (.va (.string (s.extract lo' hi'))) trivial (fun _ w hR => sliceS_run hT s lo' hi' hR.fr hx hxno ht hlo hhi h1 h2 w) h
theorem tk_sliceS (hT : TbsOk P T) {full : Bool} {held : List (Nat × Res)} {ro0 : List Asn} {q : Nat} {p : List (Nat × Bool)} {listed : List Bool} {dst : Option Tmp} {t : TypeId} {x : Operand} {lo hi : Option Operand} {ty : TypeId} {pos : String} {after : Array Edge} {gd : Option (Nat × Bool)} {s : ByteArray} (lo' hi' : Nat)
    (hchk : (heldOk held st.res ∧ ro0 = st.ro) ∧ planOk ops full ((q, true) :: p) listed = true) (ho : ops.toList[q]? = some ⟨dst, .slice t x lo hi none, ty, pos, after, gd⟩)
    (hg : guardS ops st.fr ⟨dst, .slice t x lo hi none, ty, pos, after, gd⟩ = .run) (hx : (ev st.fr x).den = .string s) (hxno : (ev st.fr x).isNo = false) (ht : (te T.tab t).map (·.k) = some .string)
    (hlo : bound st.fr lo 0 lo') (hhi : bound st.fr hi s.size hi') (h1 : lo' ≤ hi') (h2 : hi' ≤ s.size)
    (h : Go P E (.d ops full held ro0 p (listed.set q true) :: r) (st.put dst (.va (.string (s.extract lo' hi')))) Q) : Go P E (.d ops full held ro0 ((q, true) :: p) listed :: r) st Q :=
  tk_val (o := ⟨dst, .slice t x lo hi none, ty, pos, after, gd⟩) hchk ho hg (.va (.string (s.extract lo' hi'))) trivial (fun _a w hF _ => sliceS_run hT s lo' hi' hF hx hxno ht hlo hhi h1 h2 w) h
end
/-! both ways of an 'if' come together -/
def Join (P : Program) (E : Entry) (r : List It) (Q : Exit → St → Prop) {ι : Type} (I : ι → St) (Pre : ι → Prop) (e : Exit) (st : St) : Prop :=
  match e with
  | .normal => ∀ a w, R E st a w → ∃ i, Pre i ∧ R E (I i) a w
  | e => wayOut P E r Q e st
theorem go_join {P : Program} {E : Entry} {Q : Exit → St → Prop} {c : Code} {r : List It} {st : St} {ι : Type} {I : ι → St} {Pre : ι → Prop} (h1 : Go P E [.c c] st (Join P E r Q I Pre)) (h2 : ∀ i, Pre i → Go P E r (I i) Q) : Go P E (.c c :: r) st Q := by
  intro a w hR
  refine Code.wp_mono (fun e a' w' hq => ?_) (h1 a w hR)
  cases e with
  | normal =>
    obtain ⟨st', hq, hR'⟩ := hq
    obtain ⟨i, h3, h4⟩ := hq a' w' hR'
    exact h2 i h3 a' w' h4
  | exit id =>
    obtain ⟨st', hq, hR'⟩ := hq
    simp only [Join, wayOut] at hq
    show post P r (Fin Q E) (.exit id) a' w'
    split at hq
    · rename_i r' hp
      rw [post_pop hp]
      exact hq a' w' hR'
    · rename_i hp
      rw [post_exit hp]
      exact ⟨st', hq, hR'⟩
  | ret =>
    obtain ⟨st', hq, hR'⟩ := hq
    show post P r (Fin Q E) .ret a' w'
    rw [post_ret]
    exact ⟨st', hq, hR'⟩
  | goto l => obtain ⟨st', hq, _⟩ := hq; exact hq.elim
  | panic c => exact hq.elim
  | outgrown => exact hq.elim
theorem ev_join {P : Program} {E : Entry} {Q : Exit → St → Prop} {b : Bool} {x y : Code} {r : List It} {st s2 : St} {ι : Type} (mods : List Nat) (keep : ι → List (Nat × SV)) (resI : ι → List (Nat × Res)) (Pre : ι → Prop)
    (h1 : b = true → Go P E [.c x] st (Join P E r Q (fun i => ⟨setF (havoc st.fr mods) (keep i), setR st.res (resI i), st.ro⟩) Pre))
    (h2 : b = false → Go P E [.c y] s2 (Join P E r Q (fun i => ⟨setF (havoc st.fr mods) (keep i), setR st.res (resI i), st.ro⟩) Pre))
    (h : ∀ i, Pre i → Go P E r ⟨setF (havoc st.fr mods) (keep i), setR st.res (resI i), st.ro⟩ Q) : outSat P E Q (.iff b (.c x :: r) st (.c y :: r) s2) :=
  ⟨fun e => go_join (h1 e) h, fun e => go_join (h2 e) h⟩
theorem join_next {P : Program} {E : Entry} {r : List It} {Q : Exit → St → Prop} {ι : Type} {I : ι → St} {Pre : ι → Prop} {st : St} (i : ι) (h1 : Pre i) (h3 : StLe st (I i)) : Join P E r Q I Pre .normal st := fun _ _ hR => ⟨i, h1, h3.R hR⟩
/-- what holds of anything need not be read -/
theorem Triple.nfree {P : Program} {f : FuncId} {args : List Value} {M N : List Asn} {X : Type} {ret : X → Value} {good : X → Prop} {post : X → List Asn} (T : Triple P f args M N X ret good post) (h : ∀ A ∈ N, ∀ h, A.holds h) : Triple P f args M [] X ret good post :=
  fun w hm hn h1 h2 h3 h4 _ => T w hm hn h1 h2 h3 h4 fun A hA => h A hA _
end Go.Sy
