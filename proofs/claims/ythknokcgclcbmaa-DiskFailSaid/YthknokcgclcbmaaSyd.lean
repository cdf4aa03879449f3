/-
  What is proved: rows of whatever length: what a slice reads, what a slice owns; append, index, load, store, slicing, make. Conditions: none.
-/
import Derived.Test.YthknokcgclcbmaaSyc
namespace Go.Sy
open Go.RowKit

theorem flat_len {α : Type} {enc : α → List Value} {sz : Nat} (h : ∀ x, (enc x).length = sz) (l : List α) : (l.flatMap enc).length = l.length * sz := by
  induction l with
  | nil => simp
  | cons x l ih => simp [ih, h, Nat.add_mul]; omega
theorem flat_drop {α : Type} {enc : α → List Value} {sz : Nat} (h : ∀ x, (enc x).length = sz) : ∀ (l : List α) (i : Nat), (l.flatMap enc).drop (i * sz) = (l.drop i).flatMap enc := by
  intro l
  induction l with
  | nil => intro i; simp
  | cons x l ih =>
    intro i
    cases i with
    | zero => simp
    | succ i =>
      simp only [List.flatMap_cons, List.drop_succ_cons]
      rw [← ih i, List.drop_append, List.drop_eq_nil_of_le (by rw [h, Nat.add_mul]; omega), List.nil_append]
      congr 1
      rw [h, Nat.add_mul]; omega
theorem flat_take {α : Type} {enc : α → List Value} {sz : Nat} (h : ∀ x, (enc x).length = sz) : ∀ (l : List α) (i : Nat), (l.flatMap enc).take (i * sz) = (l.take i).flatMap enc := by
  intro l
  induction l with
  | nil => intro i; simp
  | cons x l ih =>
    intro i
    cases i with
    | zero => simp
    | succ i =>
      simp only [List.flatMap_cons, List.take_succ_cons]
      rw [← ih i, List.take_append, List.take_of_length_le (by rw [h, Nat.add_mul]; omega)]
      congr 2
      rw [h, Nat.add_mul]; omega
/-- the cells of one element -/
theorem flat_get {α : Type} {enc : α → List Value} {sz : Nat} (h : ∀ x, (enc x).length = sz) {l : List α} {i : Nat} (hi : i < l.length) {vs : List Value} (hv : vs = enc l[i]) : ((l.flatMap enc).drop (i * sz)).take vs.length = vs := by
  subst hv
  rw [flat_drop h, List.drop_eq_getElem_cons hi, List.flatMap_cons, List.take_left]
/-- a field of one element -/
theorem flat_get_at {α : Type} {enc : α → List Value} {sz : Nat} (h : ∀ x, (enc x).length = sz) {l : List α} {i : Nat} (hi : i < l.length) (k : Nat) {vs : List Value} (hv : (enc l[i]).extract k (k + vs.length) = vs) (hk : k + vs.length ≤ sz) : ((l.flatMap enc).drop (i * sz + k)).take vs.length = vs := by
  rw [← List.drop_drop, flat_drop h, List.drop_eq_getElem_cons hi, List.flatMap_cons, List.drop_append_of_le_length (by rw [h]; omega), List.take_append_of_le_length (by rw [List.length_drop, h]; omega)]
  rw [← hv]
  simp [List.extract_eq_take_drop]
/-- the slice with this base and length reads as these cells -/
def Rd (sz : Nat) (A : Option Addr) (n : Nat) (cs : List Value) : Asn :=
  ⟨fun h => cs.length = n * sz ∧ (∀ c ∈ cs, c.oneCell' = true) ∧ (0 < n → ∃ g o cur e fz, A = some ⟨g, o, none⟩ ∧ h g = some (.cells cur e fz) ∧ (cur.toList.drop o).take (n * sz) = cs),
   fun e ⟨h1, h2, h3⟩ => ⟨h1, h2, fun hn => let ⟨g, o, cur, t, fz, a, b, c⟩ := h3 hn; ⟨g, o, cur, t, fz, a, e _ _ b, c⟩⟩⟩
/-- the slice with this base, length and capacity is nil, or has a row of its own, from its beginning on, whose first cells are these -/
def Row (e sz : Nat) (A : Option Addr) (n c : Nat) (cs : List Value) : Asn :=
  ⟨fun h => cs.length = n * sz ∧ (∀ c ∈ cs, c.oneCell' = true) ∧ ((A = none ∧ n = 0 ∧ c = 0) ∨ ∃ g cur, A = some ⟨g, 0, none⟩ ∧ h g = some (.cells cur e (0, 0)) ∧ n ≤ c ∧ c ≤ maxLen ∧ cur.size = c * sz ∧ cur.toList.take (n * sz) = cs),
   fun e ⟨h1, h2, h3⟩ => ⟨h1, h2, h3.imp id fun ⟨g, cur, a, b, r⟩ => ⟨g, cur, a, e _ _ b, r⟩⟩⟩
theorem Row.rd {e sz : Nat} {A : Option Addr} {n c : Nat} {cs : List Value} {h : Hp} (p : (Row e sz A n c cs).holds h) : (Rd sz A n cs).holds h :=
  ⟨p.1, p.2.1, fun hn => by
    rcases p.2.2 with ⟨_, h0, _⟩ | ⟨g, cur, h1, h2, h3, h4, h5, h6⟩
    · omega
    · exact ⟨g, 0, cur, e, (0, 0), h1, h2, by simpa using h6⟩⟩
/-- nil, or a row of its own, from its beginning on, whose first cells are these -/
def Own (e sz : Nat) (A : Option Addr) (n : Nat) (cs : List Value) : Asn :=
  ⟨fun h => cs.length = n * sz ∧ (∀ c ∈ cs, c.oneCell' = true) ∧ (n = 0 ∨ ∃ g cur, A = some ⟨g, 0, none⟩ ∧ h g = some (.cells cur e (0, 0)) ∧ cur.toList.take (n * sz) = cs),
   fun e ⟨h1, h2, h3⟩ => ⟨h1, h2, h3.imp id fun ⟨g, cur, a, b, r⟩ => ⟨g, cur, a, e _ _ b, r⟩⟩⟩
theorem Row.own {e sz : Nat} {A : Option Addr} {n c : Nat} {cs : List Value} {h : Hp} (p : (Row e sz A n c cs).holds h) : (Own e sz A n cs).holds h :=
  ⟨p.1, p.2.1, by
    rcases p.2.2 with ⟨_, h0, _⟩ | ⟨g, cur, h1, h2, h3, h4, h5, h6⟩
    · exact .inl h0
    · exact .inr ⟨g, cur, h1, h2, h6⟩⟩
theorem Own.rd {e sz : Nat} {A : Option Addr} {n : Nat} {cs : List Value} {h : Hp} (p : (Own e sz A n cs).holds h) : (Rd sz A n cs).holds h :=
  ⟨p.1, p.2.1, fun hn => by
    rcases p.2.2 with h0 | ⟨g, cur, h1, h2, h6⟩
    · omega
    · exact ⟨g, 0, cur, e, (0, 0), h1, h2, by simpa using h6⟩⟩
theorem Row.nil (e sz : Nat) (h : Hp) : (Row e sz none 0 0 []).holds h := ⟨by simp, (fun c hc => by cases hc), .inl ⟨rfl, rfl, rfl⟩⟩
theorem Rd.nil (sz : Nat) (A : Option Addr) (h : Hp) : (Rd sz A 0 []).holds h := ⟨by simp, (fun c hc => by cases hc), fun h => absurd h (by omega)⟩
theorem Pt.rd {b t : Nat} {cs : List Value} {h : Hp} (p : (Pt b t cs).holds h) {sz n : Nat} (hl : cs.length = n * sz) : (Rd sz (some ⟨b, 0, none⟩) n cs).holds h :=
  ⟨hl, p.2, fun _ => ⟨b, 0, cs.toArray, t, (0, 0), rfl, p.1, by simp [← hl]⟩⟩
theorem Pt.row {b t : Nat} {cs : List Value} {h : Hp} (p : (Pt b t cs).holds h) {sz n : Nat} (hl : cs.length = n * sz) (hm : n ≤ maxLen) : (Row t sz (some ⟨b, 0, none⟩) n n cs).holds h :=
  ⟨hl, p.2, .inr ⟨b, cs.toArray, rfl, p.1, Nat.le_refl _, hm, by simpa using hl, by simp [← hl]⟩⟩
theorem Rd.sub {sz : Nat} {A : Option Addr} {n : Nat} {cs : List Value} {h : Hp} (p : (Rd sz A n cs).holds h) {k : Nat} (hk : k ≤ n) : (Rd sz A k (cs.take (k * sz))).holds h := by
  obtain ⟨h1, h2, h3⟩ := p
  have hle : k * sz ≤ n * sz := Nat.mul_le_mul_right _ hk
  refine ⟨by rw [List.length_take, h1, Nat.min_eq_left hle], fun c hc => h2 c (List.mem_of_mem_take hc), fun hn => ?_⟩
  obtain ⟨g, o, cur, e, fz, a, b, c⟩ := h3 (by omega)
  refine ⟨g, o, cur, e, fz, a, b, ?_⟩
  rw [← c, List.take_take, Nat.min_eq_left hle]
theorem Rd.drop {sz : Nat} {g o : Nat} {n : Nat} {cs : List Value} {h : Hp} (p : (Rd sz (some ⟨g, o, none⟩) n cs).holds h) {k : Nat} (hk : k ≤ n) : (Rd sz (some ⟨g, o + k * sz, none⟩) (n - k) (cs.drop (k * sz))).holds h := by
  obtain ⟨h1, h2, h3⟩ := p
  refine ⟨by rw [List.length_drop, h1, Nat.sub_mul], fun c hc => h2 c (List.mem_of_mem_drop hc), fun hn => ?_⟩
  obtain ⟨g', o', cur, e, fz, a, b, c⟩ := h3 (by omega)
  cases a
  refine ⟨g, _, cur, e, fz, rfl, b, ?_⟩
  rw [← c, List.drop_take, List.drop_drop, Nat.sub_mul]

theorem row_owns {e sz : Nat} {A : Option Addr} {n c : Nat} {cs : List Value} {h : Hp} {w : World} (p : (Row e sz A n c cs).holds h) (hle : h.le (hp w)) : w.ownsRow 0 e sz (.slice A n c) n cs := by
  obtain ⟨h1, _, h3⟩ := p
  refine ⟨h1, ?_⟩
  rcases h3 with ⟨rfl, rfl, rfl⟩ | ⟨g, cur, rfl, hg, r⟩
  · exact .inl ⟨rfl, rfl⟩
  · exact .inr ⟨g, c, cur, rfl, Nat.zero_le _, hle g _ hg, r⟩
theorem owns_row {e sz : Nat} {v : Value} {n : Nat} {cs : List Value} {w : World} (p : w.ownsRow 0 e sz v n cs) (h1 : ∀ c ∈ cs, c.oneCell' = true) :
    ∃ A c, v = .slice A n c ∧ (∀ h : Hp, (∀ g, v.ownBlock = some g → h g = w.heap[g]?) → (Row e sz A n c cs).holds h) := by
  obtain ⟨hl, hc⟩ := p
  rcases hc with ⟨rfl, rfl⟩ | ⟨g, cap, cur, rfl, _, hg, r⟩
  · exact ⟨none, 0, rfl, fun h _ => ⟨hl, h1, .inl ⟨rfl, rfl, rfl⟩⟩⟩
  · exact ⟨some ⟨g, 0, none⟩, cap, rfl, fun h hh => ⟨hl, h1, .inr ⟨g, cur, rfl, by rw [hh g rfl]; exact hg, r⟩⟩⟩

/-- what is read may be told otherwise -/
theorem Triple.reads {P : Program} {f : FuncId} {args : List Value} {M N N' : List Asn} {X : Type} {ret : X → Value} {good : X → Prop} {post : X → List Asn} (T : Triple P f args M N X ret good post)
    (h : ∀ A ∈ N, ∃ B ∈ N', ∀ h, B.holds h → A.holds h) : Triple P f args M N' X ret good post := fun w hm hn h1 h2 h3 h4 h5 =>
  T w hm hn h1 h2 h3 h4 fun A hA => by obtain ⟨B, hB, h6⟩ := h A hA; exact h6 hn (h5 B hB)
/-- what follows of what is read, or held, is known ahead -/
theorem Triple.npure {P : Program} {f : FuncId} {args : List Value} {M N : List Asn} {X : Type} {ret : X → Value} {good : X → Prop} {post : X → List Asn} {p : Prop} (A : Asn) (hA : A ∈ N) (hp : ∀ h, A.holds h → p)
    (T : p → Triple P f args M N X ret good post) : Triple P f args M N X ret good post := fun w hm hn h1 h2 h3 h4 h5 => T (hp _ (h5 A hA)) w hm hn h1 h2 h3 h4 h5
theorem Triple.mpure {P : Program} {f : FuncId} {args : List Value} {M N : List Asn} {X : Type} {ret : X → Value} {good : X → Prop} {post : X → List Asn} {p : Prop} (hp : ∀ h, Asn.starH M h → p)
    (T : p → Triple P f args M N X ret good post) : Triple P f args M N X ret good post := fun w hm hn h1 h2 h3 h4 h5 => T (hp _ h4) w hm hn h1 h2 h3 h4 h5
theorem starH_mem {l : List Asn} {A : Asn} (hA : A ∈ l) {h : Hp} (p : Asn.starH l h) : A.holds h := by
  obtain ⟨hs, h1, _, h3⟩ := Asn.starH_split l p
  obtain ⟨i, hi⟩ := List.mem_iff_getElem?.1 hA
  exact A.mono (h1 i) (h3 i A hi)
theorem starH_map {α : Type} {A B : α → Asn} (hAB : ∀ x h, (A x).holds h → (B x).holds h) : ∀ {l : List α} {h : Hp}, Asn.starH (l.map A) h → Asn.starH (l.map B) h
  | [], _, _ => trivial
  | x :: l, _, ⟨h1, h2, d, a, b, p, q⟩ => ⟨h1, h2, d, a, b, hAB x h1 p, starH_map (l := l) hAB q⟩
theorem Rd.pos {sz : Nat} {A : Option Addr} {n : Nat} {cs : List Value} {h : Hp} (p : (Rd sz A n cs).holds h) (e : A = none) : n = 0 ∧ cs = [] := by
  obtain ⟨h1, _, h3⟩ := p
  rcases Nat.eq_zero_or_pos n with h0 | h0
  · subst h0; exact ⟨rfl, List.eq_nil_of_length_eq_zero (by simpa using h1)⟩
  · obtain ⟨g, o, _, _, _, h4, _⟩ := h3 h0
    rw [e] at h4; cases h4
/-- what is read at an operation: out of what is only read, or of what is held -/
def has (st : St) (s : Sum Nat Nat) (B : Asn) : Prop := lent st s = some B
theorem has_holds {st : St} {s : Sum Nat Nat} {B : Asn} (hB : has st s B) {E : Entry} {w : World} {hs : Nat → Hp} {hi : Hp} (hR : ResOk E st.res st.ro w hs hi) : B.holds (hp w) := by
  unfold has lent at hB
  cases s with
  | inl i => exact B.mono hR.rle (hR.rholds B (List.mem_of_getElem? hB))
  | inr i =>
    obtain ⟨x, hx, rfl⟩ := asnAt_spec hB
    exact x.asn.mono (hR.le i) (hR.holds i x hx)

theorem Go.op {P : Program} {E : Entry} {ops : Array Oper} {o : Oper} {l : List Oper} {r : List It} {st : St} {Q : Exit → St → Prop} (hg : o.guard = none)
    (h : ∀ a w, R E st a w → o.wp P a w (post P (.o ops l :: r) (Fin Q E) .normal) (post P r (Fin Q E))) : Go P E (.o ops (o :: l) :: r) st Q :=
  Go.step fun a w hR => ⟨by simp [Region.wanted, hg], h a w hR⟩

/-- an operation whose value the prover tells, and that does nothing else -/
theorem go_val {P : Program} {E : Entry} {ops : Array Oper} {o : Oper} {l : List Oper} {r : List It} {st : St} {Q : Exit → St → Prop} (hg : guardS ops st.fr o = .run) (x : SV) (hx : x.good (blkAt st.res))
    (hrun : ∀ a w, R E st a w → (execOp a.eval o).run P w = .ok (.value x.den) w) (h : Go P E (.o ops l :: r) (st.put o.dst x) Q) : Go P E (.o ops (o :: l) :: r) st Q :=
  Go.step fun a w hR => ⟨by have := guard_spec hR.fr (ops := ops) o; rw [hg] at this; exact this, wp_value (hrun a w hR) (h _ _ (hR.put o.dst (SV.is_den x) hx))⟩

section
variable {P : Program} {T : Tbs} {E : Entry} {Q : Exit → St → Prop} {ops : Array Oper} {l : List Oper} {r : List It} {st : St}

theorem index_run (hT : TbsOk P T) {dst : Option Tmp} {t : TypeId} {x i : Operand} {ty : TypeId} {pos : String} {after : Array Edge} {gd : Option (Nat × Bool)} (g o n c : Nat) (k : IntKind) (j : Nat) (et sz : Nat) {fr : List SV} {res : List Res} {a : Act} (hF : FrOk fr res a)
    (hx : ev fr x = .va (.slice (some ⟨g, o, none⟩) n c)) (hi : ev fr i = .va (.int k (j : Int))) (ht : (te T.tab t).map (·.k) = some (.slice et)) (he' : (te T.tab et).map (·.size) = some sz) (hj : j < n) (w : World) :
    (execOp a.eval ⟨dst, .indexAddr t x i, ty, pos, after, gd⟩).run P w = .ok (.value (.pointer (some ⟨g, o + j * sz, none⟩))) w := by
  obtain ⟨e, he, hsz⟩ : ∃ e, te T.tab et = some e ∧ e.size = sz := by
    cases hq : te T.tab et with
    | none => rw [hq] at he'; cases he'
    | some e => rw [hq] at he'; exact ⟨e, rfl, by simpa using he'⟩
  subst hsz
  cases htt : te T.tab t with
  | none => rw [htt] at ht; cases ht
  | some et' =>
    rw [htt] at ht
    simp at ht
    obtain ⟨ii, u, zz, hii, hu, hz', hk, _⟩ := te_spec hT.tab htt
    obtain ⟨i2, u2, z2, hi2, hu2, hz2, hk2, hs2, _⟩ := te_spec hT.tab he
    rw [ht] at hk
    cases u <;> simp [tkOf] at hk
    subst hk
    have hsz : (sizeOf et).run P w = .ok e.size w := by simp [sizeOf, typeInfo, hi2, hs2]
    have hc : (0 : Int) ≤ (j : Int) ∧ (j : Int) < (n : Int) := ⟨by omega, by omega⟩
    simp [execOp, ev_den hF hx (by simp), ev_den hF hi (by simp), SV.den, Instr.indexAt, asIntOf, run_underlying hu, hsz, hc, addr_add]
    intro hh; omega
/-- &x[i], x a slice that reads as is known -/
theorem go_index (hT : TbsOk P T) {dst : Option Tmp} {t : TypeId} {x i : Operand} {ty : TypeId} {pos : String} {after : Array Edge} {gd : Option (Nat × Bool)} (A : Option Addr) (n c : Nat) (k : IntKind) (j : Nat) (et sz : Nat) (s : Sum Nat Nat) (B : Asn) (cs : List Value)
    (hg : guardS ops st.fr ⟨dst, .indexAddr t x i, ty, pos, after, gd⟩ = .run)
    (hx : ev st.fr x = .va (.slice A n c)) (hi : ev st.fr i = .va (.int k (j : Int))) (ht : (te T.tab t).map (·.k) = some (.slice et)) (he' : (te T.tab et).map (·.size) = some sz) (hj : j < n)
    (hs : has st s B) (hB : ∀ h, B.holds h → (Rd sz A n cs).holds h)
    (h : ∀ g o, A = some ⟨g, o, none⟩ → Go P E (.o ops l :: r) (st.put dst (.va (.pointer (some ⟨g, o + j * sz, none⟩)))) Q) : Go P E (.o ops (⟨dst, .indexAddr t x i, ty, pos, after, gd⟩ :: l) :: r) st Q := by
  intro a w hR
  obtain ⟨hs', hi', hres⟩ := hR.res
  obtain ⟨_, _, h3⟩ := hB _ (has_holds hs hres)
  obtain ⟨g, o, _, _, _, hA, _⟩ := h3 (by omega)
  subst hA
  exact go_val (o := ⟨dst, .indexAddr t x i, ty, pos, after, gd⟩) hg (.va (.pointer (some ⟨g, o + j * sz, none⟩))) trivial (fun a w hR => index_run hT g o n c k j et sz hR.fr hx hi ht he' hj w) (h g o rfl) a w hR

theorem load_run (hT : TbsOk P T) {dst : Option Tmp} {t : TypeId} {x : Operand} {ty : TypeId} {pos : String} {after : Array Edge} {gd : Option (Nat × Bool)} (g o' o k sz n : Nat) (e : TE) (cs vs : List Value) {fr : List SV} {res : List Res} {a : Act} (hF : FrOk fr res a)
    (hx : ev fr x = .va (.pointer (some ⟨g, o', none⟩))) (ht : te T.tab t = some e) {w : World} (hB : (Rd sz (some ⟨g, o, none⟩) n cs).holds (hp w)) (ho : o' = o + k) (hvs : (cs.drop k).take vs.length = vs) (hl : vs.length = (if e.k.isAgg then e.size else 1)) (hn : 0 < n)
    (y : SV) (hy : (if e.k.isAgg then some (.ag (vs.map vaS)) else (vs.map vaS)[0]?) = some y) :
    (execOp a.eval ⟨dst, .load t x, ty, pos, after, gd⟩).run P w = .ok (.value y.den) w := by
  obtain ⟨_, _, h3⟩ := hB
  obtain ⟨g', o2, cur, e2, fz, hA, hcur, htk⟩ := h3 hn
  cases hA
  obtain ⟨i2, u2, z2, hi2, hu2, hz2, hk2, hs2, _⟩ := te_spec hT.tab ht
  have hcur : w.heap[g]? = some (.cells cur e2 fz) := hcur
  have hcell : ∀ j v, vs[j]? = some v → w.cell? ⟨g, o' + j, none⟩ = some v := fun j v hv => by
    rw [cell_of_row w g _ _ e2 fz hcur]
    have hjl := (List.getElem?_eq_some_iff.1 hv).1
    rw [← hvs, List.getElem?_take, if_pos hjl, List.getElem?_drop, ← htk, List.getElem?_take] at hv
    split at hv
    · rw [List.getElem?_drop] at hv
      rw [ho, ← Array.getElem?_toList, ← hv]
      congr 1
      omega
    · cases hv
  have hload : (loadVar t ⟨g, o', none⟩).run P w = .ok y.den w := by
    unfold loadVar
    rw [Sem.run_bind, isAgg_run P w hu2]
    simp only [Result.andThen_ok]
    rw [hk2] at hl hy
    cases ha : (tkOf u2).isAgg
    · rw [ha] at hl hy
      simp only [Bool.false_eq_true, if_false] at hl hy ⊢
      match vs, hl with
      | [v], _ =>
        simp at hy
        subst hy
        have := hcell 0 v rfl
        rw [run_load, show (⟨g, o', none⟩ : Addr) = ⟨g, o' + 0, none⟩ from rfl, this, vaS_den]
    · rw [ha] at hl hy
      simp only [if_true] at hl hy ⊢
      cases hy
      have hsz : (sizeOf t).run P w = .ok i2.size w := by simp [sizeOf, typeInfo, hi2]
      have h2 := run_loadCells_list (P := P) w ⟨g, o', none⟩ vs (fun j v hv => by rw [addr_add]; exact hcell j v hv)
      rw [hl, hs2] at h2
      simp [hsz, h2, SV.den, denL_va]
  simp [execOp, ev_den hF hx (by simp), SV.den, Instr.loadAt, Instr.sureAddr, hload]
theorem load_good {e : TE} {vs : List Value} {y : SV} (hy : (if e.k.isAgg then some (.ag (vs.map vaS)) else (vs.map vaS)[0]?) = some y) (β : Nat → Option Nat) : y.good β := by
  split at hy
  · cases hy; exact goodL_va _ _
  · have := List.mem_of_getElem? hy
    obtain ⟨v, _, rfl⟩ := List.mem_map.1 this
    exact vaS_good _ _
/-- a load through a pointer into memory that reads as is known -/
theorem go_load (hT : TbsOk P T) {dst : Option Tmp} {t : TypeId} {x : Operand} {ty : TypeId} {pos : String} {after : Array Edge} {gd : Option (Nat × Bool)} (g o' o k sz n : Nat) (e : TE) (s : Sum Nat Nat) (B : Asn) (cs vs : List Value)
    (hg : guardS ops st.fr ⟨dst, .load t x, ty, pos, after, gd⟩ = .run)
    (hx : ev st.fr x = .va (.pointer (some ⟨g, o', none⟩))) (ht : te T.tab t = some e)
    (hs : has st s B) (hB : ∀ h, B.holds h → (Rd sz (some ⟨g, o, none⟩) n cs).holds h) (ho : o' = o + k) (hvs : (cs.drop k).take vs.length = vs) (hl : vs.length = (if e.k.isAgg then e.size else 1)) (hn : 0 < n)
    (y : SV) (hy : (if e.k.isAgg then some (.ag (vs.map vaS)) else (vs.map vaS)[0]?) = some y)
    (h : Go P E (.o ops l :: r) (st.put dst y) Q) : Go P E (.o ops (⟨dst, .load t x, ty, pos, after, gd⟩ :: l) :: r) st Q :=
  go_val (o := ⟨dst, .load t x, ty, pos, after, gd⟩) hg y (load_good hy _) (fun a w hR => by
    obtain ⟨hs', hi', hres⟩ := hR.res
    exact load_run hT g o' o k sz n e cs vs hR.fr hx ht (hB _ (has_holds hs hres)) ho hvs hl hn y hy) h

/-- in a group whose order is open: an operation that only reads what stays as it is; its value is told by the prover -/
theorem tk_val {full : Bool} {held : List (Nat × Res)} {ro0 : List Asn} {i : Nat} {p : List (Nat × Bool)} {listed : List Bool} {o : Oper} (hchk : (heldOk held st.res ∧ ro0 = st.ro) ∧ planOk ops full ((i, true) :: p) listed = true) (ho : ops.toList[i]? = some o)
    (hg : guardS ops st.fr o = .run) (x : SV) (hx : x.good (blkAt st.res)) (hrun : ∀ a w, FrOk st.fr st.res a → HeldW held ro0 w → (execOp a.eval o).run P w = .ok (.value x.den) w)
    (h : Go P E (.d ops full held ro0 p (listed.set i true) :: r) (st.put o.dst x) Q) : Go P E (.d ops full held ro0 ((i, true) :: p) listed :: r) st Q := by
  obtain ⟨⟨hh, hro⟩, hp⟩ := hchk
  subst hro
  have hns := planOk_noSelect hp
  have hp' : takeOk ops full listed.toArray i = true ∧ i < ops.size ∧ planOk ops full p (listed.set i true) = true := by
    simp only [planOk, Bool.not_true, Bool.false_and, cond_false, if_true, Bool.and_eq_true, decide_eq_true_eq] at hp
    exact ⟨hp.1.1, hp.1.2, hp.2⟩
  obtain ⟨hready, hfree, hz⟩ := takeOk_spec hp'.1
  have ho' : ops[i]? = some o := by simpa using ho
  intro a w hR
  obtain ⟨hs, hi', hres⟩ := hR.res
  have hW := heldW_of hh hres
  have hw : Region.wanted o (yielded ops a.tmps) = true := by have := guard_spec hR.fr (ops := ops) o; rw [hg] at this; exact this
  refine ⟨fun _ => hW, ?_⟩
  refine wpD_take ho' (Region.noSelect_spec hns) (fun c a w hq => by rw [post_panic] at hq ⊢; exact hq) p.length listed.toArray a w (Region.free_spec ho' hfree) hready (.inl ⟨hw, fun w' hW' => hrun a w' hR.fr hW'⟩) hW hz ?_
  have h1 := (h _ w (hR.put o.dst (SV.is_den x) hx)).2
  rwa [← List.setIfInBounds_toArray] at h1
/-- what is read in such a group: out of what is only read (inl), or of what is held besides (inr) -/
def hasD (held : List (Nat × Res)) (ro0 : List Asn) : Sum Nat Nat → Asn → Prop
  | .inl i, B => ro0[i]? = some B
  | .inr i, B => (held[i]?).map (fun p => p.2.asn) = some B
theorem hasD_holds {held : List (Nat × Res)} {ro0 : List Asn} {s : Sum Nat Nat} {B : Asn} (h : hasD held ro0 s B) {w : World} (hW : HeldW held ro0 w) : B.holds (hp w) := by
  cases s with
  | inl i => exact hW.2 B (List.mem_of_getElem? h)
  | inr i =>
    have h : (held[i]?).map (fun p => p.2.asn) = some B := h
    cases e : held[i]? with
    | none => rw [e] at h; cases h
    | some p =>
      rw [e] at h
      simp only [Option.map_some, Option.some.injEq] at h
      subst h
      exact hW.1 p (List.mem_of_getElem? e)
theorem tk_index (hT : TbsOk P T) {full : Bool} {held : List (Nat × Res)} {ro0 : List Asn} {q : Nat} {p : List (Nat × Bool)} {listed : List Bool} {dst : Option Tmp} {t : TypeId} {x i : Operand} {ty : TypeId} {pos : String} {after : Array Edge} {gd : Option (Nat × Bool)} (A : Option Addr) (n c : Nat) (k : IntKind) (j : Nat) (et sz : Nat) (s : Sum Nat Nat) (B : Asn) (cs : List Value)
    (hchk : (heldOk held st.res ∧ ro0 = st.ro) ∧ planOk ops full ((q, true) :: p) listed = true) (ho : ops.toList[q]? = some ⟨dst, .indexAddr t x i, ty, pos, after, gd⟩)
    (hg : guardS ops st.fr ⟨dst, .indexAddr t x i, ty, pos, after, gd⟩ = .run)
    (hx : ev st.fr x = .va (.slice A n c)) (hi : ev st.fr i = .va (.int k (j : Int))) (ht : (te T.tab t).map (·.k) = some (.slice et)) (he' : (te T.tab et).map (·.size) = some sz) (hj : j < n)
    (hs : hasD held ro0 s B) (hB : ∀ h, B.holds h → (Rd sz A n cs).holds h)
    (h : ∀ g o, A = some ⟨g, o, none⟩ → Go P E (.d ops full held ro0 p (listed.set q true) :: r) (st.put dst (.va (.pointer (some ⟨g, o + j * sz, none⟩)))) Q) : Go P E (.d ops full held ro0 ((q, true) :: p) listed :: r) st Q := by
  intro a w hR
  obtain ⟨hs', hi', hres⟩ := hR.res
  obtain ⟨_, _, h3⟩ := hB _ (hasD_holds hs (by obtain ⟨⟨hh, hro⟩, _⟩ := hchk; subst hro; exact heldW_of hh hres))
  obtain ⟨g, o, _, _, _, hA, _⟩ := h3 (by omega)
  subst hA
  exact tk_val hchk ho hg (.va (.pointer (some ⟨g, o + j * sz, none⟩))) trivial (fun a w hF _ => index_run hT g o n c k j et sz hF hx hi ht he' hj w) (h g o rfl) a w hR
theorem tk_load (hT : TbsOk P T) {full : Bool} {held : List (Nat × Res)} {ro0 : List Asn} {q : Nat} {p : List (Nat × Bool)} {listed : List Bool} {dst : Option Tmp} {t : TypeId} {x : Operand} {ty : TypeId} {pos : String} {after : Array Edge} {gd : Option (Nat × Bool)} (g o' o k sz n : Nat) (e : TE) (s : Sum Nat Nat) (B : Asn) (cs vs : List Value)
    (hchk : (heldOk held st.res ∧ ro0 = st.ro) ∧ planOk ops full ((q, true) :: p) listed = true) (hop : ops.toList[q]? = some ⟨dst, .load t x, ty, pos, after, gd⟩)
    (hg : guardS ops st.fr ⟨dst, .load t x, ty, pos, after, gd⟩ = .run)
    (hx : ev st.fr x = .va (.pointer (some ⟨g, o', none⟩))) (ht : te T.tab t = some e)
    (hs : hasD held ro0 s B) (hB : ∀ h, B.holds h → (Rd sz (some ⟨g, o, none⟩) n cs).holds h) (ho : o' = o + k) (hvs : (cs.drop k).take vs.length = vs) (hl : vs.length = (if e.k.isAgg then e.size else 1)) (hn : 0 < n)
    (y : SV) (hy : (if e.k.isAgg then some (.ag (vs.map vaS)) else (vs.map vaS)[0]?) = some y)
    (h : Go P E (.d ops full held ro0 p (listed.set q true) :: r) (st.put dst y) Q) : Go P E (.d ops full held ro0 ((q, true) :: p) listed :: r) st Q :=
  tk_val hchk hop hg y (load_good hy _) (fun _a _w hF hW => load_run hT g o' o k sz n e cs vs hF hx ht (hB _ (hasD_holds hs hW)) ho hvs hl hn y hy) h
end
end Go.Sy
