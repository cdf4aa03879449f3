/-
  What is proved: append and make, element by element. Conditions: none.
-/
import Derived.Test.YthknokcgclcbmaaSyj
import Derived.Laws.MakeOwn
namespace Go.Sy
open Go.RowKit

theorem ev_wrapN {P : Program} {E : Entry} {Q : Exit → St → Prop} {e : Int} {c : Int → Out} (n : Nat) (hz : -9223372036854775808 ≤ e ∧ e ≤ 9223372036854775807) (hn : e = (n : Int)) (h : outSat P E Q (c (n : Int))) : outSat P E Q (.wrap .i64 e c) := ev_wrap ((wrap64 hz).trans hn) h
theorem ne_no {x y : Int} (h : x = y) : (!(x == y)) = false := by simp [h]
theorem ne_yes {x y : Int} (h : ¬ x = y) : (!(x == y)) = true := by simp [h]
/-- resources are told anew (rising numbers) -/
def setsR : List Res → Nat → List (Nat × Res) → List Res
  | [], _, _ => []
  | x :: l, n, m => match m with
    | [] => x :: l
    | (t, y) :: ts => bif Nat.beq n t then y :: setsR l n.succ ts else x :: setsR l n.succ ((t, y) :: ts)
def setR (l : List Res) (m : List (Nat × Res)) : List Res := setsR l 0 m
theorem go_loopR {P : Program} {E : Entry} {Q : Exit → St → Prop} {body : Code} {r : List It} {st : St} {ι : Type} (mods : List Nat) (keep : ι → List (Nat × SV)) (resI : ι → List (Nat × Res)) (Pre : ι → Prop) (m : ι → Nat) (i0 : ι)
    (h0 : Pre i0) (hst : StLe st ⟨setF (havoc st.fr mods) (keep i0), setR st.res (resI i0), st.ro⟩)
    (hround : ∀ i, Pre i → Go P E [.c body] ⟨setF (havoc st.fr mods) (keep i), setR st.res (resI i), st.ro⟩ (Round P E r Q (fun i => ⟨setF (havoc st.fr mods) (keep i), setR st.res (resI i), st.ro⟩) Pre m i)) :
    Go P E (.c (.loop body) :: r) st Q := go_loop mods keep (fun i => setR st.res (resI i)) Pre m i0 h0 hst hround
/-- what holds of nothing -/
theorem go_fact {P : Program} {E : Entry} {Q : Exit → St → Prop} {todo : List It} {st : St} (A : Asn) (hA : ∀ h, A.holds h) (h : Go P E todo ⟨st.fr, st.res ++ [.fact A], st.ro⟩ Q) : Go P E todo st Q := fun a w hR => by
  obtain ⟨hs, hi, hres⟩ := hR.res
  have hlt : ∀ {i : Nat} {x : Res}, (st.res ++ [.fact A])[i]? = some x → (i < st.res.length ∧ st.res[i]? = some x) ∨ (i = st.res.length ∧ x = .fact A) := fun {i x} hx => by
    rcases Nat.lt_or_ge i st.res.length with h1 | h1
    · rw [List.getElem?_append_left h1] at hx; exact .inl ⟨h1, hx⟩
    · rw [List.getElem?_append_right h1] at hx
      have := (List.getElem?_eq_some_iff.1 hx).1
      simp only [List.length_singleton] at this
      have e : i - st.res.length = 0 := by omega
      rw [e] at hx
      simp at hx
      exact .inr ⟨by omega, hx.symm⟩
  refine h a w ⟨hR.fr.mono (blkAt_append _ _), fun i => if i < st.res.length then hs i else Hp.emp, hi, fun i => ?_, fun i j hij => ?_, fun i x hx => ?_, hres.rle, fun i => ?_, hres.rholds, hres.ext, fun i b hb => ?_, fun x hx => ?_⟩
  · split
    · exact hres.le i
    · exact Hp.emp_le _
  · split
    · split
      · exact hres.dis i j hij
      · exact Hp.dis_emp _
    · exact Hp.emp_dis _
  · rcases hlt hx with ⟨h1, h2⟩ | ⟨_, rfl⟩
    · rw [if_pos h1]; exact hres.holds i x h2
    · exact hA _
  · split
    · exact hres.rdis i
    · exact Hp.emp_dis _
  · split at hb
    · exact hres.old i b hb
    · exact absurd rfl hb
  · rcases List.mem_append.1 hx with hx | hx
    · have := hres.cells x hx
      cases x with
      | box b t cs => exact ⟨SV.goodL_mono (blkAt_append _ _) this.1, this.2⟩
      | fact A => trivial
      | dead b => trivial
    · obtain rfl := List.mem_singleton.1 hx
      trivial
theorem Row.nilE {α : Type} {enc : α → List Value} (e sz : Nat) (h : Hp) : (Row e sz none 0 0 (([] : List α).flatMap enc)).holds h := Row.nil e sz h
theorem le_app {s n : Nat} (h : s ≤ 1000000000) (e : n = s) : n ≤ maxLen := by unfold maxLen; omega
theorem le_appb {s n b : Nat} (h : s ≤ 1000000000) (e : n = s) (hb : b ≤ 100000) : n * b ≤ 140737488355328 := by
  have := Nat.mul_le_mul h hb
  subst e
  omega
/-- what is held besides stays, and may be read -/
theorem Triple.lend {P : Program} {f : FuncId} {args : List Value} {M N : List Asn} {X : Type} {ret : X → Value} {good : X → Prop} {post : X → List Asn} (t : Triple P f args M N X ret good post) (F : List Asn) (hF : ∀ h, Asn.starH F h → ∀ A ∈ N, A.holds h) :
    Triple P f args (M ++ F) [] X ret good (fun x => post x ++ F) := fun w hm _ h1 _ _ h4 _ => by
  obtain ⟨k1, k2, d, e1, e2, p1, p2⟩ := (starH_append M F).1 h4
  refine (t w k1 k2 (e1.trans h1) (e2.trans h1) d p1 (hF _ p2)).mono fun e w' ⟨x, hm', q1, q2, q3, q4, q5, q6⟩ => ?_
  have hd : hm'.dis k2 := fun b => by
    cases e1' : hm' b with
    | none => exact .inl rfl
    | some o =>
      right
      rcases q6 b (by rw [e1']; simp) with q | q
      · rcases d b with y | y
        · exact absurd y q
        · exact y
      · exact Hp.le_none (e2.trans h1) (hp_none q)
  have hk : k2.le (hp w') := Ext.keep q5 d (e2.trans h1)
  refine ⟨x, Hp.join hm' k2, q1, q2, (starH_append _ _).2 ⟨hm', k2, hd, Hp.le_join_left _ _, Hp.le_join_right hd, q3, p2⟩, Hp.join_le q4 hk, ?_, fun b hb => ?_⟩
  · exact ⟨q5.os, q5.tape, q5.output, q5.size, fun b hb hn' => q5.block b hb (Hp.le_none e1 hn')⟩
  · have hb' : hm' b ≠ none ∨ k2 b ≠ none := by
      rcases Classical.em (hm' b = none) with c | c
      · right
        intro c2
        exact hb (Hp.join_none.2 ⟨c, c2⟩)
      · exact .inl c
    have up : ∀ k : Hp, k.le hm → k b ≠ none → hm b ≠ none := fun k hk hkb hmb => hkb (Hp.le_none hk hmb)
    rcases hb' with c | c
    · rcases q6 b c with q | q
      · exact .inl (up k1 e1 q)
      · exact .inr q
    · exact .inl (up k2 e2 c)
theorem Triple.imp' {P : Program} {f : FuncId} {args : List Value} {M N : List Asn} {X Y : Type} {ret : X → Value} {good : X → Prop} {post : X → List Asn} {ret' : Y → Value} {good' : Y → Prop} {post' : Y → List Asn}
    (t : Triple P f args M N X ret good post) (h : ∀ x h, good x → Asn.starH (post x) h → ∃ y, ret x = ret' y ∧ good' y ∧ Asn.starH (post' y) h) : Triple P f args M N Y ret' good' post' := fun w hm hn h1 h2 h3 h4 h5 =>
  (t w hm hn h1 h2 h3 h4 h5).mono fun _ _ ⟨x, hm', e1, e2, e3, e4, e5, e6⟩ => let ⟨y, a, b, c⟩ := h x hm' e2 e3; ⟨y, hm', by rw [e1, a], b, c, e4, e5, e6⟩
/-- a row that the machine knows, told by an assertion from here on -/
theorem go_boxfact {P : Program} {E : Entry} {Q : Exit → St → Prop} {todo : List It} {st : St} {b t : Nat} {cells : List SV} (i : Nat) (A : Asn) (hi : st.res[i]? = some (.box b t cells)) (hA : ∀ h, (Pt b t (SV.denL cells)).holds h → A.holds h)
    (hb : blkLe st.res (place st.res [i] [.dead (some b), .fact A])) (h : Go P E todo ⟨st.fr, place st.res [i] [.dead (some b), .fact A], st.ro⟩ Q) : Go P E todo st Q :=
  go_ghost [i] (M := [Pt b t (SV.denL cells)]) (X := Unit) (fun _ => [.dead (some b), .fact A]) (by simp [asnAt, hi, Res.asn]) (by simp) (fun h p => ⟨(), Hp.emp, h, Hp.emp_dis _, Hp.emp_le _, Hp.le_refl _, trivial, starH_one.2 (hA h (starH_one.1 p))⟩) (fun _ x hx => by
    simp only [List.mem_cons, List.not_mem_nil, or_false] at hx
    rcases hx with rfl | rfl <;> trivial) (fun _ => hb) (fun _ => h)
theorem Row.front {e sz n k c : Nat} {A : Option Addr} {cs : List Value} {h : Hp} (p : (Row e sz A n c cs).holds h) (hk : k ≤ n) : (Own e sz A k (cs.take (k * sz))).holds h := by
  refine ⟨?_, fun c hc => p.2.1 c (List.mem_of_mem_take hc), ?_⟩
  · rw [List.length_take, p.1]
    exact Nat.min_eq_left (Nat.mul_le_mul_right _ hk)
  · rcases p.2.2 with ⟨_, h0, _⟩ | ⟨g, cur, h1, h2, _, _, _, h3⟩
    · exact .inl (by omega)
    · exact .inr ⟨g, cur, h1, h2, by rw [← h3, List.take_take]; congr 1; exact (Nat.min_eq_left (Nat.mul_le_mul_right _ hk)).symm⟩
theorem Row.frontE {α : Type} {enc : α → List Value} {e sz n k c : Nat} {A : Option Addr} {L M : List α} {h : Hp} (hlen : ∀ x, (enc x).length = sz) (p : (Row e sz A n c ((L ++ M).flatMap enc)).holds h) (hk : k ≤ n) (hl : L.length = k) : (Own e sz A k (L.flatMap enc)).holds h := by
  have q := Row.front p hk
  rw [flat_take hlen, ← hl, List.take_left] at q
  rw [hl] at q
  exact q
theorem flat_rep {α : Type} {enc : α → List Value} {z : α} : ∀ n : Nat, ((List.replicate n ()).flatMap fun _ => enc z) = (List.replicate n z).flatMap enc
  | 0 => rfl
  | n + 1 => by simp only [List.replicate_succ, List.flatMap_cons, flat_rep n]
theorem bq_no {α : Type} [BEq α] [LawfulBEq α] {x y : α} (h : x = y) : (!(x == y)) = false := by simp [h]
theorem dec_no {p : Prop} [Decidable p] (h : p) : (!decide p) = false := by simp [h]
theorem ev_wu8 {P : Program} {E : Entry} {Q : Exit → St → Prop} {e : Int} {c : Int → Out} (hz : 0 ≤ e ∧ e < 256) (h : outSat P E Q (c e)) : outSat P E Q (.wrap .u8 e c) := by
  have hw : IntKind.u8.wrap e = e % 256 := by simp [IntKind.wrap, IntKind.bits, IntKind.signed]
  exact ev_wrap (z := e) (by rw [hw]; omega) h
theorem ev_mu8 {P : Program} {E : Entry} {Q : Exit → St → Prop} {e : Int} {c : Int → Out} (h : outSat P E Q (c (e % 256))) : outSat P E Q (.wrap .u8 e c) := ev_wrap (z := e % 256) (by simp [IntKind.wrap, IntKind.bits, IntKind.signed]) h
theorem ev_wu16 {P : Program} {E : Entry} {Q : Exit → St → Prop} {e : Int} {c : Int → Out} (hz : 0 ≤ e ∧ e < 65536) (h : outSat P E Q (c e)) : outSat P E Q (.wrap .u16 e c) := by
  have hw : IntKind.u16.wrap e = e % 65536 := by simp [IntKind.wrap, IntKind.bits, IntKind.signed]
  exact ev_wrap (z := e) (by rw [hw]; omega) h
theorem ev_mu16 {P : Program} {E : Entry} {Q : Exit → St → Prop} {e : Int} {c : Int → Out} (h : outSat P E Q (c (e % 65536))) : outSat P E Q (.wrap .u16 e c) := ev_wrap (z := e % 65536) (by simp [IntKind.wrap, IntKind.bits, IntKind.signed]) h
theorem ev_wu32 {P : Program} {E : Entry} {Q : Exit → St → Prop} {e : Int} {c : Int → Out} (hz : 0 ≤ e ∧ e < 4294967296) (h : outSat P E Q (c e)) : outSat P E Q (.wrap .u32 e c) := by
  have hw : IntKind.u32.wrap e = e % 4294967296 := by simp [IntKind.wrap, IntKind.bits, IntKind.signed]
  exact ev_wrap (z := e) (by rw [hw]; omega) h
theorem ev_mu32 {P : Program} {E : Entry} {Q : Exit → St → Prop} {e : Int} {c : Int → Out} (h : outSat P E Q (c (e % 4294967296))) : outSat P E Q (.wrap .u32 e c) := ev_wrap (z := e % 4294967296) (by simp [IntKind.wrap, IntKind.bits, IntKind.signed]) h
theorem ev_wu64 {P : Program} {E : Entry} {Q : Exit → St → Prop} {e : Int} {c : Int → Out} (hz : 0 ≤ e ∧ e < 18446744073709551616) (h : outSat P E Q (c e)) : outSat P E Q (.wrap .u64 e c) := by
  have hw : IntKind.u64.wrap e = e % 18446744073709551616 := by simp [IntKind.wrap, IntKind.bits, IntKind.signed]
  exact ev_wrap (z := e) (by rw [hw]; omega) h
theorem ev_mu64 {P : Program} {E : Entry} {Q : Exit → St → Prop} {e : Int} {c : Int → Out} (h : outSat P E Q (c (e % 18446744073709551616))) : outSat P E Q (.wrap .u64 e c) := ev_wrap (z := e % 18446744073709551616) (by simp [IntKind.wrap, IntKind.bits, IntKind.signed]) h
theorem ones_of {l : List Value} (h : l.all Value.oneCell' = true) : ∀ c ∈ l, c.oneCell' = true := fun c hc => List.all_eq_true.1 h c hc
theorem le_max {n : Nat} (h : n ≤ 1000000000) : n ≤ maxLen := by unfold maxLen; omega
theorem le_bytes {n b : Nat} (h : n ≤ 1000000000) (hb : b ≤ 100000) : b * n ≤ 281474976710656 := by
  have := Nat.mul_le_mul hb h
  omega
theorem le_bytes' {n b : Nat} (h : n ≤ 1000000000) (hb : b ≤ 100000) : n * b ≤ 140737488355328 := by
  have := Nat.mul_le_mul h hb
  omega

section
variable {P : Program} {T : Tbs} {E : Entry} {Q : Exit → St → Prop} {ops : Array Oper} {l : List Oper} {r : List It} {st : St} {α : Type} {enc : α → List Value}

/-- append(s, x...) -/
theorem go_appendE (hT : TbsOk P T) {dst : Option Tmp} {s x : Operand} {t ty : TypeId} {pos : String} {after : Array Edge} {gd : Option (Nat × Bool)} {M : List Asn} {A A' : Option Addr} {n c m c' : Nat} {et sz bts : Nat} {B : Asn} (sel : List Nat) (pad : List (Option Nat)) (src : Sum Nat Nat) (L L2 L3 : List α) (n' : Nat)
    (hg : guardS ops st.fr ⟨dst, .call { callee := .builtin .append, args := #[s, x], argTypes := #[t, t] }, ty, pos, after, gd⟩ = .run)
    (hs : (ev st.fr s).den = .slice A n c) (hsno : (ev st.fr s).isNo = false) (hx : (ev st.fr x).den = .slice A' m c') (hxno : (ev st.fr x).isNo = false)
    (ht : (te T.tab t).map (·.k) = some (.slice et)) (he' : (te T.tab et).map (fun e => (e.size, e.bytes, e.zero.length)) = some (sz, bts, sz)) (hpos : 0 < sz)
    (hsel : sel.map (asnAt st.res) = M.map some) (hnd : sel.Nodup) (hM : ∀ h, Asn.starH M h → (Row et sz A n c (L.flatMap enc)).holds h)
    (hsrc : has st src B) (hB : ∀ h, B.holds h → (Rd sz A' m (L2.flatMap enc)).holds h)
    (h3 : L ++ L2 = L3) (hn' : n' = n + m) (hmax : n + m ≤ maxLen) (hbytes : (n + m) * bts ≤ 140737488355328)
    (hb : ∀ A2 c2, blkLe st.res (place st.res sel (deads pad ++ [.fact (Row et sz A2 n' c2 (L3.flatMap enc))])))
    (h : ∀ A2 c2, n' ≤ c2 → Go P E (.o ops l :: r) (St.put ⟨st.fr, place st.res sel (deads pad ++ [.fact (Row et sz A2 n' c2 (L3.flatMap enc))]), st.ro⟩ dst (.va (.slice A2 n' c2))) Q) :
    Go P E (.o ops (⟨dst, .call { callee := .builtin .append, args := #[s, x], argTypes := #[t, t] }, ty, pos, after, gd⟩ :: l) :: r) st Q :=
  go_append hT sel pad M A A' n c m c' (L.flatMap enc) (L2.flatMap enc) et sz bts src B hg hs (fun e => by rw [e] at hsno; cases hsno) hx (fun e => by rw [e] at hxno; cases hxno) ht he' hpos hsel hnd hM hsrc hB n' _ hn' (by rw [← h3]; exact List.flatMap_append) hmax hbytes hb (fun A2 c2 _ hc => h A2 c2 hc)

/-- make([]T, n, c) -/
theorem go_make (hT : TbsOk P T) {dst : Option Tmp} {t ty : TypeId} {x y : Operand} {pos : String} {after : Array Edge} {gd : Option (Nat × Bool)} {et sz bts : Nat} {kl kc : IntKind} {z1 z2 : Int} {zs : List Value} (n c : Nat)
    (hg : guardS ops st.fr ⟨dst, .makeSlice t x y, ty, pos, after, gd⟩ = .run)
    (hx : ev st.fr x = .va (.int kl z1)) (hy : ev st.fr y = .va (.int kc z2)) (hz1 : z1 = (n : Int)) (hz2 : z2 = (c : Int))
    (ht : (te T.tab t).map (·.k) = some (.slice et)) (he' : (te T.tab et).map (fun e => (e.size, e.bytes, e.zero)) = some (sz, bts, zs)) (hzl : zs.length = sz) (hone : zs.all Value.oneCell' = true)
    (hnc : n ≤ c) (hcm : c ≤ maxLen) (hbytes : bts * c ≤ 281474976710656)
    (hb : ∀ b, blkLe st.res (st.res ++ [.fact (Row et sz (some ⟨b, 0, none⟩) n c ((List.replicate n ()).flatMap fun _ => zs))]))
    (h : ∀ b, Go P E (.o ops l :: r) (St.put ⟨st.fr, st.res ++ [.fact (Row et sz (some ⟨b, 0, none⟩) n c ((List.replicate n ()).flatMap fun _ => zs))], st.ro⟩ dst (.va (.slice (some ⟨b, 0, none⟩) n c))) Q) :
    Go P E (.o ops (⟨dst, .makeSlice t x y, ty, pos, after, gd⟩ :: l) :: r) st Q := by
  obtain ⟨e, he, hsz, hbts, hzz⟩ : ∃ e, te T.tab et = some e ∧ e.size = sz ∧ e.bytes = bts ∧ e.zero = zs := by
    cases hq : te T.tab et with
    | none => rw [hq] at he'; cases he'
    | some e =>
      rw [hq] at he'
      simp only [Option.map_some, Option.some.injEq, Prod.mk.injEq] at he'
      exact ⟨e, rfl, he'.1, he'.2.1, he'.2.2⟩
  subst hsz hbts hzz
  refine Go.step fun a w hR => ⟨by have := guard_spec hR.fr (ops := ops) ⟨dst, .makeSlice t x y, ty, pos, after, gd⟩; rw [hg] at this; exact this, ?_⟩
  obtain ⟨hs', hi', hres⟩ := hR.res
  cases htt : te T.tab t with
  | none => rw [htt] at ht; cases ht
  | some et' =>
    rw [htt] at ht
    simp at ht
    obtain ⟨ii, u, zz, hii, hu, hz', hk, _⟩ := te_spec hT.tab htt
    obtain ⟨i2, u2, zv, hi2, hu2, hzv, hk2, hs2, hb2, hz2'⟩ := te_spec hT.tab he
    rw [ht] at hk
    cases u <;> simp [tkOf] at hk
    subst hk
    have hcm' : (c : Int) ≤ 9223372036854775807 := by unfold maxLen at hcm; omega
    have hrun := run_make (P := P) w t et i2 zv hu hi2 hzv kl kc (n : Int) (c : Int) (by omega) (by omega) (by rw [← hb2]; have : ((e.bytes * c : Nat) : Int) ≤ ((281474976710656 : Nat) : Int) := Int.ofNat_le.2 hbytes; rw [Int.natCast_mul] at this; exact this) hcm'
    simp only [Int.toNat_natCast] at hrun
    have hcells : (madeCells zv.cells (c * i2.size)).toList = (List.replicate c ()).flatMap fun _ => e.zero := by
      rw [hz2']
      have hzl' : zv.cells.size = i2.size := by rw [← hs2, ← hzl, hz2']; simp
      apply List.ext_getElem?
      intro k
      rw [Array.getElem?_toList]
      have hL : ((List.replicate c ()).flatMap fun _ => zv.cells.toList).length = c * i2.size := by
        rw [flat_len (sz := i2.size) (fun _ => by simp [hzl'])]; simp
      rcases Nat.lt_or_ge k (c * i2.size) with hk | hk
      · have hp : 0 < i2.size := by
          rcases Nat.eq_zero_or_pos i2.size with h0 | h0
          · rw [h0] at hk; simp at hk
          · exact h0
        have hq : k / i2.size < c := by
          rw [Nat.div_lt_iff_lt_mul hp]; exact hk
        have hm : k % i2.size < zv.cells.size := by rw [hzl']; exact Nat.mod_lt _ hp
        have h1 := flat_drop (enc := fun _ : Unit => zv.cells.toList) (sz := i2.size) (fun _ => by simp [hzl']) (List.replicate c ()) (k / i2.size)
        have h2 : (((List.replicate c ()).flatMap fun _ => zv.cells.toList).drop (k / i2.size * i2.size))[k % i2.size]? = zv.cells[k % i2.size]? := by
          rw [h1, List.drop_replicate]
          obtain ⟨q, hq'⟩ : ∃ q, c - k / i2.size = q + 1 := ⟨c - k / i2.size - 1, by omega⟩
          rw [hq', List.replicate_succ, List.flatMap_cons, List.getElem?_append_left (by simpa using hm), Array.getElem?_toList]
        rw [List.getElem?_drop, Nat.div_add_mod'] at h2
        rw [h2, madeCells, Array.getElem?_map, Array.getElem?_eq_getElem (by simpa using hk), Array.getElem?_eq_getElem hm]
        simp only [Option.map_some, Array.getElem_range, hzl']
        rw [getElem!_pos _ _ (by rw [← hzl'] at *; exact hm)]
      · rw [Array.getElem?_eq_none (by simpa [madeCells] using hk), List.getElem?_eq_none (by rw [hL]; exact hk)]
    have hone' : ∀ v ∈ (List.replicate c ()).flatMap (fun _ => e.zero), v.oneCell' = true := fun v hv => by
      obtain ⟨_, _, hv⟩ := List.mem_flatMap.1 hv
      exact List.all_eq_true.1 hone v hv
    have hR2 := place_ok hres [] Hp.emp (fun b hb => absurd rfl hb) [.fact (Row et e.size (some ⟨w.heap.size, 0, none⟩) n c ((List.replicate n ()).flatMap fun _ => e.zero))] (Hp.one w.heap.size (.cells (madeCells zv.cells (c * i2.size)) et)) ?_ (Hp.one_le (hp_alloc w _)) (Ext.alloc w _) (fun b hb' => ?_) (newsOk_fact (newsOk_nil _)) ?_
    · obtain ⟨hs2, hres2⟩ := hR2
      have hpl : place st.res [] [.fact (Row et e.size (some ⟨w.heap.size, 0, none⟩) n c ((List.replicate n ()).flatMap fun _ => e.zero))] = st.res ++ [.fact (Row et e.size (some ⟨w.heap.size, 0, none⟩) n c ((List.replicate n ()).flatMap fun _ => e.zero))] := by
        apply List.ext_getElem?
        intro k
        unfold place
        rw [List.getElem?_map]
        rcases Nat.lt_or_ge k st.res.length with h1 | h1
        · rw [List.getElem?_range (by simp; omega), List.getElem?_append_left h1]
          simp [placeAt, idxOf, List.getElem?_eq_getElem h1]
        · rcases Nat.lt_or_ge k (st.res.length + 1) with h2 | h2
          · obtain rfl : k = st.res.length := by omega
            rw [List.getElem?_range (by simp), List.getElem?_append_right (Nat.le_refl _)]
            simp [placeAt, idxOf]
          · rw [List.getElem?_eq_none (by simp; omega), List.getElem?_eq_none (by simp; omega)]
            rfl
      rw [hpl] at hres2
      refine wp_value (v := .slice (some ⟨w.heap.size, 0, none⟩) n c) (w' := w.alloc (.cells (madeCells zv.cells (c * i2.size)) et)) ?_ (h w.heap.size _ _ ?_)
      · have h1 : a.eval x = .int kl (n : Int) := by rw [ev_denv hR.fr hx rfl, hz1]; rfl
        have h2 : a.eval y = .int kc (c : Int) := by rw [ev_denv hR.fr hy rfl, hz2]; rfl
        simp [execOp, h1, h2, hrun]
      · have hR' : R E ⟨st.fr, st.res ++ [.fact (Row et e.size (some ⟨w.heap.size, 0, none⟩) n c ((List.replicate n ()).flatMap fun _ => e.zero))], st.ro⟩ a (w.alloc (.cells (madeCells zv.cells (c * i2.size)) et)) := ⟨hR.fr.mono (blkLe_spec (hb _)), _, _, hres2⟩
        exact hR'.put dst (x := .va (.slice (some ⟨w.heap.size, 0, none⟩) n c)) rfl trivial
    · refine starH_one.2 ⟨?_, fun v hv => ?_, .inr ⟨w.heap.size, _, rfl, Hp.one_self _ _, hnc, hcm, ?_, ?_⟩⟩
      · rw [flat_len (sz := e.size) (fun _ => hzl)]; simp
      · obtain ⟨_, _, hv⟩ := List.mem_flatMap.1 hv
        exact List.all_eq_true.1 hone v hv
      · simp [madeCells, hs2]
      · rw [hcells, flat_take (fun _ => hzl)]
        congr 1
        rw [List.take_replicate]
        congr 1
        omega
    · right
      by_cases e : b = w.heap.size
      · omega
      · exact absurd (Hp.one_none e) hb'
    · have hpl2 := hb w.heap.size
      refine (?_ : blkLe st.res (place st.res [] _))
      have : place st.res [] [Res.fact (Row et e.size (some ⟨w.heap.size, 0, none⟩) n c ((List.replicate n ()).flatMap fun _ => e.zero))] = st.res ++ [.fact (Row et e.size (some ⟨w.heap.size, 0, none⟩) n c ((List.replicate n ()).flatMap fun _ => e.zero))] := by
        apply List.ext_getElem?
        intro k
        unfold place
        rw [List.getElem?_map]
        rcases Nat.lt_or_ge k st.res.length with h1 | h1
        · rw [List.getElem?_range (by simp; omega), List.getElem?_append_left h1]
          simp [placeAt, idxOf, List.getElem?_eq_getElem h1]
        · rcases Nat.lt_or_ge k (st.res.length + 1) with h2 | h2
          · obtain rfl : k = st.res.length := by omega
            rw [List.getElem?_range (by simp), List.getElem?_append_right (Nat.le_refl _)]
            simp [placeAt, idxOf]
          · rw [List.getElem?_eq_none (by simp; omega), List.getElem?_eq_none (by simp; omega)]
            rfl
      rw [this]
      exact hpl2
/-- make([]T, n, c): n elements that are nothing -/
theorem go_makeE (hT : TbsOk P T) {dst : Option Tmp} {t ty : TypeId} {x y : Operand} {pos : String} {after : Array Edge} {gd : Option (Nat × Bool)} {et sz bts : Nat} {kl kc : IntKind} {z1 z2 : Int} {zs : List Value} (n c : Nat) (z : α) (hz : enc z = zs)
    (hg : guardS ops st.fr ⟨dst, .makeSlice t x y, ty, pos, after, gd⟩ = .run)
    (hx : ev st.fr x = .va (.int kl z1)) (hy : ev st.fr y = .va (.int kc z2)) (hz1 : z1 = (n : Int)) (hz2 : z2 = (c : Int))
    (ht : (te T.tab t).map (·.k) = some (.slice et)) (he' : (te T.tab et).map (fun e => (e.size, e.bytes, e.zero)) = some (sz, bts, zs)) (hzl : zs.length = sz) (hone : zs.all Value.oneCell' = true)
    (hnc : n ≤ c) (hcm : c ≤ maxLen) (hbytes : bts * c ≤ 281474976710656)
    (hb : ∀ b, blkLe st.res (st.res ++ [.fact (Row et sz (some ⟨b, 0, none⟩) n c ((List.replicate n ()).flatMap fun _ => zs))]))
    (h : ∀ b, Go P E (.o ops l :: r) (St.put ⟨st.fr, st.res ++ [.fact (Row et sz (some ⟨b, 0, none⟩) n c ((List.replicate n z).flatMap enc))], st.ro⟩ dst (.va (.slice (some ⟨b, 0, none⟩) n c))) Q) :
    Go P E (.o ops (⟨dst, .makeSlice t x y, ty, pos, after, gd⟩ :: l) :: r) st Q :=
  go_make hT n c hg hx hy hz1 hz2 ht he' hzl hone hnc hcm hbytes hb fun b => by
    have e : ((List.replicate n ()).flatMap fun _ => zs) = (List.replicate n z).flatMap enc := by
      rw [← hz, flat_rep]
    rw [e]
    exact h b
/-- x[:hi], x a slice -/
theorem go_front (hT : TbsOk P T) {dst : Option Tmp} {t : TypeId} {x : Operand} {lo hi mx : Option Operand} {ty : TypeId} {pos : String} {after : Array Edge} {gd : Option (Nat × Bool)} {A : Option Addr} {n c : Nat} {et sz : Nat} (hi' mx' : Nat)
    (hg : guardS ops st.fr ⟨dst, .slice t x lo hi mx, ty, pos, after, gd⟩ = .run) (hx : (ev st.fr x).den = .slice A n c) (hxno : (ev st.fr x).isNo = false)
    (ht : (te T.tab t).map (·.k) = some (.slice et)) (he' : (te T.tab et).map (·.size) = some sz)
    (hlo : bound st.fr lo 0 0) (hhi : bound st.fr hi n hi') (hmx : bound st.fr mx c mx') (hform : mx.isSome = true → hi.isSome = true) (h2 : hi' ≤ mx') (h3 : mx' ≤ c)
    (h : Go P E (.o ops l :: r) (st.put dst (.va (.slice A hi' mx'))) Q) : Go P E (.o ops (⟨dst, .slice t x lo hi mx, ty, pos, after, gd⟩ :: l) :: r) st Q :=
  go_slice hT A A n c 0 hi' mx' et sz hg hx (fun e => by rw [e] at hxno; cases hxno) ht he' hlo hhi hmx hform (Nat.zero_le _) h2 h3 (slice_zero _ _ _) h
theorem tk_front (hT : TbsOk P T) {full : Bool} {held : List (Nat × Res)} {ro0 : List Asn} {q : Nat} {p : List (Nat × Bool)} {listed : List Bool} {dst : Option Tmp} {t : TypeId} {x : Operand} {lo hi mx : Option Operand} {ty : TypeId} {pos : String} {after : Array Edge} {gd : Option (Nat × Bool)} {A : Option Addr} {n c : Nat} {et sz : Nat} (hi' mx' : Nat)
    (hchk : (heldOk held st.res ∧ ro0 = st.ro) ∧ planOk ops full ((q, true) :: p) listed = true) (ho : ops.toList[q]? = some ⟨dst, .slice t x lo hi mx, ty, pos, after, gd⟩)
    (hg : guardS ops st.fr ⟨dst, .slice t x lo hi mx, ty, pos, after, gd⟩ = .run) (hx : (ev st.fr x).den = .slice A n c) (hxno : (ev st.fr x).isNo = false)
    (ht : (te T.tab t).map (·.k) = some (.slice et)) (he' : (te T.tab et).map (·.size) = some sz)
    (hlo : bound st.fr lo 0 0) (hhi : bound st.fr hi n hi') (hmx : bound st.fr mx c mx') (hform : mx.isSome = true → hi.isSome = true) (h2 : hi' ≤ mx') (h3 : mx' ≤ c)
    (h : Go P E (.d ops full held ro0 p (listed.set q true) :: r) (st.put dst (.va (.slice A hi' mx'))) Q) : Go P E (.d ops full held ro0 ((q, true) :: p) listed :: r) st Q :=
  tk_slice hT A A n c 0 hi' mx' et sz hchk ho hg hx (fun e => by rw [e] at hxno; cases hxno) ht he' hlo hhi hmx hform (Nat.zero_le _) h2 h3 (slice_zero _ _ _) h
end
end Go.Sy
