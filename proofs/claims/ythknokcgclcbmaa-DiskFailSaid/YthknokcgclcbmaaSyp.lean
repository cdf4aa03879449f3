/-
  What is proved: cap(x), append(x, make(..)...), copy(a, b) beyond a row's end. Conditions: none.
-/
import Derived.Test.YthknokcgclcbmaaSyn
import Derived.Lib.Overlaps
namespace Go.Sy
open Go
section
variable {P : Program} {T : Tbs} {E : Entry} {Q : Exit → St → Prop} {ops : Array Oper} {l : List Oper} {r : List It} {st : St} {α : Type} {enc : α → List Value}

theorem go_cap (hT : TbsOk P T) {dst : Option Tmp} {t : TypeId} {x : Operand} {ty : TypeId} {pos : String} {after : Array Edge} {gd : Option (Nat × Bool)} {A : Option Addr} {n c et : Nat}
    (hg : guardS ops st.fr ⟨dst, .call { callee := .builtin .cap, args := #[x], argTypes := #[t] }, ty, pos, after, gd⟩ = .run) (hx : (ev st.fr x).den = .slice A n c) (hxno : (ev st.fr x).isNo = false)
    (ht : (te T.tab t).map (·.k) = some (.slice et))
    (h : Go P E (.o ops l :: r) (st.put dst (.va (.int .i64 (c : Nat)))) Q) : Go P E (.o ops (⟨dst, .call { callee := .builtin .cap, args := #[x], argTypes := #[t] }, ty, pos, after, gd⟩ :: l) :: r) st Q :=
  go_val (o := ⟨dst, .call { callee := .builtin .cap, args := #[x], argTypes := #[t] }, ty, pos, after, gd⟩) hg (.va (.int .i64 (c : Nat))) trivial (fun a w hR => by
    cases htt : te T.tab t with
    | none => rw [htt] at ht; cases ht
    | some et' =>
      rw [htt] at ht
      simp at ht
      obtain ⟨ii, u, zz, hii, hu, hz', hk, _⟩ := te_spec hT.tab htt
      rw [ht] at hk
      cases u <;> simp [tkOf] at hk
      simp [execOp, resolve, invoke, builtin, Builtin.cap_, SV.den_of_is (ev_is hR.fr x) (fun e => by rw [e] at hxno; cases hxno), hx, run_underlying hu, goInt, SV.den]) h
theorem made_flat {z : Array Value} {sz c : Nat} (hz : z.size = sz) : (madeCells z (c * sz)).toList = (List.replicate c ()).flatMap fun _ => z.toList := by
  apply List.ext_getElem?
  intro k
  rw [Array.getElem?_toList]
  have hL : ((List.replicate c ()).flatMap fun _ => z.toList).length = c * sz := by
    rw [flat_len (sz := sz) (fun _ => by simp [hz])]; simp
  rcases Nat.lt_or_ge k (c * sz) with hk | hk
  · have hp : 0 < sz := by
      rcases Nat.eq_zero_or_pos sz with h0 | h0
      · rw [h0] at hk; simp at hk
      · exact h0
    have hq : k / sz < c := by
      rw [Nat.div_lt_iff_lt_mul hp]; exact hk
    have hm : k % sz < z.size := by rw [hz]; exact Nat.mod_lt _ hp
    have h1 := flat_drop (enc := fun _ : Unit => z.toList) (sz := sz) (fun _ => by simp [hz]) (List.replicate c ()) (k / sz)
    have h2 : (((List.replicate c ()).flatMap fun _ => z.toList).drop (k / sz * sz))[k % sz]? = z[k % sz]? := by
      rw [h1, List.drop_replicate]
      obtain ⟨q, hq'⟩ : ∃ q, c - k / sz = q + 1 := ⟨c - k / sz - 1, by omega⟩
      rw [hq', List.replicate_succ, List.flatMap_cons, List.getElem?_append_left (by simpa using hm), Array.getElem?_toList]
    rw [List.getElem?_drop, Nat.div_add_mod'] at h2
    rw [h2, madeCells, Array.getElem?_map, Array.getElem?_eq_getElem (by simpa using hk), Array.getElem?_eq_getElem hm]
    simp only [Option.map_some, Array.getElem_range, hz]
    rw [getElem!_pos _ _ (by rw [← hz] at *; exact hm)]
  · rw [Array.getElem?_eq_none (by simpa [madeCells] using hk), List.getElem?_eq_none (by rw [hL]; exact hk)]
theorem zero_made (z : Array Value) (n : Nat) : Builtin.zeroCells z n = madeCells z (n * z.size) := rfl
/-- append(x, make([]T, q)...), where there is no room -/
theorem run_append_zeros (w : World) (t tn ty e : TypeId) (i : TypeInfo) (z : Value) (k kn : IntKind) (ht : P.underlying t = some (.slice e)) (htn : P.underlying tn = some (.int kn)) (hi : P.info? e = some i) (hz : i.zero = some z)
    (A : Option Addr) (n c q : Nat) (old : List Value) (hold : old.length = n * i.size) (hsrc : A = none ∧ n = 0 ∨ ∃ a, A = some a ∧ ∀ j v, old[j]? = some v → w.cell? (a.add j) = some v)
    (hq : 0 < q) (hneed : c < n + q) (hs : 0 < i.size) (h63 : n + q ≤ maxLen) (h48 : (n + q) * i.bytes ≤ 140737488355328) :
    (Builtin.append_ #[t, tn] ty #[.slice A n c, .int k (q : Int)]).run P w =
      .ok (.slice (some ⟨w.heap.size, 0, none⟩) (n + q) (grownCap w (n + q) c e)) (w.drew.alloc (.cells (old.toArray ++ Builtin.zeroCells z.cells q ++ Builtin.zeroCells z.cells (grownCap w (n + q) c e - (n + q))) e)) := by
  have hm : maxLen = 9223372036854775807 := rfl
  rw [hm] at h63
  have hw : IntKind.i64.wrap (q : Int) = q := by rw [IntKind.wrap_i64]; omega
  have h63' : ¬ (9223372036854775807 < (n : Int) + (q : Int)) := by omega
  have h48a := growslice_fits (bytes := i.bytes) hneed h48
  have h48' : ¬ (281474976710656 < Builtin.nextslicecap (n + q) c * i.bytes) := by omega
  have h48i : ¬ (281474976710656 < (q : Int) * (i.bytes : Int)) := by
    rw [← Int.natCast_mul]
    have : q * i.bytes ≤ (n + q) * i.bytes := Nat.mul_le_mul_right _ (by omega)
    omega
  have hneg : ¬ ((q : Int) < 0) := by omega
  have hns : ¬ (q * i.size = 0) := Nat.mul_ne_zero (by omega) (by omega)
  have hfit : ¬ (n + q ≤ c) := by omega
  have hold' : ∀ W, (∀ x, W.cell? x = w.cell? x) → (Builtin.firstCells i.size n (.slice A n c)).run P W = .ok old.toArray W := fun W hW => by
    rcases hsrc with ⟨rfl, h0⟩ | ⟨a, rfl, h1⟩
    · subst h0
      have : old = [] := List.eq_nil_of_length_eq_zero (by simpa using hold)
      subst this
      simp [Builtin.firstCells]
    · have := run_loadCells_list (P := P) W a old (fun j v hj => by rw [hW]; exact h1 j v hj)
      rw [hold] at this
      simp [Builtin.firstCells, this]
  simp [Builtin.append_, run_underlying ht, run_underlying htn, sizeOf, typeInfo, zeroValue, hi, hz, asInt, asIntOf, hw, hneg, hns, h63', h48', h48i, hfit, Question.forced, hold' w.drew (fun _ => rfl), newRow, grownCap]
theorem flat_unit {z : α} {zs : List Value} (hz : enc z = zs) (q : Nat) : (List.replicate q z).flatMap enc = (List.replicate q ()).flatMap fun _ => zs := by
  induction q with
  | zero => rfl
  | succ q ih => rw [List.replicate_succ, List.replicate_succ, List.flatMap_cons, List.flatMap_cons, ih, hz]
theorem go_appendZ (hT : TbsOk P T) {dst : Option Tmp} {s x : Operand} {t tn ty : TypeId} {pos : String} {after : Array Edge} {gd : Option (Nat × Bool)} {A : Option Addr} {n c q : Nat} {k kn : IntKind} {zq : Int} {et sz bts : Nat} {zs : List Value} {B : Asn} (src : Sum Nat Nat) (L L3 : List α) (z : α) (n' : Nat)
    (hg : guardS ops st.fr ⟨dst, .call { callee := .builtin .append, args := #[s, x], argTypes := #[t, tn] }, ty, pos, after, gd⟩ = .run)
    (hs : (ev st.fr s).den = .slice A n c) (hsno : (ev st.fr s).isNo = false) (hx : ev st.fr x = .va (.int k zq)) (hzq : zq = (q : Int))
    (ht : (te T.tab t).map (·.k) = some (.slice et)) (htn : (te T.tab tn).map (·.k) = some (.int kn)) (he' : (te T.tab et).map (fun e => (e.size, e.bytes, e.zero)) = some (sz, bts, zs)) (hpos : 0 < sz) (hlen : ∀ x, (enc x).length = sz) (hz : enc z = zs) (hzone : zs.all Value.oneCell' = true)
    (hsrc : has st src B) (hB : ∀ h, B.holds h → (Rd sz A n (L.flatMap enc)).holds h) (hq : 0 < q) (hneed : c < n + q)
    (h3 : L ++ List.replicate q z = L3) (hn' : n' = n + q) (hmax : n + q ≤ maxLen) (hbytes : (n + q) * bts ≤ 140737488355328)
    (hb : ∀ b c2, blkLe st.res (place st.res [] [.fact (Row et sz (some ⟨b, 0, none⟩) n' c2 (L3.flatMap enc))]))
    (h : ∀ b c2, n' ≤ c2 → Go P E (.o ops l :: r) (St.put ⟨st.fr, place st.res [] [.fact (Row et sz (some ⟨b, 0, none⟩) n' c2 (L3.flatMap enc))], st.ro⟩ dst (.va (.slice (some ⟨b, 0, none⟩) n' c2))) Q) :
    Go P E (.o ops (⟨dst, .call { callee := .builtin .append, args := #[s, x], argTypes := #[t, tn] }, ty, pos, after, gd⟩ :: l) :: r) st Q := by
  subst h3 hn' hzq
  obtain ⟨e, he, hsz, hbts, hzz⟩ : ∃ e, te T.tab et = some e ∧ e.size = sz ∧ e.bytes = bts ∧ e.zero = zs := by
    cases hq : te T.tab et with
    | none => rw [hq] at he'; cases he'
    | some e =>
      rw [hq] at he'
      simp only [Option.map_some, Option.some.injEq, Prod.mk.injEq] at he'
      exact ⟨e, rfl, he'.1, he'.2.1, he'.2.2⟩
  subst hsz hbts hzz
  refine Go.step fun a w hR => ⟨by have := guard_spec hR.fr (ops := ops) ⟨dst, .call { callee := .builtin .append, args := #[s, x], argTypes := #[t, tn] }, ty, pos, after, gd⟩; rw [hg] at this; exact this, ?_⟩
  obtain ⟨hs', hi', hres⟩ := hR.res
  obtain ⟨r1, r2, r3⟩ := hB _ (has_holds hsrc hres)
  cases htt : te T.tab t with
  | none => rw [htt] at ht; cases ht
  | some et' =>
  cases htn2 : te T.tab tn with
  | none => rw [htn2] at htn; cases htn
  | some etn =>
    rw [htt] at ht
    simp at ht
    rw [htn2] at htn
    simp at htn
    obtain ⟨ii, u, zz, hii, hu, hz', hk, _⟩ := te_spec hT.tab htt
    obtain ⟨ii3, u3, zz3, hii3, hu3, hz3', hk3, _⟩ := te_spec hT.tab htn2
    obtain ⟨i2, u2, zv, hi2, hu2, hzv, hk2, hs2, hb2, hz2'⟩ := te_spec hT.tab he
    rw [ht] at hk
    cases u <;> simp [tkOf] at hk
    subst hk
    rw [htn] at hk3
    cases u3 <;> simp [tkOf] at hk3
    subst hk3
    have hzl : zv.cells.size = e.size := by
      have := hlen z
      rw [hz, hz2'] at this
      simpa using this
    have hrun := run_append_zeros (P := P) w t tn ty et i2 zv k kn hu hu3 hi2 hzv A n c q (L.flatMap enc) (by rw [← hs2]; exact r1) (by
      rcases Nat.eq_zero_or_pos n with h0 | h0
      · cases A with
        | none => exact .inl ⟨rfl, h0⟩
        | some a2 => exact .inr ⟨a2, rfl, fun j v hj => by
            rw [List.eq_nil_of_length_eq_zero (show (L.flatMap enc).length = 0 by rw [r1, h0, Nat.zero_mul])] at hj
            cases hj⟩
      · obtain ⟨g2, o2, cur2, e2, fz, q1, q2, q3⟩ := r3 h0
        refine .inr ⟨_, q1, fun j v hj => ?_⟩
        have q4 : w.heap[g2]? = some (.cells cur2 e2 fz) := q2
        rw [addr_add, cell_of_row w g2 _ _ e2 _ q4]
        rw [← q3, List.getElem?_take] at hj
        split at hj
        · rw [List.getElem?_drop] at hj
          simpa using hj
        · cases hj) hq hneed (by rw [← hs2]; exact hpos) hmax (by rw [← hb2]; exact hbytes)
    obtain ⟨C, hC⟩ : ∃ C, C = grownCap w (n + q) c et := ⟨_, rfl⟩
    have hC1 : n + q ≤ C := by rw [hC]; exact grownCap_ge w _ _ _
    have hC2 : C ≤ maxLen := by rw [hC]; exact grownCap_le_maxLen w _ _ _ hmax
    rw [← hC] at hrun
    have hcells : ((L.flatMap enc).toArray ++ Builtin.zeroCells zv.cells q ++ Builtin.zeroCells zv.cells (C - (n + q))).toList = (L ++ List.replicate q z).flatMap enc ++ (List.replicate (C - (n + q)) ()).flatMap (fun _ => e.zero) := by
      rw [Array.toList_append, Array.toList_append, zero_made, zero_made, hzl, made_flat hzl, made_flat hzl, List.flatMap_append, flat_unit hz, hz2']
    have hlL : ((L ++ List.replicate q z).flatMap enc).length = (n + q) * e.size := by
      rw [List.flatMap_append, List.length_append, r1, flat_len hlen, List.length_replicate, Nat.add_mul]
    have hR2 := place_ok hres [] Hp.emp (fun b hb => absurd rfl hb) [.fact (Row et e.size (some ⟨w.heap.size, 0, none⟩) (n + q) C ((L ++ List.replicate q z).flatMap enc))] (Hp.one w.heap.size (.cells ((L.flatMap enc).toArray ++ Builtin.zeroCells zv.cells q ++ Builtin.zeroCells zv.cells (C - (n + q))) et)) ?_ (Hp.one_le (hp_alloc w.drew _)) ((⟨rfl, rfl, rfl, Nat.le_refl _, fun _ _ _ => rfl⟩ : Ext Hp.emp w w.drew).trans (Ext.alloc w.drew _)) (fun b hb' => ?_) (newsOk_fact (newsOk_nil _)) (hb _ _)
    · obtain ⟨hs2', hres2⟩ := hR2
      refine wp_value (v := .slice (some ⟨w.heap.size, 0, none⟩) (n + q) C) (w' := w.drew.alloc (.cells ((L.flatMap enc).toArray ++ Builtin.zeroCells zv.cells q ++ Builtin.zeroCells zv.cells (C - (n + q))) et)) ?_ (h w.heap.size C hC1 _ _ ?_)
      · have h1 : a.eval x = .int k (q : Int) := by rw [ev_denv hR.fr hx rfl]; rfl
        simp [execOp, resolve, invoke, builtin, SV.den_of_is (ev_is hR.fr s) (fun e => by rw [e] at hsno; cases hsno), hs, h1, hrun]
      · have hR' : R E ⟨st.fr, place st.res [] [.fact (Row et e.size (some ⟨w.heap.size, 0, none⟩) (n + q) C ((L ++ List.replicate q z).flatMap enc))], st.ro⟩ a (w.drew.alloc (.cells ((L.flatMap enc).toArray ++ Builtin.zeroCells zv.cells q ++ Builtin.zeroCells zv.cells (C - (n + q))) et)) := ⟨hR.fr.mono (blkLe_spec (hb _ _)), hs2', hi', hres2⟩
        exact hR'.put dst (x := .va (.slice (some ⟨w.heap.size, 0, none⟩) (n + q) C)) rfl trivial
    · refine starH_one.2 ⟨hlL, fun v hv => ?_, .inr ⟨w.heap.size, _, rfl, Hp.one_self _ _, hC1, hC2, ?_, ?_⟩⟩
      · rw [List.flatMap_append] at hv
        rcases List.mem_append.1 hv with hv | hv
        · exact r2 v hv
        · rw [flat_unit hz] at hv
          obtain ⟨_, _, hv⟩ := List.mem_flatMap.1 hv
          exact List.all_eq_true.1 hzone v hv
      · rw [← Array.length_toList, hcells, List.length_append, hlL, flat_len (sz := e.size) (fun _ => by rw [← hz]; exact hlen z), List.length_replicate, ← Nat.add_mul]
        congr 1
        omega
      · rw [hcells, ← hlL, List.take_append_of_le_length (Nat.le_refl _), List.take_length]
    · right
      by_cases e : b = w.heap.size
      · omega
      · exact absurd (Hp.one_none e) hb'
/-- copy(a, b): from where the row's elements are, over its end, within its capacity -/
theorem go_copyX (hT : TbsOk P T) {dst : Option Tmp} {dT sT : TypeId} {x y : Operand} {ty : TypeId} {pos : String} {after : Array Edge} {gd : Option (Nat × Bool)} {g n c dl dc sl sc e et sz : Nat} {A1 A2 : Option Addr} {B : Asn} (i o k : Nat) (s : Sum Nat Nat) (L L2 L3 : List α)
    (hg : guardS ops st.fr ⟨dst, .call { callee := .builtin .copy, args := #[x, y], argTypes := #[dT, sT] }, ty, pos, after, gd⟩ = .run)
    (hx : (ev st.fr x).den = .slice A1 dl dc) (hxno : (ev st.fr x).isNo = false) (hy : (ev st.fr y).den = .slice A2 sl sc) (hyno : (ev st.fr y).isNo = false)
    (ht : (te T.tab dT).map (·.k) = some (.slice et)) (he' : (te T.tab et).map (·.size) = some sz) (hpos : 0 < sz)
    (hi : st.res[i]? = some (.fact (Row e sz (some ⟨g, 0, none⟩) n c (L.flatMap enc)))) (hA1 : A1 = some ⟨g, o * sz, none⟩)
    (hsrc : has st s B) (hB : ∀ h, B.holds h → (Rd sz A2 k (L2.flatMap enc)).holds h) (hlen : ∀ x, (enc x).length = sz)
    (hk : k = Nat.min sl dl) (h0k : 0 < k) (ho : o ≤ n) (hover : n ≤ o + k) (hfit : o + k ≤ c) (n' : Nat) (hn' : n' = o + k) (h3 : L.take o ++ L2 = L3)
    (h : Go P E (.o ops l :: r) (St.put ⟨st.fr, st.res.set i (.fact (Row e sz (some ⟨g, 0, none⟩) n' c (L3.flatMap enc))), st.ro⟩ dst (.va (.int .i64 (k : Nat)))) Q) :
    Go P E (.o ops (⟨dst, .call { callee := .builtin .copy, args := #[x, y], argTypes := #[dT, sT] }, ty, pos, after, gd⟩ :: l) :: r) st Q := by
  subst h3 hA1 hn'
  refine Go.step fun a w hR => ⟨by have := guard_spec hR.fr (ops := ops) ⟨dst, .call { callee := .builtin .copy, args := #[x, y], argTypes := #[dT, sT] }, ty, pos, after, gd⟩; rw [hg] at this; exact this, ?_⟩
  obtain ⟨hs, hi0, hres⟩ := hR.res
  have hlt := (List.getElem?_eq_some_iff.1 hi).1
  obtain ⟨r1, r2, r3⟩ := hB _ (has_holds hsrc hres)
  -- the row laid open
  obtain ⟨⟨rest, hl1, h11, hnc, hcm, hrl⟩, hs1, hres1⟩ := place_ghost hres [i] (M := [Row e sz (some ⟨g, 0, none⟩) n c (L.flatMap enc)])
    (X := {rest : List Value // (L.flatMap enc).length = n * sz ∧ (∀ v ∈ L.flatMap enc, v.oneCell' = true) ∧ n ≤ c ∧ c ≤ maxLen ∧ (L.flatMap enc).length + rest.length = c * sz})
    (fun rest => [.fact (Blk g e (L.flatMap enc ++ rest.1))]) (by simp [asnAt_fact hi]) (by simp) (fun hh p => by
      obtain ⟨p1, p2, p3⟩ := starH_one.1 p
      rcases p3 with ⟨p3, _⟩ | ⟨g', cur, p3, p4, p5, p6, p7, p8⟩
      · cases p3
      · cases p3
        refine ⟨⟨cur.toList.drop (n * sz), p1, p2, p5, p6, ?_⟩, starH_one.2 ?_⟩
        · have := Nat.mul_le_mul_right sz p5
          simp only [List.length_drop, Array.length_toList, p7, p1]
          omega
        · show hh g = some (.cells (L.flatMap enc ++ cur.toList.drop (n * sz)).toArray e (0, 0))
          rw [p4, ← p8, List.take_append_drop, Array.toArray_toList]) (fun _ => newsOk_fact (newsOk_nil _)) (fun _ => by rw [place_one hlt]; exact blkLe_set _ hi)
  have hL : L.length = n := by
    rw [flat_len hlen] at hl1
    exact Nat.eq_of_mul_eq_mul_right hpos hl1
  have hL2 : L2.length = k := by
    rw [flat_len hlen] at r1
    exact Nat.eq_of_mul_eq_mul_right hpos r1
  have hk1 : k ≤ sl := by rw [hk]; exact Nat.min_le_left _ _
  have hk2 : k ≤ dl := by rw [hk]; exact Nat.min_le_right _ _
  obtain ⟨vs, hvs⟩ : ∃ vs, vs = L2.flatMap enc := ⟨_, rfl⟩
  have hvl : vs.length = k * sz := by rw [hvs, flat_len hlen, hL2]
  have hv1 : ∀ v ∈ vs, v.oneCell' = true := fun v hv => by
    rw [hvs] at hv
    exact r2 v hv
  obtain ⟨rest2, hrest2⟩ : ∃ x, x = rest.drop ((o + k - n) * sz) := ⟨_, rfl⟩
  have hov : over (L.flatMap enc ++ rest) (o * sz) vs = (L.take o ++ L2).flatMap enc ++ rest2 := by
    have m2 : (o + k) * sz = o * sz + k * sz := Nat.add_mul _ _ _
    have m3 : o * sz ≤ n * sz := Nat.mul_le_mul_right _ ho
    have m4 : (o + k - n) * sz = (o + k) * sz - n * sz := Nat.sub_mul _ _ _
    have m5 : n * sz ≤ (o + k) * sz := Nat.mul_le_mul_right _ hover
    unfold over
    rw [hvl, ← m2, List.take_append_of_le_length (by omega), flat_take hlen, List.drop_append, List.drop_of_length_le (by omega), hvs, hrest2, hl1, m4, List.flatMap_append]
    rfl
  dsimp only at hres1
  rw [place_one hlt] at hres1
  have hi2 := set_fact hi (.fact (Blk g e (L.flatMap enc ++ rest)))
  have hlt2 := (List.getElem?_eq_some_iff.1 hi2).1
  obtain ⟨hw, hs2, hres2⟩ := write_res hres1 i g e (L.flatMap enc ++ rest) ((L.take o ++ L2).flatMap enc ++ rest2) (asnAt_fact hi2) (by rw [place_one hlt2]; exact blkLe_set _ hi2)
  rw [place_one hlt2, List.set_set] at hres2
  have hi3 := set_fact hi (.fact (Blk g e ((L.take o ++ L2).flatMap enc ++ rest2)))
  have hlt3 := (List.getElem?_eq_some_iff.1 hi3).1
  have hl3 : ((L.take o ++ L2).flatMap enc).length = (o + k) * sz := by
    rw [flat_len hlen]
    congr 1
    simp only [List.length_append, List.length_take]
    omega
  have hrl3 : ((L.take o ++ L2).flatMap enc).length + rest2.length = c * sz := by
    have m3 : (o + k) * sz ≤ c * sz := Nat.mul_le_mul_right _ hfit
    have m4 : (o + k - n) * sz = (o + k) * sz - n * sz := Nat.sub_mul _ _ _
    have m5 : n * sz ≤ (o + k) * sz := Nat.mul_le_mul_right _ hover
    rw [hl3, hrest2, List.length_drop, m4]
    omega
  obtain ⟨_, hs3, hres3⟩ := place_ghost hres2 [i] (M := [Blk g e ((L.take o ++ L2).flatMap enc ++ rest2)]) (X := Unit)
    (fun _ => [.fact (Row e sz (some ⟨g, 0, none⟩) (o + k) c ((L.take o ++ L2).flatMap enc))]) (congrArg (fun x => [x]) (asnAt_fact hi3)) (by simp) (fun hh p => ⟨(), starH_one.2 (Row.close (starH_one.1 p) hl3 (fun v hv => by
      obtain ⟨z, hz, hv⟩ := List.mem_flatMap.1 hv
      rcases List.mem_append.1 hz with hz | hz
      · exact h11 v (List.mem_flatMap.2 ⟨z, List.mem_of_mem_take hz, hv⟩)
      · exact r2 v (List.mem_flatMap.2 ⟨z, hz, hv⟩)) hfit hcm hrl3)⟩) (fun _ => newsOk_fact (newsOk_nil _)) (fun _ => by rw [place_one hlt3]; exact blkLe_set _ hi3)
  rw [place_one hlt3, List.set_set] at hres3
  have hR' : R E ⟨st.fr, st.res.set i (.fact (Row e sz (some ⟨g, 0, none⟩) (o + k) c ((L.take o ++ L2).flatMap enc))), st.ro⟩ a (w.setRow g ((L.take o ++ L2).flatMap enc ++ rest2).toArray) := ⟨hR.fr.mono (blkLe_spec (blkLe_set _ hi)), hs3, hi0, hres3⟩
  refine wp_value (w' := w.setRow g ((L.take o ++ L2).flatMap enc ++ rest2).toArray) (v := .int .i64 (k : Nat)) ?_ (h _ _ (hR'.put dst (SV.is_den (.va (.int .i64 (k : Nat)))) trivial))
  obtain ⟨e1, he1, hsz⟩ : ∃ e, te T.tab et = some e ∧ e.size = sz := by
    cases hq : te T.tab et with
    | none => rw [hq] at he'; cases he'
    | some e => rw [hq] at he'; exact ⟨e, rfl, by simpa using he'⟩
  subst hsz
  cases htt : te T.tab dT with
  | none => rw [htt] at ht; cases ht
  | some et' =>
    rw [htt] at ht
    simp at ht
    obtain ⟨ii, u, zz, hii, hu, hz', hk', _⟩ := te_spec hT.tab htt
    obtain ⟨i2, u2, z2, hi2', hu2, hz2, hk2', hs2', _⟩ := te_spec hT.tab he1
    rw [ht] at hk'
    cases u <;> simp [tkOf] at hk'
    subst hk'
    have hrun := run_copy_rows (P := P) w dT sT ty et g (o * e1.size) dl dc A2 sl sc e1.size (L.flatMap enc ++ rest).toArray e vs hu (by rw [hi2']; simp [hs2']) hw (by rw [hvl, hk]) (by
      · obtain ⟨g2, o2, cur2, e2, fz, q1, q2, q3⟩ := r3 h0k
        refine .inr ⟨_, q1, fun j v hj => ?_⟩
        have q4 : w.heap[g2]? = some (.cells cur2 e2 fz) := q2
        rw [addr_add, cell_of_row w g2 _ _ e2 _ q4]
        have q5 : vs = (cur2.toList.drop o2).take (k * e1.size) := by
          rw [hvs, ← q3]
        rw [q5, List.getElem?_take] at hj
        split at hj
        · rw [List.getElem?_drop] at hj
          simpa using hj
        · cases hj) (by simp only [List.size_toArray, List.length_append]; rw [hvl, hrl, ← Nat.add_mul]; exact Nat.mul_le_mul_right e1.size hfit) hv1
    rw [show over (L.flatMap enc ++ rest).toArray.toList (o * e1.size) vs = (L.take o ++ L2).flatMap enc ++ rest2 from hov] at hrun
    simp [execOp, resolve, invoke, builtin, SV.den_of_is (ev_is hR.fr x) (fun e => by rw [e] at hxno; cases hxno), SV.den_of_is (ev_is hR.fr y) (fun e => by rw [e] at hyno; cases hyno), hx, hy, hrun, ← hk]
/-- a call of a function that has no body -/
theorem go_ext {dst : Option Tmp} {f : FuncId} {fn : Func} {e : Array Value → Sem Value} {args : Array Operand} {ts : Array TypeId} {ty : TypeId} {pos : String} {after : Array Edge} {gd : Option (Nat × Bool)}
    (hf : P.funcs[f]? = some fn) (hname : (fn.name == "runtime.NumGoroutine") = false) (hb : fn.body.isNone = true) (hn : Extern.findNext fn = none) (he : Extern.find fn = some e)
    (hg : guardS ops st.fr ⟨dst, .call { callee := .value (.func f), args := args, argTypes := ts }, ty, pos, after, gd⟩ = .run) (x : SV) (hx : x.good (blkAt st.res))
    (hrun : ∀ a w, R E st a w → (e (args.map a.eval)).run P w = .ok x.den w)
    (h : Go P E (.o ops l :: r) (st.put dst x) Q) : Go P E (.o ops (⟨dst, .call { callee := .value (.func f), args := args, argTypes := ts }, ty, pos, after, gd⟩ :: l) :: r) st Q :=
  go_val (o := ⟨dst, .call { callee := .value (.func f), args := args, argTypes := ts }, ty, pos, after, gd⟩) hg x hx (fun a w hR => by
    have h1 := run_callFunc_extern hf hname hb hn he (args.map a.eval) w
    rw [hrun a w hR] at h1
    have h2 : a.eval (.func f) = .func (.func f) #[] #[] := rfl
    have h3 : (callFunc f (#[] ++ args.map a.eval ++ #[])).run P w = .ok (.value x.den) w := by simpa using h1
    simp only [execOp, resolve, Deferred.ofValue, h2, invoke, Sem.run_bind, Sem.run_pure, Result.andThen_ok, h3]) h
theorem go_overlaps (hT : TbsOk P T) {dst : Option Tmp} {f : FuncId} {fn : Func} {x y : Operand} {tS tR : TypeId} {ts : Array TypeId} {ty : TypeId} {pos : String} {after : Array Edge} {gd : Option (Nat × Bool)} {vb g o m vc lb cb e1 e2 et sz n c : Nat} {cs1 cs2 : List Value} (i j : Nat)
    (hf : P.funcs[f]? = some fn) (hname : (fn.name == "runtime.NumGoroutine") = false) (hb : fn.body.isNone = true) (hn : Extern.findNext fn = none) (he : Extern.find fn = some (Extern.SlicesOverlaps.overlaps #[tS, tS] #[tR]))
    (hg : guardS ops st.fr ⟨dst, .call { callee := .value (.func f), args := #[x, y], argTypes := ts }, ty, pos, after, gd⟩ = .run)
    (hx : (ev st.fr x).den = .slice (some ⟨vb, 0, none⟩) m vc) (hxno : (ev st.fr x).isNo = false) (hy : (ev st.fr y).den = .slice (some ⟨g, o, none⟩) lb cb) (hyno : (ev st.fr y).isNo = false)
    (ht : (te T.tab tS).map (·.k) = some (.slice et)) (he' : (te T.tab et).map (·.size) = some sz) (hij : i ≠ j)
    (hi : asnAt st.res i = some (Pt vb e1 cs1)) (hj : st.res[j]? = some (.fact (Row e2 sz (some ⟨g, 0, none⟩) n c cs2))) (hc : 0 < c * sz)
    (h : Go P E (.o ops l :: r) (st.put dst (.bl false)) Q) : Go P E (.o ops (⟨dst, .call { callee := .value (.func f), args := #[x, y], argTypes := ts }, ty, pos, after, gd⟩ :: l) :: r) st Q := by
  refine go_ext hf hname hb hn he hg (.bl false) trivial (fun a w hR => ?_) h
  obtain ⟨hs, hi0, hres⟩ := hR.res
  obtain ⟨z, hz, hz2⟩ := asnAt_spec hi
  have q1 : (hs i) vb = some (.cells cs1.toArray e1 (0, 0)) := by
    have := hres.holds i z hz
    rw [hz2] at this
    exact this.1
  have q2 := (hres.holds j _ hj).2.2
  obtain ⟨g', cur, p1, p2, p3, p4, p5, p6⟩ : ∃ g' cur, (some ⟨g, 0, none⟩ : Option Addr) = some ⟨g', 0, none⟩ ∧ (hs j) g' = some (.cells cur e2 (0, 0)) ∧ n ≤ c ∧ c ≤ maxLen ∧ cur.size = c * sz ∧ cur.toList.take (n * sz) = cs2 := by
    rcases q2 with ⟨q2, _⟩ | q2
    · cases q2
    · exact q2
  cases p1
  have hne : vb ≠ g := fun e => by
    subst e
    have := hres.dis i j hij vb
    rcases this with h1 | h1
    · rw [q1] at h1; cases h1
    · rw [p2] at h1; cases h1
  have w1 : w.heap[vb]? = some (.cells cs1.toArray e1 (0, 0)) := hres.le i _ _ q1
  have w2 : w.heap[g]? = some (.cells cur e2 (0, 0)) := hres.le j _ _ p2
  obtain ⟨e1', he1, hsz⟩ : ∃ e, te T.tab et = some e ∧ e.size = sz := by
    cases hq : te T.tab et with
    | none => rw [hq] at he'; cases he'
    | some e => rw [hq] at he'; exact ⟨e, rfl, by simpa using he'⟩
  subst hsz
  cases htt : te T.tab tS with
  | none => rw [htt] at ht; cases ht
  | some et' =>
    rw [htt] at ht
    simp at ht
    obtain ⟨ii, u, zz, hii, hu, hz', hk', _⟩ := te_spec hT.tab htt
    obtain ⟨i2, u2, z2, hi2', hu2, hz2, hk2', hs2', _⟩ := te_spec hT.tab he1
    rw [ht] at hk'
    cases u <;> simp [tkOf] at hk'
    subst hk'
    have h1 : a.eval x = .slice (some ⟨vb, 0, none⟩) m vc := by rw [← hx]; exact SV.den_of_is (ev_is hR.fr x) (fun e => by rw [e] at hxno; cases hxno)
    have h2 : a.eval y = .slice (some ⟨g, o, none⟩) lb cb := by rw [← hy]; exact SV.den_of_is (ev_is hR.fr y) (fun e => by rw [e] at hyno; cases hyno)
    have := Lib.run_overlaps_apart (P := P) w tS tR et hu e1'.size (fun w => by simp [sizeOf, typeInfo, hi2', hs2']) ⟨vb, 0, none⟩ ⟨g, o, none⟩ m vc lb cb hne e1 e2 cs1.toArray.size cur.size (by simp [World.shape?, w1]) (by simp [World.shape?, w2]) (by rw [p5]; omega) (by simp [World.frozen?, w1]) (by simp [World.frozen?, w1])
    simpa [h1, h2, SV.den] using this
end
end Go.Sy
