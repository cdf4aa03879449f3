/-
  What is proved: append, slicing, make. Conditions: none.
-/
import Derived.Test.YthknokcgclcbmaaSyd
import Derived.Maps.AppendAt
namespace Go.Sy
open Go.RowKit

/-- places that are given up -/
def deads (l : List (Option Nat)) : List Res := l.map .dead
theorem starH_pad {l : List Res} {h : Hp} (p : Asn.starH (l.map Res.asn) h) : ∀ d : List (Option Nat), Asn.starH ((deads d ++ l).map Res.asn) h
  | [] => p
  | _ :: d => ⟨Hp.emp, h, Hp.emp_dis _, Hp.emp_le _, Hp.le_refl _, trivial, starH_pad p d⟩
theorem newsOk_pad {β : Nat → Option Nat} {l : List Res} (h : newsOk β l) (d : List (Option Nat)) : newsOk β (deads d ++ l) := fun x hx => by
  rcases List.mem_append.1 hx with hx | hx
  · obtain ⟨b, _, rfl⟩ := List.mem_map.1 hx; trivial
  · exact h x hx
theorem own_le {w' : World} (v : Value) : ∃ k : Hp, k.le (hp w') ∧ (∀ g, v.ownBlock = some g → k g = w'.heap[g]?) ∧ ∀ b, k b ≠ none → v.ownBlock = some b := by
  classical
  refine ⟨fun b => if v.ownBlock = some b then w'.heap[b]? else none, fun b o e => ?_, fun g hg => if_pos hg, fun b hb => ?_⟩
  · dsimp only at e
    split at e
    · exact e
    · cases e
  · dsimp only at hb
    split at hb
    · rename_i h; exact h
    · exact absurd rfl hb

section
variable {P : Program} {T : Tbs} {E : Entry} {Q : Exit → St → Prop} {ops : Array Oper} {l : List Oper} {r : List It} {st : St}

/-- append(s, x...): s: nil, or a row of the call's own (sel: where it is held); x: whatever reads as is known -/
theorem go_append (hT : TbsOk P T) {dst : Option Tmp} {s x : Operand} {t ty : TypeId} {pos : String} {after : Array Edge} {gd : Option (Nat × Bool)} (sel : List Nat) (pad : List (Option Nat)) (M : List Asn) (A A' : Option Addr) (n c m c' : Nat) (cs news : List Value) (et sz bts : Nat) (src : Sum Nat Nat) (B : Asn)
    (hg : guardS ops st.fr ⟨dst, .call { callee := .builtin .append, args := #[s, x], argTypes := #[t, t] }, ty, pos, after, gd⟩ = .run)
    (hs : (ev st.fr s).den = .slice A n c) (hsno : ev st.fr s ≠ .no) (hx : (ev st.fr x).den = .slice A' m c') (hxno : ev st.fr x ≠ .no)
    (ht : (te T.tab t).map (·.k) = some (.slice et)) (he' : (te T.tab et).map (fun e => (e.size, e.bytes, e.zero.length)) = some (sz, bts, sz)) (hpos : 0 < sz)
    (hsel : sel.map (asnAt st.res) = M.map some) (hnd : sel.Nodup) (hM : ∀ h, Asn.starH M h → (Row et sz A n c cs).holds h)
    (hsrc : has st src B) (hB : ∀ h, B.holds h → (Rd sz A' m news).holds h)
    (n' : Nat) (cs' : List Value) (hn' : n' = n + m) (hcs' : cs' = cs ++ news) (hmax : n + m ≤ maxLen) (hbytes : (n + m) * bts ≤ 140737488355328)
    (hb : ∀ A2 c2, blkLe st.res (place st.res sel (deads pad ++ [.fact (Row et sz A2 n' c2 cs')])))
    (h : ∀ A2 c2, (A2 = none → A = none ∧ m = 0) → n' ≤ c2 → Go P E (.o ops l :: r) (St.put ⟨st.fr, place st.res sel (deads pad ++ [.fact (Row et sz A2 n' c2 cs')]), st.ro⟩ dst (.va (.slice A2 n' c2))) Q) :
    Go P E (.o ops (⟨dst, .call { callee := .builtin .append, args := #[s, x], argTypes := #[t, t] }, ty, pos, after, gd⟩ :: l) :: r) st Q := by
  subst hn' hcs'
  obtain ⟨e, he, hsz, hbts, hz⟩ : ∃ e, te T.tab et = some e ∧ e.size = sz ∧ e.bytes = bts ∧ e.zero.length = e.size := by
    cases hq : te T.tab et with
    | none => rw [hq] at he'; cases he'
    | some e =>
      rw [hq] at he'
      simp only [Option.map_some, Option.some.injEq, Prod.mk.injEq] at he'
      exact ⟨e, rfl, he'.1, he'.2.1, he'.2.2.trans he'.1.symm⟩
  subst hsz hbts
  refine Go.step fun a w hR => ⟨by have := guard_spec hR.fr (ops := ops) ⟨dst, .call { callee := .builtin .append, args := #[s, x], argTypes := #[t, t] }, ty, pos, after, gd⟩; rw [hg] at this; exact this, ?_⟩
  obtain ⟨hs', hi', hres⟩ := hR.res
  have hrow := hM _ (selH_star hres.le hres.dis hres.holds hsel hnd)
  have hown := row_owns hrow (selH_le _ _ _)
  obtain ⟨hl2, h12, h32⟩ := hB _ (has_holds hsrc hres)
  cases htt : te T.tab t with
  | none => rw [htt] at ht; cases ht
  | some et' =>
    rw [htt] at ht
    simp at ht
    obtain ⟨ii, u, zz, hii, hu, hz', hk, _⟩ := te_spec hT.tab htt
    obtain ⟨i2, u2, z2, hi2, hu2, hz2, hk2, hs2, hb2, hz2'⟩ := te_spec hT.tab he
    rw [ht] at hk
    cases u <;> simp [tkOf] at hk
    subst hk
    have hzs : z2.cells.size = e.size := by rw [← hz, hz2']; simp
    have hnn : ∀ d ∈ news, d.oneCell' = true := h12
    -- the run, whether x is nil or not
    have hrun : ∃ v' w', (Builtin.append_ #[t, t] ty #[.slice A n c, .slice A' m c']).run P w = .ok v' w' ∧ w'.ownsRow 0 et e.size v' (n + m) (cs ++ news) ∧ w.grownBy w' (Value.ownBlock (.slice A n c)) ∧ (v' = .slice none 0 0 → Value.slice A n c = .slice none 0 0 ∧ m = 0) ∧ (v'.ownBlock = Value.ownBlock (.slice A n c) ∨ v'.ownBlock = some w.heap.size) := by
      rcases Nat.eq_zero_or_pos m with hm0 | hm
      · subst hm0
        have hn0 : news = [] := List.eq_nil_of_length_eq_zero (by simpa using hl2)
        subst hn0
        refine ⟨.slice A n c, w, ?_, by simpa using hown, ⟨rfl, rfl, rfl, Nat.le_refl _, fun _ _ _ => rfl⟩, fun e => ⟨e, rfl⟩, .inl rfl⟩
        rcases hown.2 with ⟨h1, h2⟩ | ⟨g, cap, cur, h1, _, _, hnc, _⟩
        · cases h1
          cases A' <;> simp [Builtin.append_, run_underlying hu, sizeOf, typeInfo, hi2, Builtin.lenOf, Builtin.firstCells, loadCells, loadCellsFrom]
        · cases h1
          cases A' <;> simp [Builtin.append_, run_underlying hu, sizeOf, typeInfo, hi2, Builtin.lenOf, Builtin.firstCells, loadCells, loadCellsFrom, hnc, storeCells]
      · obtain ⟨g, o, cur, e2, fz, rfl, hcur, htk⟩ := h32 hm
        have hcur : w.heap[g]? = some (.cells cur e2 fz) := hcur
        have hcell : ∀ j v, news[j]? = some v → w.cell? ((⟨g, o, none⟩ : Addr).add j) = some v := fun j v hv => by
          rw [addr_add, cell_of_row w g _ _ e2 fz hcur]
          rw [← htk, List.getElem?_take] at hv
          split at hv
          · rw [List.getElem?_drop] at hv
            rw [← Array.getElem?_toList, ← hv]
          · cases hv
        obtain ⟨v', w', h1, h2, h3, h4, h5⟩ := Go.run_append_own_at (P := P) w 0 t ty et i2 z2 e.size e.bytes hu hi2 hz2 hs2.symm hb2.symm hzs hpos (.slice A n c) n cs hown ⟨g, o, none⟩ m c' news hl2 hcell hnn hmax hbytes (Nat.zero_le _)
        exact ⟨v', w', h1, h2, h3, fun e => h4.1 e, h5⟩
    obtain ⟨v', w', hrun, hown', hgrown, hnil, hwhere⟩ := hrun
    obtain ⟨A2, c2, rfl, hrow'⟩ := owns_row hown' (fun d hd => by
      rcases List.mem_append.1 hd with hd | hd
      · exact hrow.2.1 d hd
      · exact hnn d hd)
    obtain ⟨k, hk1, hk2, hk3⟩ := own_le (w' := w') (.slice A2 (n + m) c2)
    have hext : Ext (selH w hs' sel) w w' := ⟨hgrown.os, hgrown.tape, hgrown.output, hgrown.size, fun b hb hn => hgrown.block b hb (fun e => by
      rcases hrow.2.2 with ⟨rfl, _⟩ | ⟨g, cur, rfl, hgc, _⟩
      · simp [Value.ownBlock] at e
      · simp [Value.ownBlock] at e; subst e; rw [hgc] at hn; cases hn)⟩
    have hnew : ∀ b, k b ≠ none → selH w hs' sel b ≠ none ∨ w.heap.size ≤ b := fun b hb => by
      have h1 := hk3 b hb
      rcases hwhere with hw1 | hw1
      · rw [hw1] at h1
        left
        rcases hrow.2.2 with ⟨rfl, _⟩ | ⟨g, cur, rfl, hgc, _⟩
        · cases h1
        · simp only [Value.ownBlock, Option.some.injEq] at h1
          subst h1
          rw [hgc]; simp
      · rw [hw1] at h1
        cases h1
        exact .inr (Nat.le_refl _)
    have hplace := place_ok hres sel (selH w hs' sel) selH_C (deads pad ++ [.fact (Row et e.size A2 (n + m) c2 (cs ++ news))]) k (starH_pad (l := [.fact _]) (starH_one.2 (hrow' k hk2)) pad) hk1 hext hnew (newsOk_pad (newsOk_fact (newsOk_nil _)) pad) (hb A2 c2)
    obtain ⟨hs2', hres'⟩ := hplace
    refine wp_value (v := .slice A2 (n + m) c2) (w' := w') ?_ (h A2 c2 (fun e => ?_) ?_ _ _ ?_)
    · simp [execOp, resolve, invoke, builtin, SV.den_of_is (ev_is hR.fr s) hsno, SV.den_of_is (ev_is hR.fr x) hxno, hs, hx, hrun]
    · subst e
      rcases hown'.2 with ⟨h1, h2⟩ | ⟨g, cap, cur, h1, _⟩
      · have := hnil h1
        cases this.1
        exact ⟨rfl, this.2⟩
      · cases h1
    · rcases (hrow' k hk2).2.2 with ⟨_, h1, h2⟩ | ⟨g, cur, _, _, h1, _⟩
      · omega
      · exact h1
    · have hR' : R E ⟨st.fr, place st.res sel (deads pad ++ [.fact (Row et e.size A2 (n + m) c2 (cs ++ news))]), st.ro⟩ a w' := ⟨hR.fr.mono (blkLe_spec (hb A2 c2)), hs2', hi', hres'⟩
      exact hR'.put dst (x := .va (.slice A2 (n + m) c2)) rfl trivial

/-- a slice's bound: left out, or told -/
def bound (fr : List SV) (x : Option Operand) (d n : Nat) : Prop := match x with | none => n = d | some o => ∃ k, ev fr o = .va (.int k (n : Int))
theorem sliceBound_run {P : Program} {w : World} {k : IntKind} {i y : Nat} {code : BoundsCode} (h : i ≤ y) : (Instr.sliceBound (.int k (i : Int)) y code).run P w = .ok i w := by
  have hc : (0 : Int) ≤ (i : Int) ∧ (i : Int) ≤ (y : Int) := ⟨by omega, by omega⟩
  simp [Instr.sliceBound, asIntOf]
  intro hh; omega
theorem slice_run (hT : TbsOk P T) {dst : Option Tmp} {t : TypeId} {x : Operand} {lo hi mx : Option Operand} {ty : TypeId} {pos : String} {after : Array Edge} {gd : Option (Nat × Bool)} (A A2 : Option Addr) (n c lo' hi' mx' : Nat) (et sz : Nat) {fr : List SV} {res : List Res} {a : Act} (hF : FrOk fr res a)
    (hx : (ev fr x).den = .slice A n c) (hxno : ev fr x ≠ .no)
    (ht : (te T.tab t).map (·.k) = some (.slice et)) (he' : (te T.tab et).map (·.size) = some sz)
    (hlo : bound fr lo 0 lo') (hhi : bound fr hi n hi') (hmx : bound fr mx c mx') (hform : mx.isSome = true → hi.isSome = true) (h1 : lo' ≤ hi') (h2 : hi' ≤ mx') (h3 : mx' ≤ c)
    (hA : A2 = if mx' = lo' then A else A.map (·.add (lo' * sz))) (w : World) :
    (execOp a.eval ⟨dst, .slice t x lo hi mx, ty, pos, after, gd⟩).run P w = .ok (.value (.slice A2 (hi' - lo') (mx' - lo'))) w := by
  obtain ⟨e, he, hsz⟩ : ∃ e, te T.tab et = some e ∧ e.size = sz := by
    cases hq : te T.tab et with
    | none => rw [hq] at he'; cases he'
    | some e => rw [hq] at he'; exact ⟨e, rfl, by simpa using he'⟩
  subst hsz
  cases htt : te T.tab t with
  | none => rw [htt] at ht; cases ht
  | some et' =>
    rw [htt] at ht
    simp at ht
    obtain ⟨ii, u, zz, hii, hu, hz', hk, _⟩ := te_spec hT.tab htt
    obtain ⟨i2, u2, z2, hi2, hu2, hz2, hk2, hs2, _⟩ := te_spec hT.tab he
    rw [ht] at hk
    cases u <;> simp [tkOf] at hk
    subst hk
    have hsz : (sizeOf et).run P w = .ok e.size w := by simp [sizeOf, typeInfo, hi2, hs2]
    have hb : (Instr.sliceBounds true n c (lo.map a.eval) (hi.map a.eval) (mx.map a.eval)).run P w = .ok (lo', hi', mx') w := by
      unfold Instr.sliceBounds
      cases mx with
      | none =>
        simp only [bound] at hmx
        subst hmx
        cases hi with
        | none =>
          simp only [bound] at hhi
          subst hhi
          cases lo with
          | none => simp only [bound] at hlo; subst hlo; simp
          | some ol =>
            obtain ⟨kl, hol⟩ := hlo
            have e1 := ev_den hF hol (by simp)
            simp only [Option.map_some, Option.map_none, Sem.run_bind, Sem.run_pure, Result.andThen_ok, e1, SV.den, sliceBound_run h1]
        | some oh =>
          obtain ⟨kh, hoh⟩ := hhi
          have e2 := ev_den hF hoh (by simp)
          cases lo with
          | none => simp only [bound] at hlo; subst hlo; simp only [Option.map_some, Option.map_none, Sem.run_bind, Sem.run_pure, Result.andThen_ok, e2, SV.den, sliceBound_run h2]
          | some ol =>
            obtain ⟨kl, hol⟩ := hlo
            have e1 := ev_den hF hol (by simp)
            simp only [Option.map_some, Option.map_none, Sem.run_bind, Sem.run_pure, Result.andThen_ok, e1, e2, SV.den, sliceBound_run h1, sliceBound_run h2]
      | some om =>
        obtain ⟨km, hom⟩ := hmx
        have e3 := ev_den hF hom (by simp)
        cases hi with
        | none => cases hform rfl
        | some oh =>
          obtain ⟨kh, hoh⟩ := hhi
          have e2 := ev_den hF hoh (by simp)
          cases lo with
          | none => simp only [bound] at hlo; subst hlo; simp only [Option.map_some, Option.map_none, Sem.run_bind, Sem.run_pure, Result.andThen_ok, e2, e3, SV.den, sliceBound_run h2, sliceBound_run h3]
          | some ol =>
            obtain ⟨kl, hol⟩ := hlo
            have e1 := ev_den hF hol (by simp)
            simp only [Option.map_some, Sem.run_bind, Sem.run_pure, Result.andThen_ok, e1, e2, e3, SV.den, sliceBound_run h1, sliceBound_run h2, sliceBound_run h3]
    simp only [execOp, Instr.sliceAt, SV.den_of_is (ev_is hF x) hxno, hx, Sem.run_bind, run_underlying hu, Result.andThen_ok, Instr.slice, hb, hsz, Sem.run_pure, hA]
/-- x[lo:hi:mx], x a slice -/
theorem go_slice (hT : TbsOk P T) {dst : Option Tmp} {t : TypeId} {x : Operand} {lo hi mx : Option Operand} {ty : TypeId} {pos : String} {after : Array Edge} {gd : Option (Nat × Bool)} (A A2 : Option Addr) (n c lo' hi' mx' : Nat) (et sz : Nat)
    (hg : guardS ops st.fr ⟨dst, .slice t x lo hi mx, ty, pos, after, gd⟩ = .run) (hx : (ev st.fr x).den = .slice A n c) (hxno : ev st.fr x ≠ .no)
    (ht : (te T.tab t).map (·.k) = some (.slice et)) (he' : (te T.tab et).map (·.size) = some sz)
    (hlo : bound st.fr lo 0 lo') (hhi : bound st.fr hi n hi') (hmx : bound st.fr mx c mx') (hform : mx.isSome = true → hi.isSome = true) (h1 : lo' ≤ hi') (h2 : hi' ≤ mx') (h3 : mx' ≤ c)
    (hA : A2 = if mx' = lo' then A else A.map (·.add (lo' * sz)))
    (h : Go P E (.o ops l :: r) (st.put dst (.va (.slice A2 (hi' - lo') (mx' - lo')))) Q) : Go P E (.o ops (⟨dst, .slice t x lo hi mx, ty, pos, after, gd⟩ :: l) :: r) st Q := by
  exact go_val (o := ⟨dst, .slice t x lo hi mx, ty, pos, after, gd⟩) hg (.va (.slice A2 (hi' - lo') (mx' - lo'))) trivial (fun a w hR => slice_run hT A A2 n c lo' hi' mx' et sz hR.fr hx hxno ht he' hlo hhi hmx hform h1 h2 h3 hA w) h
theorem slice_zero (A : Option Addr) (m sz : Nat) : A = if m = 0 then A else A.map (·.add (0 * sz)) := by
  split
  · rfl
  · cases A <;> simp [Addr.add]
end
end Go.Sy
