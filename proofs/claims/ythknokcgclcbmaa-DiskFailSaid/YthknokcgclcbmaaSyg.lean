/-
  What is proved: stores and copies into rows of which an assertion tells. Conditions: none.
-/
import Derived.Test.YthknokcgclcbmaaSyf
import Derived.Laws.CopyRow
namespace Go.Sy
open Go.RowKit

/-- block g is just these cells -/
def Blk (g e : Nat) (cs : List Value) : Asn := ⟨fun h => h g = some (.cells cs.toArray e (0, 0)), fun e x => e _ _ x⟩
theorem Own.open {e sz n : Nat} {A : Option Addr} {cs : List Value} {h : Hp} (p : (Own e sz A n cs).holds h) (hn : 0 < n) : ∃ x : Nat × List Value, A = some ⟨x.1, 0, none⟩ ∧ (Blk x.1 e (cs ++ x.2)).holds h := by
  obtain ⟨h1, h2, h3⟩ := p
  rcases h3 with h3 | ⟨g, cur, rfl, hg, htk⟩
  · omega
  · refine ⟨(g, cur.toList.drop (n * sz)), rfl, ?_⟩
    show h g = _
    rw [hg, ← htk, List.take_append_drop, Array.toArray_toList]
theorem Own.close {g e sz n : Nat} {cs r : List Value} {h : Hp} (p : (Blk g e (cs ++ r)).holds h) (hl : cs.length = n * sz) (h1 : ∀ c ∈ cs, c.oneCell' = true) : (Own e sz (some ⟨g, 0, none⟩) n cs).holds h :=
  ⟨hl, h1, .inr ⟨g, _, rfl, p, by rw [← hl]; simp⟩⟩
theorem Row.open {e sz n c : Nat} {A : Option Addr} {cs : List Value} {h : Hp} (p : (Row e sz A n c cs).holds h) (hc : 0 < c) :
    ∃ x : Nat × List Value, A = some ⟨x.1, 0, none⟩ ∧ n ≤ c ∧ c ≤ maxLen ∧ cs.length + x.2.length = c * sz ∧ (Blk x.1 e (cs ++ x.2)).holds h := by
  obtain ⟨h1, h2, h3⟩ := p
  rcases h3 with ⟨_, _, h3⟩ | ⟨g, cur, rfl, hg, hnc, hcm, hsz, htk⟩
  · omega
  · refine ⟨(g, cur.toList.drop (n * sz)), rfl, hnc, hcm, ?_, ?_⟩
    · have := Nat.mul_le_mul_right sz hnc
      simp only [List.length_drop, Array.length_toList, hsz, h1]
      omega
    · show h g = _
      rw [hg, ← htk, List.take_append_drop, Array.toArray_toList]
theorem Row.close {g e sz n c : Nat} {cs r : List Value} {h : Hp} (p : (Blk g e (cs ++ r)).holds h) (hl : cs.length = n * sz) (h1 : ∀ c ∈ cs, c.oneCell' = true) (hnc : n ≤ c) (hcm : c ≤ maxLen) (hr : cs.length + r.length = c * sz) : (Row e sz (some ⟨g, 0, none⟩) n c cs).holds h :=
  ⟨hl, h1, .inr ⟨g, _, rfl, p, hnc, hcm, by simpa using hr, by rw [← hl]; simp⟩⟩
/-- the cells of a row, some of them written over -/
def over (cells : List Value) (o : Nat) (vs : List Value) : List Value := cells.take o ++ vs ++ cells.drop (o + vs.length)
theorem over_len {cells vs : List Value} {o : Nat} (h : o + vs.length ≤ cells.length) : (over cells o vs).length = cells.length := by simp [over]; omega

section
variable {P : Program} {T : Tbs} {E : Entry} {Q : Exit → St → Prop} {ops : Array Oper} {l : List Oper} {r : List It} {st : St}

theorem write_res {E : Entry} {res : List Res} {ro : List Asn} {w : World} {hs : Nat → Hp} {hi : Hp} (hres : ResOk E res ro w hs hi) (i g e : Nat) (cells cells' : List Value) (hi' : asnAt res i = some (Blk g e cells))
    (hb : blkLe res (place res [i] [.fact (Blk g e cells')])) :
    w.heap[g]? = some (.cells cells.toArray e (0, 0)) ∧ ∃ hs', ResOk E (place res [i] [.fact (Blk g e cells')]) ro (w.setRow g cells'.toArray) hs' hi := by
  have hM := selH_star hres.le hres.dis hres.holds (sel := [i]) (M := [Blk g e cells]) (by simp [hi']) (by simp)
  have hg : selH w hs [i] g = some (.cells cells.toArray e (0, 0)) := starH_one.1 hM
  have hw : w.heap[g]? = some (.cells cells.toArray e (0, 0)) := selH_le _ _ _ _ _ hg
  have hrow : (w.setRow g cells'.toArray).heap[g]? = some (.cells cells'.toArray e (0, 0)) := setRow_heap w g _ _ e _ hw
  refine ⟨hw, place_ok (w' := w.setRow g cells'.toArray) hres [i] (selH w hs [i]) selH_C [.fact (Blk g e cells')] (Hp.one g (.cells cells'.toArray e)) (starH_one.2 (Hp.one_self _ _)) (Hp.one_le hrow) ⟨rfl, rfl, rfl, by simp, fun b _ hn => ?_⟩ (fun b hne => ?_) (newsOk_fact (newsOk_nil _)) hb⟩
  · refine setRow_other w g b _ (fun e => ?_)
    subst e; rw [hg] at hn; cases hn
  · left
    by_cases e : b = g
    · subst e; rw [hg]; simp
    · exact absurd (Hp.one_none e) hne

/-- an operation that writes a row's cells -/
theorem go_write {o : Oper} (i g e : Nat) (cells cells' : List Value) (hg : guardS ops st.fr o = .run) (hi : asnAt st.res i = some (Blk g e cells)) (x : SV) (hx : ∀ res, x.good (blkAt res))
    (hrun : ∀ a w, FrOk st.fr st.res a → w.heap[g]? = some (.cells cells.toArray e (0, 0)) → (execOp a.eval o).run P w = .ok (.value x.den) (w.setRow g cells'.toArray))
    (hb : blkLe st.res (place st.res [i] [.fact (Blk g e cells')]))
    (h : Go P E (.o ops l :: r) (St.put ⟨st.fr, place st.res [i] [.fact (Blk g e cells')], st.ro⟩ o.dst x) Q) : Go P E (.o ops (o :: l) :: r) st Q :=
  Go.step fun a w hR => ⟨by have := guard_spec hR.fr (ops := ops) o; rw [hg] at this; exact this, by
    obtain ⟨hs, hi0, hres⟩ := hR.res
    obtain ⟨hw, hs', hres'⟩ := write_res hres i g e cells cells' hi hb
    have hR' : R E ⟨st.fr, place st.res [i] [.fact (Blk g e cells')], st.ro⟩ a (w.setRow g cells'.toArray) := ⟨hR.fr.mono (blkLe_spec hb), hs', hi0, hres'⟩
    exact wp_value (hrun a w hR.fr hw) (h _ _ (hR'.put o.dst (SV.is_den x) (hx _)))⟩
/-- a store into a row of which an assertion tells -/
theorem go_store (hT : TbsOk P T) {t : TypeId} {x z : Operand} {ty : TypeId} {pos : String} {after : Array Edge} {gd : Option (Nat × Bool)} (i g e o : Nat) (cells vs : List Value) (te' : TE)
    (hg : guardS ops st.fr ⟨none, .store t x z, ty, pos, after, gd⟩ = .run) (hx : ev st.fr x = .va (.pointer (some ⟨g, o, none⟩))) (hz : (ev st.fr z).den.cells.toList = vs) (hzno : (ev st.fr z).isNo = false)
    (ht : te T.tab t = some te') (hl : vs.length = te'.size) (h1 : ∀ v ∈ vs, v.oneCell' = true) (hi : asnAt st.res i = some (Blk g e cells)) (hfit : o + vs.length ≤ cells.length)
    (hb : blkLe st.res (place st.res [i] [.fact (Blk g e (over cells o vs))]))
    (h : Go P E (.o ops l :: r) ⟨st.fr, place st.res [i] [.fact (Blk g e (over cells o vs))], st.ro⟩ Q) : Go P E (.o ops (⟨none, .store t x z, ty, pos, after, gd⟩ :: l) :: r) st Q :=
  Go.step fun a w hR => ⟨by have := guard_spec hR.fr (ops := ops) ⟨none, .store t x z, ty, pos, after, gd⟩; rw [hg] at this; exact this, by
    obtain ⟨hs, hi0, hres⟩ := hR.res
    obtain ⟨hw, hs', hres'⟩ := write_res hres i g e cells (over cells o vs) hi hb
    have hR' : R E ⟨st.fr, place st.res [i] [.fact (Blk g e (over cells o vs))], st.ro⟩ a (w.setRow g (over cells o vs).toArray) := ⟨hR.fr.mono (blkLe_spec hb), hs', hi0, hres'⟩
    refine wp_skip' (w' := w.setRow g (over cells o vs).toArray) ?_ (h _ _ hR')
    obtain ⟨i2, u2, z2, hi2, hu2, hz2, hk2, hs2, _⟩ := te_spec hT.tab ht
    have hlen : (ev st.fr z).den.cells.size = i2.size := by rw [← hs2, ← hl, ← hz]; simp
    have hst := run_storeCells_at P g o e vs 0 _ w hw (by simpa using hfit) h1
    simp only [Nat.add_zero] at hst
    simp [execOp, ev_denv hR.fr hx rfl, ev_denv hR.fr (x := z) rfl hzno, SV.den, Instr.storeAt, Instr.sureAddr, storeVar, sizeOf, typeInfo, hi2, hlen, hz, hst, over]⟩

theorem tk_slice (hT : TbsOk P T) {full : Bool} {held : List (Nat × Res)} {ro0 : List Asn} {q : Nat} {p : List (Nat × Bool)} {listed : List Bool} {dst : Option Tmp} {t : TypeId} {x : Operand} {lo hi mx : Option Operand} {ty : TypeId} {pos : String} {after : Array Edge} {gd : Option (Nat × Bool)} (A A2 : Option Addr) (n c lo' hi' mx' : Nat) (et sz : Nat)
    (hchk : (heldOk held st.res ∧ ro0 = st.ro) ∧ planOk ops full ((q, true) :: p) listed = true) (ho : ops.toList[q]? = some ⟨dst, .slice t x lo hi mx, ty, pos, after, gd⟩)
    (hg : guardS ops st.fr ⟨dst, .slice t x lo hi mx, ty, pos, after, gd⟩ = .run) (hx : (ev st.fr x).den = .slice A n c) (hxno : ev st.fr x ≠ .no)
    (ht : (te T.tab t).map (·.k) = some (.slice et)) (he' : (te T.tab et).map (·.size) = some sz)
    (hlo : bound st.fr lo 0 lo') (hhi : bound st.fr hi n hi') (hmx : bound st.fr mx c mx') (hform : mx.isSome = true → hi.isSome = true) (h1 : lo' ≤ hi') (h2 : hi' ≤ mx') (h3 : mx' ≤ c)
    (hA : A2 = if mx' = lo' then A else A.map (·.add (lo' * sz)))
    (h : Go P E (.d ops full held ro0 p (listed.set q true) :: r) (st.put dst (.va (.slice A2 (hi' - lo') (mx' - lo')))) Q) : Go P E (.d ops full held ro0 ((q, true) :: p) listed :: r) st Q :=
  tk_val (o := ⟨dst, .slice t x lo hi mx, ty, pos, after, gd⟩) hchk ho hg (.va (.slice A2 (hi' - lo') (mx' - lo'))) trivial (fun _a w hF _ => slice_run hT A A2 n c lo' hi' mx' et sz hF hx hxno ht he' hlo hhi hmx hform h1 h2 h3 hA w) h
/-- &x[i], x a slice whose base is known -/
theorem go_at (hT : TbsOk P T) {dst : Option Tmp} {t : TypeId} {x i : Operand} {ty : TypeId} {pos : String} {after : Array Edge} {gd : Option (Nat × Bool)} (g o n c : Nat) (k : IntKind) (j : Nat) (et sz : Nat)
    (hg : guardS ops st.fr ⟨dst, .indexAddr t x i, ty, pos, after, gd⟩ = .run)
    (hx : ev st.fr x = .va (.slice (some ⟨g, o, none⟩) n c)) (hi : ev st.fr i = .va (.int k (j : Int))) (ht : (te T.tab t).map (·.k) = some (.slice et)) (he' : (te T.tab et).map (·.size) = some sz) (hj : j < n)
    (h : Go P E (.o ops l :: r) (st.put dst (.va (.pointer (some ⟨g, o + j * sz, none⟩)))) Q) : Go P E (.o ops (⟨dst, .indexAddr t x i, ty, pos, after, gd⟩ :: l) :: r) st Q :=
  go_val (o := ⟨dst, .indexAddr t x i, ty, pos, after, gd⟩) hg (.va (.pointer (some ⟨g, o + j * sz, none⟩))) trivial (fun _a w hR => index_run hT g o n c k j et sz hR.fr hx hi ht he' hj w) h
/-- copy(a, b): from a row's own cells, or from others that are read, into a row -/
theorem run_copy_rows (w : World) (dT sT ty elem : TypeId) (g o dLen dCap : Nat) (A : Option Addr) (sLen sCap sz : Nat) (cur : Array Value) (t : TypeId) (cs : List Value)
    (hu : P.underlying dT = some (.slice elem)) (hs : (P.info? elem).map (·.size) = some sz)
    (hg : w.heap[g]? = some (.cells cur t (0, 0))) (hn : cs.length = Nat.min sLen dLen * sz)
    (hsrc : A = none ∧ sLen = 0 ∨ ∃ a, A = some a ∧ ∀ j v, cs[j]? = some v → w.cell? (a.add j) = some v) (hfit : o + cs.length ≤ cur.size) (h1 : ∀ v ∈ cs, v.oneCell' = true) :
    (Builtin.copy_ #[dT, sT] ty #[.slice (some ⟨g, o, none⟩) dLen dCap, .slice A sLen sCap]).run P w =
      .ok (.int .i64 (Nat.min sLen dLen : Nat)) (w.setRow g (over cur.toList o cs).toArray) := by
  have hst := run_storeCells_at P g o t cs 0 cur w hg (by simpa using hfit) h1
  simp only [Nat.add_zero] at hst
  cases hq : P.info? elem with
  | none => simp [hq] at hs
  | some i =>
    have hi : i.size = sz := by simpa [hq] using hs
    rcases hsrc with ⟨rfl, rfl⟩ | ⟨a, rfl, hsrc⟩
    · have : cs = [] := List.eq_nil_of_length_eq_zero (by simpa using hn)
      subst this
      simp [Builtin.copy_, run_underlying hu, Builtin.lenOf, Builtin.firstCells, sizeOf, typeInfo, hq, hst, over, goInt]
    · have hl := run_loadCells_list (P := P) w a cs hsrc
      rw [hn] at hl
      simp [Builtin.copy_, run_underlying hu, Builtin.lenOf, Builtin.firstCells, sizeOf, typeInfo, hq, hi, hl, hst, over, goInt]
/-- copy(a, b), both of one row -/
theorem go_copy_in (hT : TbsOk P T) {dst : Option Tmp} {dT sT : TypeId} {x y : Operand} {ty : TypeId} {pos : String} {after : Array Edge} {gd : Option (Nat × Bool)} (i g e o dl dc : Nat) (B : Option Addr) (sl sc : Nat) (et sz : Nat) (cells vs : List Value)
    (hg : guardS ops st.fr ⟨dst, .call { callee := .builtin .copy, args := #[x, y], argTypes := #[dT, sT] }, ty, pos, after, gd⟩ = .run)
    (hx : ev st.fr x = .va (.slice (some ⟨g, o, none⟩) dl dc)) (hy : ev st.fr y = .va (.slice B sl sc)) (ht : (te T.tab dT).map (·.k) = some (.slice et)) (he' : (te T.tab et).map (·.size) = some sz)
    (hi : asnAt st.res i = some (Blk g e cells)) (hn : vs.length = Nat.min sl dl * sz) (hsrc : B = none ∧ sl = 0 ∨ ∃ o2, B = some ⟨g, o2, none⟩ ∧ (cells.drop o2).take vs.length = vs)
    (hfit : o + vs.length ≤ cells.length) (h1 : ∀ v ∈ vs, v.oneCell' = true) (hb : blkLe st.res (place st.res [i] [.fact (Blk g e (over cells o vs))]))
    (h : Go P E (.o ops l :: r) (St.put ⟨st.fr, place st.res [i] [.fact (Blk g e (over cells o vs))], st.ro⟩ dst (.va (.int .i64 (Nat.min sl dl : Nat)))) Q) :
    Go P E (.o ops (⟨dst, .call { callee := .builtin .copy, args := #[x, y], argTypes := #[dT, sT] }, ty, pos, after, gd⟩ :: l) :: r) st Q := by
  refine go_write (o := ⟨dst, .call { callee := .builtin .copy, args := #[x, y], argTypes := #[dT, sT] }, ty, pos, after, gd⟩) i g e cells (over cells o vs) hg hi (.va (.int .i64 (Nat.min sl dl : Nat))) (fun _ => trivial) (fun a w hF hw => ?_) hb h
  obtain ⟨e2, he, hsz⟩ : ∃ e, te T.tab et = some e ∧ e.size = sz := by
    cases hq : te T.tab et with
    | none => rw [hq] at he'; cases he'
    | some e => rw [hq] at he'; exact ⟨e, rfl, by simpa using he'⟩
  subst hsz
  cases htt : te T.tab dT with
  | none => rw [htt] at ht; cases ht
  | some et' =>
    rw [htt] at ht
    simp at ht
    obtain ⟨ii, u, zz, hii, hu, hz', hk, _⟩ := te_spec hT.tab htt
    obtain ⟨i2, u2, z2, hi2, hu2, hz2, hk2, hs2, _⟩ := te_spec hT.tab he
    rw [ht] at hk
    cases u <;> simp [tkOf] at hk
    subst hk
    have hrun := run_copy_rows (P := P) w dT sT ty et g o dl dc B sl sc e2.size cells.toArray e vs hu (by rw [hi2]; simp [hs2]) hw hn (hsrc.imp id fun ⟨o2, hB, hvs⟩ => ⟨_, hB, fun j v hv => by
      rw [addr_add, cell_of_row w g _ _ e _ hw]
      rw [← hvs, List.getElem?_take] at hv
      split at hv
      · rw [List.getElem?_drop] at hv; simpa using hv
      · cases hv⟩) (by simpa using hfit) h1
    simp [execOp, resolve, invoke, builtin, ev_denv hF hx rfl, ev_denv hF hy rfl, SV.den, hrun]
end
end Go.Sy
