/-
  What is proved: clear(x), x a slice. Conditions: none.
-/
import Derived.Test.YthknokcgclcbmaaSyq
namespace Go.Sy
open Go
section
variable {P : Program} {T : Tbs} {E : Entry} {Q : Exit → St → Prop} {ops : Array Oper} {l : List Oper} {r : List It} {st : St} {α : Type} {enc : α → List Value}

theorem go_clear (hT : TbsOk P T) {dT : TypeId} {x : Operand} {ty : TypeId} {pos : String} {after : Array Edge} {gd : Option (Nat × Bool)} {g n c dl dc e et sz : Nat} {A1 : Option Addr} {zs : List Value} (i o : Nat) (L L3 : List α) (z : α)
    (hg : guardS ops st.fr ⟨none, .call { callee := .builtin .clear, args := #[x], argTypes := #[dT] }, ty, pos, after, gd⟩ = .run)
    (hx : (ev st.fr x).den = .slice A1 dl dc) (hxno : (ev st.fr x).isNo = false)
    (ht : (te T.tab dT).map (·.k) = some (.slice et)) (he' : (te T.tab et).map (fun e => (e.size, e.zero)) = some (sz, zs)) (hpos : 0 < sz) (hz : enc z = zs) (hzone : zs.all Value.oneCell' = true)
    (hi : st.res[i]? = some (.fact (Row e sz (some ⟨g, 0, none⟩) n c (L.flatMap enc)))) (hA1 : A1 = some ⟨g, o * sz, none⟩)
    (hlen : ∀ x, (enc x).length = sz) (hdl : 0 < dl) (hfit : o + dl ≤ n) (h3 : L.take o ++ List.replicate dl z ++ L.drop (o + dl) = L3)
    (h : Go P E (.o ops l :: r) ⟨st.fr, st.res.set i (.fact (Row e sz (some ⟨g, 0, none⟩) n c (L3.flatMap enc))), st.ro⟩ Q) :
    Go P E (.o ops (⟨none, .call { callee := .builtin .clear, args := #[x], argTypes := #[dT] }, ty, pos, after, gd⟩ :: l) :: r) st Q := by
  subst h3 hA1
  refine Go.step fun a w hR => ⟨by have := guard_spec hR.fr (ops := ops) ⟨none, .call { callee := .builtin .clear, args := #[x], argTypes := #[dT] }, ty, pos, after, gd⟩; rw [hg] at this; exact this, ?_⟩
  obtain ⟨hs, hi0, hres⟩ := hR.res
  have hlt := (List.getElem?_eq_some_iff.1 hi).1
  -- the row laid open
  obtain ⟨⟨rest, hl1, h11, hnc, hcm, hrl⟩, hs1, hres1⟩ := place_ghost hres [i] (M := [Row e sz (some ⟨g, 0, none⟩) n c (L.flatMap enc)])
    (X := {rest : List Value // (L.flatMap enc).length = n * sz ∧ (∀ v ∈ L.flatMap enc, v.oneCell' = true) ∧ n ≤ c ∧ c ≤ maxLen ∧ (L.flatMap enc).length + rest.length = c * sz})
    (fun rest => [.fact (Blk g e (L.flatMap enc ++ rest.1))]) (by simp [asnAt_fact hi]) (by simp) (fun hh p => by
      obtain ⟨p1, p2, p3⟩ := starH_one.1 p
      rcases p3 with ⟨p3, _⟩ | ⟨g', cur, p3, p4, p5, p6, p7, p8⟩
      · cases p3
      · cases p3
        refine ⟨⟨cur.toList.drop (n * sz), p1, p2, p5, p6, ?_⟩, starH_one.2 ?_⟩
        · have := Nat.mul_le_mul_right sz p5
          simp only [List.length_drop, Array.length_toList, p7, p1]
          omega
        · show hh g = some (.cells (L.flatMap enc ++ cur.toList.drop (n * sz)).toArray e (0, 0))
          rw [p4, ← p8, List.take_append_drop, Array.toArray_toList]) (fun _ => newsOk_fact (newsOk_nil _)) (fun _ => by rw [place_one hlt]; exact blkLe_set _ hi)
  have hL : L.length = n := by
    rw [flat_len hlen] at hl1
    exact Nat.eq_of_mul_eq_mul_right hpos hl1
  obtain ⟨vs, hvs⟩ : ∃ vs, vs = (List.replicate dl z).flatMap enc := ⟨_, rfl⟩
  have hvl : vs.length = dl * sz := by rw [hvs, flat_len hlen, List.length_replicate]
  have hv1 : ∀ v ∈ vs, v.oneCell' = true := fun v hv => by
    rw [hvs, flat_unit hz] at hv
    obtain ⟨_, _, hv⟩ := List.mem_flatMap.1 hv
    exact List.all_eq_true.1 hzone v hv
  have hov := over_lists (enc := enc) (L := L) (L2 := List.replicate dl z) (o := o) (k := dl) hlen (by omega) (by simp) rest
  rw [show (List.replicate dl z).take dl = List.replicate dl z by simp, ← hvs] at hov
  dsimp only at hres1
  rw [place_one hlt] at hres1
  have hi2 := set_fact hi (.fact (Blk g e (L.flatMap enc ++ rest)))
  have hlt2 := (List.getElem?_eq_some_iff.1 hi2).1
  obtain ⟨hw, hs2, hres2⟩ := write_res hres1 i g e (L.flatMap enc ++ rest) ((L.take o ++ List.replicate dl z ++ L.drop (o + dl)).flatMap enc ++ rest) (asnAt_fact hi2) (by rw [place_one hlt2]; exact blkLe_set _ hi2)
  rw [place_one hlt2, List.set_set] at hres2
  have hi3 := set_fact hi (.fact (Blk g e ((L.take o ++ List.replicate dl z ++ L.drop (o + dl)).flatMap enc ++ rest)))
  have hlt3 := (List.getElem?_eq_some_iff.1 hi3).1
  have hl3 : ((L.take o ++ List.replicate dl z ++ L.drop (o + dl)).flatMap enc).length = n * sz := by
    rw [flat_len hlen]
    congr 1
    simp only [List.length_append, List.length_take, List.length_drop, List.length_replicate]
    omega
  obtain ⟨_, hs3, hres3⟩ := place_ghost hres2 [i] (M := [Blk g e ((L.take o ++ List.replicate dl z ++ L.drop (o + dl)).flatMap enc ++ rest)]) (X := Unit)
    (fun _ => [.fact (Row e sz (some ⟨g, 0, none⟩) n c ((L.take o ++ List.replicate dl z ++ L.drop (o + dl)).flatMap enc))]) (congrArg (fun x => [x]) (asnAt_fact hi3)) (by simp) (fun hh p => ⟨(), starH_one.2 (Row.close (starH_one.1 p) hl3 (fun v hv => by
      obtain ⟨q, hz, hv⟩ := List.mem_flatMap.1 hv
      rcases List.mem_append.1 hz with hz | hz
      · rcases List.mem_append.1 hz with hz | hz
        · exact h11 v (List.mem_flatMap.2 ⟨q, List.mem_of_mem_take hz, hv⟩)
        · exact hv1 v (by rw [hvs]; exact List.mem_flatMap.2 ⟨q, hz, hv⟩)
      · exact h11 v (List.mem_flatMap.2 ⟨q, List.mem_of_mem_drop hz, hv⟩)) hnc hcm (by rw [hl3, ← hl1]; exact hrl))⟩) (fun _ => newsOk_fact (newsOk_nil _)) (fun _ => by rw [place_one hlt3]; exact blkLe_set _ hi3)
  rw [place_one hlt3, List.set_set] at hres3
  have hR' : R E ⟨st.fr, st.res.set i (.fact (Row e sz (some ⟨g, 0, none⟩) n c ((L.take o ++ List.replicate dl z ++ L.drop (o + dl)).flatMap enc))), st.ro⟩ a (w.setRow g ((L.take o ++ List.replicate dl z ++ L.drop (o + dl)).flatMap enc ++ rest).toArray) := ⟨hR.fr.mono (blkLe_spec (blkLe_set _ hi)), hs3, hi0, hres3⟩
  refine wp_value (w' := w.setRow g ((L.take o ++ List.replicate dl z ++ L.drop (o + dl)).flatMap enc ++ rest).toArray) (v := .tuple #[]) ?_ (h _ _ hR')
  obtain ⟨e1, he1, hsz, hzz⟩ : ∃ e, te T.tab et = some e ∧ e.size = sz ∧ e.zero = zs := by
    cases hq : te T.tab et with
    | none => rw [hq] at he'; cases he'
    | some e =>
      rw [hq] at he'
      simp only [Option.map_some, Option.some.injEq, Prod.mk.injEq] at he'
      exact ⟨e, rfl, he'.1, he'.2⟩
  subst hsz hzz
  cases htt : te T.tab dT with
  | none => rw [htt] at ht; cases ht
  | some et' =>
    rw [htt] at ht
    simp at ht
    obtain ⟨ii, u, zz, hii, hu, hz', hk', _⟩ := te_spec hT.tab htt
    obtain ⟨i2, u2, zv, hi2', hu2, hz2, hk2', hs2', _, hz2'⟩ := te_spec hT.tab he1
    rw [ht] at hk'
    cases u <;> simp [tkOf] at hk'
    subst hk'
    have hzl : zv.cells.size = e1.size := by
      have := hlen z
      rw [hz, hz2'] at this
      simpa using this
    have hcs : (Builtin.zeroCells zv.cells dl).toList = vs := by
      rw [zero_made, hzl, made_flat hzl, hvs, flat_unit hz, hz2']
    have hst := run_storeCells_at P g (o * e1.size) e vs 0 (L.flatMap enc ++ rest).toArray w hw (by
      simp only [Nat.add_zero, List.size_toArray, List.length_append]
      rw [hvl, hl1, ← Nat.add_mul]
      have := Nat.mul_le_mul_right e1.size hfit
      omega) hv1
    simp only [Nat.add_zero] at hst
    obtain ⟨q, rfl⟩ : ∃ q, dl = q + 1 := ⟨dl - 1, by omega⟩
    have hx2 : a.eval x = .slice (some ⟨g, o * e1.size, none⟩) (q + 1) dc := by rw [← hx]; exact SV.den_of_is (ev_is hR.fr x) (fun e => by rw [e] at hxno; cases hxno)
    have hrun : (Builtin.clear_ #[dT] ty #[.slice (some ⟨g, o * e1.size, none⟩) (q + 1) dc]).run P w = .ok (.tuple #[]) (w.setRow g (over (L.flatMap enc ++ rest) (o * e1.size) vs).toArray) := by
      simp [Builtin.clear_, run_underlying hu, zeroValue, typeInfo, hi2', hz2, hcs, hst, over]
    rw [hov] at hrun
    simp only [execOp, resolve, invoke, builtin, Sem.run_bind, Sem.run_pure, Result.andThen_ok, List.map_toArray, List.map_cons, List.map_nil, hx2, hrun]
end
end Go.Sy
