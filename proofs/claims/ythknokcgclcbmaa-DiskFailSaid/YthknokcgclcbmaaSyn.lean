/-
  What is proved: copy(a, b) from list to list. Conditions: none.
-/
import Derived.Test.YthknokcgclcbmaaSym
namespace Go.Sy
open Go
section
variable {P : Program} {T : Tbs} {E : Entry} {Q : Exit → St → Prop} {ops : Array Oper} {l : List Oper} {r : List It} {st : St} {α : Type} {enc : α → List Value}

theorem R_slot {t : Nat} {x y : SV} {a : Act} {w : World} (hx : st.fr[t]? = some x) (hno : x.isNo = false) (hxy : x.den = y.den) (hy : ∀ β, y.good β) (hR : R E st a w) : R E ⟨st.fr.set t y, st.res, st.ro⟩ a w := by
  refine ⟨⟨by simp [hR.fr.size], fun i z hz => ?_, fun z hz => ?_, hR.fr.defers⟩, hR.res⟩
  · rw [List.getElem?_set] at hz
    split at hz
    · rename_i e
      subst e
      split at hz
      · cases hz
        have h1 := SV.den_of_is (hR.fr.is _ _ hx) (fun e => by rw [e] at hno; cases hno)
        rw [h1, hxy]
        exact SV.is_den _
      · cases hz
    · exact hR.fr.is i z hz
  · rcases List.mem_or_eq_of_mem_set hz with hz | rfl
    · exact hR.fr.good z hz
    · exact hy _
/-- a slot is told otherwise, at a round's end -/
theorem ev_slot {r' : List It} {Q' : Exit → St → Prop} {ι : Type} {I : ι → St} {Pre : ι → Prop} {m : ι → Nat} {i0 : ι} (t : Nat) (x y : SV) (hx : st.fr[t]? = some x) (hno : x.isNo = false) (hxy : x.den = y.den) (hy : ∀ β, y.good β)
    (h : outSat P E (Round P E r' Q' I Pre m i0) (.fin .normal ⟨st.fr.set t y, st.res, st.ro⟩)) : outSat P E (Round P E r' Q' I Pre m i0) (.fin .normal st) := fun a w hR => by
  have g : Round P E r' Q' I Pre m i0 .normal ⟨st.fr.set t y, st.res, st.ro⟩ := h
  exact g a w (R_slot hx hno hxy hy hR)
theorem over_lists {sz o k : Nat} (hlen : ∀ x, (enc x).length = sz) {L L2 : List α} (h1 : o + k ≤ L.length) (h2 : k ≤ L2.length) (rest : List Value) :
    over (L.flatMap enc ++ rest) (o * sz) ((L2.take k).flatMap enc) = (L.take o ++ L2.take k ++ L.drop (o + k)).flatMap enc ++ rest := by
  have hv : ((L2.take k).flatMap enc).length = k * sz := by rw [flat_len hlen, List.length_take, Nat.min_eq_left h2]
  have hl : (L.flatMap enc).length = L.length * sz := flat_len hlen L
  have m1 : (o + k) * sz ≤ L.length * sz := Nat.mul_le_mul_right _ h1
  have m2 : (o + k) * sz = o * sz + k * sz := Nat.add_mul _ _ _
  unfold over
  rw [hv, ← m2, List.take_append_of_le_length (by omega), List.drop_append_of_le_length (by omega), flat_take hlen, flat_drop hlen]
  simp [List.flatMap_append, List.append_assoc]
theorem backA_at {g mx lo sz : Nat} (h : lo < mx) : backA (some ⟨g, 0, none⟩) mx lo sz = some ⟨g, lo * sz, none⟩ := by
  unfold backA
  rw [if_neg (by omega)]
  simp [addr_add]
theorem go_copyE (hT : TbsOk P T) {dst : Option Tmp} {dT sT : TypeId} {x y : Operand} {ty : TypeId} {pos : String} {after : Array Edge} {gd : Option (Nat × Bool)} {g n c dl dc sl sc e et sz : Nat} {A1 A2 : Option Addr} {B : Asn} (i o k : Nat) (s : Sum Nat Nat) (L L2 L3 : List α)
    (hg : guardS ops st.fr ⟨dst, .call { callee := .builtin .copy, args := #[x, y], argTypes := #[dT, sT] }, ty, pos, after, gd⟩ = .run)
    (hx : (ev st.fr x).den = .slice A1 dl dc) (hxno : (ev st.fr x).isNo = false) (hy : (ev st.fr y).den = .slice A2 sl sc) (hyno : (ev st.fr y).isNo = false)
    (ht : (te T.tab dT).map (·.k) = some (.slice et)) (he' : (te T.tab et).map (·.size) = some sz) (hpos : 0 < sz)
    (hi : st.res[i]? = some (.fact (Row e sz (some ⟨g, 0, none⟩) n c (L.flatMap enc)))) (hA1 : A1 = some ⟨g, o * sz, none⟩)
    (hsrc : has st s B) (hB : ∀ h, B.holds h → (Rd sz A2 sl (L2.flatMap enc)).holds h) (hlen : ∀ x, (enc x).length = sz)
    (hk : k = Nat.min sl dl) (hfit : o + dl ≤ n) (h3 : L.take o ++ L2.take k ++ L.drop (o + k) = L3)
    (h : Go P E (.o ops l :: r) (St.put ⟨st.fr, st.res.set i (.fact (Row e sz (some ⟨g, 0, none⟩) n c (L3.flatMap enc))), st.ro⟩ dst (.va (.int .i64 (k : Nat)))) Q) :
    Go P E (.o ops (⟨dst, .call { callee := .builtin .copy, args := #[x, y], argTypes := #[dT, sT] }, ty, pos, after, gd⟩ :: l) :: r) st Q := by
  subst h3 hA1
  refine Go.step fun a w hR => ⟨by have := guard_spec hR.fr (ops := ops) ⟨dst, .call { callee := .builtin .copy, args := #[x, y], argTypes := #[dT, sT] }, ty, pos, after, gd⟩; rw [hg] at this; exact this, ?_⟩
  obtain ⟨hs, hi0, hres⟩ := hR.res
  have hlt := (List.getElem?_eq_some_iff.1 hi).1
  obtain ⟨r1, r2, r3⟩ := hB _ (has_holds hsrc hres)
  -- the row laid open
  obtain ⟨⟨rest, hl1, h11, hnc, hcm, hrl⟩, hs1, hres1⟩ := place_ghost hres [i] (M := [Row e sz (some ⟨g, 0, none⟩) n c (L.flatMap enc)])
    (X := {rest : List Value // (L.flatMap enc).length = n * sz ∧ (∀ v ∈ L.flatMap enc, v.oneCell' = true) ∧ n ≤ c ∧ c ≤ maxLen ∧ (L.flatMap enc).length + rest.length = c * sz})
    (fun rest => [.fact (Blk g e (L.flatMap enc ++ rest.1))]) (by simp [asnAt_fact hi]) (by simp) (fun hh p => by
      obtain ⟨p1, p2, p3⟩ := starH_one.1 p
      rcases p3 with ⟨p3, _⟩ | ⟨g', cur, p3, p4, p5, p6, p7, p8⟩
      · cases p3
      · cases p3
        refine ⟨⟨cur.toList.drop (n * sz), p1, p2, p5, p6, ?_⟩, starH_one.2 ?_⟩
        · have := Nat.mul_le_mul_right sz p5
          simp only [List.length_drop, Array.length_toList, p7, p1]
          omega
        · show hh g = some (.cells (L.flatMap enc ++ cur.toList.drop (n * sz)).toArray e (0, 0))
          rw [p4, ← p8, List.take_append_drop, Array.toArray_toList]) (fun _ => newsOk_fact (newsOk_nil _)) (fun _ => by rw [place_one hlt]; exact blkLe_set _ hi)
  have hL : L.length = n := by
    rw [flat_len hlen] at hl1
    exact Nat.eq_of_mul_eq_mul_right hpos hl1
  have hL2 : L2.length = sl := by
    rw [flat_len hlen] at r1
    exact Nat.eq_of_mul_eq_mul_right hpos r1
  have hk1 : k ≤ sl := by rw [hk]; exact Nat.min_le_left _ _
  have hk2 : k ≤ dl := by rw [hk]; exact Nat.min_le_right _ _
  obtain ⟨vs, hvs⟩ : ∃ vs, vs = (L2.take k).flatMap enc := ⟨_, rfl⟩
  have hvl : vs.length = k * sz := by rw [hvs, flat_len hlen, List.length_take, Nat.min_eq_left (by omega)]
  have hv1 : ∀ v ∈ vs, v.oneCell' = true := fun v hv => by
    rw [hvs] at hv
    obtain ⟨z, hz, hv⟩ := List.mem_flatMap.1 hv
    exact r2 v (List.mem_flatMap.2 ⟨z, List.mem_of_mem_take hz, hv⟩)
  have hov := over_lists (enc := enc) (L := L) (L2 := L2) (o := o) (k := k) hlen (by omega) (by omega) rest
  rw [← hvs] at hov
  dsimp only at hres1
  rw [place_one hlt] at hres1
  have hi2 := set_fact hi (.fact (Blk g e (L.flatMap enc ++ rest)))
  have hlt2 := (List.getElem?_eq_some_iff.1 hi2).1
  obtain ⟨hw, hs2, hres2⟩ := write_res hres1 i g e (L.flatMap enc ++ rest) ((L.take o ++ L2.take k ++ L.drop (o + k)).flatMap enc ++ rest) (asnAt_fact hi2) (by rw [place_one hlt2]; exact blkLe_set _ hi2)
  rw [place_one hlt2, List.set_set] at hres2
  have hi3 := set_fact hi (.fact (Blk g e ((L.take o ++ L2.take k ++ L.drop (o + k)).flatMap enc ++ rest)))
  have hlt3 := (List.getElem?_eq_some_iff.1 hi3).1
  have hl3 : ((L.take o ++ L2.take k ++ L.drop (o + k)).flatMap enc).length = n * sz := by
    rw [flat_len hlen]
    congr 1
    simp only [List.length_append, List.length_take, List.length_drop]
    omega
  obtain ⟨_, hs3, hres3⟩ := place_ghost hres2 [i] (M := [Blk g e ((L.take o ++ L2.take k ++ L.drop (o + k)).flatMap enc ++ rest)]) (X := Unit)
    (fun _ => [.fact (Row e sz (some ⟨g, 0, none⟩) n c ((L.take o ++ L2.take k ++ L.drop (o + k)).flatMap enc))]) (congrArg (fun x => [x]) (asnAt_fact hi3)) (by simp) (fun hh p => ⟨(), starH_one.2 (Row.close (starH_one.1 p) hl3 (fun v hv => by
      obtain ⟨z, hz, hv⟩ := List.mem_flatMap.1 hv
      rcases List.mem_append.1 hz with hz | hz
      · rcases List.mem_append.1 hz with hz | hz
        · exact h11 v (List.mem_flatMap.2 ⟨z, List.mem_of_mem_take hz, hv⟩)
        · exact r2 v (List.mem_flatMap.2 ⟨z, List.mem_of_mem_take hz, hv⟩)
      · exact h11 v (List.mem_flatMap.2 ⟨z, List.mem_of_mem_drop hz, hv⟩)) hnc hcm (by rw [hl3, ← hl1]; exact hrl))⟩) (fun _ => newsOk_fact (newsOk_nil _)) (fun _ => by rw [place_one hlt3]; exact blkLe_set _ hi3)
  rw [place_one hlt3, List.set_set] at hres3
  have hR' : R E ⟨st.fr, st.res.set i (.fact (Row e sz (some ⟨g, 0, none⟩) n c ((L.take o ++ L2.take k ++ L.drop (o + k)).flatMap enc))), st.ro⟩ a (w.setRow g ((L.take o ++ L2.take k ++ L.drop (o + k)).flatMap enc ++ rest).toArray) := ⟨hR.fr.mono (blkLe_spec (blkLe_set _ hi)), hs3, hi0, hres3⟩
  refine wp_value (w' := w.setRow g ((L.take o ++ L2.take k ++ L.drop (o + k)).flatMap enc ++ rest).toArray) (v := .int .i64 (k : Nat)) ?_ (h _ _ (hR'.put dst (SV.is_den (.va (.int .i64 (k : Nat)))) trivial))
  obtain ⟨e1, he1, hsz⟩ : ∃ e, te T.tab et = some e ∧ e.size = sz := by
    cases hq : te T.tab et with
    | none => rw [hq] at he'; cases he'
    | some e => rw [hq] at he'; exact ⟨e, rfl, by simpa using he'⟩
  subst hsz
  cases htt : te T.tab dT with
  | none => rw [htt] at ht; cases ht
  | some et' =>
    rw [htt] at ht
    simp at ht
    obtain ⟨ii, u, zz, hii, hu, hz', hk', _⟩ := te_spec hT.tab htt
    obtain ⟨i2, u2, z2, hi2', hu2, hz2, hk2', hs2', _⟩ := te_spec hT.tab he1
    rw [ht] at hk'
    cases u <;> simp [tkOf] at hk'
    subst hk'
    have hrun := run_copy_rows (P := P) w dT sT ty et g (o * e1.size) dl dc A2 sl sc e1.size (L.flatMap enc ++ rest).toArray e vs hu (by rw [hi2']; simp [hs2']) hw (by rw [hvl, hk]) (by
      rcases Nat.eq_zero_or_pos sl with h0 | h0
      · cases A2 with
        | none => exact .inl ⟨rfl, h0⟩
        | some a2 => exact .inr ⟨a2, rfl, fun j v hj => by
            rw [List.eq_nil_of_length_eq_zero (show vs.length = 0 by rw [hvl, show k = 0 by omega, Nat.zero_mul])] at hj
            cases hj⟩
      · obtain ⟨g2, o2, cur2, e2, fz, q1, q2, q3⟩ := r3 h0
        refine .inr ⟨_, q1, fun j v hj => ?_⟩
        have q4 : w.heap[g2]? = some (.cells cur2 e2 fz) := q2
        rw [addr_add, cell_of_row w g2 _ _ e2 _ q4]
        have q5 : vs = (cur2.toList.drop o2).take (k * e1.size) := by
          rw [hvs, ← flat_take hlen, ← q3, List.take_take, Nat.min_eq_left (Nat.mul_le_mul_right _ hk1)]
        rw [q5, List.getElem?_take] at hj
        split at hj
        · rw [List.getElem?_drop] at hj
          simpa using hj
        · cases hj) (by simp only [List.size_toArray, List.length_append]; rw [hvl, hl1, ← Nat.add_mul]; have := Nat.mul_le_mul_right e1.size (show o + k ≤ n by omega); omega) hv1
    rw [show over (L.flatMap enc ++ rest).toArray.toList (o * e1.size) vs = (L.take o ++ L2.take k ++ L.drop (o + k)).flatMap enc ++ rest from hov] at hrun
    simp [execOp, resolve, invoke, builtin, SV.den_of_is (ev_is hR.fr x) (fun e => by rw [e] at hxno; cases hxno), SV.den_of_is (ev_is hR.fr y) (fun e => by rw [e] at hyno; cases hyno), hx, hy, hrun, ← hk]
end
end Go.Sy
