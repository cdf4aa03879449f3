/-
  What is proved: slices of elements of one kind: index, load, store, append, element by element. Conditions: none.
-/
import Derived.Test.YthknokcgclcbmaaSyi
namespace Go.Sy
open Go.RowKit

/-- a part of an element's cells, as the machine knows it -/
def pickE (e : TE) (vs : List Value) (k : Nat) : SV := match e.k.isAgg with | true => .ag (((vs.drop k).take e.size).map vaS) | false => vaS (vs.getD k undef)
def wideE (e : TE) : Nat := match e.k.isAgg with | true => e.size | false => 1
theorem pickE_if (e : TE) (vs : List Value) (k : Nat) (hk : k + wideE e ≤ vs.length) :
    (if e.k.isAgg then some (SV.ag (((vs.drop k).take (wideE e)).map vaS)) else (((vs.drop k).take (wideE e)).map vaS)[0]?) = some (pickE e vs k) := by
  unfold pickE wideE at *
  cases h : e.k.isAgg
  · simp only [h] at hk ⊢
    have : k < vs.length := by omega
    simp [List.getElem?_drop, List.getD, List.getElem?_eq_getElem this]
  · simp
theorem wideE_len (e : TE) (vs : List Value) (k : Nat) (hk : k + wideE e ≤ vs.length) : ((vs.drop k).take (wideE e)).length = (if e.k.isAgg then e.size else 1) := by
  rw [List.length_take, List.length_drop]
  unfold wideE at *
  cases h : e.k.isAgg <;> simp only [h] at hk ⊢
  · simp; omega
  · simp; omega
theorem part_at {α : Type} {enc : α → List Value} {sz : Nat} (h : ∀ x, (enc x).length = sz) {l : List α} {j : Nat} (hj : j < l.length) (k n : Nat) (hk : k + n ≤ sz) :
    ((l.flatMap enc).drop (j * sz + k)).take (((enc l[j]).drop k).take n).length = ((enc l[j]).drop k).take n := by
  have hl : (((enc l[j]).drop k).take n).length = n := by rw [List.length_take, List.length_drop, h]; omega
  refine flat_get_at h hj k ?_ (by rw [hl]; exact hk)
  rw [hl, List.extract_eq_take_drop]
  congr 1
  omega

section
variable {P : Program} {T : Tbs} {E : Entry} {Q : Exit → St → Prop} {ops : Array Oper} {l : List Oper} {r : List It} {st : St} {α : Type} {enc : α → List Value}

/-- &x[i] -/
theorem go_indexE (hT : TbsOk P T) {dst : Option Tmp} {t : TypeId} {x i : Operand} {ty : TypeId} {pos : String} {after : Array Edge} {gd : Option (Nat × Bool)} {A : Option Addr} {n c : Nat} {k : IntKind} {z : Int} {et sz : Nat} {B : Asn} {cs : List Value} (s : Sum Nat Nat) (j : Nat)
    (hg : guardS ops st.fr ⟨dst, .indexAddr t x i, ty, pos, after, gd⟩ = .run)
    (hx : ev st.fr x = .va (.slice A n c)) (hi : ev st.fr i = .va (.int k z)) (hz : z = (j : Int)) (ht : (te T.tab t).map (·.k) = some (.slice et)) (he' : (te T.tab et).map (·.size) = some sz) (hj : j < n)
    (hs : has st s B) (hB : ∀ h, B.holds h → (Rd sz A n cs).holds h)
    (h : ∀ g o, A = some ⟨g, o, none⟩ → Go P E (.o ops l :: r) (st.put dst (.va (.pointer (some ⟨g, o + j * sz, none⟩)))) Q) : Go P E (.o ops (⟨dst, .indexAddr t x i, ty, pos, after, gd⟩ :: l) :: r) st Q :=
  go_index hT A n c k j et sz s B cs hg hx (by rw [hi, hz]) ht he' hj hs hB h
theorem tk_indexE (hT : TbsOk P T) {full : Bool} {held : List (Nat × Res)} {ro0 : List Asn} {q : Nat} {p : List (Nat × Bool)} {listed : List Bool} {dst : Option Tmp} {t : TypeId} {x i : Operand} {ty : TypeId} {pos : String} {after : Array Edge} {gd : Option (Nat × Bool)} {A : Option Addr} {n c : Nat} {k : IntKind} {z : Int} {et sz : Nat} {B : Asn} {cs : List Value} (s : Sum Nat Nat) (j : Nat)
    (hchk : (heldOk held st.res ∧ ro0 = st.ro) ∧ planOk ops full ((q, true) :: p) listed = true) (ho : ops.toList[q]? = some ⟨dst, .indexAddr t x i, ty, pos, after, gd⟩)
    (hg : guardS ops st.fr ⟨dst, .indexAddr t x i, ty, pos, after, gd⟩ = .run)
    (hx : ev st.fr x = .va (.slice A n c)) (hi : ev st.fr i = .va (.int k z)) (hz : z = (j : Int)) (ht : (te T.tab t).map (·.k) = some (.slice et)) (he' : (te T.tab et).map (·.size) = some sz) (hj : j < n)
    (hs : hasD held ro0 s B) (hB : ∀ h, B.holds h → (Rd sz A n cs).holds h)
    (h : ∀ g o, A = some ⟨g, o, none⟩ → Go P E (.d ops full held ro0 p (listed.set q true) :: r) (st.put dst (.va (.pointer (some ⟨g, o + j * sz, none⟩)))) Q) : Go P E (.d ops full held ro0 ((q, true) :: p) listed :: r) st Q :=
  tk_index hT A n c k j et sz s B cs hchk ho hg hx (by rw [hi, hz]) ht he' hj hs hB h
/-- &x[i], x a slice of a row of its own -/
theorem go_index0 (hT : TbsOk P T) {dst : Option Tmp} {t : TypeId} {x i : Operand} {ty : TypeId} {pos : String} {after : Array Edge} {gd : Option (Nat × Bool)} {A : Option Addr} {n c : Nat} {k : IntKind} {z : Int} {et sz : Nat} {B : Asn} (s : Sum Nat Nat) (j : Nat)
    (hg : guardS ops st.fr ⟨dst, .indexAddr t x i, ty, pos, after, gd⟩ = .run)
    (hx : ev st.fr x = .va (.slice A n c)) (hi : ev st.fr i = .va (.int k z)) (hz : z = (j : Int)) (ht : (te T.tab t).map (·.k) = some (.slice et)) (he' : (te T.tab et).map (·.size) = some sz) (hj : j < n)
    (hs : has st s B) (hB : ∀ h, B.holds h → 0 < n → ∃ g, A = some ⟨g, 0, none⟩)
    (h : ∀ g, A = some ⟨g, 0, none⟩ → Go P E (.o ops l :: r) (st.put dst (.va (.pointer (some ⟨g, 0 + j * sz, none⟩)))) Q) : Go P E (.o ops (⟨dst, .indexAddr t x i, ty, pos, after, gd⟩ :: l) :: r) st Q :=
  go_know s B hs (p := ∃ g, A = some ⟨g, 0, none⟩) (fun h p => hB h p (by omega)) fun ⟨g, hA⟩ => by
    subst hA
    exact go_at hT g 0 n c k j et sz hg hx (by rw [hi, hz]) ht he' hj (h g rfl)
theorem tk_index0 (hT : TbsOk P T) {full : Bool} {held : List (Nat × Res)} {ro0 : List Asn} {q : Nat} {p : List (Nat × Bool)} {listed : List Bool} {dst : Option Tmp} {t : TypeId} {x i : Operand} {ty : TypeId} {pos : String} {after : Array Edge} {gd : Option (Nat × Bool)} {A : Option Addr} {n c : Nat} {k : IntKind} {z : Int} {et sz : Nat} {B : Asn} (s : Sum Nat Nat) (j : Nat)
    (hchk : (heldOk held st.res ∧ ro0 = st.ro) ∧ planOk ops full ((q, true) :: p) listed = true) (ho : ops.toList[q]? = some ⟨dst, .indexAddr t x i, ty, pos, after, gd⟩)
    (hg : guardS ops st.fr ⟨dst, .indexAddr t x i, ty, pos, after, gd⟩ = .run)
    (hx : ev st.fr x = .va (.slice A n c)) (hi : ev st.fr i = .va (.int k z)) (hz : z = (j : Int)) (ht : (te T.tab t).map (·.k) = some (.slice et)) (he' : (te T.tab et).map (·.size) = some sz) (hj : j < n)
    (hs : has st s B) (hB : ∀ h, B.holds h → 0 < n → ∃ g, A = some ⟨g, 0, none⟩)
    (h : ∀ g, A = some ⟨g, 0, none⟩ → Go P E (.d ops full held ro0 p (listed.set q true) :: r) (st.put dst (.va (.pointer (some ⟨g, 0 + j * sz, none⟩)))) Q) : Go P E (.d ops full held ro0 ((q, true) :: p) listed :: r) st Q :=
  go_know s B hs (p := ∃ g, A = some ⟨g, 0, none⟩) (fun h p => hB h p (by omega)) fun ⟨g, hA⟩ => by
    subst hA
    exact tk_val (o := ⟨dst, .indexAddr t x i, ty, pos, after, gd⟩) hchk ho hg (.va (.pointer (some ⟨g, 0 + j * sz, none⟩))) trivial (fun _ w hF _ => index_run hT g 0 n c k j et sz hF hx (by rw [hi, hz]) ht he' hj w) (h g rfl)
theorem Own.at0 {e sz n : Nat} {A : Option Addr} {cs : List Value} (h : Hp) (p : (Own e sz A n cs).holds h) (hn : 0 < n) : ∃ g, A = some ⟨g, 0, none⟩ := by
  rcases p.2.2 with h0 | ⟨g, _, h0, _⟩
  · omega
  · exact ⟨g, h0⟩
theorem Row.at0 {e sz n c : Nat} {A : Option Addr} {cs : List Value} (h : Hp) (p : (Row e sz A n c cs).holds h) (hn : 0 < n) : ∃ g, A = some ⟨g, 0, none⟩ := by
  rcases p.2.2 with ⟨_, h0, _⟩ | ⟨g, _, h0, _⟩
  · omega
  · exact ⟨g, h0⟩
/-- &x[i], x of a base that is known -/
theorem go_atE (hT : TbsOk P T) {dst : Option Tmp} {t : TypeId} {x i : Operand} {ty : TypeId} {pos : String} {after : Array Edge} {gd : Option (Nat × Bool)} {g o n c : Nat} {k : IntKind} {z : Int} {et sz : Nat} (j : Nat)
    (hg : guardS ops st.fr ⟨dst, .indexAddr t x i, ty, pos, after, gd⟩ = .run)
    (hx : ev st.fr x = .va (.slice (some ⟨g, o, none⟩) n c)) (hi : ev st.fr i = .va (.int k z)) (hz : z = (j : Int)) (ht : (te T.tab t).map (·.k) = some (.slice et)) (he' : (te T.tab et).map (·.size) = some sz) (hj : j < n)
    (h : Go P E (.o ops l :: r) (st.put dst (.va (.pointer (some ⟨g, o + j * sz, none⟩)))) Q) : Go P E (.o ops (⟨dst, .indexAddr t x i, ty, pos, after, gd⟩ :: l) :: r) st Q :=
  go_at hT g o n c k j et sz hg hx (by rw [hi, hz]) ht he' hj h
theorem tk_atE (hT : TbsOk P T) {full : Bool} {held : List (Nat × Res)} {ro0 : List Asn} {q : Nat} {p : List (Nat × Bool)} {listed : List Bool} {dst : Option Tmp} {t : TypeId} {x i : Operand} {ty : TypeId} {pos : String} {after : Array Edge} {gd : Option (Nat × Bool)} {g o n c : Nat} {k : IntKind} {z : Int} {et sz : Nat} (j : Nat)
    (hchk : (heldOk held st.res ∧ ro0 = st.ro) ∧ planOk ops full ((q, true) :: p) listed = true) (ho : ops.toList[q]? = some ⟨dst, .indexAddr t x i, ty, pos, after, gd⟩)
    (hg : guardS ops st.fr ⟨dst, .indexAddr t x i, ty, pos, after, gd⟩ = .run)
    (hx : ev st.fr x = .va (.slice (some ⟨g, o, none⟩) n c)) (hi : ev st.fr i = .va (.int k z)) (hz : z = (j : Int)) (ht : (te T.tab t).map (·.k) = some (.slice et)) (he' : (te T.tab et).map (·.size) = some sz) (hj : j < n)
    (h : Go P E (.d ops full held ro0 p (listed.set q true) :: r) (st.put dst (.va (.pointer (some ⟨g, o + j * sz, none⟩)))) Q) : Go P E (.d ops full held ro0 ((q, true) :: p) listed :: r) st Q :=
  tk_val (o := ⟨dst, .indexAddr t x i, ty, pos, after, gd⟩) hchk ho hg (.va (.pointer (some ⟨g, o + j * sz, none⟩))) trivial (fun _ w hF _ => index_run hT g o n c k j et sz hF hx (by rw [hi, hz]) ht he' hj w) h

/-- a load of an element, or of a part of it -/
theorem go_loadE (hT : TbsOk P T) {dst : Option Tmp} {t : TypeId} {x : Operand} {ty : TypeId} {pos : String} {after : Array Edge} {gd : Option (Nat × Bool)} {g o' o sz n : Nat} {e : TE} {B : Asn} {L : List α} (s : Sum Nat Nat) (j k : Nat)
    (hg : guardS ops st.fr ⟨dst, .load t x, ty, pos, after, gd⟩ = .run)
    (hx : ev st.fr x = .va (.pointer (some ⟨g, o', none⟩))) (ht : te T.tab t = some e)
    (hs : has st s B) (hB : ∀ h, B.holds h → (Rd sz (some ⟨g, o, none⟩) n (L.flatMap enc)).holds h) (ho : o' = o + (j * sz + k)) (hlen : ∀ x, (enc x).length = sz) (hn : j < n) (hj : j < L.length) (hk : k + wideE e ≤ sz)
    (h : Go P E (.o ops l :: r) (st.put dst (pickE e (enc L[j]) k)) Q) : Go P E (.o ops (⟨dst, .load t x, ty, pos, after, gd⟩ :: l) :: r) st Q :=
  go_load hT g o' o (j * sz + k) sz n e s B (L.flatMap enc) (((enc L[j]).drop k).take (wideE e)) hg hx ht hs hB ho (part_at hlen hj k _ hk) (wideE_len _ _ _ (by rw [hlen]; exact hk)) (by omega) _ (pickE_if _ _ _ (by rw [hlen]; exact hk)) h
theorem tk_loadE (hT : TbsOk P T) {full : Bool} {held : List (Nat × Res)} {ro0 : List Asn} {q : Nat} {p : List (Nat × Bool)} {listed : List Bool} {dst : Option Tmp} {t : TypeId} {x : Operand} {ty : TypeId} {pos : String} {after : Array Edge} {gd : Option (Nat × Bool)} {g o' o sz n : Nat} {e : TE} {B : Asn} {L : List α} (s : Sum Nat Nat) (j k : Nat)
    (hchk : (heldOk held st.res ∧ ro0 = st.ro) ∧ planOk ops full ((q, true) :: p) listed = true) (hop : ops.toList[q]? = some ⟨dst, .load t x, ty, pos, after, gd⟩)
    (hg : guardS ops st.fr ⟨dst, .load t x, ty, pos, after, gd⟩ = .run)
    (hx : ev st.fr x = .va (.pointer (some ⟨g, o', none⟩))) (ht : te T.tab t = some e)
    (hs : hasD held ro0 s B) (hB : ∀ h, B.holds h → (Rd sz (some ⟨g, o, none⟩) n (L.flatMap enc)).holds h) (ho : o' = o + (j * sz + k)) (hlen : ∀ x, (enc x).length = sz) (hn : j < n) (hj : j < L.length) (hk : k + wideE e ≤ sz)
    (h : Go P E (.d ops full held ro0 p (listed.set q true) :: r) (st.put dst (pickE e (enc L[j]) k)) Q) : Go P E (.d ops full held ro0 ((q, true) :: p) listed :: r) st Q :=
  tk_load hT g o' o (j * sz + k) sz n e s B (L.flatMap enc) (((enc L[j]).drop k).take (wideE e)) hchk hop hg hx ht hs hB ho (part_at hlen hj k _ hk) (wideE_len _ _ _ (by rw [hlen]; exact hk)) (by omega) _ (pickE_if _ _ _ (by rw [hlen]; exact hk)) h

theorem place_one {res : List Res} {i : Nat} (_ : i < res.length) (x : Res) : place res [i] [x] = res.set i x := by
  apply List.ext_getElem?
  intro k
  rcases Nat.lt_or_ge k res.length with hk | hk
  · have h1 : (place res [i] [x])[k]? = some (placeAt res [i] [x] k) := by
      unfold place
      rw [List.getElem?_map, List.getElem?_range (by simp; omega)]
      rfl
    rw [h1, List.getElem?_set]
    unfold placeAt idxOf
    by_cases e : i = k
    · simp [e, hk]
    · simp [e, idxOf, List.getElem?_eq_getElem hk]
  · have h1 : (place res [i] [x])[k]? = none := by
      unfold place
      rw [List.getElem?_eq_none]
      simp; omega
    rw [h1, List.getElem?_eq_none (by simpa using hk)]
theorem blkLe_refl : ∀ res : List Res, blkLe res res
  | [] => trivial
  | .fact _ :: l => blkLe_refl l
  | .dead none :: l => blkLe_refl l
  | .dead (some _) :: l => ⟨rfl, blkLe_refl l⟩
  | .box _ _ _ :: l => ⟨rfl, blkLe_refl l⟩
theorem blkLe_set : ∀ {res : List Res} {i : Nat} {A : Asn} (x : Res), res[i]? = some (.fact A) → blkLe res (res.set i x)
  | [], _, _, _, h => by cases h
  | y :: l, 0, A, x, h => by
    simp at h
    subst h
    exact blkLe_refl l
  | .fact _ :: l, i + 1, A, x, h => blkLe_set (res := l) x (by simpa using h)
  | .dead none :: l, i + 1, A, x, h => blkLe_set (res := l) x (by simpa using h)
  | .dead (some _) :: l, i + 1, A, x, h => ⟨rfl, blkLe_set (res := l) x (by simpa using h)⟩
  | .box _ _ _ :: l, i + 1, A, x, h => ⟨rfl, blkLe_set (res := l) x (by simpa using h)⟩
theorem asnAt_fact {res : List Res} {i : Nat} {A : Asn} (h : res[i]? = some (.fact A)) : asnAt res i = some A := by unfold asnAt; rw [h]; rfl
theorem set_fact {res : List Res} {i : Nat} {x : Res} (h : res[i]? = some x) (y : Res) : (res.set i y)[i]? = some y := by
  rw [List.getElem?_set_self (List.getElem?_eq_some_iff.1 h).1]
/-- one fact is told otherwise -/
theorem go_turn {X : Type} (i : Nat) (A : Asn) (B : X → Asn) (hi : st.res[i]? = some (.fact A)) (hAB : ∀ h, A.holds h → ∃ x, (B x).holds h) {todo : List It} (h : ∀ x, Go P E todo ⟨st.fr, st.res.set i (.fact (B x)), st.ro⟩ Q) : Go P E todo st Q := by
  have hlt := (List.getElem?_eq_some_iff.1 hi).1
  refine go_ghost [i] (M := [A]) (fun x => [.fact (B x)]) (by simp [asnAt_fact hi]) (by simp) (fun hh p => ?_) (fun _ => newsOk_fact (newsOk_nil _)) (fun x => ?_) fun x => ?_
  · obtain ⟨x, hx⟩ := hAB hh (starH_one.1 p)
    exact ⟨x, starH_one.2 hx⟩
  · rw [place_one hlt]; exact blkLe_set _ hi
  · rw [place_one hlt]; exact h x

theorem over_flat {sz : Nat} (hlen : ∀ x, (enc x).length = sz) {L : List α} {j k : Nat} (hj : j < L.length) {vs : List Value} {y : α} (hk : k + vs.length ≤ sz) (hy : enc y = over (enc L[j]) k vs) (rest : List Value) :
    over (L.flatMap enc ++ rest) (j * sz + k) vs = (L.set j y).flatMap enc ++ rest := by
  have h1 : L = L.take j ++ (L[j] :: L.drop (j + 1)) := by rw [List.getElem_cons_drop, List.take_append_drop]
  have h2 : L.set j y = L.take j ++ (y :: L.drop (j + 1)) := by
    rw [List.set_eq_take_append_cons_drop]; simp [hj]
  have ht : ((L.take j).flatMap enc).length = j * sz := by rw [flat_len hlen, List.length_take]; congr 1; omega
  rw [h2]
  conv => lhs; rw [h1]
  simp only [List.flatMap_append, List.flatMap_cons, List.append_assoc, hy]
  generalize hX : (L.take j).flatMap enc = X at *
  generalize hY : enc L[j] = Y
  have hYl : Y.length = sz := by rw [← hY]; exact hlen _
  generalize (L.drop (j + 1)).flatMap enc ++ rest = Z
  unfold over
  rw [← ht, List.take_append, List.take_of_length_le (by omega : X.length ≤ X.length + k), Nat.add_sub_cancel_left, List.take_append_of_le_length (by omega)]
  rw [List.append_assoc, List.append_assoc, List.append_assoc, List.append_assoc]
  congr 3
  rw [List.drop_append, List.drop_eq_nil_of_le (by omega), List.nil_append]
  rw [show X.length + k + vs.length - X.length = k + vs.length from by omega, List.drop_append_of_le_length (by omega)]

/-- a store of an element, or of a part of it -/
theorem go_storeE (hT : TbsOk P T) {t : TypeId} {x z : Operand} {ty : TypeId} {pos : String} {after : Array Edge} {gd : Option (Nat × Bool)} {g o' n e sz : Nat} {te' : TE} {L : List α} (i j k : Nat) (y : α)
    (hg : guardS ops st.fr ⟨none, .store t x z, ty, pos, after, gd⟩ = .run) (hx : ev st.fr x = .va (.pointer (some ⟨g, o', none⟩))) (hzno : (ev st.fr z).isNo = false)
    (ht : te T.tab t = some te') (hi : st.res[i]? = some (.fact (Own e sz (some ⟨g, 0, none⟩) n (L.flatMap enc)))) (ho : o' = 0 + (j * sz + k)) (hlen : ∀ x, (enc x).length = sz) (hone : ∀ c ∈ enc y, c.oneCell' = true) (hn : j < n) (hj : j < L.length)
    (hl : (ev st.fr z).den.cells.toList.length = te'.size) (hk : k + te'.size ≤ sz) (h1 : ∀ v ∈ (ev st.fr z).den.cells.toList, v.oneCell' = true) (hy : enc y = over (enc L[j]) k (ev st.fr z).den.cells.toList)
    (h : Go P E (.o ops l :: r) ⟨st.fr, st.res.set i (.fact (Own e sz (some ⟨g, 0, none⟩) n ((L.set j y).flatMap enc))), st.ro⟩ Q) : Go P E (.o ops (⟨none, .store t x z, ty, pos, after, gd⟩ :: l) :: r) st Q := by
  refine go_know (.inr i) _ (asnAt_fact hi) (p := (L.flatMap enc).length = n * sz ∧ ∀ c ∈ L.flatMap enc, c.oneCell' = true) (fun _ p => ⟨p.1, p.2.1⟩) fun hL => ?_
  refine go_turn i _ (fun rest : List Value => Blk g e (L.flatMap enc ++ rest)) hi (fun hh p => ?_) fun rest => ?_
  · obtain ⟨x, hx1, hx2⟩ := Own.open p (by omega)
    have : x.1 = g := by injection hx1 with h1; injection h1 with h1; exact h1.symm
    rw [this] at hx2
    exact ⟨x.2, hx2⟩
  · have hfit : j * sz + k + (ev st.fr z).den.cells.toList.length ≤ (L.flatMap enc ++ rest).length := by
      rw [List.length_append, flat_len hlen, hl]
      have : (j + 1) * sz ≤ L.length * sz := Nat.mul_le_mul_right _ hj
      rw [Nat.add_mul] at this
      omega
    have hi2 := set_fact hi (.fact (Blk g e (L.flatMap enc ++ rest)))
    have hlt := (List.getElem?_eq_some_iff.1 hi2).1
    refine go_store hT i g e (j * sz + k) (L.flatMap enc ++ rest) _ te' hg (by rw [Nat.zero_add] at ho; rw [← ho]; exact hx) rfl hzno ht hl h1 (asnAt_fact hi2) hfit (by rw [place_one hlt]; exact blkLe_set _ hi2) ?_
    rw [place_one hlt, over_flat hlen hj (by rw [hl]; exact hk) hy]
    refine go_turn (X := Unit) i _ (fun _ => Own e sz (some ⟨g, 0, none⟩) n ((L.set j y).flatMap enc)) (set_fact hi2 _) (fun hh p => ⟨(), Own.close p ?_ ?_⟩) fun _ => ?_
    · rw [flat_len hlen, List.length_set, ← flat_len hlen]; exact hL.1
    · intro c hc
      obtain ⟨a, ha, hca⟩ := List.mem_flatMap.1 hc
      rcases List.mem_or_eq_of_mem_set ha with ha | rfl
      · exact hL.2 c (List.mem_flatMap.2 ⟨a, ha, hca⟩)
      · exact hone c hca
    · simpa only [List.set_set] using h
/-- the same, of a row with room -/
theorem go_storeR (hT : TbsOk P T) {t : TypeId} {x z : Operand} {ty : TypeId} {pos : String} {after : Array Edge} {gd : Option (Nat × Bool)} {g o' n c e sz : Nat} {te' : TE} {L : List α} (i j k : Nat) (y : α)
    (hg : guardS ops st.fr ⟨none, .store t x z, ty, pos, after, gd⟩ = .run) (hx : ev st.fr x = .va (.pointer (some ⟨g, o', none⟩))) (hzno : (ev st.fr z).isNo = false)
    (ht : te T.tab t = some te') (hi : st.res[i]? = some (.fact (Row e sz (some ⟨g, 0, none⟩) n c (L.flatMap enc)))) (ho : o' = 0 + (j * sz + k)) (hlen : ∀ x, (enc x).length = sz) (hone : ∀ c ∈ enc y, c.oneCell' = true) (hn : j < n) (hj : j < L.length)
    (hl : (ev st.fr z).den.cells.toList.length = te'.size) (hk : k + te'.size ≤ sz) (h1 : ∀ v ∈ (ev st.fr z).den.cells.toList, v.oneCell' = true) (hy : enc y = over (enc L[j]) k (ev st.fr z).den.cells.toList)
    (h : Go P E (.o ops l :: r) ⟨st.fr, st.res.set i (.fact (Row e sz (some ⟨g, 0, none⟩) n c ((L.set j y).flatMap enc))), st.ro⟩ Q) : Go P E (.o ops (⟨none, .store t x z, ty, pos, after, gd⟩ :: l) :: r) st Q := by
  refine go_know (.inr i) _ (asnAt_fact hi) (p := (L.flatMap enc).length = n * sz ∧ (∀ c ∈ L.flatMap enc, c.oneCell' = true) ∧ n ≤ c) (fun _ p => ⟨p.1, p.2.1, by
    rcases p.2.2 with ⟨h, _⟩ | ⟨_, _, _, _, h, _⟩
    · cases h
    · exact h⟩) fun hL => ?_
  refine go_turn i _ (fun rest : {rest : List Value // c ≤ maxLen ∧ (L.flatMap enc).length + rest.length = c * sz} => Blk g e (L.flatMap enc ++ rest.1)) hi (fun hh p => ?_) fun ⟨rest, hcm, hrl⟩ => ?_
  · obtain ⟨x, hx1, hx2, hx3, hx4, hx5⟩ := Row.open p (by omega)
    have : x.1 = g := by injection hx1 with h1; injection h1 with h1; exact h1.symm
    rw [this] at hx5
    exact ⟨⟨x.2, hx3, hx4⟩, hx5⟩
  · have hfit : j * sz + k + (ev st.fr z).den.cells.toList.length ≤ (L.flatMap enc ++ rest).length := by
      rw [List.length_append, flat_len hlen, hl]
      have : (j + 1) * sz ≤ L.length * sz := Nat.mul_le_mul_right _ hj
      rw [Nat.add_mul] at this
      omega
    have hi2 := set_fact hi (.fact (Blk g e (L.flatMap enc ++ rest)))
    have hlt := (List.getElem?_eq_some_iff.1 hi2).1
    refine go_store hT i g e (j * sz + k) (L.flatMap enc ++ rest) _ te' hg (by rw [Nat.zero_add] at ho; rw [← ho]; exact hx) rfl hzno ht hl h1 (asnAt_fact hi2) hfit (by rw [place_one hlt]; exact blkLe_set _ hi2) ?_
    rw [place_one hlt, over_flat hlen hj (by rw [hl]; exact hk) hy]
    have hsl : ((L.set j y).flatMap enc).length = (L.flatMap enc).length := by rw [flat_len hlen, List.length_set, ← flat_len hlen]
    refine go_turn (X := Unit) i _ (fun _ => Row e sz (some ⟨g, 0, none⟩) n c ((L.set j y).flatMap enc)) (set_fact hi2 _) (fun hh p => ⟨(), Row.close p (by rw [hsl]; exact hL.1) ?_ hL.2.2 hcm (by rw [hsl]; exact hrl)⟩) fun _ => ?_
    · intro c hc
      obtain ⟨a, ha, hca⟩ := List.mem_flatMap.1 hc
      rcases List.mem_or_eq_of_mem_set ha with ha | rfl
      · exact hL.2.1 c (List.mem_flatMap.2 ⟨a, ha, hca⟩)
      · exact hone c hca
    · simpa only [List.set_set] using h
end
end Go.Sy
