/-
  What is proved: how a triple's end is shown; loops; what is only read from here on. Conditions: none.
-/
import Derived.Test.YthknokcgclcbmaaSyb
import Derived.Deep.LoopGhost
namespace Go.Sy
open Go.RowKit

/-! the end -/
open Classical in
/-- the part of a piece that some resources have -/
noncomputable def selK (k : Hp) (hs : Nat → Hp) (sel : List Nat) : Hp := fun b => if ∃ i ∈ sel, hs i b ≠ none then k b else none
theorem selK_le (k : Hp) (hs : Nat → Hp) (sel : List Nat) : (selK k hs sel).le k := fun b o e => by
  unfold selK at e
  split at e
  · exact e
  · cases e
theorem selK_C {k : Hp} {hs : Nat → Hp} {sel : List Nat} : ∀ b, selK k hs sel b ≠ none → ∃ i, i ∈ sel ∧ hs i b ≠ none := fun b hb => by
  unfold selK at hb
  split at hb
  · rename_i c; obtain ⟨i, h1, h2⟩ := c; exact ⟨i, h1, h2⟩
  · exact absurd rfl hb
theorem selK_star {k : Hp} {hs : Nat → Hp} {sel : List Nat} {res : List Res} {M : List Asn} (hle : ∀ i, (hs i).le k) (hdis : ∀ i j, i ≠ j → (hs i).dis (hs j))
    (hh : ∀ (i : Nat) (x : Res), res[i]? = some x → x.asn.holds (hs i)) (hsel : sel.map (asnAt res) = M.map some) (hnd : sel.Nodup) : Asn.starH M (selK k hs sel) := by
  have hsub : ∀ i ∈ sel, (hs i).le (selK k hs sel) := fun i hi b o e => by
    have c : ∃ i ∈ sel, hs i b ≠ none := ⟨i, hi, by rw [e]; simp⟩
    unfold selK
    rw [if_pos c]
    exact hle i b o e
  refine Asn.starH_of M (fun k => match sel[k]? with | some i => hs i | none => Hp.emp) (fun k => ?_) (fun k j hkj => ?_) (fun k A hA => ?_)
  · split
    · rename_i i e; exact hsub i (List.mem_of_getElem? e)
    · exact Hp.emp_le _
  · split
    · rename_i i e
      split
      · rename_i i' e'
        refine hdis _ _ (fun ee => ?_)
        subst ee
        obtain ⟨l1, x1⟩ := List.getElem?_eq_some_iff.1 e
        obtain ⟨l2, x2⟩ := List.getElem?_eq_some_iff.1 e'
        rcases Nat.lt_or_ge k j with q | q
        · exact List.pairwise_iff_getElem.1 hnd k j l1 l2 q (x1.trans x2.symm)
        · exact List.pairwise_iff_getElem.1 hnd j k l2 l1 (by omega) (x2.trans x1.symm)
      · exact Hp.dis_emp _
    · exact Hp.emp_dis _
  · have h1 : (sel.map (asnAt res))[k]? = (M.map some)[k]? := by rw [hsel]
    rw [List.getElem?_map, List.getElem?_map, hA] at h1
    cases e : sel[k]? with
    | none => rw [e] at h1; cases h1
    | some i =>
      rw [e] at h1
      simp only [Option.map_some, Option.some.injEq] at h1
      obtain ⟨x, hx, rfl⟩ := asnAt_spec h1
      exact hh i x hx
theorem sel_lt {res : List Res} {sel : List Nat} {M : List Asn} (hsel : sel.map (asnAt res) = M.map some) : ∀ i ∈ sel, i < res.length := fun i hi => by
  obtain ⟨k, hk⟩ := List.mem_iff_getElem?.1 hi
  have h1 : (sel.map (asnAt res))[k]? = (M.map some)[k]? := by rw [hsel]
  rw [List.getElem?_map, hk, List.getElem?_map, Option.map_some] at h1
  cases e : asnAt res i with
  | none =>
    rw [e] at h1
    cases e' : M[k]? with
    | none => rw [e'] at h1; cases h1
    | some A => rw [e'] at h1; cases h1
  | some A => obtain ⟨x, hx, _⟩ := asnAt_spec e; exact (List.getElem?_eq_some_iff.1 hx).1
/-- just these resources, in this order -/
theorem Frm.sel {res : List Res} {l : List Asn} (sel : List Nat) (hsel : sel.map (asnAt res) = l.map some) (hnd : sel.Nodup) : Frm res l := fun hs h1 h2 k h3 =>
  ⟨selK k hs sel, selK_star h3 h1 h2 hsel hnd, selK_le _ _ _, fun b hb => by
    obtain ⟨i, hi, hn⟩ := selK_C b hb
    exact ⟨i, sel_lt hsel i hi, hn⟩⟩
/-- these resources, told otherwise -/
theorem Frm.imp {res : List Res} {l M : List Asn} (sel : List Nat) (hsel : sel.map (asnAt res) = M.map some) (hnd : sel.Nodup) (himp : ∀ h, Asn.starH M h → Asn.starH l h) : Frm res l := fun hs h1 h2 k h3 =>
  ⟨selK k hs sel, himp _ (selK_star h3 h1 h2 hsel hnd), selK_le _ _ _, fun b hb => by
    obtain ⟨i, hi, hn⟩ := selK_C b hb
    exact ⟨i, sel_lt hsel i hi, hn⟩⟩
theorem Frm.nil (res : List Res) : Frm res [] := Frm.sel [] rfl List.nodup_nil

/-! words for assertions that belong together -/
theorem starH_one {A : Asn} {h : Hp} : Asn.starH [A] h ↔ A.holds h :=
  ⟨fun ⟨_h1, _, _, a, _, p, _⟩ => A.mono a p, fun p => ⟨h, Hp.emp, Hp.dis_emp _, Hp.le_refl _, Hp.emp_le _, p, trivial⟩⟩
theorem starH_cons {A : Asn} {l : List Asn} {h : Hp} : Asn.starH (A :: l) h ↔ ∃ h1 h2 : Hp, h1.dis h2 ∧ h1.le h ∧ h2.le h ∧ A.holds h1 ∧ Asn.starH l h2 := Iff.rfl
theorem starH_append (l m : List Asn) : ∀ {h : Hp}, Asn.starH (l ++ m) h ↔ ∃ h1 h2 : Hp, h1.dis h2 ∧ h1.le h ∧ h2.le h ∧ Asn.starH l h1 ∧ Asn.starH m h2 := by
  induction l with
  | nil => exact fun {h} => ⟨fun p => ⟨Hp.emp, h, Hp.emp_dis _, Hp.emp_le _, Hp.le_refl _, trivial, p⟩, fun ⟨_, _, _, _, b, _, q⟩ => Asn.starH_mono _ b q⟩
  | cons A l ih =>
    intro h
    constructor
    · rintro ⟨h1, h2, d, a, b, p, q⟩
      obtain ⟨k1, k2, d', a', b', p', q'⟩ := ih.1 q
      have d1 : h1.dis k1 := d.mono (Hp.le_refl _) a'
      have d2 : h1.dis k2 := d.mono (Hp.le_refl _) b'
      exact ⟨h1.join k1, k2, Hp.join_dis d2 d', Hp.join_le a (a'.trans b), b'.trans b, ⟨h1, k1, d1, Hp.le_join_left _ _, Hp.le_join_right d1, p, p'⟩, q'⟩
    · rintro ⟨h1, h2, d, a, b, ⟨k1, k2, d', a', b', p', q'⟩, q⟩
      have d1 : k1.dis h2 := d.mono a' (Hp.le_refl _)
      have d2 : k2.dis h2 := d.mono b' (Hp.le_refl _)
      refine ⟨k1, k2.join h2, (Hp.join_dis d'.symm d1.symm).symm, a'.trans a, Hp.join_le (b'.trans a) b, p', ih.2 ⟨k2, h2, d2, Hp.le_join_left _ _, Hp.le_join_right d2, q', q⟩⟩
theorem star_holds {l : List Asn} {h : Hp} : (Asn.star l).holds h ↔ Asn.starH l h := Iff.rfl
/-- 'A star l' for one assertion: taken apart -/
theorem starH_star {l m : List Asn} {h : Hp} : Asn.starH (Asn.star l :: m) h ↔ Asn.starH (l ++ m) h := by
  rw [starH_append]; exact Iff.rfl
theorem starH_ex {α : Type} {A : α → Asn} {m : List Asn} {h : Hp} : Asn.starH (Asn.ex A :: m) h ↔ ∃ x, Asn.starH (A x :: m) h :=
  ⟨fun ⟨h1, h2, d, a, b, ⟨x, p⟩, q⟩ => ⟨x, h1, h2, d, a, b, p, q⟩, fun ⟨x, h1, h2, d, a, b, p, q⟩ => ⟨h1, h2, d, a, b, ⟨x, p⟩, q⟩⟩
theorem starH_pure {p : Prop} {m : List Asn} {h : Hp} : Asn.starH (Asn.pure p :: m) h ↔ p ∧ Asn.starH m h :=
  ⟨fun ⟨_, _, _, _, b, p, q⟩ => ⟨p, Asn.starH_mono _ b q⟩, fun ⟨p, q⟩ => ⟨Hp.emp, h, Hp.emp_dis _, Hp.emp_le _, Hp.le_refl _, p, q⟩⟩
theorem starH_swap {A B : Asn} {m : List Asn} {h : Hp} (p : Asn.starH (A :: B :: m) h) : Asn.starH (B :: A :: m) h := by
  obtain ⟨h1, h2, d, a, b, x, k1, k2, d', a', b', y, z⟩ := p
  have d1 : h1.dis k1 := d.mono (Hp.le_refl _) a'
  have d2 : h1.dis k2 := d.mono (Hp.le_refl _) b'
  exact ⟨k1, h1.join k2, (Hp.join_dis d1 d'.symm).symm, a'.trans b, Hp.join_le a (b'.trans b), y, h1, k2, d2, Hp.le_join_left _ _, Hp.le_join_right d2, x, z⟩

theorem Triple.pre {P : Program} {f : FuncId} {args : List Value} {M' N : List Asn} {α : Type} {M : α → List Asn} {X : Type} {ret : X → Value} {good : X → Prop} {post : X → List Asn} (h : ∀ h, Asn.starH M' h → ∃ x, Asn.starH (M x) h)
    (t : ∀ x, Triple P f args (M x) N X ret good post) : Triple P f args M' N X ret good post := fun w hm hn h1 h2 h3 h4 h5 => let ⟨x, hx⟩ := h hm h4; t x w hm hn h1 h2 h3 hx h5
theorem Triple.imp {P : Program} {f : FuncId} {args : List Value} {M N : List Asn} {X Y : Type} {ret : X → Value} {good : X → Prop} {post : X → List Asn} {ret' : Y → Value} {good' : Y → Prop} {post' : Y → List Asn}
    (t : Triple P f args M N X ret good post) (h : ∀ x, good x → ∃ y, ret x = ret' y ∧ good' y ∧ ∀ h, Asn.starH (post x) h → Asn.starH (post' y) h) : Triple P f args M N Y ret' good' post' := fun w hm hn h1 h2 h3 h4 h5 =>
  (t w hm hn h1 h2 h3 h4 h5).mono fun e w' ⟨x, hm', e1, e2, e3, e4, e5, e6⟩ => let ⟨y, a, b, c⟩ := h x e2; ⟨y, hm', by rw [e1, a], b, c _ e3, e4, e5, e6⟩

/-! what was held is only read from here on -/
theorem go_read {P : Program} {E : Entry} {Q : Exit → St → Prop} {todo : List It} {st : St} (i : Nat) (A : Asn) (hi : st.res[i]? = some (.fact A)) (h : Go P E todo ⟨st.fr, st.res.set i (.dead none), st.ro ++ [A]⟩ Q) : Go P E todo st Q := fun a w hR => by
  obtain ⟨hs, hi', hres⟩ := hR.res
  have hblk : blkAt (st.res.set i (.dead none)) = blkAt st.res := blkAt_set _ _ _ (fun y hy => by rw [hi] at hy; cases hy; rfl)
  refine h a w ⟨hR.fr.mono fun r b e => by rw [hblk]; exact e, upd hs i Hp.emp, hi'.join (hs i), fun j => ?_, fun j k hjk => ?_, fun j x hx => ?_, Hp.join_le hres.rle (hres.le i), fun j => ?_, fun B hB => ?_, hres.ext, fun j b hb => ?_, fun x hx => ?_⟩
  · unfold upd; split
    · exact Hp.emp_le _
    · exact hres.le j
  · unfold upd; split
    · exact Hp.emp_dis _
    · split
      · exact Hp.dis_emp _
      · exact hres.dis j k hjk
  · dsimp only at hx
    rw [List.getElem?_set] at hx
    unfold upd
    split at hx
    · split at hx
      · cases hx; trivial
      · cases hx
    · rename_i hne
      rw [if_neg (fun e => hne e.symm)]
      exact hres.holds j x hx
  · unfold upd; split
    · exact Hp.emp_dis _
    · rename_i hne
      exact (Hp.join_dis (hres.rdis j).symm (hres.dis i j (fun e => hne e.symm))).symm
  · rcases List.mem_append.1 hB with hB | hB
    · exact B.mono (Hp.le_join_left _ _) (hres.rholds B hB)
    · simp at hB; subst hB
      exact B.mono (Hp.le_join_right (hres.rdis i).symm) (hres.holds i _ hi)
  · unfold upd at hb
    split at hb
    · exact absurd rfl hb
    · exact hres.old j b hb
  · dsimp only at hx ⊢
    rw [hblk]
    rcases List.mem_or_eq_of_mem_set hx with hx | hx
    · exact hres.cells x hx
    · subst hx; trivial

/-! loops -/
def mask1 (x : SV) : SV → SV
  | .no => .no
  | _ => x
def mask : List SV → List SV → List SV
  | [], _ => []
  | x :: l, m => match m with | [] => [] | y :: m => mask1 x y :: mask l m
structure FrLe (l m : List SV) : Prop where
  len : l.length = m.length
  eq : mask l m = m
def ResLe (l m : List Res) : Prop := ∃ t, l = m ++ t
theorem mask_spec : ∀ (l m : List SV) (t : Nat), l.length = m.length → (mask l m)[t]? = (match l[t]?, m[t]? with | some x, some y => some (mask1 x y) | _, _ => none)
  | [], [], _, _ => rfl
  | x :: l, y :: m, 0, _ => rfl
  | x :: l, y :: m, t + 1, h => by
    have := mask_spec l m t (by simpa using h)
    simpa [mask] using this
theorem FrLe.spec {l m : List SV} (h : FrLe l m) : l.length = m.length ∧ ∀ (t : Nat) (x : SV), m[t]? = some x → x = .no ∨ l[t]? = some x := by
  refine ⟨h.len, fun t x hx => ?_⟩
  have h1 := mask_spec l m t h.len
  rw [h.eq, hx] at h1
  cases hl : l[t]? with
  | none => rw [hl] at h1; cases h1
  | some y =>
    rw [hl] at h1
    simp only [Option.some.injEq] at h1
    cases x with
    | no => exact .inl rfl
    | _ => right; rw [h1]; rfl
theorem ResLe.spec {l m : List Res} (h : ResLe l m) (i : Nat) (x : Res) (hx : m[i]? = some x) : l[i]? = some x := by
  obtain ⟨t, rfl⟩ := h
  rw [List.getElem?_append_left (List.getElem?_eq_some_iff.1 hx).1]
  exact hx
def SV.in_ (n : Nat) : SV → Bool
  | .pt r _ _ => r < n
  | .sl r _ _ _ _ => r < n
  | .ag _ => false
  | .tu _ => false
  | .fu _ a c => (a ++ c).all fun x => match x with | .pt r _ _ => r < n | .sl r _ _ _ _ => r < n | .ag _ => false | .tu _ => false | .fu _ _ _ => false | _ => true
  | _ => true
theorem SV.in_spec {l m : List Res} (h : ResLe l m) {x : SV} (hx : x.in_ m.length = true) (hg : x.good (blkAt l)) : x.good (blkAt m) := by
  have key : ∀ r b, r < m.length → blkAt l r = some b → blkAt m r = some b := fun r b hr hb => by
    unfold blkAt at hb ⊢
    rw [List.getElem?_eq_getElem hr]
    rw [h.spec r _ (List.getElem?_eq_getElem hr)] at hb
    exact hb
  cases x with
  | pt r b o => exact key r b (by simpa [SV.in_] using hx) hg
  | sl r b o n c => exact key r b (by simpa [SV.in_] using hx) hg
  | fu fn a c =>
    have hx' := List.all_eq_true.1 hx
    have one : ∀ y ∈ a ++ c, y.good (blkAt l) → y.good (blkAt m) := fun y hy hg => by
      have := hx' y hy
      cases y with
      | pt r b o => exact key r b (by simpa using this) hg
      | sl r b o n c => exact key r b (by simpa using this) hg
      | ag l => cases this
      | tu l => cases this
      | fu a b c => cases this
      | _ => trivial
    exact ⟨(SV.goodL_iff _ _).2 fun y hy => one y (List.mem_append_left _ hy) ((SV.goodL_iff _ _).1 hg.1 y hy), (SV.goodL_iff _ _).2 fun y hy => one y (List.mem_append_right _ hy) ((SV.goodL_iff _ _).1 hg.2 y hy)⟩
  | ag l => cases hx
  | tu l => cases hx
  | _ => trivial
def resIn (n : Nat) : Res → Bool
  | .box _ _ cs => cs.all (SV.in_ n)
  | _ => true
structure StLe (st st' : St) : Prop where
  fr : FrLe st.fr st'.fr
  res : ResLe st.res st'.res
  ro : ∃ t, st.ro = st'.ro ++ t
  inF : st'.fr.all (SV.in_ st'.res.length) = true
  inR : st'.res.all (resIn st'.res.length) = true
theorem StLe.R {E : Entry} {st st' : St} (h : StLe st st') {a : Act} {w : World} (hR : R E st a w) : R E st' a w := by
  obtain ⟨hs, hi, hres⟩ := hR.res
  obtain ⟨h1, h2⟩ := h.fr.spec
  refine ⟨⟨hR.fr.size.trans h1, fun t x hx => ?_, fun x hx => ?_, hR.fr.defers⟩, fun i => if i < st'.res.length then hs i else Hp.emp, hi, fun i => ?_, fun i j hij => ?_, fun i x hx => ?_, hres.rle, fun i => ?_, fun A hA => hres.rholds A (by obtain ⟨t, e⟩ := h.ro; rw [e]; exact List.mem_append_left _ hA), hres.ext, fun i b hb => ?_, fun x hx => ?_⟩
  · rcases h2 t x hx with e | e
    · subst e; trivial
    · exact hR.fr.is t x e
  · obtain ⟨t, ht⟩ := List.mem_iff_getElem?.1 hx
    rcases h2 t x ht with e | e
    · subst e; trivial
    · exact SV.in_spec h.res (List.all_eq_true.1 h.inF x hx) (hR.fr.good x (List.mem_of_getElem? e))
  · split
    · exact hres.le i
    · exact Hp.emp_le _
  · split
    · split
      · exact hres.dis i j hij
      · exact Hp.dis_emp _
    · exact Hp.emp_dis _
  · rw [if_pos (List.getElem?_eq_some_iff.1 hx).1]
    exact hres.holds i x (h.res.spec i x hx)
  · split
    · exact hres.rdis i
    · exact Hp.emp_dis _
  · split at hb
    · exact hres.old i b hb
    · exact absurd rfl hb
  · obtain ⟨i, hi'⟩ := List.mem_iff_getElem?.1 hx
    have hc := hres.cells x (List.mem_of_getElem? (h.res.spec i x hi'))
    cases x with
    | box b t cs =>
      refine ⟨(SV.goodL_iff _ _).2 fun y hy => ?_, hc.2⟩
      have := List.all_eq_true.1 h.inR _ hx
      exact SV.in_spec h.res (List.all_eq_true.1 this y hy) ((SV.goodL_iff _ _).1 hc.1 y hy)
    | fact A => trivial
    | dead b => trivial

/-- slots are unknown; slots are told anew (rising numbers) -/
def hav : List SV → Nat → List Nat → List SV
  | [], _, _ => []
  | x :: l, n, m => match m with
    | [] => x :: l
    | t :: ts => bif Nat.beq n t then .no :: hav l n.succ ts else x :: hav l n.succ (t :: ts)
def sets : List SV → Nat → List (Nat × SV) → List SV
  | [], _, _ => []
  | x :: l, n, m => match m with
    | [] => x :: l
    | (t, y) :: ts => bif Nat.beq n t then y :: sets l n.succ ts else x :: sets l n.succ ((t, y) :: ts)
def setF (fr : List SV) (l : List (Nat × SV)) : List SV := sets fr 0 l
def havoc (fr : List SV) (l : List Nat) : List SV := hav fr 0 l
/-- where a way out of a loop's round leads -/
def wayOut (P : Program) (E : Entry) (r : List It) (Q : Exit → St → Prop) (e : Exit) (st : St) : Prop :=
  match e with
  | .exit id => match popTo id r with | some r' => Go P E r' st Q | none => Q (.exit id) st
  | .ret => Q .ret st
  | _ => False
def Round (P : Program) (E : Entry) (r : List It) (Q : Exit → St → Prop) {ι : Type} (I : ι → St) (Pre : ι → Prop) (m : ι → Nat) (i : ι) (e : Exit) (st : St) : Prop :=
  match e with
  | .normal => ∀ a w, R E st a w → ∃ i', Pre i' ∧ m i' < m i ∧ R E (I i') a w
  | e => wayOut P E r Q e st
theorem go_loop {P : Program} {E : Entry} {Q : Exit → St → Prop} {body : Code} {r : List It} {st : St} {ι : Type} (mods : List Nat) (keep : ι → List (Nat × SV)) (resI : ι → List Res) (Pre : ι → Prop) (m : ι → Nat) (i0 : ι)
    (h0 : Pre i0) (hst : StLe st ⟨setF (havoc st.fr mods) (keep i0), resI i0, st.ro⟩)
    (hround : ∀ i, Pre i → Go P E [.c body] ⟨setF (havoc st.fr mods) (keep i), resI i, st.ro⟩ (Round P E r Q (fun i => ⟨setF (havoc st.fr mods) (keep i), resI i, st.ro⟩) Pre m i)) :
    Go P E (.c (.loop body) :: r) st Q := by
  intro a w hR
  refine wp_loop_ghost (fun n a w => ∃ i, Pre i ∧ m i = n ∧ R E ⟨setF (havoc st.fr mods) (keep i), resI i, st.ro⟩ a w) (m i0) ⟨i0, h0, rfl, hst.R hR⟩ ?_
  rintro n a w ⟨i, hi, rfl, hRi⟩
  refine Code.wp_mono (fun e a' w' hq => ?_) (hround i hi a w hRi)
  cases e with
  | normal =>
    obtain ⟨st', hq, hR'⟩ := hq
    obtain ⟨i', h1, h2, h3⟩ := hq a' w' hR'
    exact ⟨m i', h2, i', h1, rfl, h3⟩
  | exit id =>
    obtain ⟨st', hq, hR'⟩ := hq
    simp only [Round, wayOut] at hq
    show post P r (Fin Q E) (.exit id) a' w'
    split at hq
    · rename_i r' hp
      rw [post_pop hp]
      exact hq a' w' hR'
    · rename_i hp
      rw [post_exit hp]
      exact ⟨st', hq, hR'⟩
  | ret =>
    obtain ⟨st', hq, hR'⟩ := hq
    show post P r (Fin Q E) .ret a' w'
    rw [post_ret]
    exact ⟨st', hq, hR'⟩
  | goto l => obtain ⟨st', hq, _⟩ := hq; exact hq.elim
  | panic c => exact hq.elim
  | outgrown => exact hq.elim
theorem round_next {P : Program} {E : Entry} {r : List It} {Q : Exit → St → Prop} {ι : Type} {I : ι → St} {Pre : ι → Prop} {m : ι → Nat} {i : ι} {st : St} (i' : ι) (h1 : Pre i') (h2 : m i' < m i) (h3 : StLe st (I i')) :
    Round P E r Q I Pre m i .normal st := fun _ _ hR => ⟨i', h1, h2, h3.R hR⟩
end Go.Sy
