/-
  What is proved: how a triple is used at a call; how what is held is regrouped. Conditions: none.
-/
import Derived.Test.YthknokcgclcbmaaSya
namespace Go.Sy
open Go.RowKit

theorem ev_need {P : Program} {E : Entry} {Q : Exit → St → Prop} {p : Prop} {o : Out} (hp : p) (h : outSat P E Q o) : outSat P E Q (.need p o) := ⟨hp, h⟩
def heldFrom (res : List Res) : List Nat → List (Nat × Res)
  | [] => []
  | i :: l => match res[i]? with | some x => (i, x) :: heldFrom res l | none => heldFrom res l
/-- a group whose order is open: plan: the order that is taken, and what of it is only read or reckoned; held: the rows that are read -/
theorem go_draw {P : Program} {T : Tbs} (hT : TbsOk P T) {E : Entry} {Q : Exit → St → Prop} {id : Nat} {ops : Array Oper} {r : List It} {st : St} (full : Bool) (hold : List Nat) (plan : List (Nat × Bool)) (hlen : plan.length = ops.size)
    (h : Go P E (.d ops full (heldFrom st.res hold) st.ro plan (List.replicate ops.size false) :: r) st Q) : Go P E (.c (.region id ops true) :: r) st Q := fun a w hR => by
  refine wp_region_any hT.mixed ?_
  obtain ⟨hs, hi, hres⟩ := hR.res
  have hR' : R E st a { w with drawn := w.drawn + 1 } := ⟨hR.fr, hs, hi, ⟨hres.le, hres.dis, hres.holds, hres.rle, hres.rdis, hres.rholds, ⟨hres.ext.os, hres.ext.tape, hres.ext.output, hres.ext.size, hres.ext.block⟩, hres.old, hres.cells⟩⟩
  have h1 := wpAny_of_D _ _ _ _ (h a _ hR').2
  rw [hlen] at h1
  simpa using h1

def idxOf : List Nat → Nat → Option Nat
  | [], _ => none
  | x :: l, i => if x = i then some 0 else match idxOf l i with | some k => some (k + 1) | none => none
theorem idxOf_some : ∀ {l : List Nat} {i k : Nat}, idxOf l i = some k → l[k]? = some i := by
  intro l
  induction l with
  | nil => intro i k h; cases h
  | cons x l ih =>
    intro i k h
    simp only [idxOf] at h
    split at h
    · rename_i e; cases h; simp [e]
    · split at h
      · rename_i k' hk; cases h; simpa using ih hk
      · cases h
theorem idxOf_none : ∀ {l : List Nat} {i : Nat}, idxOf l i = none → i ∉ l := by
  intro l
  induction l with
  | nil => intro i _ h; cases h
  | cons x l ih =>
    intro i h hm
    simp only [idxOf] at h
    split at h
    · cases h
    · rename_i hne
      split at h
      · cases h
      · rename_i hk
        rcases List.mem_cons.1 hm with e | hm
        · exact hne e.symm
        · exact ih hk hm

def placeAt (res : List Res) (sel : List Nat) (news : List Res) (i : Nat) : Res :=
  match idxOf sel i with
  | some k => match news[k]? with | some x => x | none => .dead (blkAt res i)
  | none => match res[i]? with | some x => x | none => match news[sel.length + (i - res.length)]? with | some x => x | none => .dead none
/-- what is held behind a call: the new in the places of what was handed over, what is over behind all -/
def place (res : List Res) (sel : List Nat) (news : List Res) : List Res := (List.range (res.length + (news.length - sel.length))).map (placeAt res sel news)
theorem place_get {res : List Res} {sel : List Nat} {news : List Res} {i : Nat} {x : Res} (h : (place res sel news)[i]? = some x) : x = placeAt res sel news i ∧ i < res.length + (news.length - sel.length) := by
  unfold place at h
  rw [List.getElem?_map] at h
  cases e : (List.range (res.length + (news.length - sel.length)))[i]? with
  | none => rw [e] at h; cases h
  | some j =>
    rw [e] at h
    obtain ⟨h1, h2⟩ := List.getElem?_eq_some_iff.1 e
    simp at h1 h2
    subst h2
    simp at h
    exact ⟨h.symm, h1⟩

def blkLe : List Res → List Res → Prop
  | [], _ => True
  | .fact _ :: l, _ :: m => blkLe l m
  | .dead none :: l, _ :: m => blkLe l m
  | x :: l, y :: m => y.blk = x.blk ∧ blkLe l m
  | _ :: _, [] => False
theorem blkLe_spec : ∀ {l m : List Res}, blkLe l m → ∀ r b, blkAt l r = some b → blkAt m r = some b := by
  intro l
  induction l with
  | nil => intro m _ r b h; simp [blkAt] at h
  | cons x l ih =>
    intro m h r b hb
    cases m with
    | nil => cases x <;> first | exact h.elim | (rename_i o; cases o <;> exact h.elim)
    | cons y m =>
      have tail : blkLe l m → ∀ r, blkAt (x :: l) (r + 1) = some b → blkAt (y :: m) (r + 1) = some b := fun hl r hr => by
        have := ih hl r b (by simpa [blkAt] using hr)
        simpa [blkAt] using this
      cases x with
      | fact A =>
        cases r with
        | zero => simp [blkAt, Res.blk] at hb
        | succ r => exact tail h r hb
      | box b' t cs =>
        cases r with
        | zero => simpa [blkAt, h.1] using hb
        | succ r => exact tail h.2 r hb
      | dead o =>
        cases o with
        | none =>
          cases r with
          | zero => simp [blkAt, Res.blk] at hb
          | succ r => exact tail h r hb
        | some o =>
          cases r with
          | zero => simpa [blkAt, h.1] using hb
          | succ r => exact tail h.2 r hb

def asnAt (res : List Res) (i : Nat) : Option Asn := match res[i]? with | some x => some x.asn | none => none
theorem asnAt_spec {res : List Res} {i : Nat} {A : Asn} (h : asnAt res i = some A) : ∃ x, res[i]? = some x ∧ x.asn = A := by
  unfold asnAt at h
  split at h
  · rename_i x e; cases h; exact ⟨x, e, rfl⟩
  · cases h
/-- what is read besides: out of what is only read (inl), or lent (inr) -/
def lent (st : St) : Sum Nat Nat → Option Asn
  | .inl i => st.ro[i]?
  | .inr i => asnAt st.res i
def newsOk (β : Nat → Option Nat) (news : List Res) : Prop := ∀ x ∈ news, match x with | .box _ _ cs => SV.goodL β cs | _ => True
theorem newsOk_nil (β : Nat → Option Nat) : newsOk β [] := fun _ h => by cases h
theorem newsOk_fact {β : Nat → Option Nat} {A : Asn} {l : List Res} (h : newsOk β l) : newsOk β (.fact A :: l) := fun x hx => by
  rcases List.mem_cons.1 hx with rfl | hx
  · trivial
  · exact h x hx
theorem newsOk_box {β : Nat → Option Nat} {b : Nat} {t : TypeId} {cs : List SV} {l : List Res} (hc : SV.goodL β cs) (h : newsOk β l) : newsOk β (.box b t cs :: l) := fun x hx => by
  rcases List.mem_cons.1 hx with rfl | hx
  · exact hc
  · exact h x hx

theorem place_ok {E : Entry} {res : List Res} {ro : List Asn} {w w' : World} {hs : Nat → Hp} {hi : Hp} (hR : ResOk E res ro w hs hi) (sel : List Nat) (hm : Hp)
    (hmC : ∀ b, hm b ≠ none → ∃ i, i ∈ sel ∧ hs i b ≠ none) (news : List Res) (hm' : Hp) (hpost : Asn.starH (news.map Res.asn) hm') (hle' : hm'.le (hp w')) (hext : Ext hm w w')
    (hnew : ∀ b, hm' b ≠ none → hm b ≠ none ∨ w.heap.size ≤ b) (hok : newsOk (blkAt (place res sel news)) news) (hb : blkLe res (place res sel news)) :
    ∃ hs', ResOk E (place res sel news) ro w' hs' hi := by
  obtain ⟨ks, k1, k2, k3⟩ := Asn.starH_split _ hpost
  let hs' : Nat → Hp := fun i => match idxOf sel i with
    | some k => if k < news.length then ks k else Hp.emp
    | none => if i < res.length then hs i else if sel.length + (i - res.length) < news.length then ks (sel.length + (i - res.length)) else Hp.emp
  have part : ∀ i, (i ∈ sel ∨ res.length ≤ i) → hs' i = Hp.emp ∨ ∃ k, hs' i = ks k ∧ k < news.length ∧ ((∃ j, idxOf sel i = some j ∧ k = j) ∨ (idxOf sel i = none ∧ res.length ≤ i ∧ k = sel.length + (i - res.length))) := fun i hi => by
    simp only [hs']
    cases e : idxOf sel i with
    | some k =>
      dsimp only
      split
      · right; rename_i hk; exact ⟨k, rfl, hk, .inl ⟨k, rfl, rfl⟩⟩
      · left; rfl
    | none =>
      dsimp only
      have hns := idxOf_none e
      rcases hi with hi | hi
      · exact absurd hi hns
      · rw [if_neg (by omega)]
        split
        · right; rename_i hk; exact ⟨_, rfl, hk, .inr ⟨rfl, hi, rfl⟩⟩
        · left; rfl
  refine ⟨hs', hR.step hm (fun i => i ∈ sel ∨ res.length ≤ i) hext (fun b hb => ?_) (fun i hi => ?_) (fun i hi => ?_) (fun i hi b hb => ?_) (fun i j hi hj hij => ?_) (fun i y hy => ?_) ?_⟩
  · obtain ⟨i, h1, h2⟩ := hmC b hb; exact ⟨i, .inl h1, h2⟩
  · have h1 : i ∉ sel := fun e => hi (.inl e)
    have h2 : i < res.length := by
      rcases Nat.lt_or_ge i res.length with y | y
      · exact y
      · exact absurd (Or.inr y) hi
    simp only [hs']
    cases e : idxOf sel i with
    | some k => exact absurd (List.mem_of_getElem? (idxOf_some e)) h1
    | none => dsimp only; rw [if_pos h2]
  · rcases part i hi with e | ⟨k, e, _⟩
    · rw [e]; exact Hp.emp_le _
    · rw [e]; exact (k1 k).trans hle'
  · rcases part i hi with e | ⟨k, e, _⟩
    · rw [e] at hb; exact absurd rfl hb
    · rw [e] at hb
      exact hnew b (fun e' => hb (Hp.le_none (k1 k) e'))
  · rcases part i hi with e | ⟨k, e, _, hk⟩
    · rw [e]; exact Hp.emp_dis _
    · rcases part j hj with e' | ⟨k', e', _, hk'⟩
      · rw [e']; exact Hp.dis_emp _
      · rw [e, e']
        refine k2 k k' (fun ee => hij ?_)
        subst ee
        rcases hk with ⟨q, h1, rfl⟩ | ⟨h1, h2, h3⟩
        · rcases hk' with ⟨q', h1', rfl⟩ | ⟨h1', h2', h3'⟩
          · have := (idxOf_some h1).symm.trans (idxOf_some h1'); simpa using this
          · have := (List.getElem?_eq_some_iff.1 (idxOf_some h1)).1; omega
        · rcases hk' with ⟨q', h1', rfl⟩ | ⟨h1', h2', h3'⟩
          · have := (List.getElem?_eq_some_iff.1 (idxOf_some h1')).1; omega
          · omega
  · obtain ⟨rfl, hil⟩ := place_get hy
    have hks : ∀ (k : Nat) (y : Res), news[k]? = some y → y.asn.holds (ks k) := fun k y hk => k3 k _ (by rw [List.getElem?_map, hk]; rfl)
    simp only [hs', placeAt]
    cases e : idxOf sel i with
    | some k =>
      dsimp only
      cases e' : news[k]? with
      | none => trivial
      | some y => rw [if_pos (List.getElem?_eq_some_iff.1 e').1]; exact hks k y e'
    | none =>
      dsimp only
      cases e' : res[i]? with
      | some y => rw [if_pos (List.getElem?_eq_some_iff.1 e').1]; exact hR.holds i y e'
      | none =>
        have hge := List.getElem?_eq_none_iff.1 e'
        rw [if_neg (by omega)]
        cases e'' : news[sel.length + (i - res.length)]? with
        | none => trivial
        | some y => rw [if_pos (List.getElem?_eq_some_iff.1 e'').1]; exact hks _ y e''
  · intro y hy
    obtain ⟨i, hi'⟩ := List.mem_iff_getElem?.1 hy
    obtain ⟨e0, hil⟩ := place_get hi'
    have hks : ∀ (k : Nat) (y : Res), news[k]? = some y → y.asn.holds (ks k) := fun k y hk => k3 k _ (by rw [List.getElem?_map, hk]; rfl)
    have newc : ∀ (k : Nat) (y : Res), news[k]? = some y → y.cellsOk (blkAt (place res sel news)) := fun k y hk => by
      have h1 := hok y (List.mem_of_getElem? hk)
      have h2 := hks k y hk
      cases y with
      | box b t cs => exact ⟨h1, fun z hz => h2.2 _ (by rw [SV.denL_eq]; exact List.mem_map_of_mem hz)⟩
      | fact A => trivial
      | dead b => trivial
    subst e0
    simp only [placeAt] at hi' ⊢
    cases e : idxOf sel i with
    | some k =>
      dsimp only
      cases e' : news[k]? with
      | none => trivial
      | some y => exact newc k y e'
    | none =>
      dsimp only
      cases e' : res[i]? with
      | some y =>
        have := hR.cells y (List.mem_of_getElem? e')
        cases y with
        | box b t cs => exact ⟨SV.goodL_mono (blkLe_spec hb) this.1, this.2⟩
        | fact A => trivial
        | dead b => trivial
      | none =>
        dsimp only
        cases e'' : news[sel.length + (i - res.length)]? with
        | none => trivial
        | some y => exact newc _ y e''

open Classical in
/-- the part of the memory that the resources sel have -/
noncomputable def selH (w : World) (hs : Nat → Hp) (sel : List Nat) : Hp := fun b => if ∃ i ∈ sel, hs i b ≠ none then hp w b else none
theorem selH_le (w : World) (hs : Nat → Hp) (sel : List Nat) : (selH w hs sel).le (hp w) := fun b o e => by
  unfold selH at e
  split at e
  · exact e
  · cases e
theorem selH_C {w : World} {hs : Nat → Hp} {sel : List Nat} : ∀ b, selH w hs sel b ≠ none → ∃ i, i ∈ sel ∧ hs i b ≠ none := fun b hb => by
  unfold selH at hb
  split at hb
  · rename_i c; obtain ⟨i, h1, h2⟩ := c; exact ⟨i, h1, h2⟩
  · exact absurd rfl hb
theorem selH_sub {w : World} {hs : Nat → Hp} {sel : List Nat} (h : ∀ i, (hs i).le (hp w)) : ∀ i ∈ sel, (hs i).le (selH w hs sel) := fun i hi b o e => by
  have c : ∃ i ∈ sel, hs i b ≠ none := ⟨i, hi, by rw [e]; simp⟩
  unfold selH
  rw [if_pos c]
  exact h i b o e
theorem selH_star {w : World} {hs : Nat → Hp} {sel : List Nat} {res : List Res} {M : List Asn} (hle : ∀ i, (hs i).le (hp w)) (hdis : ∀ i j, i ≠ j → (hs i).dis (hs j))
    (hh : ∀ (i : Nat) (x : Res), res[i]? = some x → x.asn.holds (hs i)) (hsel : sel.map (asnAt res) = M.map some) (hnd : sel.Nodup) : Asn.starH M (selH w hs sel) := by
  refine Asn.starH_of M (fun k => match sel[k]? with | some i => hs i | none => Hp.emp) (fun k => ?_) (fun k j hkj => ?_) (fun k A hA => ?_)
  · split
    · rename_i i e; exact selH_sub hle i (List.mem_of_getElem? e)
    · exact Hp.emp_le _
  · split
    · rename_i i e
      split
      · rename_i i' e'
        refine hdis _ _ (fun ee => ?_)
        subst ee
        obtain ⟨l1, x1⟩ := List.getElem?_eq_some_iff.1 e
        obtain ⟨l2, x2⟩ := List.getElem?_eq_some_iff.1 e'
        rcases Nat.lt_or_ge k j with q | q
        · exact List.pairwise_iff_getElem.1 hnd k j l1 l2 q (x1.trans x2.symm)
        · exact List.pairwise_iff_getElem.1 hnd j k l2 l1 (by omega) (x2.trans x1.symm)
      · exact Hp.dis_emp _
    · exact Hp.emp_dis _
  · have h1 : (sel.map (asnAt res))[k]? = (M.map some)[k]? := by rw [hsel]
    rw [List.getElem?_map, List.getElem?_map, hA] at h1
    cases e : sel[k]? with
    | none => rw [e] at h1; cases h1
    | some i =>
      rw [e] at h1
      simp only [Option.map_some, Option.some.injEq] at h1
      obtain ⟨x, hx, rfl⟩ := asnAt_spec h1
      exact hh i x hx

/-- THE CALL OF A FUNCTION OF WHICH A TRIPLE IS KNOWN. sel: where what it may write is; nsel: where what it reads is; news: how what it hands back is to be held -/
theorem ev_call {P : Program} {f : FuncId} {args : List Value} {M N : List Asn} {X : Type} {ret : X → Value} {good : X → Prop} {after : X → List Asn} (T : Triple P f args M N X ret good after)
    {E : Entry} {Q : Exit → St → Prop} {svs : List SV} {d : Option Tmp} {todo : List It} {st : St} (sel : List Nat) (nsel : List (Sum Nat Nat)) (news : X → List Res)
    (hargs : SV.denL svs = args) (hsel : sel.map (asnAt st.res) = M.map some) (hnd : sel.Nodup) (hn : nsel.map (lent st) = N.map some) (hapart : ∀ i, Sum.inr i ∈ nsel → i ∉ sel)
    (hnews : ∀ x, (news x).map Res.asn = after x) (hok : ∀ x, newsOk (blkAt (place st.res sel (news x))) (news x)) (hb : ∀ x, blkLe st.res (place st.res sel (news x)))
    (h : ∀ x, good x → Go P E todo (St.put ⟨st.fr, place st.res sel (news x), st.ro⟩ d (normV (ret x))) Q) : outSat P E Q (.call f svs d todo st) := by
  intro w hs hi hR _
  subst hargs
  classical
  let hn' : Hp := fun b => if ∃ i ∈ sel, hs i b ≠ none then none else hp w b
  have hnw : hn'.le (hp w) := fun b o e => by
    by_cases c : ∃ i ∈ sel, hs i b ≠ none
    · simp only [hn', if_pos c] at e; cases e
    · simpa only [hn', if_neg c] using e
  have hdis : (selH w hs sel).dis hn' := fun b => by
    by_cases c : ∃ i ∈ sel, hs i b ≠ none
    · right; simp only [hn', if_pos c]
    · left; unfold selH; rw [if_neg c]
  have hM : Asn.starH M (selH w hs sel) := selH_star hR.le hR.dis hR.holds hsel hnd
  have hN : ∀ A ∈ N, A.holds hn' := fun A hA => by
    obtain ⟨k, hk⟩ := List.mem_iff_getElem?.1 hA
    have h1 : (nsel.map (lent st))[k]? = (N.map some)[k]? := by rw [hn]
    rw [List.getElem?_map, List.getElem?_map, hk] at h1
    cases e : nsel[k]? with
    | none => rw [e] at h1; cases h1
    | some s =>
      rw [e] at h1
      simp only [Option.map_some, Option.some.injEq] at h1
      cases s with
      | inl i =>
        refine A.mono (h := hi) (fun b o e => ?_) (hR.rholds A (List.mem_of_getElem? h1))
        have c : ¬ ∃ i ∈ sel, hs i b ≠ none := fun ⟨j, _, hj⟩ => by
          rcases hR.rdis j b with y | y
          · exact hj y
          · rw [y] at e; cases e
        simp only [hn', if_neg c]
        exact hR.rle b o e
      | inr i =>
        obtain ⟨x, hx, rfl⟩ := asnAt_spec h1
        refine x.asn.mono (h := hs i) (fun b o e' => ?_) (hR.holds i x hx)
        have c : ¬ ∃ i ∈ sel, hs i b ≠ none := fun ⟨j, hj', hj⟩ => by
          rcases hR.dis i j (fun ee => hapart i (List.mem_of_getElem? e) (ee ▸ hj')) b with y | y
          · rw [y] at e'; cases e'
          · exact hj y
        simp only [hn', if_neg c]
        exact hR.le i b o e'
  refine (T w (selH w hs sel) hn' (selH_le _ _ _) hnw hdis hM hN).mono fun e w' he => ?_
  obtain ⟨x, hm', rfl, hg, hpost, hle', hext, hnew⟩ := he
  refine ⟨normV (ret x), ⟨st.fr, place st.res sel (news x), st.ro⟩, by rw [normV_den], normV_good _ _, rfl, blkLe_spec (hb x), ?_, h x hg⟩
  rw [← hnews x] at hpost
  obtain ⟨hs', hR'⟩ := place_ok hR sel _ selH_C (news x) hm' hpost hle' hext hnew (hok x) (hb x)
  exact ⟨hs', hi, hR'⟩

/-- what is held is told otherwise -/
theorem place_ghost {E : Entry} {res : List Res} {ro : List Asn} {w : World} {hs : Nat → Hp} {hi : Hp} (hR : ResOk E res ro w hs hi) (sel : List Nat) {M : List Asn} {X : Type} (news : X → List Res)
    (hsel : sel.map (asnAt res) = M.map some) (hnd : sel.Nodup) (himp : ∀ h, Asn.starH M h → ∃ x, Asn.starH ((news x).map Res.asn) h) (hok : ∀ x, newsOk (blkAt (place res sel (news x))) (news x)) (hb : ∀ x, blkLe res (place res sel (news x))) :
    ∃ x hs', ResOk E (place res sel (news x)) ro w hs' hi := by
  obtain ⟨x, hx⟩ := himp _ (selH_star hR.le hR.dis hR.holds hsel hnd)
  obtain ⟨hs', hR'⟩ := place_ok hR sel _ selH_C (news x) _ hx (selH_le _ _ _) (Ext.refl _ _) (fun b hb => .inl hb) (hok x) (hb x)
  exact ⟨x, hs', hR'⟩
theorem go_ghost {P : Program} {E : Entry} {Q : Exit → St → Prop} {todo : List It} {st : St} (sel : List Nat) {M : List Asn} {X : Type} (news : X → List Res)
    (hsel : sel.map (asnAt st.res) = M.map some) (hnd : sel.Nodup) (himp : ∀ h, Asn.starH M h → ∃ x, Asn.starH ((news x).map Res.asn) h) (hok : ∀ x, newsOk (blkAt (place st.res sel (news x))) (news x)) (hb : ∀ x, blkLe st.res (place st.res sel (news x)))
    (h : ∀ x, Go P E todo ⟨st.fr, place st.res sel (news x), st.ro⟩ Q) : Go P E todo st Q := fun a w hR => by
  obtain ⟨hs, hi, hres⟩ := hR.res
  obtain ⟨x, hs', hR'⟩ := place_ghost hres sel news hsel hnd himp hok hb
  exact h x a w ⟨hR.fr.mono (blkLe_spec (hb x)), hs', hi, hR'⟩
theorem ev_ghost {P : Program} {E : Entry} {Q : Exit → St → Prop} {f : FuncId} {svs : List SV} {d : Option Tmp} {todo : List It} {st : St} (sel : List Nat) {M : List Asn} {X : Type} (news : X → List Res)
    (hsel : sel.map (asnAt st.res) = M.map some) (hnd : sel.Nodup) (himp : ∀ h, Asn.starH M h → ∃ x, Asn.starH ((news x).map Res.asn) h) (hok : ∀ x, newsOk (blkAt (place st.res sel (news x))) (news x)) (hb : ∀ x, blkLe st.res (place st.res sel (news x)))
    (h : ∀ x, outSat P E Q (.call f svs d todo ⟨st.fr, place st.res sel (news x), st.ro⟩)) : outSat P E Q (.call f svs d todo st) := fun w hs hi hR hg => by
  obtain ⟨x, hs', hR'⟩ := place_ghost hR sel news hsel hnd himp hok hb
  refine (h x w hs' hi hR' (SV.goodL_mono (blkLe_spec (hb x)) hg)).mono fun e w' he => ?_
  obtain ⟨sv, st', h1, h2, h3, h4, h5, h6⟩ := he
  exact ⟨sv, st', h1, h2, h3, fun r b e => h4 r b (blkLe_spec (hb x) r b e), h5, h6⟩
end Go.Sy
