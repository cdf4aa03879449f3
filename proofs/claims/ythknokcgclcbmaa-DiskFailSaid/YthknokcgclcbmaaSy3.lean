/-
  What is proved: how what is held turns by a new row, a store, a call; loads and stores of rows that the machine knows. Conditions: none.
-/
import Derived.Test.YthknokcgclcbmaaSy2
namespace Go.Sy
open Go.RowKit

def upd (hs : Nat → Hp) (i : Nat) (h : Hp) : Nat → Hp := fun j => if j = i then h else hs j

theorem blkAt_append (l m : List Res) : ∀ r b, blkAt l r = some b → blkAt (l ++ m) r = some b := fun r b h => by
  unfold blkAt at *
  cases e : l[r]? with
  | none => rw [e] at h; cases h
  | some x =>
    rw [List.getElem?_append_left (List.getElem?_eq_some_iff.1 e).1, e]
    rw [e] at h
    exact h

/-- what turns is in hm, or new; it belongs to the resources of which C speaks -/
theorem ResOk.step {E : Entry} {res res' : List Res} {ro : List Asn} {w w' : World} {hs hs' : Nat → Hp} {hi : Hp} (h : ResOk E res ro w hs hi) (hm : Hp) (C : Nat → Prop)
    (e : Ext hm w w') (hmC : ∀ b, hm b ≠ none → ∃ i, C i ∧ hs i b ≠ none) (same : ∀ i, ¬ C i → hs' i = hs i)
    (le' : ∀ i, C i → (hs' i).le (hp w')) (new : ∀ i, C i → ∀ b, hs' i b ≠ none → hm b ≠ none ∨ w.heap.size ≤ b)
    (dis' : ∀ i j, C i → C j → i ≠ j → (hs' i).dis (hs' j)) (holds' : ∀ (i : Nat) (x : Res), res'[i]? = some x → x.asn.holds (hs' i))
    (cells' : ∀ x ∈ res', x.cellsOk (blkAt res')) : ResOk E res' ro w' hs' hi := by
  have key : ∀ i b, ¬ C i → hm b ≠ none → hs i b = none := fun i b hc hb => by
    obtain ⟨j, hj, hn⟩ := hmC b hb
    rcases h.dis i j (fun e => hc (e ▸ hj)) b with x | x
    · exact x
    · exact absurd x hn
  have keyi : ∀ b, hm b ≠ none → hi b = none := fun b hb => by
    obtain ⟨j, hj, hn⟩ := hmC b hb
    rcases h.rdis j b with x | x
    · exact absurd x hn
    · exact x
  have far : ∀ i, C i → ∀ (k : Hp), k.le (hp w) → (∀ b, hm b ≠ none → k b = none) → (hs' i).dis k := fun i hc k hk hn b => by
    by_cases x : hs' i b = none
    · exact .inl x
    · right
      rcases new i hc b x with y | y
      · exact hn b y
      · exact Hp.le_none hk (hp_none y)
  have disK : ∀ (k : Hp), (∀ b, hm b ≠ none → k b = none) → hm.dis k := fun k hn b => by
    by_cases x : hm b = none
    · exact .inl x
    · exact .inr (hn b x)
  refine ⟨fun i => ?_, fun i j hij => ?_, holds', ?_, fun i => ?_, h.rholds, ?_, fun i b hb => ?_, cells'⟩
  · by_cases c : C i
    · exact le' i c
    · rw [same i c]; exact e.keep (disK _ (fun b => key i b c)) (h.le i)
  · by_cases c : C i <;> by_cases d : C j
    · exact dis' i j c d hij
    · rw [same j d]; exact far i c _ (h.le j) (fun b => key j b d)
    · rw [same i c]; exact (far j d _ (h.le i) (fun b => key i b c)).symm
    · rw [same i c, same j d]; exact h.dis i j hij
  · exact e.keep (disK _ keyi) h.rle
  · by_cases c : C i
    · exact far i c _ h.rle keyi
    · rw [same i c]; exact h.rdis i
  · refine h.ext.trans' e (fun b hb => ?_)
    obtain ⟨j, hj, hn⟩ := hmC b hb
    exact h.old j b hn
  · by_cases c : C i
    · rcases new i c b hb with x | x
      · obtain ⟨j, hj, hn⟩ := hmC b x
        exact h.old j b hn
      · exact .inr (Nat.le_trans h.ext.size x)
    · rw [same i c] at hb; exact h.old i b hb

theorem den_one {cs : List SV} (h : ∀ x ∈ cs, x.den.oneCell' = true) : ∀ c ∈ SV.denL cs, c.oneCell' = true := fun c hc => by
  rw [SV.denL_eq, List.mem_map] at hc
  obtain ⟨x, hx, rfl⟩ := hc
  exact h x hx
theorem Ext.alloc (w : World) (o : Obj) : Ext Hp.emp w (w.alloc o) := ⟨rfl, rfl, rfl, by simp, fun b hb _ => Below.heap_alloc w o b hb⟩
theorem hp_alloc (w : World) (o : Obj) : hp (w.alloc o) w.heap.size = some o := heap_alloc_new w o

/-- a new row -/
theorem ResOk.alloc {E : Entry} {res : List Res} {ro : List Asn} {w : World} {hs : Nat → Hp} {hi : Hp} (h : ResOk E res ro w hs hi) (t : TypeId) (cs : List SV)
    (hg : SV.goodL (blkAt res) cs) (h1 : ∀ x ∈ cs, x.den.oneCell' = true) :
    ResOk E (res ++ [.box w.heap.size t cs]) ro (w.alloc (.cells (SV.denL cs).toArray t)) (upd hs res.length (Hp.one w.heap.size (.cells (SV.denL cs).toArray t))) hi := by
  refine h.step Hp.emp (fun i => i = res.length) (Ext.alloc w _) (fun b hb => absurd rfl hb) (fun i hi => if_neg hi) ?_ ?_ ?_ ?_ ?_
  · rintro i rfl
    simp only [upd, if_true]
    exact Hp.one_le (hp_alloc w _)
  · rintro i rfl b hb
    right
    simp only [upd, if_true] at hb
    by_cases x : b = w.heap.size
    · omega
    · exact absurd (Hp.one_none x) hb
  · rintro i j rfl rfl hij; exact absurd rfl hij
  · intro i x hx
    by_cases c : i = res.length
    · subst c
      rw [List.getElem?_append_right (Nat.le_refl _)] at hx
      simp at hx
      subst hx
      simp only [upd, if_true, Res.asn, Pt]
      exact ⟨Hp.one_self _ _, den_one h1⟩
    · have hl : i < res.length := by
        have := (List.getElem?_eq_some_iff.1 hx).1
        simp at this; omega
      rw [List.getElem?_append_left hl] at hx
      simp only [upd, if_neg c]
      exact h.holds i x hx
  · intro x hx
    rcases List.mem_append.1 hx with hx | hx
    · have := h.cells x hx
      cases x with
      | box b t c => exact ⟨SV.goodL_mono (blkAt_append _ _) this.1, this.2⟩
      | fact A => trivial
      | dead b => trivial
    · simp at hx
      subst hx
      exact ⟨SV.goodL_mono (blkAt_append _ _) hg, h1⟩

theorem blkAt_set (l : List Res) (r : Nat) (x : Res) (h : ∀ y, l[r]? = some y → y.blk = x.blk) : blkAt (l.set r x) = blkAt l := by
  funext i
  unfold blkAt
  by_cases e : r = i
  · subst e
    cases hl : l[r]? with
    | none =>
      rw [List.getElem?_eq_none_iff] at hl
      rw [List.getElem?_eq_none (by simpa using hl)]
    | some y =>
      have hlt := (List.getElem?_eq_some_iff.1 hl).1
      rw [List.getElem?_set_self hlt]
      exact (h y hl).symm
  · rw [List.getElem?_set_ne e]

def splice (cells : List SV) (off : Nat) (cs : List SV) : List SV := cells.take off ++ (cs ++ cells.drop (off + cs.length))
theorem mem_splice {cells cs : List SV} {off : Nat} {x : SV} (h : x ∈ splice cells off cs) : x ∈ cells ∨ x ∈ cs := by
  unfold splice at h
  rcases List.mem_append.1 h with h | h
  · exact .inl (List.mem_of_mem_take h)
  · rcases List.mem_append.1 h with h | h
    · exact .inr h
    · exact .inl (List.mem_of_mem_drop h)

/-- a store into a row that the machine knows -/
theorem ResOk.store {E : Entry} {res : List Res} {ro : List Asn} {w : World} {hs : Nat → Hp} {hi : Hp} (h : ResOk E res ro w hs hi) {r b : Nat} {t : TypeId} {cells : List SV}
    (hr : res[r]? = some (.box b t cells)) (off : Nat) (cs : List SV) (hg : SV.goodL (blkAt res) cs) (h1 : ∀ x ∈ cs, x.den.oneCell' = true) (hl : off + cs.length ≤ cells.length) (P : Program) :
    (storeCells ⟨b, off, none⟩ (SV.denL cs)).run P w = .ok () (w.setRow b (SV.denL (splice cells off cs)).toArray) ∧
    ResOk E (res.set r (.box b t (splice cells off cs))) ro (w.setRow b (SV.denL (splice cells off cs)).toArray) (upd hs r (Hp.one b (.cells (SV.denL (splice cells off cs)).toArray t))) hi := by
  have hb : hs r b = some (.cells (SV.denL cells).toArray t (0, 0)) := (h.holds r _ hr).1
  have hnew : ∀ x ∈ splice cells off cs, x.den.oneCell' = true := fun x hx => by
    rcases mem_splice hx with hx | hx
    · exact (h.cells _ (List.mem_of_getElem? hr)).2 x hx
    · exact h1 x hx
  have hw : w.heap[b]? = some (.cells (SV.denL cells).toArray t (0, 0)) := h.le r b _ hb
  have hrl := (List.getElem?_eq_some_iff.1 hr).1
  refine ⟨?_, ?_⟩
  · have := run_storeCells_at P b off t (SV.denL cs) 0 _ w hw (by simp [SV.denL_eq]; omega) (fun v hv => by
      rw [SV.denL_eq, List.mem_map] at hv
      obtain ⟨x, hx, rfl⟩ := hv
      exact h1 x hx)
    simp only [Nat.add_zero] at this
    rw [this]
    congr 2
    simp [SV.denL_eq, splice]
  · have hn : hp (w.setRow b (SV.denL (splice cells off cs)).toArray) b = some (.cells (SV.denL (splice cells off cs)).toArray t) := setRow_heap w b _ _ t _ hw
    refine h.step (Hp.one b (.cells (SV.denL cells).toArray t)) (fun i => i = r) ⟨rfl, rfl, rfl, by simp [World.setRow], fun k _ hk => setRow_other w b k _ (fun e => by subst e; rw [Hp.one_self] at hk; cases hk)⟩ ?_ (fun i hi => if_neg hi) ?_ ?_ ?_ ?_ ?_
    · intro c hc
      by_cases x : c = b
      · subst x; exact ⟨r, rfl, by rw [hb]; simp⟩
      · exact absurd (Hp.one_none x) hc
    · rintro i rfl
      simp only [upd, if_true]
      exact Hp.one_le hn
    · rintro i rfl c hc
      left
      simp only [upd, if_true] at hc
      by_cases x : c = b
      · subst x; rw [Hp.one_self]; simp
      · exact absurd (Hp.one_none x) hc
    · rintro i j rfl rfl hij; exact absurd rfl hij
    · intro i x hx
      rw [List.getElem?_set] at hx
      by_cases c : r = i
      · subst c
        simp only [if_true, hrl] at hx
        cases hx
        simp only [upd, if_true, Res.asn, Pt]
        exact ⟨Hp.one_self _ _, den_one hnew⟩
      · rw [if_neg c] at hx
        simp only [upd, if_neg (Ne.symm c)]
        exact h.holds i x hx
    · rw [blkAt_set _ _ _ (fun y hy => by rw [hr] at hy; cases hy; rfl)]
      intro x hx
      rcases List.mem_or_eq_of_mem_set hx with hx | hx
      · exact h.cells x hx
      · subst hx
        have hc := h.cells _ (List.mem_of_getElem? hr)
        refine ⟨(SV.goodL_iff _ _).2 fun y hy => ?_, fun y hy => ?_⟩
        · rcases mem_splice hy with hy | hy
          · exact (SV.goodL_iff _ _).1 hc.1 y hy
          · exact (SV.goodL_iff _ _).1 hg y hy
        · rcases mem_splice hy with hy | hy
          · exact hc.2 y hy
          · exact h1 y hy

theorem isAgg_run (P : Program) (w : World) {t : TypeId} {u : TypeDesc} (hu : P.underlying t = some u) : (isAgg t).run P w = .ok (tkOf u).isAgg w := by
  unfold isAgg
  rw [Sem.run_bind, run_underlying hu]
  cases u <;> rfl

/-- a load out of a row that the machine knows -/
def loadS (e : TE) (cells : List SV) (off : Nat) : Option SV :=
  if e.k.isAgg then if off + e.size ≤ cells.length then some (.ag ((cells.drop off).take e.size)) else none else cells[off]?
theorem loadS_ok {P : Program} {T : Tab} (hT : TabOk P T) {t : TypeId} {e : TE} (ht : te T t = some e) {w : World} {b : Nat} {t' : TypeId} {cells : List SV} {off : Nat} {x : SV}
    (hw : w.heap[b]? = some (.cells (SV.denL cells).toArray t' (0, 0))) (hx : loadS e cells off = some x) : (loadVar t ⟨b, off, none⟩).run P w = .ok x.den w := by
  obtain ⟨i, u, z, hi, hu, hz, hk, hs, _, _⟩ := te_spec hT ht
  unfold loadVar
  rw [Sem.run_bind, isAgg_run P w hu]
  simp only [Result.andThen_ok]
  unfold loadS at hx
  rw [hk] at hx
  have hadd : ∀ j, (⟨b, off, none⟩ : Addr).add j = ⟨b, off + j, none⟩ := fun j => by unfold Addr.add; split <;> simp_all
  have hcell : ∀ j, w.cell? ⟨b, j, none⟩ = (SV.denL cells)[j]? := fun j => by rw [cell_of_row w b j _ t' (0, 0) hw]; simp
  cases ha : (tkOf u).isAgg
  · rw [ha] at hx
    simp only [Bool.false_eq_true, if_false] at hx ⊢
    rw [run_load, hcell, SV.denL_eq, List.getElem?_map, hx]
    rfl
  · rw [ha] at hx
    simp only [if_true] at hx ⊢
    split at hx
    · rename_i hl
      cases hx
      have hsz : (sizeOf t).run P w = .ok i.size w := by simp [sizeOf, typeInfo, hi]
      have h2 := run_loadCells_list (P := P) w ⟨b, off, none⟩ (SV.denL ((cells.drop off).take e.size)) (fun j v hv => by
        rw [hadd, hcell]
        rw [SV.denL_eq, List.getElem?_map, List.getElem?_take, List.getElem?_drop] at hv
        rw [SV.denL_eq, List.getElem?_map]
        split at hv
        · exact hv
        · cases hv)
      have hlen : (SV.denL ((cells.drop off).take e.size)).length = i.size := by rw [SV.denL_eq, List.length_map, List.length_take, List.length_drop, ← hs]; omega
      rw [hlen] at h2
      simp [hsz, h2, SV.den]
    · cases hx

end Go.Sy
