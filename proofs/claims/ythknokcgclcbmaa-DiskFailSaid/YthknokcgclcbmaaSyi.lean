/-
  What is proved: a call that is walked through where it stands; calls whose result is held as facts; what is read, told otherwise. Conditions: none.
-/
import Derived.Test.YthknokcgclcbmaaSyh
namespace Go.Sy
open Go.RowKit

def retSV : List SV → SV
  | [x] => x
  | l => .tu l
theorem retSV_den (l : List SV) : (retSV l).den = retV l := by
  match l with
  | [] => rfl
  | [_] => rfl
  | _ :: _ :: _ => rfl
theorem retS_good {T : Tab} {E : Entry} {st : St} {ro : List Asn} {w : World} {hs : Nat → Hp} {hi : Hp} (hR : ResOk E st.res ro w hs hi) (hg : ∀ x ∈ st.fr, x.good (blkAt st.res)) : ∀ (l : List ResultVar) {svs : List SV}, retS T st l = some svs → SV.goodL (blkAt st.res) svs := by
  intro l
  induction l with
  | nil => intro svs h; simp only [retS] at h; cases h; trivial
  | cons x l ih =>
    intro svs h
    cases x with
    | tmp t =>
      simp only [retS] at h
      split at h
      · cases h
      · rename_i y r _ h1 h2
        cases h
        exact ⟨hg _ (List.mem_of_getElem? h1), ih h2⟩
      · cases h
    | cell a t =>
      simp only [retS] at h
      split at h
      · rename_i r b off e h1 h2
        split at h
        · rename_i t' cs hb
          split at h
          · rename_i y q h3 h4
            cases h
            obtain ⟨b', hb'⟩ := boxAt_spec hb
            exact ⟨loadS_good h3 (hR.cells _ (List.mem_of_getElem? hb')).1, ih h4⟩
          · cases h
        · cases h
      · cases h
theorem retSV_good {β : Nat → Option Nat} {l : List SV} (h : SV.goodL β l) : (retSV l).good β := by
  match l, h with
  | [], _ => trivial
  | [_], h => exact h.1
  | _ :: _ :: _, h => exact h

/-- at the end of a call that is walked through where it stands -/
def Inl (P : Program) (T : Tab) (E : Entry) (fn : Func) (st : St) (d : Option Tmp) (todo : List It) (Q : Exit → St → Prop) : Exit → St → Prop := fun e st' =>
  (match e with | .normal => True | .ret => True | _ => False) ∧ blkLe st.res st'.res ∧ ∃ svs, retS T st' fn.results.toList = some svs ∧ Go P E todo (St.put ⟨st.fr, st'.res, st'.ro⟩ d (retSV svs)) Q
theorem ev_inline {P : Program} {T : Tbs} (hT : TbsOk P T) {E : Entry} {Q : Exit → St → Prop} {f : FuncId} {fn : Func} {c : Code} (hf : P.funcs[f]? = some fn) (hb : fn.body = some c) {svs : List SV} {d : Option Tmp} {todo : List It} {st : St} (hno : noNo svs = true)
    (h : Go P E [.c c] ⟨svs ++ List.replicate (fn.ntmps - svs.length) (.va undef), st.res, st.ro⟩ (Inl P T.tab E fn st d todo Q)) : outSat P E Q (.call f svs d todo st) := by
  intro w hs hi hres hgood
  refine calls_of_wp hf hb (Code.wp_mono (fun e a w' hq => ?_) (h { tmps := (SV.denL svs).toArray ++ Array.replicate (fn.ntmps - (SV.denL svs).toArray.size) undef, defers := [] } w ⟨⟨?_, ?_, ?_, rfl⟩, _, _, hres⟩))
  · have key : ∀ stc, (blkLe st.res stc.res ∧ ∃ svs, retS T.tab stc fn.results.toList = some svs ∧ Go P E todo (St.put ⟨st.fr, stc.res, stc.ro⟩ d (retSV svs)) Q) → R E stc a w' → a.defers = [] ∧ ∃ v, (results fn a.tmps).run P w' = .ok v w' ∧
        ∃ (sv : SV) (st' : St), Ending.returned v = .returned sv.den ∧ sv.good (blkAt st'.res) ∧ st'.fr = st.fr ∧ (∀ r b, blkAt st.res r = some b → blkAt st'.res r = some b) ∧ (∃ hs hi, ResOk E st'.res st'.ro w' hs hi) ∧ Go P E todo (st'.put d sv) Q := by
      rintro stc ⟨hblk, svs', hsv, hgo⟩ hR
      obtain ⟨hs', hi', hres'⟩ := hR.res
      exact ⟨hR.fr.defers, _, results_ok hT.tab hR hsv, retSV svs', ⟨st.fr, stc.res, stc.ro⟩, by rw [retSV_den], retSV_good (retS_good hres' hR.fr.good _ hsv), rfl, blkLe_spec hblk, ⟨_, _, hres'⟩, hgo⟩
    cases e with
    | normal => obtain ⟨stc, ⟨_, hq⟩, hR⟩ := hq; exact key stc hq hR
    | ret => obtain ⟨stc, ⟨_, hq⟩, hR⟩ := hq; exact key stc hq hR
    | exit id => obtain ⟨stc, ⟨hf, _⟩, _⟩ := hq; exact hf.elim
    | goto id => obtain ⟨stc, ⟨hf, _⟩, _⟩ := hq; exact hf.elim
    | panic c => exact hq.elim
    | outgrown => exact hq.elim
  · simp [SV.denL_eq]
  · intro t x hx
    simp only [Array.getD_eq_getD_getElem?, List.getElem?_append] at hx ⊢
    by_cases hl : t < svs.length
    · rw [if_pos hl] at hx
      have hnx : x ≠ .no := fun e => by
        have := List.all_eq_true.1 hno x (List.mem_of_getElem? hx)
        rw [e] at this; cases this
      have : ((SV.denL svs).toArray ++ Array.replicate (fn.ntmps - (SV.denL svs).toArray.size) undef)[t]? = some x.den := by
        rw [Array.getElem?_append_left (by simpa [SV.denL_eq] using hl)]
        simp [SV.denL_eq, hx]
      rw [this]
      exact SV.is_den x
    · rw [if_neg hl] at hx
      rw [List.getElem?_replicate] at hx
      split at hx
      · cases hx
        have : ((SV.denL svs).toArray ++ Array.replicate (fn.ntmps - (SV.denL svs).toArray.size) undef)[t]?.getD undef = undef := by
          rw [Array.getElem?_append_right (by simp [SV.denL_eq]; omega)]
          rw [Array.getElem?_replicate]
          split <;> rfl
        rw [this]
        rfl
      · cases hx
  · intro x hx
    rcases List.mem_append.1 hx with hx | hx
    · exact (SV.goodL_iff _ _).1 hgood x hx
    · rw [List.eq_of_mem_replicate hx]; trivial

theorem facts_asn (l : List Asn) : (l.map Res.fact).map Res.asn = l := by
  induction l with
  | nil => rfl
  | cons x l ih => simp [Res.asn, ih]
theorem facts_ok (β : Nat → Option Nat) (l : List Asn) : newsOk β (l.map Res.fact) := fun x hx => by
  obtain ⟨A, _, rfl⟩ := List.mem_map.1 hx
  trivial
/-- a call of which a triple is known: what it hands back is held as facts -/
theorem ev_callF {P : Program} {f : FuncId} {args : List Value} {M N : List Asn} {X : Type} {ret : X → Value} {good : X → Prop} {after : X → List Asn} (T : Triple P f args M N X ret good after)
    {E : Entry} {Q : Exit → St → Prop} {svs : List SV} {d : Option Tmp} {todo : List It} {st : St} (sel : List Nat) (nsel : List (Sum Nat Nat))
    (hargs : SV.denL svs = args) (hsel : sel.map (asnAt st.res) = M.map some) (hnd : sel.Nodup) (hn : nsel.map (lent st) = N.map some) (hapart : ∀ i, Sum.inr i ∈ nsel → i ∉ sel)
    (hb : ∀ x, blkLe st.res (place st.res sel ((after x).map .fact)))
    (h : ∀ x, good x → Go P E todo (St.put ⟨st.fr, place st.res sel ((after x).map .fact), st.ro⟩ d (normV (ret x))) Q) : outSat P E Q (.call f svs d todo st) :=
  ev_call T sel nsel (fun x => (after x).map .fact) hargs hsel hnd hn hapart (fun _x => facts_asn _) (fun _x => facts_ok _ _) hb h

/-- what is read says more -/
theorem go_more {P : Program} {E : Entry} {Q : Exit → St → Prop} {todo : List It} {st : St} (i : Nat) (A B : Asn) (hi : st.ro[i]? = some A) (hAB : ∀ h, A.holds h → B.holds h) (h : Go P E todo ⟨st.fr, st.res, st.ro ++ [B]⟩ Q) : Go P E todo st Q := fun a w hR => by
  obtain ⟨hs, hi', hres⟩ := hR.res
  refine h a w ⟨hR.fr, hs, hi', hres.le, hres.dis, hres.holds, hres.rle, hres.rdis, fun C hC => ?_, hres.ext, hres.old, hres.cells⟩
  rcases List.mem_append.1 hC with hC | hC
  · exact hres.rholds C hC
  · obtain rfl := List.mem_singleton.1 hC
    exact hAB _ (hres.rholds A (List.mem_of_getElem? hi))
end Go.Sy
