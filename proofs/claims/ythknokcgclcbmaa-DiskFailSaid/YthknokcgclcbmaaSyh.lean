/-
  What is proved: loops whose rounds are gone through one by one; what is known of what is held. Conditions: none.
-/
import Derived.Test.YthknokcgclcbmaaSyg
import Derived.LoopN
namespace Go.Sy
open Go.RowKit

def RoundN (P : Program) (E : Entry) (body : Code) (r : List It) (Q : Exit → St → Prop) : Nat → Exit → St → Prop
  | 0, e, st => match e with
    | .normal => False
    | e => wayOut P E r Q e st
  | n + 1, e, st => match e with
    | .normal => Go P E [.c body] st (RoundN P E body r Q n)
    | e => wayOut P E r Q e st
theorem wayOut_ok {P : Program} {E : Entry} {r : List It} {Q : Exit → St → Prop} {e : Exit} {st : St} (he : e ≠ .normal) (h : wayOut P E r Q e st) {a : Act} {w : World} (hR : R E st a w) : post P r (Fin Q E) e a w := by
  cases e with
  | normal => exact absurd rfl he
  | exit id =>
    simp only [wayOut] at h
    split at h
    · rename_i r' hp
      rw [post_pop hp]
      exact h a w hR
    · rename_i hp
      rw [post_exit hp]
      exact ⟨st, h, hR⟩
  | ret => rw [post_ret]; exact ⟨st, h, hR⟩
  | goto l => exact h.elim
  | panic c => exact h.elim
  | outgrown => exact h.elim
/-- a loop of which is known that it ends within so many rounds: these are gone through one by one -/
theorem go_rounds {P : Program} {E : Entry} {Q : Exit → St → Prop} {body : Code} {r : List It} {st : St} (n : Nat) (h : Go P E [.c body] st (RoundN P E body r Q n)) : Go P E (.c (.loop body) :: r) st Q := by
  intro a w hR
  refine wp_loop_rounds (n + 1) ?_
  induction n generalizing st a w with
  | zero =>
    refine Code.wp_mono (fun e a' w' hq => ?_) (h a w hR)
    cases e with
    | normal => obtain ⟨st', hq, _⟩ := hq; exact hq.elim
    | panic c => exact hq.elim
    | outgrown => exact hq.elim
    | exit id => obtain ⟨st', hq, hR'⟩ := hq; exact wayOut_ok (e := .exit id) (by simp) hq hR'
    | ret => obtain ⟨st', hq, hR'⟩ := hq; exact wayOut_ok (Q := Q) (r := r) (e := .ret) (by simp) hq hR'
    | goto l => obtain ⟨st', hq, hR'⟩ := hq; exact wayOut_ok (e := .goto l) (by simp) hq hR'
  | succ n ih =>
    refine Code.wp_mono (fun e a' w' hq => ?_) (h a w hR)
    cases e with
    | normal => obtain ⟨st', hq, hR'⟩ := hq; exact ih hq a' w' hR'
    | panic c => exact hq.elim
    | outgrown => exact hq.elim
    | exit id => obtain ⟨st', hq, hR'⟩ := hq; exact wayOut_ok (e := .exit id) (by simp) hq hR'
    | ret => obtain ⟨st', hq, hR'⟩ := hq; exact wayOut_ok (Q := Q) (r := r) (e := .ret) (by simp) hq hR'
    | goto l => obtain ⟨st', hq, hR'⟩ := hq; exact wayOut_ok (e := .goto l) (by simp) hq hR'
/-- what follows of what is held, or read, is known from there on -/
theorem go_know {P : Program} {E : Entry} {Q : Exit → St → Prop} {todo : List It} {st : St} {p : Prop} (s : Sum Nat Nat) (B : Asn) (hs : has st s B) (hp : ∀ h, B.holds h → p) (h : p → Go P E todo st Q) : Go P E todo st Q := fun a w hR => by
  obtain ⟨hs', hi', hres⟩ := hR.res
  exact h (hp _ (has_holds hs hres)) a w hR
/-- what is held besides stays -/
theorem Triple.frame {P : Program} {f : FuncId} {args : List Value} {M N : List Asn} {X : Type} {ret : X → Value} {good : X → Prop} {post : X → List Asn} (t : Triple P f args M N X ret good post) (F : List Asn) :
    Triple P f args (M ++ F) N X ret good (fun x => post x ++ F) := fun w hm hn h1 h2 h3 h4 h5 => by
  obtain ⟨k1, k2, d, e1, e2, p1, p2⟩ := (starH_append M F).1 h4
  refine (t w k1 hn (e1.trans h1) h2 (h3.mono e1 (Hp.le_refl _)) p1 h5).mono fun e w' ⟨x, hm', q1, q2, q3, q4, q5, q6⟩ => ?_
  have hd : hm'.dis k2 := fun b => by
    cases e1' : hm' b with
    | none => exact .inl rfl
    | some o =>
      right
      rcases q6 b (by rw [e1']; simp) with q | q
      · rcases d b with y | y
        · exact absurd y q
        · exact y
      · exact Hp.le_none (e2.trans h1) (hp_none q)
  have hk : k2.le (hp w') := Ext.keep q5 d (e2.trans h1)
  refine ⟨x, Hp.join hm' k2, q1, q2, (starH_append _ _).2 ⟨hm', k2, hd, Hp.le_join_left _ _, Hp.le_join_right hd, q3, p2⟩, Hp.join_le q4 hk, ?_, fun b hb => ?_⟩
  · exact ⟨q5.os, q5.tape, q5.output, q5.size, fun b hb hn' => q5.block b hb (Hp.le_none e1 hn')⟩
  · have hb' : hm' b ≠ none ∨ k2 b ≠ none := by
      rcases Classical.em (hm' b = none) with c | c
      · right
        intro c2
        exact hb (Hp.join_none.2 ⟨c, c2⟩)
      · exact .inl c
    have up : ∀ k : Hp, k.le hm → k b ≠ none → hm b ≠ none := fun k hk hkb hmb => hkb (Hp.le_none hk hmb)
    rcases hb' with c | c
    · rcases q6 b c with q | q
      · exact .inl (up k1 e1 q)
      · exact .inr q
    · exact .inl (up k2 e2 c)
/-- in a group whose order is open: any of these operations may be next -/
theorem go_fork {P : Program} {E : Entry} {Q : Exit → St → Prop} {ops : Array Oper} {full : Bool} {held : List (Nat × Res)} {ro0 : List Asn} {r : List It} {st : St} {i : Nat} {b : Bool} {p : List (Nat × Bool)} {listed : List Bool} (i1 i2 : Nat) (p1 p2 : List (Nat × Bool)) (o1 o2 : Oper)
    (hh : heldOk held st.res ∧ ro0 = st.ro) (hready : Region.ready .any ops listed.toArray = [i1, i2]) (hl1 : p1.length = p.length) (hl2 : p2.length = p.length) (ho1 : ops.toList[i1]? = some o1) (ho2 : ops.toList[i2]? = some o2)
    (h1 : Go P E (.o ops [o1] :: .d ops full held ro0 p1 (listed.set i1 true) :: r) st Q) (h2 : Go P E (.o ops [o2] :: .d ops full held ro0 p2 (listed.set i2 true) :: r) st Q) :
    Go P E (.d ops full held ro0 ((i, b) :: p) listed :: r) st Q := by
  obtain ⟨hh, hro⟩ := hh
  subst hro
  intro a w hR
  obtain ⟨hs, hi, hres⟩ := hR.res
  refine ⟨fun _ => heldW_of hh hres, ?_⟩
  show wpD P ops (post P r (Fin Q E)) (HeldW held st.ro) full (p.length + 1) listed.toArray a w
  refine ⟨(fun h0 => by (rw [hready] at h0; cases h0)), fun j hj => ?_⟩
  rw [hready] at hj
  have key : ∀ j o q, ops.toList[j]? = some o → q.length = p.length → Go P E (.o ops [o] :: .d ops full held st.ro q (listed.set j true) :: r) st Q →
      wpOp P ops (post P r (Fin Q E)) j (fun a' w' => (needS ops full (listed.toArray.setIfInBounds j true) → HeldW held st.ro w') ∧ wpD P ops (post P r (Fin Q E)) (HeldW held st.ro) full p.length (listed.toArray.setIfInBounds j true) a' w') a w := fun j o q ho hq hgo => by
    have ho' : ops[j]? = some o := by simpa using ho
    refine wpOp_mono (fun a' w' h2 => ?_) (wpOp_of_list (Q := post P (.d ops full held st.ro q (listed.set j true) :: r) (Fin Q E)) (Q' := post P r (Fin Q E)) ho' (fun c a w hq => hq) (fun hl => hl) (hgo a w hR))
    rw [List.setIfInBounds_toArray, ← hq]
    exact h2
  rcases List.mem_cons.1 hj with rfl | hj
  · exact key _ _ _ ho1 hl1 h1
  · rw [List.mem_singleton.1 hj]
    exact key _ _ _ ho2 hl2 h2
/-- a piece of code, and what follows it, one behind the other -/
theorem go_cut {P : Program} {E : Entry} {Q : Exit → St → Prop} {c : Code} {r : List It} {st : St} (st' : St) (h1 : Go P E [.c c] st (fun e s => e = .normal ∧ StLe s st')) (h2 : Go P E r st' Q) : Go P E (.c c :: r) st Q := by
  intro a w hR
  refine Code.wp_mono (fun e a' w' hq => ?_) (h1 a w hR)
  cases e with
  | normal => obtain ⟨s, ⟨_, hq⟩, hR'⟩ := hq; exact h2 a' w' (hq.R hR')
  | exit id => obtain ⟨s, ⟨hq, _⟩, _⟩ := hq; cases hq
  | goto l => obtain ⟨s, ⟨hq, _⟩, _⟩ := hq; cases hq
  | ret => obtain ⟨s, ⟨hq, _⟩, _⟩ := hq; cases hq
  | panic c => exact hq.elim
  | outgrown => exact hq.elim
theorem go_cutF {P : Program} {E : Entry} {Q : Exit → St → Prop} {c : Code} {r : List It} {st : St} (mods : List Nat) (keep : List (Nat × SV)) (res' : List Res)
    (h1 : Go P E [.c c] st (fun e s => e = .normal ∧ StLe s ⟨setF (havoc st.fr mods) keep, res', st.ro⟩)) (h2 : Go P E r ⟨setF (havoc st.fr mods) keep, res', st.ro⟩ Q) : Go P E (.c c :: r) st Q := go_cut _ h1 h2
end Go.Sy
