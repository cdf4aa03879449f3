/-
  What is proved: rows change places; what a row says of its capacity. Conditions: none.
-/
import Derived.Test.YthknokcgclcbmaaSyl
namespace Go.Sy
open Go

theorem Row.cap {e sz n c : Nat} {A : Option Addr} {cs : List Value} {h : Hp} (p : (Row e sz A n c cs).holds h) : n ≤ c := by
  rcases p.2.2 with ⟨_, h, _⟩ | ⟨_, _, _, _, h, _⟩ <;> omega
theorem move_star {A B : Asn} {h : Hp} (q : Asn.starH [A, B] h) : Asn.starH ([Res.fact B, Res.dead none].map Res.asn) h := by
  obtain ⟨_, h2, _, _, b, _, q⟩ := q
  exact ⟨h2, Hp.emp, Hp.dis_emp _, b, Hp.emp_le _, starH_one.1 q, starH_one.2 trivial⟩
/-- what lies at j comes to i's place, what was there is forgotten -/
theorem go_move {P : Program} {E : Entry} {Q : Exit → St → Prop} {todo : List It} {st : St} (i j : Nat) {A B : Asn} (hij : i ≠ j) (hi : st.res[i]? = some (.fact A)) (hj : st.res[j]? = some (.fact B))
    (hb : blkLe st.res (place st.res [i, j] [.fact B, .dead none])) (h : Go P E todo ⟨st.fr, place st.res [i, j] [.fact B, .dead none], st.ro⟩ Q) : Go P E todo st Q := by
  refine go_ghost [i, j] (M := [A, B]) (X := Unit) (fun _ => [.fact B, .dead none]) (by simp [asnAt_fact hi, asnAt_fact hj]) (by simp [hij]) (fun h q => ⟨(), move_star q⟩) (fun _ => newsOk_fact fun x hx => by rw [List.mem_singleton.1 hx]; trivial) (fun _ => hb) (fun _ => h)
/-- what is read is read out of a row of one's own -/
theorem Triple.ofRow {P : Program} {f : FuncId} {args : List Value} {M : List Asn} {X : Type} {ret : X → Value} {good : X → Prop} {post : X → List Asn} {sz n : Nat} {A : Option Addr} {cs : List Value} (e c : Nat) (t : Triple P f args M [Rd sz A n cs] X ret good post) : Triple P f args M [Row e sz A n c cs] X ret good post :=
  t.reads fun _ hX => by
    rw [List.mem_singleton.1 hX]
    exact ⟨_, List.mem_singleton.2 rfl, fun _ q => Row.rd q⟩
/-- the same at a round's end -/
theorem ev_move {P : Program} {E : Entry} {r : List It} {Q : Exit → St → Prop} {ι : Type} {I : ι → St} {Pre : ι → Prop} {m : ι → Nat} {i0 : ι} {st : St} (i j : Nat) {A B : Asn} (hij : i ≠ j) (hi : st.res[i]? = some (.fact A)) (hj : st.res[j]? = some (.fact B))
    (hb : blkLe st.res (place st.res [i, j] [.fact B, .dead none])) (h : outSat P E (Round P E r Q I Pre m i0) (.fin .normal ⟨st.fr, place st.res [i, j] [.fact B, .dead none], st.ro⟩)) : outSat P E (Round P E r Q I Pre m i0) (.fin .normal st) := fun a w hR => by
  have g : Round P E r Q I Pre m i0 .normal ⟨st.fr, place st.res [i, j] [.fact B, .dead none], st.ro⟩ := h
  obtain ⟨hs, hi', hres⟩ := hR.res
  obtain ⟨x, hs', hR'⟩ := place_ghost hres [i, j] (M := [A, B]) (X := Unit) (fun _ => [.fact B, .dead none]) (by simp [asnAt_fact hi, asnAt_fact hj]) (by simp [hij]) (fun h q => ⟨(), move_star q⟩) (fun _ => newsOk_fact fun x hx => by rw [List.mem_singleton.1 hx]; trivial) (fun _ => hb)
  exact g a w ⟨hR.fr.mono (blkLe_spec hb), hs', hi', hR'⟩
end Go.Sy
