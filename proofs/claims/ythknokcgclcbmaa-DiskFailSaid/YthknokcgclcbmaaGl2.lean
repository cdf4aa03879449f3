/-
  What is proved: what an argument looks like in cells, by its type. Conditions: none.
-/
import Derived.Test.YthknokcgclcbmaaGl1
import Derived.ChangeArms
namespace Go.Sy
open Go.RowKit Go.ChangeShapes Go.WideShapes

/-- what cells of a type are, and what lies behind their slices; so deep -/
def Sees (T : Tab) (w : World) : Nat → TypeId → List Value → Prop
  | 0, _, _ => True
  | F + 1, t, cs => match (te T t).map (fun e : TE => e.k) with
    | some (TK.int k) => ∃ n, cs = [.int k n] ∧ (Lit.int k n).wf = true
    | some TK.bool => ∃ b, cs = [.bool b]
    | some TK.string => ∃ s : ByteArray, cs = [.string s] ∧ s.size ≤ maxLen
    | some (TK.slice el) => cs = [.slice none 0 0] ∨ ∃ a n c, cs = [.slice (some a) n c] ∧ n ≤ c ∧ c ≤ maxLen ∧
        ∀ e', te T el = some e' → ∀ i, i < n → ∃ vs, w.cells? 0 (a.add (i * e'.size)) e'.size = some vs ∧ Sees T w F el vs
    | some (TK.struct fs) => ∀ f ∈ fs, ∀ e', te T f.2 = some e' → Sees T w F f.2 ((cs.drop f.1).take e'.size)
    | _ => True
theorem cellsOf_te {P : Program} {T : Tab} (hT : TabOk P T) {t : TypeId} {e : TE} (h : te T t = some e) : P.cellsOf t = e.size := by
  obtain ⟨i, u, z, h1, _, _, _, h2, _⟩ := te_spec hT h
  simp [Program.cellsOf, h1, h2]
theorem sees_of_trod {H : Type} {enc : TypeId × Value → H} {P : Program} {T : Tab} (hT : TabOk P T) {w : World} {sp : Nat → Bool} {held : Bool} :
    ∀ (F fuel : Nat) (t : TypeId) (cs : List Value) (x : DataW H × List MemPlace), DataW.trod enc P w 0 sp held fuel t cs = some x → Sees T w F t cs
  | 0, _, _, _, _, _ => trivial
  | F + 1, fuel, t, cs, x, h => by
    unfold Sees
    cases ht : te T t with
    | none => trivial
    | some e =>
      obtain ⟨i, u, z, hi, hu, hz, hk, hs, _⟩ := te_spec hT ht
      simp only [Option.map_some, hk]
      cases u with
      | int k =>
        obtain ⟨n, h1, _, h2⟩ := DataW.trod_int hu h
        exact ⟨n, h1, h2⟩
      | bool =>
        obtain ⟨b, h1, _⟩ := DataW.trod_bool hu h
        exact ⟨b, h1⟩
      | string =>
        obtain ⟨s, h1, _, h2⟩ := DataW.trod_string hu h
        exact ⟨s, h1, h2⟩
      | slice el =>
        rcases DataW.trod_slice hu h with ⟨h1, _⟩ | ⟨a, n, c, elems, rest, m, _, h1, _, _, h2, h3, h4, h5, _, _⟩
        · exact .inl h1
        · refine .inr ⟨a, n, c, h1, h2, h3, fun e' he' j hj => ?_⟩
          have h6 := h5 j hj
          rw [cellsOf_te hT he'] at h6
          have hlt : j < elems.length := by omega
          rw [List.getElem?_eq_getElem hlt] at h6
          cases hc : w.cells? 0 (a.add (j * e'.size)) e'.size with
          | none => rw [hc] at h6; cases h6
          | some vs =>
            rw [hc] at h6
            exact ⟨vs, rfl, sees_of_trod hT F m el vs _ h6⟩
      | struct fs =>
        obtain ⟨xs, n, _, _, hlen, hxl, hf⟩ := DataW.trod_struct hu h
        intro f hf' e' he'
        obtain ⟨g, hg, rfl⟩ := List.mem_map.1 hf'
        obtain ⟨j, hj⟩ := List.mem_iff_getElem?.1 hg
        have h6 := hf j g (by simpa using hj)
        rw [cellsOf_te hT he'] at h6
        have hlt : j < xs.length := by
          have := (List.getElem?_eq_some_iff.1 hj).1
          simp at this
          omega
        rw [List.getElem?_eq_getElem hlt] at h6
        exact sees_of_trod hT F n g.type _ _ h6
      | _ => trivial
end Go.Sy
