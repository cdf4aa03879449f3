/-
  What is proved: general facts about pieces of memory, assertions on them and triples for calls, over any program. Conditions: none.
-/
import Derived.WalkKit
import Derived.OrdersHeld
namespace Go.Sy
open Go.RowKit

/-- a piece of memory -/
abbrev Hp := Nat → Option Obj
namespace Hp
def emp : Hp := fun _ => none
def le (h k : Hp) : Prop := ∀ b o, h b = some o → k b = some o
def dis (h k : Hp) : Prop := ∀ b, h b = none ∨ k b = none
def join (h k : Hp) : Hp := fun b => (h b).or (k b)
def one (b : Nat) (o : Obj) : Hp := fun c => if c = b then some o else none

theorem le_refl (h : Hp) : le h h := fun _ _ e => e
theorem le.trans {h k l : Hp} (a : le h k) (b : le k l) : le h l := fun x o e => b x o (a x o e)
theorem emp_le (h : Hp) : le emp h := fun _ _ e => by cases e
theorem dis.symm {h k : Hp} (a : dis h k) : dis k h := fun b => (a b).symm
theorem emp_dis (h : Hp) : dis emp h := fun _ => .inl rfl
theorem dis_emp (h : Hp) : dis h emp := fun _ => .inr rfl
theorem dis.mono {h k h' k' : Hp} (a : dis h k) (e1 : le h' h) (e2 : le k' k) : dis h' k' := fun b => by
  rcases a b with e | e
  · left
    cases x : h' b with
    | none => rfl
    | some o => rw [e1 b o x] at e; cases e
  · right
    cases x : k' b with
    | none => rfl
    | some o => rw [e2 b o x] at e; cases e
theorem le_join_left (h k : Hp) : le h (join h k) := fun b o e => by simp [join, e]
theorem le_join_right {h k : Hp} (d : dis h k) : le k (join h k) := fun b o e => by
  rcases d b with x | x
  · simp [join, x, e]
  · rw [x] at e; cases e
theorem join_le {h k l : Hp} (a : le h l) (b : le k l) : le (join h k) l := fun c o e => by
  unfold join at e
  cases x : h c with
  | none => rw [x] at e; exact b c o (by simpa using e)
  | some p => rw [x] at e; simp at e; subst e; exact a c p x
theorem join_none {h k : Hp} {b : Nat} : join h k b = none ↔ h b = none ∧ k b = none := by
  unfold join; cases h b <;> simp
theorem join_dis {h k l : Hp} (a : dis h l) (b : dis k l) : dis (join h k) l := fun c => by
  rcases a c with x | x
  · rcases b c with y | y
    · exact .inl (join_none.2 ⟨x, y⟩)
    · exact .inr y
  · exact .inr x
theorem one_le {b : Nat} {o : Obj} {h : Hp} (e : h b = some o) : le (one b o) h := fun c p x => by
  unfold one at x
  split at x
  · rename_i hc; subst hc; cases x; exact e
  · cases x
theorem one_dis {b : Nat} {o : Obj} {h : Hp} (e : h b = none) : dis (one b o) h := fun c => by
  unfold one
  by_cases x : c = b
  · subst x; exact .inr e
  · exact .inl (if_neg x)
theorem one_self (b : Nat) (o : Obj) : one b o b = some o := if_pos rfl
theorem one_none {b c : Nat} {o : Obj} (h : c ≠ b) : one b o c = none := if_neg h
theorem le_none {h k : Hp} (a : le h k) {b : Nat} (e : k b = none) : h b = none := by
  cases x : h b with
  | none => rfl
  | some o => rw [a b o x] at e; cases e
end Hp

/-- a world's whole memory -/
def hp (w : World) : Hp := fun b => w.heap[b]?
theorem hp_lt {w : World} {b : Nat} {o : Obj} (h : hp w b = some o) : b < w.heap.size := by
  rcases Nat.lt_or_ge b w.heap.size with x | x
  · exact x
  · unfold hp at h; rw [Array.getElem?_eq_none x] at h; cases h
theorem hp_none {w : World} {b : Nat} (h : w.heap.size ≤ b) : hp w b = none := Array.getElem?_eq_none h
theorem hp_of_ne {w : World} {h : Hp} (e : h.le (hp w)) {b : Nat} (x : h b ≠ none) : b < w.heap.size := by
  cases y : h b with
  | none => exact absurd y x
  | some o => exact hp_lt (e b o y)

/-- an assertion on a piece of memory: it holds of each greater piece -/
structure Asn where
  holds : Hp → Prop
  mono : ∀ {h k : Hp}, h.le k → holds h → holds k

namespace Asn
def tt : Asn := ⟨fun _ => True, fun _ h => h⟩
def pure (p : Prop) : Asn := ⟨fun _ => p, fun _ h => h⟩
def ex {α : Type} (A : α → Asn) : Asn := ⟨fun h => ∃ x, (A x).holds h, fun e ⟨x, hx⟩ => ⟨x, (A x).mono e hx⟩⟩
def and (A B : Asn) : Asn := ⟨fun h => A.holds h ∧ B.holds h, fun e ⟨a, b⟩ => ⟨A.mono e a, B.mono e b⟩⟩
def starH : List Asn → Hp → Prop
  | [], _ => True
  | A :: l, h => ∃ h1 h2 : Hp, h1.dis h2 ∧ h1.le h ∧ h2.le h ∧ A.holds h1 ∧ starH l h2
theorem starH_mono (l : List Asn) : ∀ {h k : Hp}, h.le k → starH l h → starH l k := by
  cases l with
  | nil => exact fun _ h => h
  | cons A l => exact fun e ⟨h1, h2, d, a, b, p, q⟩ => ⟨h1, h2, d, a.trans e, b.trans e, p, q⟩
def star (l : List Asn) : Asn := ⟨starH l, fun e h => starH_mono l e h⟩
theorem starH_split (l : List Asn) : ∀ {h : Hp}, starH l h → ∃ hs : Nat → Hp, (∀ i, (hs i).le h) ∧ (∀ i j, i ≠ j → (hs i).dis (hs j)) ∧
    (∀ (i : Nat) (A : Asn), l[i]? = some A → A.holds (hs i)) := by
  induction l with
  | nil => exact fun _ => ⟨fun _ => Hp.emp, fun _ => Hp.emp_le _, fun _ _ _ => Hp.emp_dis _, fun i A e => by simp at e⟩
  | cons A l ih =>
    rintro h ⟨h1, h2, d, a, b, p, q⟩
    obtain ⟨hs, h3, h4, h5⟩ := ih q
    refine ⟨fun i => match i with | 0 => h1 | i + 1 => hs i, ?_, ?_, ?_⟩
    · rintro (_ | i)
      · exact a
      · exact (h3 i).trans b
    · rintro (_ | i) (_ | j) hij
      · exact absurd rfl hij
      · exact d.mono (Hp.le_refl _) (h3 j)
      · exact (d.mono (Hp.le_refl _) (h3 i)).symm
      · exact h4 i j (fun e => hij (by rw [e]))
    · rintro (_ | i) B e
      · simp at e; subst e; exact p
      · exact h5 i B (by simpa using e)
theorem starH_of (l : List Asn) : ∀ {h : Hp} (hs : Nat → Hp), (∀ i, (hs i).le h) → (∀ i j, i ≠ j → (hs i).dis (hs j)) → (∀ (i : Nat) (A : Asn), l[i]? = some A → A.holds (hs i)) → starH l h := by
  induction l with
  | nil => exact fun _ _ _ _ => trivial
  | cons A l ih =>
    intro h hs h1 h2 h3
    refine ⟨hs 0, fun b => if (hs 0 b).isSome then none else h b, fun b => ?_, h1 0, fun b o e => ?_, h3 0 A rfl, ?_⟩
    · cases x : hs 0 b with
      | none => exact .inl rfl
      | some o => exact .inr (by simp [x])
    · dsimp only at e; split at e
      · cases e
      · exact e
    · refine ih (fun i => hs (i + 1)) (fun i b o e => ?_) (fun i j hij => h2 _ _ (by omega)) (fun i B e => h3 (i + 1) B (by simpa using e))
      have := h2 0 (i + 1) (by omega) b
      rcases this with x | x
      · simp [x, h1 (i + 1) b o e]
      · rw [x] at e; cases e
end Asn

/-- from one world to another: nothing has turned but what the piece h holds, and what is new -/
structure Ext (h : Hp) (w w' : World) : Prop where
  os : w'.os = w.os
  tape : w'.tape = w.tape
  output : w'.output = w.output
  size : w.heap.size ≤ w'.heap.size
  block : ∀ b, b < w.heap.size → h b = none → w'.heap[b]? = w.heap[b]?
theorem Ext.refl (h : Hp) (w : World) : Ext h w w := ⟨rfl, rfl, rfl, Nat.le_refl _, fun _ _ _ => rfl⟩
theorem Ext.trans {h : Hp} {a b c : World} (x : Ext h a b) (y : Ext h b c) : Ext h a c :=
  ⟨y.os.trans x.os, y.tape.trans x.tape, y.output.trans x.output, Nat.le_trans x.size y.size, fun i hi hn => (y.block i (Nat.lt_of_lt_of_le hi x.size) hn).trans (x.block i hi hn)⟩
/-- h' holds of old blocks none beyond h's -/
theorem Ext.trans' {h h' : Hp} {a b c : World} (x : Ext h a b) (y : Ext h' b c) (e : ∀ i, h' i ≠ none → h i ≠ none ∨ a.heap.size ≤ i) : Ext h a c :=
  ⟨y.os.trans x.os, y.tape.trans x.tape, y.output.trans x.output, Nat.le_trans x.size y.size, fun i hi hn => by
    have h0 : h' i = none := by
      cases z : h' i with
      | none => rfl
      | some o =>
        rcases e i (by rw [z]; simp) with q | q
        · exact absurd hn q
        · omega
    exact (y.block i (Nat.lt_of_lt_of_le hi x.size) h0).trans (x.block i hi hn)⟩
theorem Ext.below {w w' : World} (h : Ext Hp.emp w w') : Below w.heap.size w w' := ⟨h.os, h.tape, h.output, h.size, fun k hk => h.block k hk rfl⟩
theorem Ext.keep {h k : Hp} {w w' : World} (e : Ext h w w') (d : h.dis k) (hk : k.le (hp w)) : k.le (hp w') := fun b o x => by
  have h1 := hk b o x
  have h2 : h b = none := by
    rcases d b with y | y
    · exact y
    · rw [y] at x; cases x
  show w'.heap[b]? = some o
  rw [e.block b (hp_lt h1) h2]
  exact h1

/-- WHAT A CALL DOES. M: what it may write, and hands back as 'post'; N: what it reads besides. -/
def Triple (P : Program) (f : FuncId) (args : List Value) (M N : List Asn) (X : Type) (ret : X → Value) (good : X → Prop) (post : X → List Asn) : Prop :=
  ∀ (w : World) (hm hn : Hp), hm.le (hp w) → hn.le (hp w) → hm.dis hn → Asn.starH M hm → (∀ A ∈ N, A.holds hn) →
    Calls P f args.toArray w fun e w' => ∃ (x : X) (hm' : Hp), e = .returned (ret x) ∧ good x ∧ Asn.starH (post x) hm' ∧ hm'.le (hp w') ∧ Ext hm w w' ∧
      (∀ b, hm' b ≠ none → hm b ≠ none ∨ w.heap.size ≤ b)

end Go.Sy
