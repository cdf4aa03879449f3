/-
  What is proved: what the document's net does. Conditions: none.
-/
import Derived.Test.YteleepinalcjeaaNO
namespace Go.Proofs.Yteleepinalcjeaa
open Go.Sy

def noI : Item := ⟨zeroM, [], none, 0⟩
def inI (L : List Item) (i : Int) : Prop := 0 ≤ i ∧ i < (L.length : Int)
instance (L : List Item) (i : Int) : Decidable (inI L i) := inferInstanceAs (Decidable (_ ∧ _))
def lookI (L : List Item) (i : Int) : Item × Bool := if inI L i then (L.getD i.toNat noI, true) else (noI, false)
def goneI (L : List Item) (i : Int) : List Item := if inI L i then L.eraseIdx i.toNat else L
theorem inI_cases (l : List Item) (i : Int) : (∃ j : Nat, i = j ∧ j < l.length ∧ inI l i) ∨ ((i < 0 ∨ (l.length : Int) ≤ i) ∧ ¬ inI l i) := by
  unfold inI
  by_cases h : 0 ≤ i ∧ i < (l.length : Int)
  · exact .inl ⟨i.toNat, by omega, by omega, h⟩
  · exact .inr ⟨by omega, h⟩
set_option maxRecDepth 100000 in
theorem rLook (p : Nat) (A : Option Addr) (c : Nat) (L : List Item) (hL : L.length ≤ 1000000000) (i : Int) :
    Triple Try.prog 25 [.pointer (some ⟨p, 0, none⟩), .int .i64 i] [Pt p 29 [.slice A L.length c], Row 36 18 A L.length c (L.flatMap encI)] [] Unit (fun _ => .tuple #[(lookI L i).1.val, .bool (lookI L i).2]) (fun _ => True)
      (fun _ => [Pt p 29 [.slice A L.length c], Row 36 18 A L.length c (L.flatMap encI)]) := by
  refine triple_intro Try.tbs_ok Try.func25 rfl [.pt 0 p 0, .va (.int .i64 i)] [.box p 29 [.va (.slice A L.length c)], .fact (Row 36 18 A L.length c (L.flatMap encI))] ⟨rfl, trivial, trivial⟩ rfl (by simp [SV.good, SV.goodL]) ?_
  intro E
  rcases inI_cases L i with ⟨j, rfl, hj, h⟩ | ⟨h0, h⟩
  · simp only [lookI, if_pos h, Int.toNat_natCast, List.getD_eq_getElem?_getD, List.getElem?_eq_getElem hj, Option.getD_some]
    refine go Try.tbs_ok 1000 ?_
    refine ev_new fun b0 => ?_
    refine ev_if_no rfl ?_
    refine go Try.tbs_ok 1000 ?_
    refine ev_if_no (decide_eq_false (show ¬(↑j : Int) ≥ (↑L.length : Int) from (by omega))) ?_
    refine go Try.tbs_ok 1000 ?_
    refine ev_stop (go_index0 (sz := 18) Try.tbs_ok (.inr 1) (j) rfl rfl rfl rfl rfl rfl (by omega) rfl Row.at0 (fun g1 e2 => ?_))
    subst e2
    refine go Try.tbs_ok 1000 ?_
    have l3 : j < (L).length := (by omega)
    refine ev_stop (go_loadE Try.tbs_ok (.inr 1) (j) 0 rfl rfl rfl rfl (fun _ h => Row.rd h) (by omega) (fun _ => rfl) (by omega) l3 (by decide) ?_)
    refine go Try.tbs_ok 1000 ?_
    refine ev_fin ⟨trivial, _, rfl, (()), rfl, (by trivial), Frm.sel [0, 1] rfl (by decide)⟩
  · simp only [lookI, if_neg h]
    refine go Try.tbs_ok 1000 ?_
    refine ev_new fun b0 => ?_
    refine ev_if_lt (fun h1 => ?_) (fun h1 => ?_)
    refine go Try.tbs_ok 1000 ?_
    refine ev_fin ⟨trivial, _, rfl, (()), rfl, (by trivial), Frm.sel [0, 1] rfl (by decide)⟩
    refine go Try.tbs_ok 1000 ?_
    refine ev_if_yes (decide_eq_true (show i ≥ (↑L.length : Int) from (by omega))) ?_
    refine go Try.tbs_ok 1000 ?_
    refine ev_fin ⟨trivial, _, rfl, (()), rfl, (by trivial), Frm.sel [0, 1] rfl (by decide)⟩
end Go.Proofs.Yteleepinalcjeaa
