/-
  What is proved: what the document's net does, all in one. Conditions: none.
-/
import Derived.Test.YteleepinalcjeaaNQ
namespace Go.Proofs.Yteleepinalcjeaa
open Go.Sy

set_option maxRecDepth 100000 in
theorem rDrop (p : Nat) (A : Option Addr) (c : Nat) (L : List Item) (hL : L.length ≤ 1000000000) (i : Int) :
    Triple Try.prog 28 [.pointer (some ⟨p, 0, none⟩), .int .i64 i] [Pt p 29 [.slice A L.length c], Row 36 18 A L.length c (L.flatMap encI)] [] (Option Addr × Nat × Nat) (fun _ => .bool (lookI L i).2) (fun x => x.2.1 = (goneI L i).length)
      (fun x => [Pt p 29 [.slice x.1 x.2.1 x.2.2], Row 36 18 x.1 x.2.1 x.2.2 ((goneI L i).flatMap encI)]) := by
  refine triple_intro Try.tbs_ok Try.func28 rfl [.pt 0 p 0, .va (.int .i64 i)] [.box p 29 [.va (.slice A L.length c)], .fact (Row 36 18 A L.length c (L.flatMap encI))] ⟨rfl, trivial, trivial⟩ rfl (by simp [SV.good, SV.goodL]) ?_
  intro E
  refine go Try.tbs_ok 1000 ?_
  refine ev_call (rTake (p) (A) (c) (L) (by with_reducible assumption) (i)) [0, 1] [] (fun (v0_, v1_, v2_) => [.box (p) 29 [.va (Value.slice v0_ v1_ v2_)], .fact (Row 36 18 v0_ v1_ v2_ (List.flatMap encI (goneI L i)))]) rfl rfl (by decide) rfl (by simp) (fun _ => rfl) (fun _ => (newsOk_box (by simp [SV.good, SV.goodL]) (newsOk_fact (newsOk_nil _)))) (fun _ => (by repeat (first | exact trivial | refine ⟨rfl, ?_⟩))) (fun ⟨x0, x1, x2⟩ h3 => ?_)
  refine go Try.tbs_ok 1000 ?_
  refine ev_new fun b4 => ?_
  refine ev_fin ⟨trivial, _, rfl, ((x0, x1, x2)), rfl, (by trivial), Frm.sel [0, 1] rfl (by decide)⟩
set_option maxRecDepth 100000 in
theorem rCopy_room (p : Nat) (A : Option Addr) (c : Nat) (L : List Item) (hL : L.length < 512) (i : Nat) (hi : i < L.length) (hn : L[i].es.length ≤ 1000000000) :
    Triple Try.prog 27 [.pointer (some ⟨p, 0, none⟩), .int .i64 i] [Pt p 29 [.slice A L.length c], Row 36 18 A L.length c (L.flatMap encI)] [Rd 6 L[i].a L[i].es.length (L[i].es.flatMap encE)]
      (Option Addr × Nat × Option Addr × Nat) (fun _ => .bool true) (fun _ => True)
      (fun (A2, c2, a, q) => [Pt p 29 [.slice A2 (L.length + 1) c2], Row 36 18 A2 (L.length + 1) c2 ((L ++ [(⟨L[i].s, L[i].es, a, q⟩ : Item)]).flatMap encI), Row 40 6 a L[i].es.length q (L[i].es.flatMap encE)]) := by
  refine triple_intro Try.tbs_ok Try.func27 rfl [.pt 0 p 0, .va (.int .i64 i)] [.box p 29 [.va (.slice A L.length c)], .fact (Row 36 18 A L.length c (L.flatMap encI))] ⟨rfl, trivial, trivial⟩ rfl (by simp [SV.good, SV.goodL]) ?_
  intro E
  have e : lookI L (i : Int) = (L[i], true) := by simp only [lookI, if_pos (show inI L i from ⟨by omega, by omega⟩), Int.toNat_natCast, List.getD_eq_getElem?_getD, List.getElem?_eq_getElem hi, Option.getD_some]
  have T := rLook p A c L (by omega) i
  rw [e] at T
  refine go Try.tbs_ok 1000 ?_
  refine ev_call (T ) [0, 1] [] (fun v0_ => [.box (p) 29 [.va (Value.slice A L.length c)], .fact (Row 36 18 A L.length c (List.flatMap encI L))]) rfl rfl (by decide) rfl (by simp) (fun _ => rfl) (fun _ => (newsOk_box (by simp [SV.good, SV.goodL]) (newsOk_fact (newsOk_nil _)))) (fun _ => (by repeat (first | exact trivial | refine ⟨rfl, ?_⟩))) (fun _ h0 => ?_)
  refine go Try.tbs_ok 1000 ?_
  refine ev_new fun b1 => ?_
  refine ev_if_yes rfl ?_
  refine go Try.tbs_ok 1000 ?_
  refine ev_call (rSend_room (p) (A) (c) (L) (by with_reducible assumption) (L[i].s) (L[i].a) (L[i].c) (L[i].es) (by with_reducible assumption)) [0, 1] [.inl 0] (fun (v0_, v1_, v2_, v3_) => [.box (p) 29 [.va (Value.slice v0_ (L.length + 1) v1_)], .fact (Row 36 18 v0_ (L.length + 1) v1_ (List.flatMap encI (L ++ [{ s := { kind := L[i].s.kind, src := L[i].s.src, dst := L[i].s.dst, stream := L[i].s.stream, epoch := L[i].s.epoch, view := L[i].s.view, base := L[i].s.base, length := L[i].s.length, stamp := L[i].s.stamp, o1 := L[i].s.o1, o2 := L[i].s.o2, o3 := L[i].s.o3, o4 := L[i].s.o4, o5 := L[i].s.o5, a1 := L[i].s.a1, a2 := L[i].s.a2, a3 := L[i].s.a3 }, es := L[i].es, a := v2_, c := v3_ }]))), .fact (Row 40 6 v2_ L[i].es.length v3_ (List.flatMap encE L[i].es))]) rfl rfl (by decide) rfl (by simp) (fun _ => rfl) (fun _ => (newsOk_box (by simp [SV.good, SV.goodL]) (newsOk_fact (newsOk_fact (newsOk_nil _))))) (fun _ => (by repeat (first | exact trivial | refine ⟨rfl, ?_⟩))) (fun ⟨x2, x3, x4, x5⟩ h6 => ?_)
  refine go Try.tbs_ok 1000 ?_
  refine ev_fin ⟨trivial, _, rfl, ((x2, x3, x4, x5)), rfl, (by trivial), Frm.sel [0, 1, 3] rfl (by decide)⟩
set_option maxRecDepth 100000 in
theorem rCopy_not (p : Nat) (A : Option Addr) (c : Nat) (L : List Item) (hL : L.length ≤ 1000000000) (i : Int) (h : ¬ inI L i ∨ 512 ≤ L.length) :
    Triple Try.prog 27 [.pointer (some ⟨p, 0, none⟩), .int .i64 i] [Pt p 29 [.slice A L.length c], Row 36 18 A L.length c (L.flatMap encI)] []
      Unit (fun _ => .bool false) (fun _ => True)
      (fun _ => [Pt p 29 [.slice A L.length c], Row 36 18 A L.length c (L.flatMap encI)]) := by
  refine triple_intro Try.tbs_ok Try.func27 rfl [.pt 0 p 0, .va (.int .i64 i)] [.box p 29 [.va (.slice A L.length c)], .fact (Row 36 18 A L.length c (L.flatMap encI))] ⟨rfl, trivial, trivial⟩ rfl (by simp [SV.good, SV.goodL]) ?_
  intro E
  by_cases hi : inI L i
  · have h5 : 512 ≤ L.length := by
      rcases h with h | h
      · exact absurd hi h
      · exact h
    have e : (lookI L i).2 = true := by simp only [lookI, if_pos hi]
    refine go Try.tbs_ok 1000 ?_
    refine ev_call (rLook (p) (A) (c) (L) (by with_reducible assumption) (i)) [0, 1] [] (fun v0_ => [.box (p) 29 [.va (Value.slice A L.length c)], .fact (Row 36 18 A L.length c (List.flatMap encI L))]) rfl rfl (by decide) rfl (by simp) (fun _ => rfl) (fun _ => (newsOk_box (by simp [SV.good, SV.goodL]) (newsOk_fact (newsOk_nil _)))) (fun _ => (by repeat (first | exact trivial | refine ⟨rfl, ?_⟩))) (fun _ h0 => ?_)
    refine go Try.tbs_ok 1000 ?_
    refine ev_new fun b1 => ?_
    refine ev_if_yes (by assumption) ?_
    refine go Try.tbs_ok 1000 ?_
    refine ev_call (rSend_full (p) (A) (L.length) (c) (by with_reducible assumption) (lookI L i).fst.s (lookI L i).fst.a (lookI L i).fst.es.length (lookI L i).fst.c) [0] [] (fun v0_ => [.box (p) 29 [.va (Value.slice A L.length c)]]) rfl rfl (by decide) rfl (by simp) (fun _ => rfl) (fun _ => (newsOk_box (by simp [SV.good, SV.goodL]) (newsOk_nil _))) (fun _ => (by repeat (first | exact trivial | refine ⟨rfl, ?_⟩))) (fun _ h2 => ?_)
    refine go Try.tbs_ok 1000 ?_
    refine ev_fin ⟨trivial, _, rfl, (()), rfl, (by trivial), Frm.sel [0, 1] rfl (by decide)⟩
  · have e : (lookI L i).2 = false := by simp only [lookI, if_neg hi]
    refine go Try.tbs_ok 1000 ?_
    refine ev_call (rLook (p) (A) (c) (L) (by with_reducible assumption) (i)) [0, 1] [] (fun v0_ => [.box (p) 29 [.va (Value.slice A L.length c)], .fact (Row 36 18 A L.length c (List.flatMap encI L))]) rfl rfl (by decide) rfl (by simp) (fun _ => rfl) (fun _ => (newsOk_box (by simp [SV.good, SV.goodL]) (newsOk_fact (newsOk_nil _)))) (fun _ => (by repeat (first | exact trivial | refine ⟨rfl, ?_⟩))) (fun _ h0 => ?_)
    refine go Try.tbs_ok 1000 ?_
    refine ev_new fun b1 => ?_
    refine ev_if_no (by assumption) ?_
    refine go Try.tbs_ok 1000 ?_
    refine ev_fin ⟨trivial, _, rfl, (()), rfl, (by trivial), Frm.sel [0, 1] rfl (by decide)⟩
end Go.Proofs.Yteleepinalcjeaa
