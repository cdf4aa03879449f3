/-
  What is proved: what an act does with a net. Conditions: none.
-/
import Derived.Test.YteleepinalcjeaaNN
namespace Go.Proofs.Yteleepinalcjeaa
open Go.Sy

def actSV (x : ActI) : List SV := .va (.int .u8 x.k) :: (mailSV x.m.s x.m.a x.m.es.length x.m.c ++ [.va (.int .i64 x.i)])
/-- an act, by the document: what is under way then, what is told -/
def actM (l : List Msg) (k : Int) (m : Msg) (i : Int) : List Msg × Msg × Bool :=
  if k % 9 = 4 then (l, lookM l i) else if k % 9 = 5 ∨ k % 9 = 6 then (goneM l i, lookM l i) else if k % 9 = 7 then ((copyM l i).1, noM, (copyM l i).2) else if k % 9 = 8 then (goneM l i, noM, (lookM l i).2) else ((sendM l m).1, noM, (sendM l m).2)
theorem tmod9 {k : Int} (h : 0 ≤ k ∧ k < 256) : k.tmod 9 = k % 9 := Int.tmod_eq_emod_of_nonneg h.1
set_option maxRecDepth 100000 in
theorem does (p : Nat) (l : List Msg) (hl : fewM l) (hn : l.length ≤ 1000000000) (x : ActI) (hk : 0 ≤ x.k ∧ x.k < 256) (hx : x.m.es.length ≤ 1000000000) :
    Triple Try.prog 11 [.pointer (some ⟨p, 0, none⟩), .agg (encA x).toArray] [NetM p l] [Rd 6 x.m.a x.m.es.length (x.m.es.flatMap encE)] (Option Addr)
      (fun A => .tuple #[((actM l x.k x.m.msg x.i).2.1.at A).val, .bool (actM l x.k x.m.msg x.i).2.2]) (fun _ => True) (fun A => [NetM p (actM l x.k x.m.msg x.i).1, ((actM l x.k x.m.msg x.i).2.1.at A).own]) := by
  refine triple_intro Try.tbs_ok Try.func11 rfl [.va (.pointer (some ⟨p, 0, none⟩)), .ag (actSV x)] [.fact (NetM p l)] ⟨trivial, by simp [SV.good, SV.goodL, actSV, mailSV], trivial⟩ rfl (by simp) ?_
  intro E
  have h9 := tmod9 hk
  refine go Try.tbs_ok 1000 ?_
  refine ev_new fun b0 => ?_
  refine ev_new fun b1 => ?_
  refine ev_if_eq (fun h2 => ?_) (fun h2 => ?_)
  refine go Try.tbs_ok 1000 ?_
  refine ev_callF (tLook (p) (l) (by with_reducible assumption) (x.i)) [0] [] rfl rfl (by decide) rfl (by simp) (fun _ => (by repeat (first | exact trivial | refine ⟨rfl, ?_⟩))) (fun x3 h4 => ?_)
  refine go Try.tbs_ok 1000 ?_
  rotate_left
  refine go Try.tbs_ok 1000 ?_
  refine ev_if_eq (fun h5 => ?_) (fun h5 => ?_)
  refine go Try.tbs_ok 1000 ?_
  refine ev_if_yes (beq_iff_eq.2 (by with_reducible assumption)) ?_
  refine go Try.tbs_ok 1000 ?_
  refine ev_callF (tTake (p) (l) (by with_reducible assumption) (by with_reducible assumption) (x.i)) [0] [] rfl rfl (by decide) rfl (by simp) (fun _ => (by repeat (first | exact trivial | refine ⟨rfl, ?_⟩))) (fun x6 h7 => ?_)
  refine go Try.tbs_ok 1000 ?_
  rotate_left
  refine go Try.tbs_ok 1000 ?_
  refine ev_if_eq (fun h8 => ?_) (fun h8 => ?_)
  refine go Try.tbs_ok 1000 ?_
  refine ev_callF (tTake (p) (l) (by with_reducible assumption) (by with_reducible assumption) (x.i)) [0] [] rfl rfl (by decide) rfl (by simp) (fun _ => (by repeat (first | exact trivial | refine ⟨rfl, ?_⟩))) (fun x9 h10 => ?_)
  refine go Try.tbs_ok 1000 ?_
  rotate_left
  refine go Try.tbs_ok 1000 ?_
  refine ev_if_eq (fun h11 => ?_) (fun h11 => ?_)
  refine go Try.tbs_ok 1000 ?_
  refine ev_callF (tCopy (p) (l) (by with_reducible assumption) (x.i)) [0] [] rfl rfl (by decide) rfl (by simp) (fun _ => (by repeat (first | exact trivial | refine ⟨rfl, ?_⟩))) (fun _ h12 => ?_)
  refine go Try.tbs_ok 1000 ?_
  rotate_left
  refine go Try.tbs_ok 1000 ?_
  refine ev_if_eq (fun h13 => ?_) (fun h13 => ?_)
  refine go Try.tbs_ok 1000 ?_
  refine ev_callF (tDrop (p) (l) (by with_reducible assumption) (by with_reducible assumption) (x.i)) [0] [] rfl rfl (by decide) rfl (by simp) (fun _ => (by repeat (first | exact trivial | refine ⟨rfl, ?_⟩))) (fun _ h14 => ?_)
  refine go Try.tbs_ok 1000 ?_
  rotate_left
  refine go Try.tbs_ok 1000 ?_
  refine ev_callF (tSend (p) (l) (x.m.s) (x.m.es) (x.m.a) (x.m.c) (by with_reducible assumption)) [0] [.inl 0] rfl rfl (by decide) rfl (by simp) (fun _ => (by repeat (first | exact trivial | refine ⟨rfl, ?_⟩))) (fun _ h15 => ?_)
  refine go Try.tbs_ok 1000 ?_
  rotate_left
  · rw [show actM l x.k x.m.msg x.i = (l, lookM l x.i) by unfold actM; rw [if_pos (by omega)]]
    refine ev_fin ⟨trivial, _, rfl, (x3), rfl, (by trivial), Frm.sel [0, 3] rfl (by decide)⟩
  · rw [show actM l x.k x.m.msg x.i = (goneM l x.i, lookM l x.i) by unfold actM; rw [if_neg (by omega), if_pos (by omega)]]
    refine ev_fin ⟨trivial, _, rfl, (x6), rfl, (by trivial), Frm.sel [0, 3] rfl (by decide)⟩
  · rw [show actM l x.k x.m.msg x.i = (goneM l x.i, lookM l x.i) by unfold actM; rw [if_neg (by omega), if_pos (by omega)]]
    refine ev_fin ⟨trivial, _, rfl, (x9), rfl, (by trivial), Frm.sel [0, 3] rfl (by decide)⟩
  · rw [show actM l x.k x.m.msg x.i = ((copyM l x.i).1, noM, (copyM l x.i).2) by unfold actM; rw [if_neg (by omega), if_neg (by omega), if_pos (by omega)]]
    exact ev_fin ⟨trivial, _, rfl, none, rfl, trivial, Frm.imp (M := [NetM p (copyM l x.i).1]) [0] rfl (by decide) (fun _ => own_nil)⟩
  · rw [show actM l x.k x.m.msg x.i = (goneM l x.i, noM, (lookM l x.i).2) by unfold actM; rw [if_neg (by omega), if_neg (by omega), if_neg (by omega), if_pos (by omega)]]
    exact ev_fin ⟨trivial, _, rfl, none, rfl, trivial, Frm.imp (M := [NetM p (goneM l x.i)]) [0] rfl (by decide) (fun _ => own_nil)⟩
  · rw [show actM l x.k x.m.msg x.i = ((sendM l x.m.msg).1, noM, (sendM l x.m.msg).2) by unfold actM; rw [if_neg (by omega), if_neg (by omega), if_neg (by omega), if_neg (by omega)]]
    exact ev_fin ⟨trivial, _, rfl, none, rfl, trivial, Frm.imp (M := [NetM p (sendM l x.m.msg).1]) [0] rfl (by decide) (fun _ => own_nil)⟩
end Go.Proofs.Yteleepinalcjeaa
