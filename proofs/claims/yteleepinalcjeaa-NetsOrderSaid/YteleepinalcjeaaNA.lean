/-
  What is proved: what the functions of package nets do that copy messages. Conditions: none.
-/
import Derived.Test.YteleepinalcjeaaTab
namespace Go.Proofs.Yteleepinalcjeaa
open Go.Sy

theorem small {n k : Nat} (h : n ≤ 1000000000) (hk : k ≤ 100000) : n * k ≤ 140737488355328 := by
  have := Nat.mul_le_mul h hk
  omega
/-- a message, but for its entries -/
structure MailS where
  kind : Int
  src : Int
  dst : Int
  stream : Int
  epoch : Int
  view : Int
  base : Int
  length : Int
  stamp : Int
  o1 : Int
  o2 : Int
  o3 : Int
  o4 : Int
  o5 : Int
  a1 : Int
  a2 : Int
  a3 : Int
  deriving DecidableEq
def I (n : Int) : Value := .int .i64 n
def mailL (m : MailS) (A : Option Addr) (n c : Nat) : List Value :=
  [.int .i64 m.kind, .int .i64 m.src, .int .i64 m.dst, .int .i64 m.stream, .int .i64 m.epoch, .int .i64 m.view, .int .i64 m.base, .int .i64 m.length, .int .i64 m.stamp, .slice A n c,
   .int .i64 m.o1, .int .i64 m.o2, .int .i64 m.o3, .int .i64 m.o4, .int .i64 m.o5, .int .i64 m.a1, .int .i64 m.a2, .int .i64 m.a3]
def mailV (m : MailS) (A : Option Addr) (n c : Nat) : Value := .agg (mailL m A n c).toArray
def mailSV (m : MailS) (A : Option Addr) (n c : Nat) : List SV :=
  [.va (.int .i64 m.kind), .va (.int .i64 m.src), .va (.int .i64 m.dst), .va (.int .i64 m.stream), .va (.int .i64 m.epoch), .va (.int .i64 m.view), .va (.int .i64 m.base), .va (.int .i64 m.length), .va (.int .i64 m.stamp), .va (.slice A n c),
   .va (.int .i64 m.o1), .va (.int .i64 m.o2), .va (.int .i64 m.o3), .va (.int .i64 m.o4), .va (.int .i64 m.o5), .va (.int .i64 m.a1), .va (.int .i64 m.a2), .va (.int .i64 m.a3)]

theorem clip (A : Option Addr) (n c : Nat) (h : n ≤ c) : Triple Try.prog 35 [.slice A n c] [] [] Unit (fun _ => .slice A n n) (fun _ => True) (fun _ => []) := by
  refine triple_intro Try.tbs_ok Try.func35 rfl [.va (.slice A n c)] [] ⟨trivial, trivial⟩ rfl (by simp) ?_
  intro E
  refine go Try.tbs_ok 1000 ?_
  refine ev_stop (go_slice Try.tbs_ok A A n c 0 n n 40 6 rfl rfl (by simp [ev]) rfl rfl rfl ⟨_, rfl⟩ ⟨_, rfl⟩ (fun _ => rfl) (Nat.zero_le _) (Nat.le_refl _) h (slice_zero _ _ _) ?_)
  refine go Try.tbs_ok 1000 ?_
  refine ev_fin ⟨trivial, _, rfl, (), rfl, trivial, Frm.nil _⟩
theorem clone (A : Option Addr) (n c : Nat) (cs : List Value) (hn : n ≤ 1000000000) (h0 : A = none → n = 0 ∧ cs = []) :
    Triple Try.prog 36 [.slice A n c] [] [Rd 6 A n cs] (Option Addr × Nat) (fun x => .slice x.1 n x.2) (fun x => n ≤ x.2 ∧ (x.1 = none → A = none)) (fun x => [Row 40 6 x.1 n x.2 cs]) := by
  refine triple_intro Try.tbs_ok Try.func36 rfl [.va (.slice A n c)] [] ⟨trivial, trivial⟩ rfl (by simp) ?_
  intro E
  refine go Try.tbs_ok 1000 ?_
  refine ev_if (fun h => ?_) (fun h => ?_)
  · have h1 : A = none := by simpa using h
    obtain ⟨rfl, rfl⟩ := h0 h1
    refine go Try.tbs_ok 1000 ?_
    refine ev_fin ⟨trivial, _, rfl, (none, 0), rfl, ⟨Nat.le_refl _, fun _ => h1⟩, Frm.imp (M := []) [] rfl List.nodup_nil (fun h _ => starH_one.2 (Row.nil _ _ _))⟩
  · refine go Try.tbs_ok 1000 ?_
    refine ev_new fun b => ?_
    refine ev_stop (go_append Try.tbs_ok [0] [some b] [Pt b 40 []] (some ⟨b, 0, none⟩) A 0 0 n c [] cs 40 6 48 (.inl 0) (Rd 6 A n cs) rfl rfl (by simp [ev]) rfl (by simp [ev]) rfl rfl (by decide) rfl (by decide)
      (fun h p => Pt.row (starH_one.1 p) rfl (by decide)) rfl (fun _ h => h) n cs (by omega) rfl (by unfold maxLen; omega) (small (by omega) (by decide)) (fun _ _ => ⟨rfl, trivial⟩) (fun A2 c2 hA hc => ?_))
    refine go Try.tbs_ok 1000 ?_
    refine ev_fin ⟨trivial, _, rfl, (A2, c2), rfl, ⟨hc, fun e => ?_⟩, Frm.sel [1] rfl (by decide)⟩
    exact absurd (hA e).1 (by simp)
set_option maxRecDepth 100000 in
theorem twin (m : MailS) (A : Option Addr) (n c : Nat) (cs : List Value) (hn : n ≤ 1000000000) (h0 : A = none → n = 0 ∧ cs = []) :
    Triple Try.prog 31 [mailV m A n c] [] [Rd 6 A n cs] (Option Addr) (fun A2 => mailV m A2 n n) (fun A2 => A2 = none → A = none) (fun A2 => [Own 40 6 A2 n cs]) := by
  refine triple_intro Try.tbs_ok Try.func31 rfl [.ag (mailSV m A n c)] [] ⟨by simp [SV.good, SV.goodL, mailSV], trivial⟩ rfl (by simp) ?_
  intro E
  refine go Try.tbs_ok 1000 ?_
  refine ev_new fun b1 => ?_
  refine ev_new fun b2 => ?_
  refine ev_call (clone A n c cs hn h0) [] [.inl 0] (fun x => [.fact (Row 40 6 x.1 n x.2 cs)]) rfl rfl (by decide) rfl (by simp) (fun x => rfl) (fun x => newsOk_fact (newsOk_nil _)) (fun x => ⟨rfl, rfl, trivial⟩) (fun x hx => ?_)
  refine go Try.tbs_ok 1000 ?_
  refine ev_call (clip x.1 n x.2 hx.1) [] [] (fun _ => []) rfl rfl (by decide) rfl (by simp) (fun x => rfl) (fun x => newsOk_nil _) (fun x => ⟨rfl, rfl, trivial⟩) (fun _ _ => ?_)
  refine go Try.tbs_ok 1000 ?_
  refine ev_fin ⟨trivial, _, rfl, x.1, rfl, hx.2, Frm.imp [2] rfl (by decide) (fun h p => starH_one.2 (Row.own (starH_one.1 p)))⟩
end Go.Proofs.Yteleepinalcjeaa
