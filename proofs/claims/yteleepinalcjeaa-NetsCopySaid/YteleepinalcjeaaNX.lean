/-
  What is proved: NetsNone's walk. Conditions: none.
-/
import Derived.Test.YteleepinalcjeaaNW
namespace Go.Proofs.Yteleepinalcjeaa
open Go.Sy

def actSVL (k : Int) (s : MailS) (a : Option Addr) (n d : Nat) (i : Int) : List SV := .va (.int .u8 k) :: (mailSV s a n d ++ [.va (.int .i64 i)])
set_option maxRecDepth 100000 in
theorem mailN_nil  :
    Triple Try.prog 30 [.pointer none] [] [] Unit (fun _ => .slice none 0 0) (fun _ => True) (fun _ => []) := by
  refine triple_intro Try.tbs_ok Try.func30 rfl [.va (.pointer none)] [] ⟨trivial, trivial⟩ rfl (by simp) ?_
  intro E
  refine go Try.tbs_ok 1000 ?_
  refine ev_fin ⟨trivial, _, rfl, (()), rfl, (by trivial), Frm.nil _⟩
set_option maxRecDepth 100000 in
theorem lenN_nil  :
    Triple Try.prog 15 [.pointer none] [] [] Unit (fun _ => .int .i64 0) (fun _ => True) (fun _ => []) := by
  refine triple_intro Try.tbs_ok Try.func15 rfl [.va (.pointer none)] [] ⟨trivial, trivial⟩ rfl (by simp) ?_
  intro E
  refine go Try.tbs_ok 1000 ?_
  refine ev_callF (mailN_nil ) [] [] rfl rfl (by decide) rfl (by simp) (fun _ => (by repeat (first | exact trivial | refine ⟨rfl, ?_⟩))) (fun _ h0 => ?_)
  refine go Try.tbs_ok 1000 ?_
  refine ev_fin ⟨trivial, _, rfl, (()), rfl, (by trivial), Frm.nil _⟩
set_option maxRecDepth 100000 in
theorem atN_nil (i : Int) (A : Option Addr) (n c : Nat) :
    Triple Try.prog 32 [.pointer none, .int .i64 i, .slice A n c] [] [] Unit (fun _ => .tuple #[(noM.at none).val, .bool false]) (fun _ => True) (fun _ => []) := by
  refine triple_intro Try.tbs_ok Try.func32 rfl [.va (.pointer none), .va (.int .i64 i), .va (.slice A n c)] [] ⟨trivial, trivial, trivial, trivial⟩ rfl (by simp) ?_
  intro E
  refine go Try.tbs_ok 1000 ?_
  refine ev_new fun b0 => ?_
  refine ev_if_lt (fun h1 => ?_) (fun h1 => ?_)
  refine go Try.tbs_ok 1000 ?_
  refine ev_fin ⟨trivial, _, rfl, (()), rfl, (by trivial), Frm.nil _⟩
  refine go Try.tbs_ok 1000 ?_
  refine ev_callF (lenN_nil ) [] [] rfl rfl (by decide) rfl (by simp) (fun _ => (by repeat (first | exact trivial | refine ⟨rfl, ?_⟩))) (fun _ h2 => ?_)
  refine go Try.tbs_ok 1000 ?_
  refine ev_if_yes (decide_eq_true (show i ≥ 0 from (by omega))) ?_
  refine go Try.tbs_ok 1000 ?_
  refine ev_fin ⟨trivial, _, rfl, (()), rfl, (by trivial), Frm.nil _⟩
set_option maxRecDepth 100000 in
theorem lookN_nil (i : Int) :
    Triple Try.prog 23 [.pointer none, .int .i64 i] [] [] Unit (fun _ => .tuple #[(noM.at none).val, .bool false]) (fun _ => True) (fun _ => []) := by
  refine triple_intro Try.tbs_ok Try.func23 rfl [.va (.pointer none), .va (.int .i64 i)] [] ⟨trivial, trivial, trivial⟩ rfl (by simp) ?_
  intro E
  refine go Try.tbs_ok 1000 ?_
  refine ev_new fun b0 => ?_
  refine ev_callF (atN_nil (i) (none) (0) (0)) [] [] rfl rfl (by decide) rfl (by simp) (fun _ => (by repeat (first | exact trivial | refine ⟨rfl, ?_⟩))) (fun _ h1 => ?_)
  refine go Try.tbs_ok 1000 ?_
  refine ev_fin ⟨trivial, _, rfl, (()), rfl, (by trivial), Frm.nil _⟩
set_option maxRecDepth 100000 in
theorem takeN_nil (i : Int) :
    Triple Try.prog 22 [.pointer none, .int .i64 i] [] [] Unit (fun _ => .tuple #[(noM.at none).val, .bool false]) (fun _ => True) (fun _ => []) := by
  refine triple_intro Try.tbs_ok Try.func22 rfl [.va (.pointer none), .va (.int .i64 i)] [] ⟨trivial, trivial, trivial⟩ rfl (by simp) ?_
  intro E
  refine go Try.tbs_ok 1000 ?_
  refine ev_new fun b0 => ?_
  refine ev_new fun b1 => ?_
  refine ev_callF (atN_nil (i) (some { block := b1, off := 0 }) (1) (1)) [] [] rfl rfl (by decide) rfl (by simp) (fun _ => (by repeat (first | exact trivial | refine ⟨rfl, ?_⟩))) (fun _ h2 => ?_)
  refine go Try.tbs_ok 1000 ?_
  refine ev_fin ⟨trivial, _, rfl, (()), rfl, (by trivial), Frm.nil _⟩
set_option maxRecDepth 100000 in
theorem dropN_nil (i : Int) :
    Triple Try.prog 24 [.pointer none, .int .i64 i] [] [] Unit (fun _ => .bool false) (fun _ => True) (fun _ => []) := by
  refine triple_intro Try.tbs_ok Try.func24 rfl [.va (.pointer none), .va (.int .i64 i)] [] ⟨trivial, trivial, trivial⟩ rfl (by simp) ?_
  intro E
  refine go Try.tbs_ok 1000 ?_
  refine ev_new fun b0 => ?_
  refine ev_callF (atN_nil (i) (some { block := b0, off := 0 }) (1) (1)) [] [] rfl rfl (by decide) rfl (by simp) (fun _ => (by repeat (first | exact trivial | refine ⟨rfl, ?_⟩))) (fun _ h1 => ?_)
  refine go Try.tbs_ok 1000 ?_
  refine ev_new fun b2 => ?_
  refine ev_fin ⟨trivial, _, rfl, (()), rfl, (by trivial), Frm.nil _⟩
set_option maxRecDepth 100000 in
theorem sendN_nil (s : MailS) (a : Option Addr) (n d : Nat) :
    Triple Try.prog 20 [.pointer none, mailV s a n d] [] [] Unit (fun _ => .bool false) (fun _ => True) (fun _ => []) := by
  refine triple_intro Try.tbs_ok Try.func20 rfl [.va (.pointer none), .ag (mailSV s a n d)] [] ⟨trivial, by simp [SV.good, SV.goodL, mailSV, actSVL], trivial⟩ rfl (by simp) ?_
  intro E
  refine go Try.tbs_ok 1000 ?_
  refine ev_new fun b0 => ?_
  refine ev_fin ⟨trivial, _, rfl, (()), rfl, (by trivial), Frm.nil _⟩
set_option maxRecDepth 100000 in
theorem copyN_nil (i : Int) :
    Triple Try.prog 21 [.pointer none, .int .i64 i] [] [] Unit (fun _ => .bool false) (fun _ => True) (fun _ => []) := by
  refine triple_intro Try.tbs_ok Try.func21 rfl [.va (.pointer none), .va (.int .i64 i)] [] ⟨trivial, trivial, trivial⟩ rfl (by simp) ?_
  intro E
  refine go Try.tbs_ok 1000 ?_
  refine ev_callF (atN_nil (i) (none) (0) (0)) [] [] rfl rfl (by decide) rfl (by simp) (fun _ => (by repeat (first | exact trivial | refine ⟨rfl, ?_⟩))) (fun _ h0 => ?_)
  refine go Try.tbs_ok 1000 ?_
  refine ev_new fun b1 => ?_
  refine ev_if_no rfl ?_
  refine go Try.tbs_ok 1000 ?_
  refine ev_fin ⟨trivial, _, rfl, (()), rfl, (by trivial), Frm.nil _⟩
set_option maxRecDepth 100000 in
theorem allN_nil  :
    Triple Try.prog 17 [.pointer none] [] [] Unit (fun _ => .slice none 0 0) (fun _ => True) (fun _ => []) := by
  refine triple_intro Try.tbs_ok Try.func17 rfl [.va (.pointer none)] [] ⟨trivial, trivial⟩ rfl (by simp) ?_
  intro E
  refine go Try.tbs_ok 1000 ?_
  refine ev_callF (mailN_nil ) [] [] rfl rfl (by decide) rfl (by simp) (fun _ => (by repeat (first | exact trivial | refine ⟨rfl, ?_⟩))) (fun _ h0 => ?_)
  refine go Try.tbs_ok 1000 ?_
  refine ev_stop (go_rounds 0 ?_)
  refine go Try.tbs_ok 1000 ?_
  refine ev_if_no rfl ?_
  refine go Try.tbs_ok 1000 ?_
  refine ev_fin (go Try.tbs_ok 1000 ?_)
  refine ev_fin ⟨trivial, _, rfl, (()), rfl, (by trivial), Frm.nil _⟩
set_option maxRecDepth 100000 in
theorem doesN_nil (k : Int) (s : MailS) (a : Option Addr) (n d : Nat) (i : Int) (hk : 0 ≤ k ∧ k < 256) :
    Triple Try.prog 11 [.pointer none, .agg (actL k s a n d i).toArray] [] [] Unit (fun _ => .tuple #[(noM.at none).val, .bool false]) (fun _ => True) (fun _ => []) := by
  refine triple_intro Try.tbs_ok Try.func11 rfl [.va (.pointer none), .ag (actSVL k s a n d i)] [] ⟨trivial, by simp [SV.good, SV.goodL, mailSV, actSVL], trivial⟩ rfl (by simp) ?_
  intro E
  refine go Try.tbs_ok 1000 ?_
  refine ev_new fun b0 => ?_
  refine ev_new fun b1 => ?_
  refine ev_if_eq (fun h2 => ?_) (fun h2 => ?_)
  refine go Try.tbs_ok 1000 ?_
  refine ev_callF (lookN_nil (i)) [] [] rfl rfl (by decide) rfl (by simp) (fun _ => (by repeat (first | exact trivial | refine ⟨rfl, ?_⟩))) (fun _ h3 => ?_)
  refine go Try.tbs_ok 1000 ?_
  refine ev_fin ⟨trivial, _, rfl, (()), rfl, (by trivial), Frm.nil _⟩
  refine go Try.tbs_ok 1000 ?_
  refine ev_if_eq (fun h4 => ?_) (fun h4 => ?_)
  refine go Try.tbs_ok 1000 ?_
  refine ev_if_yes (beq_iff_eq.2 (by with_reducible assumption)) ?_
  refine go Try.tbs_ok 1000 ?_
  refine ev_callF (takeN_nil (i)) [] [] rfl rfl (by decide) rfl (by simp) (fun _ => (by repeat (first | exact trivial | refine ⟨rfl, ?_⟩))) (fun _ h5 => ?_)
  refine go Try.tbs_ok 1000 ?_
  refine ev_fin ⟨trivial, _, rfl, (()), rfl, (by trivial), Frm.nil _⟩
  refine go Try.tbs_ok 1000 ?_
  refine ev_if_eq (fun h6 => ?_) (fun h6 => ?_)
  refine go Try.tbs_ok 1000 ?_
  refine ev_callF (takeN_nil (i)) [] [] rfl rfl (by decide) rfl (by simp) (fun _ => (by repeat (first | exact trivial | refine ⟨rfl, ?_⟩))) (fun _ h7 => ?_)
  refine go Try.tbs_ok 1000 ?_
  refine ev_fin ⟨trivial, _, rfl, (()), rfl, (by trivial), Frm.nil _⟩
  refine go Try.tbs_ok 1000 ?_
  refine ev_if_eq (fun h8 => ?_) (fun h8 => ?_)
  refine go Try.tbs_ok 1000 ?_
  refine ev_callF (copyN_nil (i)) [] [] rfl rfl (by decide) rfl (by simp) (fun _ => (by repeat (first | exact trivial | refine ⟨rfl, ?_⟩))) (fun _ h9 => ?_)
  refine go Try.tbs_ok 1000 ?_
  refine ev_fin ⟨trivial, _, rfl, (()), rfl, (by trivial), Frm.nil _⟩
  refine go Try.tbs_ok 1000 ?_
  refine ev_if_eq (fun h10 => ?_) (fun h10 => ?_)
  refine go Try.tbs_ok 1000 ?_
  refine ev_callF (dropN_nil (i)) [] [] rfl rfl (by decide) rfl (by simp) (fun _ => (by repeat (first | exact trivial | refine ⟨rfl, ?_⟩))) (fun _ h11 => ?_)
  refine go Try.tbs_ok 1000 ?_
  refine ev_fin ⟨trivial, _, rfl, (()), rfl, (by trivial), Frm.nil _⟩
  refine go Try.tbs_ok 1000 ?_
  refine ev_callF (sendN_nil (s) (a) (n) (d)) [] [] rfl rfl (by decide) rfl (by simp) (fun _ => (by repeat (first | exact trivial | refine ⟨rfl, ?_⟩))) (fun _ h12 => ?_)
  refine go Try.tbs_ok 1000 ?_
  refine ev_fin ⟨trivial, _, rfl, (()), rfl, (by trivial), Frm.nil _⟩
set_option maxRecDepth 100000 in
theorem mailN_zero (p : Nat)  :
    Triple Try.prog 30 [.pointer (some ⟨p, 0, none⟩)] [Pt p 52 [.bool false, .slice none 0 0]] [] Unit (fun _ => .slice none 0 0) (fun _ => True) (fun _ => [Pt p 52 [.bool false, .slice none 0 0]]) := by
  refine triple_intro Try.tbs_ok Try.func30 rfl [.pt 0 p 0] [.box p 52 [.bl false, .va (.slice none 0 0)]] ⟨rfl, trivial⟩ rfl (by simp [SV.good, SV.goodL]) ?_
  intro E
  refine go Try.tbs_ok 1000 ?_
  refine ev_fin ⟨trivial, _, rfl, (()), rfl, (by trivial), Frm.sel [0] rfl (by decide)⟩
set_option maxRecDepth 100000 in
theorem lenN_zero (p : Nat)  :
    Triple Try.prog 15 [.pointer (some ⟨p, 0, none⟩)] [Pt p 52 [.bool false, .slice none 0 0]] [] Unit (fun _ => .int .i64 0) (fun _ => True) (fun _ => [Pt p 52 [.bool false, .slice none 0 0]]) := by
  refine triple_intro Try.tbs_ok Try.func15 rfl [.pt 0 p 0] [.box p 52 [.bl false, .va (.slice none 0 0)]] ⟨rfl, trivial⟩ rfl (by simp [SV.good, SV.goodL]) ?_
  intro E
  refine go Try.tbs_ok 1000 ?_
  refine ev_call (mailN_zero (p)) [0] [] (fun v0_ => [.box (p) 52 (([Value.bool false, Value.slice none 0 0]).map vaS)]) rfl rfl (by decide) rfl (by simp) (fun _ => rfl) (fun _ => (newsOk_box (goodL_va _ _) (newsOk_nil _))) (fun _ => (by repeat (first | exact trivial | refine ⟨rfl, ?_⟩))) (fun _ h0 => ?_)
  refine go Try.tbs_ok 1000 ?_
  refine ev_fin ⟨trivial, _, rfl, (()), rfl, (by trivial), Frm.sel [0] rfl (by decide)⟩
set_option maxRecDepth 100000 in
theorem atN_zero (p : Nat) (i : Int) (A : Option Addr) (n c : Nat) :
    Triple Try.prog 32 [.pointer (some ⟨p, 0, none⟩), .int .i64 i, .slice A n c] [Pt p 52 [.bool false, .slice none 0 0]] [] Unit (fun _ => .tuple #[(noM.at none).val, .bool false]) (fun _ => True) (fun _ => [Pt p 52 [.bool false, .slice none 0 0]]) := by
  refine triple_intro Try.tbs_ok Try.func32 rfl [.pt 0 p 0, .va (.int .i64 i), .va (.slice A n c)] [.box p 52 [.bl false, .va (.slice none 0 0)]] ⟨rfl, trivial, trivial, trivial⟩ rfl (by simp [SV.good, SV.goodL]) ?_
  intro E
  refine go Try.tbs_ok 1000 ?_
  refine ev_new fun b0 => ?_
  refine ev_if_lt (fun h1 => ?_) (fun h1 => ?_)
  refine go Try.tbs_ok 1000 ?_
  refine ev_fin ⟨trivial, _, rfl, (()), rfl, (by trivial), Frm.sel [0] rfl (by decide)⟩
  refine go Try.tbs_ok 1000 ?_
  refine ev_call (lenN_zero (p)) [0] [] (fun v0_ => [.box (p) 52 (([Value.bool false, Value.slice none 0 0]).map vaS)]) rfl rfl (by decide) rfl (by simp) (fun _ => rfl) (fun _ => (newsOk_box (goodL_va _ _) (newsOk_nil _))) (fun _ => (by repeat (first | exact trivial | refine ⟨rfl, ?_⟩))) (fun _ h2 => ?_)
  refine go Try.tbs_ok 1000 ?_
  refine ev_if_yes (decide_eq_true (show i ≥ 0 from (by omega))) ?_
  refine go Try.tbs_ok 1000 ?_
  refine ev_fin ⟨trivial, _, rfl, (()), rfl, (by trivial), Frm.sel [0] rfl (by decide)⟩
set_option maxRecDepth 100000 in
theorem lookN_zero (p : Nat) (i : Int) :
    Triple Try.prog 23 [.pointer (some ⟨p, 0, none⟩), .int .i64 i] [Pt p 52 [.bool false, .slice none 0 0]] [] Unit (fun _ => .tuple #[(noM.at none).val, .bool false]) (fun _ => True) (fun _ => [Pt p 52 [.bool false, .slice none 0 0]]) := by
  refine triple_intro Try.tbs_ok Try.func23 rfl [.pt 0 p 0, .va (.int .i64 i)] [.box p 52 [.bl false, .va (.slice none 0 0)]] ⟨rfl, trivial, trivial⟩ rfl (by simp [SV.good, SV.goodL]) ?_
  intro E
  refine go Try.tbs_ok 1000 ?_
  refine ev_new fun b0 => ?_
  refine ev_call (atN_zero (p) (i) (none) (0) (0)) [0] [] (fun v0_ => [.box (p) 52 (([Value.bool false, Value.slice none 0 0]).map vaS)]) rfl rfl (by decide) rfl (by simp) (fun _ => rfl) (fun _ => (newsOk_box (goodL_va _ _) (newsOk_nil _))) (fun _ => (by repeat (first | exact trivial | refine ⟨rfl, ?_⟩))) (fun _ h1 => ?_)
  refine go Try.tbs_ok 1000 ?_
  refine ev_fin ⟨trivial, _, rfl, (()), rfl, (by trivial), Frm.sel [0] rfl (by decide)⟩
set_option maxRecDepth 100000 in
theorem takeN_zero (p : Nat) (i : Int) :
    Triple Try.prog 22 [.pointer (some ⟨p, 0, none⟩), .int .i64 i] [Pt p 52 [.bool false, .slice none 0 0]] [] Unit (fun _ => .tuple #[(noM.at none).val, .bool false]) (fun _ => True) (fun _ => [Pt p 52 [.bool false, .slice none 0 0]]) := by
  refine triple_intro Try.tbs_ok Try.func22 rfl [.pt 0 p 0, .va (.int .i64 i)] [.box p 52 [.bl false, .va (.slice none 0 0)]] ⟨rfl, trivial, trivial⟩ rfl (by simp [SV.good, SV.goodL]) ?_
  intro E
  refine go Try.tbs_ok 1000 ?_
  refine ev_new fun b0 => ?_
  refine ev_new fun b1 => ?_
  refine ev_call (atN_zero (p) (i) (some { block := b1, off := 0 }) (1) (1)) [0] [] (fun v0_ => [.box (p) 52 (([Value.bool false, Value.slice none 0 0]).map vaS)]) rfl rfl (by decide) rfl (by simp) (fun _ => rfl) (fun _ => (newsOk_box (goodL_va _ _) (newsOk_nil _))) (fun _ => (by repeat (first | exact trivial | refine ⟨rfl, ?_⟩))) (fun _ h2 => ?_)
  refine go Try.tbs_ok 1000 ?_
  refine ev_fin ⟨trivial, _, rfl, (()), rfl, (by trivial), Frm.sel [0] rfl (by decide)⟩
set_option maxRecDepth 100000 in
theorem dropN_zero (p : Nat) (i : Int) :
    Triple Try.prog 24 [.pointer (some ⟨p, 0, none⟩), .int .i64 i] [Pt p 52 [.bool false, .slice none 0 0]] [] Unit (fun _ => .bool false) (fun _ => True) (fun _ => [Pt p 52 [.bool false, .slice none 0 0]]) := by
  refine triple_intro Try.tbs_ok Try.func24 rfl [.pt 0 p 0, .va (.int .i64 i)] [.box p 52 [.bl false, .va (.slice none 0 0)]] ⟨rfl, trivial, trivial⟩ rfl (by simp [SV.good, SV.goodL]) ?_
  intro E
  refine go Try.tbs_ok 1000 ?_
  refine ev_new fun b0 => ?_
  refine ev_call (atN_zero (p) (i) (some { block := b0, off := 0 }) (1) (1)) [0] [] (fun v0_ => [.box (p) 52 (([Value.bool false, Value.slice none 0 0]).map vaS)]) rfl rfl (by decide) rfl (by simp) (fun _ => rfl) (fun _ => (newsOk_box (goodL_va _ _) (newsOk_nil _))) (fun _ => (by repeat (first | exact trivial | refine ⟨rfl, ?_⟩))) (fun _ h1 => ?_)
  refine go Try.tbs_ok 1000 ?_
  refine ev_new fun b2 => ?_
  refine ev_fin ⟨trivial, _, rfl, (()), rfl, (by trivial), Frm.sel [0] rfl (by decide)⟩
set_option maxRecDepth 100000 in
theorem sendN_zero (p : Nat) (s : MailS) (a : Option Addr) (n d : Nat) :
    Triple Try.prog 20 [.pointer (some ⟨p, 0, none⟩), mailV s a n d] [Pt p 52 [.bool false, .slice none 0 0]] [] Unit (fun _ => .bool false) (fun _ => True) (fun _ => [Pt p 52 [.bool false, .slice none 0 0]]) := by
  refine triple_intro Try.tbs_ok Try.func20 rfl [.pt 0 p 0, .ag (mailSV s a n d)] [.box p 52 [.bl false, .va (.slice none 0 0)]] ⟨rfl, by simp [SV.good, SV.goodL, mailSV, actSVL], trivial⟩ rfl (by simp [SV.good, SV.goodL]) ?_
  intro E
  refine go Try.tbs_ok 1000 ?_
  refine ev_new fun b0 => ?_
  refine ev_fin ⟨trivial, _, rfl, (()), rfl, (by trivial), Frm.sel [0] rfl (by decide)⟩
set_option maxRecDepth 100000 in
theorem copyN_zero (p : Nat) (i : Int) :
    Triple Try.prog 21 [.pointer (some ⟨p, 0, none⟩), .int .i64 i] [Pt p 52 [.bool false, .slice none 0 0]] [] Unit (fun _ => .bool false) (fun _ => True) (fun _ => [Pt p 52 [.bool false, .slice none 0 0]]) := by
  refine triple_intro Try.tbs_ok Try.func21 rfl [.pt 0 p 0, .va (.int .i64 i)] [.box p 52 [.bl false, .va (.slice none 0 0)]] ⟨rfl, trivial, trivial⟩ rfl (by simp [SV.good, SV.goodL]) ?_
  intro E
  refine go Try.tbs_ok 1000 ?_
  refine ev_call (atN_zero (p) (i) (none) (0) (0)) [0] [] (fun v0_ => [.box (p) 52 (([Value.bool false, Value.slice none 0 0]).map vaS)]) rfl rfl (by decide) rfl (by simp) (fun _ => rfl) (fun _ => (newsOk_box (goodL_va _ _) (newsOk_nil _))) (fun _ => (by repeat (first | exact trivial | refine ⟨rfl, ?_⟩))) (fun _ h0 => ?_)
  refine go Try.tbs_ok 1000 ?_
  refine ev_new fun b1 => ?_
  refine ev_if_no rfl ?_
  refine go Try.tbs_ok 1000 ?_
  refine ev_fin ⟨trivial, _, rfl, (()), rfl, (by trivial), Frm.sel [0] rfl (by decide)⟩
set_option maxRecDepth 100000 in
theorem allN_zero (p : Nat)  :
    Triple Try.prog 17 [.pointer (some ⟨p, 0, none⟩)] [Pt p 52 [.bool false, .slice none 0 0]] [] Unit (fun _ => .slice none 0 0) (fun _ => True) (fun _ => [Pt p 52 [.bool false, .slice none 0 0]]) := by
  refine triple_intro Try.tbs_ok Try.func17 rfl [.pt 0 p 0] [.box p 52 [.bl false, .va (.slice none 0 0)]] ⟨rfl, trivial⟩ rfl (by simp [SV.good, SV.goodL]) ?_
  intro E
  refine go Try.tbs_ok 1000 ?_
  refine ev_call (mailN_zero (p)) [0] [] (fun v0_ => [.box (p) 52 (([Value.bool false, Value.slice none 0 0]).map vaS)]) rfl rfl (by decide) rfl (by simp) (fun _ => rfl) (fun _ => (newsOk_box (goodL_va _ _) (newsOk_nil _))) (fun _ => (by repeat (first | exact trivial | refine ⟨rfl, ?_⟩))) (fun _ h0 => ?_)
  refine go Try.tbs_ok 1000 ?_
  refine ev_stop (go_rounds 0 ?_)
  refine go Try.tbs_ok 1000 ?_
  refine ev_if_no rfl ?_
  refine go Try.tbs_ok 1000 ?_
  refine ev_fin (go Try.tbs_ok 1000 ?_)
  refine ev_fin ⟨trivial, _, rfl, (()), rfl, (by trivial), Frm.sel [0] rfl (by decide)⟩
set_option maxRecDepth 100000 in
theorem doesN_zero (p : Nat) (k : Int) (s : MailS) (a : Option Addr) (n d : Nat) (i : Int) (hk : 0 ≤ k ∧ k < 256) :
    Triple Try.prog 11 [.pointer (some ⟨p, 0, none⟩), .agg (actL k s a n d i).toArray] [Pt p 52 [.bool false, .slice none 0 0]] [] Unit (fun _ => .tuple #[(noM.at none).val, .bool false]) (fun _ => True) (fun _ => [Pt p 52 [.bool false, .slice none 0 0]]) := by
  refine triple_intro Try.tbs_ok Try.func11 rfl [.pt 0 p 0, .ag (actSVL k s a n d i)] [.box p 52 [.bl false, .va (.slice none 0 0)]] ⟨rfl, by simp [SV.good, SV.goodL, mailSV, actSVL], trivial⟩ rfl (by simp [SV.good, SV.goodL]) ?_
  intro E
  refine go Try.tbs_ok 1000 ?_
  refine ev_new fun b0 => ?_
  refine ev_new fun b1 => ?_
  refine ev_if_eq (fun h2 => ?_) (fun h2 => ?_)
  refine go Try.tbs_ok 1000 ?_
  refine ev_call (lookN_zero (p) (i)) [0] [] (fun v0_ => [.box (p) 52 (([Value.bool false, Value.slice none 0 0]).map vaS)]) rfl rfl (by decide) rfl (by simp) (fun _ => rfl) (fun _ => (newsOk_box (goodL_va _ _) (newsOk_nil _))) (fun _ => (by repeat (first | exact trivial | refine ⟨rfl, ?_⟩))) (fun _ h3 => ?_)
  refine go Try.tbs_ok 1000 ?_
  refine ev_fin ⟨trivial, _, rfl, (()), rfl, (by trivial), Frm.sel [0] rfl (by decide)⟩
  refine go Try.tbs_ok 1000 ?_
  refine ev_if_eq (fun h4 => ?_) (fun h4 => ?_)
  refine go Try.tbs_ok 1000 ?_
  refine ev_if_yes (beq_iff_eq.2 (by with_reducible assumption)) ?_
  refine go Try.tbs_ok 1000 ?_
  refine ev_call (takeN_zero (p) (i)) [0] [] (fun v0_ => [.box (p) 52 (([Value.bool false, Value.slice none 0 0]).map vaS)]) rfl rfl (by decide) rfl (by simp) (fun _ => rfl) (fun _ => (newsOk_box (goodL_va _ _) (newsOk_nil _))) (fun _ => (by repeat (first | exact trivial | refine ⟨rfl, ?_⟩))) (fun _ h5 => ?_)
  refine go Try.tbs_ok 1000 ?_
  refine ev_fin ⟨trivial, _, rfl, (()), rfl, (by trivial), Frm.sel [0] rfl (by decide)⟩
  refine go Try.tbs_ok 1000 ?_
  refine ev_if_eq (fun h6 => ?_) (fun h6 => ?_)
  refine go Try.tbs_ok 1000 ?_
  refine ev_call (takeN_zero (p) (i)) [0] [] (fun v0_ => [.box (p) 52 (([Value.bool false, Value.slice none 0 0]).map vaS)]) rfl rfl (by decide) rfl (by simp) (fun _ => rfl) (fun _ => (newsOk_box (goodL_va _ _) (newsOk_nil _))) (fun _ => (by repeat (first | exact trivial | refine ⟨rfl, ?_⟩))) (fun _ h7 => ?_)
  refine go Try.tbs_ok 1000 ?_
  refine ev_fin ⟨trivial, _, rfl, (()), rfl, (by trivial), Frm.sel [0] rfl (by decide)⟩
  refine go Try.tbs_ok 1000 ?_
  refine ev_if_eq (fun h8 => ?_) (fun h8 => ?_)
  refine go Try.tbs_ok 1000 ?_
  refine ev_call (copyN_zero (p) (i)) [0] [] (fun v0_ => [.box (p) 52 (([Value.bool false, Value.slice none 0 0]).map vaS)]) rfl rfl (by decide) rfl (by simp) (fun _ => rfl) (fun _ => (newsOk_box (goodL_va _ _) (newsOk_nil _))) (fun _ => (by repeat (first | exact trivial | refine ⟨rfl, ?_⟩))) (fun _ h9 => ?_)
  refine go Try.tbs_ok 1000 ?_
  refine ev_fin ⟨trivial, _, rfl, (()), rfl, (by trivial), Frm.sel [0] rfl (by decide)⟩
  refine go Try.tbs_ok 1000 ?_
  refine ev_if_eq (fun h10 => ?_) (fun h10 => ?_)
  refine go Try.tbs_ok 1000 ?_
  refine ev_call (dropN_zero (p) (i)) [0] [] (fun v0_ => [.box (p) 52 (([Value.bool false, Value.slice none 0 0]).map vaS)]) rfl rfl (by decide) rfl (by simp) (fun _ => rfl) (fun _ => (newsOk_box (goodL_va _ _) (newsOk_nil _))) (fun _ => (by repeat (first | exact trivial | refine ⟨rfl, ?_⟩))) (fun _ h11 => ?_)
  refine go Try.tbs_ok 1000 ?_
  refine ev_fin ⟨trivial, _, rfl, (()), rfl, (by trivial), Frm.sel [0] rfl (by decide)⟩
  refine go Try.tbs_ok 1000 ?_
  refine ev_call (sendN_zero (p) (s) (a) (n) (d)) [0] [] (fun v0_ => [.box (p) 52 (([Value.bool false, Value.slice none 0 0]).map vaS)]) rfl rfl (by decide) rfl (by simp) (fun _ => rfl) (fun _ => (newsOk_box (goodL_va _ _) (newsOk_nil _))) (fun _ => (by repeat (first | exact trivial | refine ⟨rfl, ?_⟩))) (fun _ h12 => ?_)
  refine go Try.tbs_ok 1000 ?_
  refine ev_fin ⟨trivial, _, rfl, (()), rfl, (by trivial), Frm.sel [0] rfl (by decide)⟩
end Go.Proofs.Yteleepinalcjeaa
