/-
  What is proved: who waits, waits: what it does with one entry. Conditions: none.
-/
import Derived.Test.YtkjpfodnbjbmfaaRD
namespace Go.Proofs.Ytkjpfodnbjbmfaa
open Go.Sy Go.RowKit

def insI (L : List Int) (x : Int) : List Int := L.take (posI L x) ++ x :: L.drop (posI L x)
theorem insP (L : List Int) (A : Option Addr) (n c vb : Nat) (x : Int) (hn : n = L.length) (h1 : n ≤ 1000) :
    Triple Try.prog 23 [.slice A n c, .int .i64 (posI L x : Nat), .slice (some ⟨vb, 0, none⟩) 1 1] [Row 3 1 A n c (L.flatMap encN), Pt vb 3 [.int .i64 x]] [] (Option Addr × Nat) (fun (B, d) => .slice B (n + 1) d) (fun _ => True)
      (fun (B, d) => [Row 3 1 B (n + 1) d ((insI L x).flatMap encN)]) :=
  insertI A L n c (posI L x) vb x hn h1 (by rw [hn]; exact posI_le L x)
def W0 : List SV := []
set_option maxRecDepth 100000 in
theorem wait_arg (p b : Nat) (s i o : Int) (ho : o < -1 ∨ 7 ≤ o) :
    Triple Try.prog 9 [.pointer (some ⟨p, 0, none⟩), .int .i64 s, .int .i64 i, .int .i64 o] [Pt p 46 [.map (some b)]] [] Unit (fun _ => .int .i64 2) (fun _ => True) (fun _ => [Pt p 46 [.map (some b)]]) := by
  refine triple_intro Try.tbs_ok Try.func9 rfl [.pt 0 p 0, .va (.int .i64 s), .va (.int .i64 i), .va (.int .i64 o)] [.box p 46 [.va (.map (some b))]] ⟨rfl, trivial, trivial, trivial, trivial⟩ rfl (by simp [SV.good, SV.goodL]) ?_
  intro E
  refine go Try.tbs_ok 1000 ?_
  refine ev_call (isNone (p) (b)) [0] [] (fun v0_ => [.box (p) 46 [.va (Value.map (some b))]]) rfl rfl (by decide) rfl (by simp) (fun _ => rfl) (fun _ => (newsOk_box (by simp [SV.good, SV.goodL]) (newsOk_nil _))) (fun _ => (by repeat (first | exact trivial | refine ⟨rfl, ?_⟩))) (fun _ h0 => ?_)
  refine go Try.tbs_ok 1000 ?_
  refine ev_if_no rfl ?_
  refine go Try.tbs_ok 1000 ?_
  refine ev_if_lt (fun h1 => ?_) (fun h1 => ?_)
  refine go Try.tbs_ok 1000 ?_
  refine ev_fin ⟨trivial, _, rfl, (()), rfl, (by trivial), Frm.sel [0] rfl (by decide)⟩
  refine go Try.tbs_ok 1000 ?_
  refine ev_if_yes (decide_eq_true (show o ≥ 7 from (by omega))) ?_
  refine go Try.tbs_ok 1000 ?_
  refine ev_fin ⟨trivial, _, rfl, (()), rfl, (by trivial), Frm.sel [0] rfl (by decide)⟩
set_option maxRecDepth 100000 in
theorem wait_ok (p b : Nat) (es : List (Key × Value)) (s i o : Int) (A : Option Addr) (L : List Int) (n c : Nat) (hn : n = L.length) (h1 : n ≤ 1000) (hs : L.Pairwise (· < ·)) (hv : lookE es (s, i) (.slice none 0 0) = .slice A n c) (ho : ¬ (o < -1 ∨ 7 ≤ o)) (hm : o ∈ L) :
    Triple Try.prog 9 [.pointer (some ⟨p, 0, none⟩), .int .i64 s, .int .i64 i, .int .i64 o] [Pt p 46 [.map (some b)], MapA encK b es, Row 3 1 A n c (L.flatMap encN)] [] Unit (fun _ => .int .i64 0) (fun _ => True)
      (fun _ => [Pt p 46 [.map (some b)], MapA encK b es, Row 3 1 A n c (L.flatMap encN)]) := by
  have T1 := searchRow A L n c o hn h1 hs
  rw [decide_eq_true hm] at T1
  refine triple_intro Try.tbs_ok Try.func9 rfl [.pt 0 p 0, .va (.int .i64 s), .va (.int .i64 i), .va (.int .i64 o)] [.box p 46 [.va (.map (some b))], .fact (MapA encK b es), .fact (Row 3 1 A n c (L.flatMap encN))] ⟨rfl, trivial, trivial, trivial, trivial⟩ rfl (by simp [SV.good, SV.goodL]) ?_
  intro E
  refine go Try.tbs_ok 1000 ?_
  refine ev_call (isNone (p) (b)) [0] [] (fun v0_ => [.box (p) 46 [.va (Value.map (some b))]]) rfl rfl (by decide) rfl (by simp) (fun _ => rfl) (fun _ => (newsOk_box (by simp [SV.good, SV.goodL]) (newsOk_nil _))) (fun _ => (by repeat (first | exact trivial | refine ⟨rfl, ?_⟩))) (fun _ h0 => ?_)
  refine go Try.tbs_ok 1000 ?_
  refine ev_if_no rfl ?_
  refine go Try.tbs_ok 1000 ?_
  refine ev_if_no (decide_eq_false (show ¬o < -1 from (by omega))) ?_
  refine go Try.tbs_ok 1000 ?_
  refine ev_if_no (decide_eq_false (show ¬o ≥ 7 from (by omega))) ?_
  refine go Try.tbs_ok 1000 ?_
  refine ev_new fun b1 => ?_
  refine ev_stop (go_draw Try.tbs_ok false [0, 1, 3] [(0,true),(1,true),(2,true),(3,true),(4,true),(5,true),(6,false)] rfl ?_)
  refine go Try.tbs_ok 1000 ?_
  refine ev_need ⟨⟨(by repeat (first | exact trivial | refine ⟨rfl, ?_⟩)), rfl⟩, by kernel_rfl⟩ ?_
  refine ev_stop (tk_lookup (encK := encK) Try.tbs_ok (es) keyOk ((s, i)) _ (Value.slice A n c) (.inr 1) ⟨⟨(by repeat (first | exact trivial | refine ⟨rfl, ?_⟩)), rfl⟩, by kernel_rfl⟩ rfl rfl rfl rfl rfl rfl rfl zeroI rfl (fun _ h => h) hv ?_)
  refine go Try.tbs_ok 1000 ?_
  refine ev_need ⟨⟨(by repeat (first | exact trivial | refine ⟨rfl, ?_⟩)), rfl⟩, by kernel_rfl⟩ ?_
  refine ev_need (by kernel_rfl) ?_
  refine ev_callF (T1 ) [] [.inr 2] rfl rfl (by decide) rfl (by simp) (fun _ => (by repeat (first | exact trivial | refine ⟨rfl, ?_⟩))) (fun _ h2 => ?_)
  refine go Try.tbs_ok 1000 ?_
  refine ev_if_yes rfl ?_
  refine go Try.tbs_ok 1000 ?_
  refine ev_fin ⟨trivial, _, rfl, (()), rfl, (by trivial), Frm.sel [0, 1, 2] rfl (by decide)⟩
set_option maxRecDepth 100000 in
theorem wait_long (p b : Nat) (es : List (Key × Value)) (s i o : Int) (A : Option Addr) (c : Nat) (hv : lookE es (s, i) (.slice none 0 0) = .slice A 0 c) (ho : ¬ (o < -1 ∨ 7 ≤ o)) (hes : 64 ≤ es.length) :
    Triple Try.prog 9 [.pointer (some ⟨p, 0, none⟩), .int .i64 s, .int .i64 i, .int .i64 o] [Pt p 46 [.map (some b)], MapA encK b es, Row 3 1 A 0 c (([] : List Int).flatMap encN)] [] Unit (fun _ => .int .i64 3) (fun _ => True)
      (fun _ => [Pt p 46 [.map (some b)], MapA encK b es, Row 3 1 A 0 c (([] : List Int).flatMap encN)]) := by
  have T1 := searchRow A [] 0 c o rfl (by decide) List.Pairwise.nil
  rw [decide_eq_false (by simp)] at T1
  refine triple_intro Try.tbs_ok Try.func9 rfl [.pt 0 p 0, .va (.int .i64 s), .va (.int .i64 i), .va (.int .i64 o)] [.box p 46 [.va (.map (some b))], .fact (MapA encK b es), .fact (Row 3 1 A 0 c (([] : List Int).flatMap encN))] ⟨rfl, trivial, trivial, trivial, trivial⟩ rfl (by simp [SV.good, SV.goodL]) ?_
  intro E
  refine go Try.tbs_ok 1000 ?_
  refine ev_call (isNone (p) (b)) [0] [] (fun v0_ => [.box (p) 46 [.va (Value.map (some b))]]) rfl rfl (by decide) rfl (by simp) (fun _ => rfl) (fun _ => (newsOk_box (by simp [SV.good, SV.goodL]) (newsOk_nil _))) (fun _ => (by repeat (first | exact trivial | refine ⟨rfl, ?_⟩))) (fun _ h0 => ?_)
  refine go Try.tbs_ok 1000 ?_
  refine ev_if_no rfl ?_
  refine go Try.tbs_ok 1000 ?_
  refine ev_if_no (decide_eq_false (show ¬o < -1 from (by omega))) ?_
  refine go Try.tbs_ok 1000 ?_
  refine ev_if_no (decide_eq_false (show ¬o ≥ 7 from (by omega))) ?_
  refine go Try.tbs_ok 1000 ?_
  refine ev_new fun b1 => ?_
  refine ev_stop (go_draw Try.tbs_ok false [0, 1, 3] [(0,true),(1,true),(2,true),(3,true),(4,true),(5,true),(6,false)] rfl ?_)
  refine go Try.tbs_ok 1000 ?_
  refine ev_need ⟨⟨(by repeat (first | exact trivial | refine ⟨rfl, ?_⟩)), rfl⟩, by kernel_rfl⟩ ?_
  refine ev_stop (tk_lookup (encK := encK) Try.tbs_ok (es) keyOk ((s, i)) _ (Value.slice A 0 c) (.inr 1) ⟨⟨(by repeat (first | exact trivial | refine ⟨rfl, ?_⟩)), rfl⟩, by kernel_rfl⟩ rfl rfl rfl rfl rfl rfl rfl zeroI rfl (fun _ h => h) hv ?_)
  refine go Try.tbs_ok 1000 ?_
  refine ev_need ⟨⟨(by repeat (first | exact trivial | refine ⟨rfl, ?_⟩)), rfl⟩, by kernel_rfl⟩ ?_
  refine ev_need (by kernel_rfl) ?_
  refine ev_callF (T1 ) [] [.inr 2] rfl rfl (by decide) rfl (by simp) (fun _ => (by repeat (first | exact trivial | refine ⟨rfl, ?_⟩))) (fun _ h2 => ?_)
  refine go Try.tbs_ok 1000 ?_
  refine ev_if_no rfl ?_
  refine go Try.tbs_ok 1000 ?_
  refine ev_if_yes rfl ?_
  refine go Try.tbs_ok 1000 ?_
  refine ev_stop (go_lenMap (encK := encK) Try.tbs_ok (es) (.inr 1) rfl rfl rfl rfl rfl (fun _ h => h) ?_)
  refine go Try.tbs_ok 1000 ?_
  refine ev_if_yes (decide_eq_true (show (↑es.length : Int) ≥ 64 from (by omega))) ?_
  refine go Try.tbs_ok 1000 ?_
  refine ev_fin ⟨trivial, _, rfl, (()), rfl, (by trivial), Frm.sel [0, 1, 2] rfl (by decide)⟩
set_option maxRecDepth 100000 in
theorem wait_put (p b : Nat) (es : List (Key × Value)) (s i o : Int) (A : Option Addr) (L : List Int) (n c : Nat) (hn : n = L.length) (h1 : n ≤ 1000) (hs : L.Pairwise (· < ·)) (hv : lookE es (s, i) (.slice none 0 0) = .slice A n c) (ho : ¬ (o < -1 ∨ 7 ≤ o)) (hm : o ∉ L) (hes : 0 < n ∨ es.length < 64) :
    Triple Try.prog 9 [.pointer (some ⟨p, 0, none⟩), .int .i64 s, .int .i64 i, .int .i64 o] [Pt p 46 [.map (some b)], MapA encK b es, Row 3 1 A n c (L.flatMap encN)] [] (Option Addr × Nat) (fun _ => .int .i64 0) (fun _ => True)
      (fun (B, d) => [Pt p 46 [.map (some b)], MapA encK b (putE es (s, i) (.slice B (n + 1) d)), Row 3 1 B (n + 1) d ((insI L o).flatMap encN)]) := by
  have T1 := searchRow A L n c o hn h1 hs
  rw [decide_eq_false hm] at T1
  refine triple_intro Try.tbs_ok Try.func9 rfl [.pt 0 p 0, .va (.int .i64 s), .va (.int .i64 i), .va (.int .i64 o)] [.box p 46 [.va (.map (some b))], .fact (MapA encK b es), .fact (Row 3 1 A n c (L.flatMap encN))] ⟨rfl, trivial, trivial, trivial, trivial⟩ rfl (by simp [SV.good, SV.goodL]) ?_
  intro E
  refine go Try.tbs_ok 1000 ?_
  refine ev_call (isNone (p) (b)) [0] [] (fun v0_ => [.box (p) 46 [.va (Value.map (some b))]]) rfl rfl (by decide) rfl (by simp) (fun _ => rfl) (fun _ => (newsOk_box (by simp [SV.good, SV.goodL]) (newsOk_nil _))) (fun _ => (by repeat (first | exact trivial | refine ⟨rfl, ?_⟩))) (fun _ h0 => ?_)
  refine go Try.tbs_ok 1000 ?_
  refine ev_if_no rfl ?_
  refine go Try.tbs_ok 1000 ?_
  refine ev_if_no (decide_eq_false (show ¬o < -1 from (by omega))) ?_
  refine go Try.tbs_ok 1000 ?_
  refine ev_if_no (decide_eq_false (show ¬o ≥ 7 from (by omega))) ?_
  refine go Try.tbs_ok 1000 ?_
  refine ev_new fun b1 => ?_
  refine ev_stop (go_draw Try.tbs_ok false [0, 1, 3] [(0,true),(1,true),(2,true),(3,true),(4,true),(5,true),(6,false)] rfl ?_)
  refine go Try.tbs_ok 1000 ?_
  refine ev_need ⟨⟨(by repeat (first | exact trivial | refine ⟨rfl, ?_⟩)), rfl⟩, by kernel_rfl⟩ ?_
  refine ev_stop (tk_lookup (encK := encK) Try.tbs_ok (es) keyOk ((s, i)) _ (Value.slice A n c) (.inr 1) ⟨⟨(by repeat (first | exact trivial | refine ⟨rfl, ?_⟩)), rfl⟩, by kernel_rfl⟩ rfl rfl rfl rfl rfl rfl rfl zeroI rfl (fun _ h => h) hv ?_)
  refine go Try.tbs_ok 1000 ?_
  refine ev_need ⟨⟨(by repeat (first | exact trivial | refine ⟨rfl, ?_⟩)), rfl⟩, by kernel_rfl⟩ ?_
  refine ev_need (by kernel_rfl) ?_
  refine ev_callF (T1 ) [] [.inr 2] rfl rfl (by decide) rfl (by simp) (fun _ => (by repeat (first | exact trivial | refine ⟨rfl, ?_⟩))) (fun _ h2 => ?_)
  refine go Try.tbs_ok 1000 ?_
  refine ev_if_no rfl ?_
  refine go Try.tbs_ok 1000 ?_
  refine ev_if_eq (fun h3 => ?_) (fun h3 => ?_)
  refine go Try.tbs_ok 1000 ?_
  refine ev_stop (go_lenMap (encK := encK) Try.tbs_ok (es) (.inr 1) rfl rfl rfl rfl rfl (fun _ h => h) ?_)
  refine go Try.tbs_ok 1000 ?_
  refine ev_if_no (decide_eq_false (show ¬(↑es.length : Int) ≥ 64 from (by omega))) ?_
  refine go Try.tbs_ok 1000 ?_
  refine ev_stop (go_draw Try.tbs_ok false [0, 3] [(0,true),(1,true),(2,true),(3,true),(4,true),(5,true),(6,true),(7,true),(8,false),(9,false),(10,false)] rfl ?_)
  refine go Try.tbs_ok 1000 ?_
  refine ev_need ⟨⟨(by repeat (first | exact trivial | refine ⟨rfl, ?_⟩)), rfl⟩, by kernel_rfl⟩ ?_
  refine ev_new fun b4 => ?_
  refine ev_need ⟨⟨(by repeat (first | exact trivial | refine ⟨rfl, ?_⟩)), rfl⟩, by kernel_rfl⟩ ?_
  refine ev_callF (insP (L) (A) (n) (c) (b4) (o) (by with_reducible assumption) (by with_reducible assumption)) [2, 4] [] rfl rfl (by decide) rfl (by simp) (fun _ => (by repeat (first | exact trivial | refine ⟨rfl, ?_⟩))) (fun ⟨x5, x6⟩ h7 => ?_)
  refine go Try.tbs_ok 1000 ?_
  refine ev_need ⟨⟨(by repeat (first | exact trivial | refine ⟨rfl, ?_⟩)), rfl⟩, by kernel_rfl⟩ ?_
  refine ev_stop (go_mapUpdate (encK := encK) Try.tbs_ok 1 (es) (putE (es) ((s, i)) (Value.slice x5 (n + 1) x6)) keyOk ((s, i)) (Value.slice x5 (n + 1) x6) rfl rfl rfl rfl rfl rfl rfl rfl rfl rfl ?_)
  refine go Try.tbs_ok 1000 ?_
  refine ev_need (by kernel_rfl) ?_
  refine ev_fin ⟨trivial, _, rfl, ((x5, x6)), rfl, (by trivial), Frm.sel [0, 1, 2] rfl (by decide)⟩
  refine go Try.tbs_ok 1000 ?_
  refine ev_stop (go_draw Try.tbs_ok false [0, 3] [(0,true),(1,true),(2,true),(3,true),(4,true),(5,true),(6,true),(7,true),(8,false),(9,false),(10,false)] rfl ?_)
  refine go Try.tbs_ok 1000 ?_
  refine ev_need ⟨⟨(by repeat (first | exact trivial | refine ⟨rfl, ?_⟩)), rfl⟩, by kernel_rfl⟩ ?_
  refine ev_new fun b8 => ?_
  refine ev_need ⟨⟨(by repeat (first | exact trivial | refine ⟨rfl, ?_⟩)), rfl⟩, by kernel_rfl⟩ ?_
  refine ev_callF (insP (L) (A) (n) (c) (b8) (o) (by with_reducible assumption) (by with_reducible assumption)) [2, 4] [] rfl rfl (by decide) rfl (by simp) (fun _ => (by repeat (first | exact trivial | refine ⟨rfl, ?_⟩))) (fun ⟨x9, x10⟩ h11 => ?_)
  refine go Try.tbs_ok 1000 ?_
  refine ev_need ⟨⟨(by repeat (first | exact trivial | refine ⟨rfl, ?_⟩)), rfl⟩, by kernel_rfl⟩ ?_
  refine ev_stop (go_mapUpdate (encK := encK) Try.tbs_ok 1 (es) (putE (es) ((s, i)) (Value.slice x9 (n + 1) x10)) keyOk ((s, i)) (Value.slice x9 (n + 1) x10) rfl rfl rfl rfl rfl rfl rfl rfl rfl rfl ?_)
  refine go Try.tbs_ok 1000 ?_
  refine ev_need (by kernel_rfl) ?_
  refine ev_fin ⟨trivial, _, rfl, ((x9, x10)), rfl, (by trivial), Frm.sel [0, 1, 2] rfl (by decide)⟩
end Go.Proofs.Ytkjpfodnbjbmfaa
