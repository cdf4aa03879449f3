/-
  What is proved: what each function of the table does with one entry. Conditions: none.
-/
import Derived.Test.YtkjpfodnbjbmfaaRC
namespace Go.Proofs.Ytkjpfodnbjbmfaa
open Go.Sy Go.RowKit

theorem containsRow (A : Option Addr) (L : List Int) (n c : Nat) (x : Int) (hn : n = L.length) (h1 : n ≤ 1000) :
    Triple Try.prog 27 [.slice A n c, .int .i64 x] [] [Row 3 1 A n c (L.flatMap encN)] Unit (fun _ => .bool (decide (x ∈ L))) (fun _ => True) (fun _ => []) :=
  (containsI A L n c x hn h1).ofRow 3 c
theorem searchRow (A : Option Addr) (L : List Int) (n c : Nat) (x : Int) (hn : n = L.length) (h1 : n ≤ 1000) (hs : L.Pairwise (· < ·)) :
    Triple Try.prog 22 [.slice A n c, .int .i64 x] [] [Row 3 1 A n c (L.flatMap encN)] Unit (fun _ => .tuple #[.int .i64 (posI L x : Nat), .bool (decide (x ∈ L))]) (fun _ => True) (fun _ => []) :=
  (searchI A L n c x hn h1 hs).ofRow 3 c
set_option maxRecDepth 100000 in
theorem isNone (p b : Nat) : Triple Try.prog 21 [.pointer (some ⟨p, 0, none⟩)] [Pt p 46 [.map (some b)]] [] Unit (fun _ => .bool false) (fun _ => True) (fun _ => [Pt p 46 [.map (some b)]]) := by
  refine triple_intro Try.tbs_ok Try.func21 rfl [.pt 0 p 0] [.box p 46 [.va (.map (some b))]] ⟨rfl, trivial⟩ rfl (by simp [SV.good, SV.goodL]) ?_
  intro E
  refine go Try.tbs_ok 1000 ?_
  refine ev_fin ⟨trivial, _, rfl, (()), rfl, (by trivial), Frm.sel [0] rfl (by decide)⟩
set_option maxRecDepth 100000 in
theorem len1 (p b : Nat) (es : List (Key × Value)) : Triple Try.prog 10 [.pointer (some ⟨p, 0, none⟩)] [Pt p 46 [.map (some b)], MapA encK b es] [] Unit (fun _ => .int .i64 (es.length : Nat)) (fun _ => True) (fun _ => [Pt p 46 [.map (some b)], MapA encK b es]) := by
  refine triple_intro Try.tbs_ok Try.func10 rfl [.pt 0 p 0] [.box p 46 [.va (.map (some b))], .fact (MapA encK b es)] ⟨rfl, trivial⟩ rfl (by simp [SV.good, SV.goodL]) ?_
  intro E
  refine go Try.tbs_ok 1000 ?_
  refine ev_call (isNone (p) (b)) [0] [] (fun v0_ => [.box (p) 46 [.va (Value.map (some b))]]) rfl rfl (by decide) rfl (by simp) (fun _ => rfl) (fun _ => (newsOk_box (by simp [SV.good, SV.goodL]) (newsOk_nil _))) (fun _ => (by repeat (first | exact trivial | refine ⟨rfl, ?_⟩))) (fun _ h0 => ?_)
  refine go Try.tbs_ok 1000 ?_
  refine ev_if_no rfl ?_
  refine go Try.tbs_ok 1000 ?_
  refine ev_stop (go_lenMap (encK := encK) Try.tbs_ok (es) (.inr 1) rfl rfl rfl rfl rfl (fun _ h => h) ?_)
  refine go Try.tbs_ok 1000 ?_
  refine ev_fin ⟨trivial, _, rfl, (()), rfl, (by trivial), Frm.sel [0, 1] rfl (by decide)⟩
set_option maxRecDepth 100000 in
theorem has1 (p b : Nat) (es : List (Key × Value)) (s i o : Int) (A : Option Addr) (L : List Int) (n c : Nat) (hn : n = L.length) (h1 : n ≤ 1000) (hv : lookE es (s, i) (.slice none 0 0) = .slice A n c) :
    Triple Try.prog 19 [.pointer (some ⟨p, 0, none⟩), .int .i64 s, .int .i64 i, .int .i64 o] [Pt p 46 [.map (some b)], MapA encK b es, Row 3 1 A n c (L.flatMap encN)] [] Unit (fun _ => .bool (decide (o ∈ L))) (fun _ => True)
      (fun _ => [Pt p 46 [.map (some b)], MapA encK b es, Row 3 1 A n c (L.flatMap encN)]) := by
  refine triple_intro Try.tbs_ok Try.func19 rfl [.pt 0 p 0, .va (.int .i64 s), .va (.int .i64 i), .va (.int .i64 o)] [.box p 46 [.va (.map (some b))], .fact (MapA encK b es), .fact (Row 3 1 A n c (L.flatMap encN))] ⟨rfl, trivial, trivial, trivial, trivial⟩ rfl (by simp [SV.good, SV.goodL]) ?_
  intro E
  refine go Try.tbs_ok 1000 ?_
  refine ev_call (isNone (p) (b)) [0] [] (fun v0_ => [.box (p) 46 [.va (Value.map (some b))]]) rfl rfl (by decide) rfl (by simp) (fun _ => rfl) (fun _ => (newsOk_box (by simp [SV.good, SV.goodL]) (newsOk_nil _))) (fun _ => (by repeat (first | exact trivial | refine ⟨rfl, ?_⟩))) (fun _ h0 => ?_)
  refine go Try.tbs_ok 1000 ?_
  refine ev_if_yes rfl ?_
  refine go Try.tbs_ok 1000 ?_
  refine ev_stop (go_lookup (encK := encK) Try.tbs_ok (es) keyOk ((s, i)) _ (Value.slice A n c) (.inr 1) rfl rfl rfl rfl rfl rfl zeroI rfl (fun _ h => h) hv ?_)
  refine go Try.tbs_ok 1000 ?_
  refine ev_callF (containsRow (A) (L) (n) (c) (o) (by with_reducible assumption) (by with_reducible assumption)) [] [.inr 2] rfl rfl (by decide) rfl (by simp) (fun _ => (by repeat (first | exact trivial | refine ⟨rfl, ?_⟩))) (fun _ h1 => ?_)
  refine go Try.tbs_ok 1000 ?_
  refine ev_fin ⟨trivial, _, rfl, (()), rfl, (by trivial), Frm.sel [0, 1, 2] rfl (by decide)⟩
set_option maxRecDepth 100000 in
theorem take1 (p b : Nat) (es : List (Key × Value)) (s i : Int) (A : Option Addr) (L : List Int) (n c : Nat) (hv : lookE es (s, i) (.slice none 0 0) = .slice A n c) :
    Triple Try.prog 11 [.pointer (some ⟨p, 0, none⟩), .int .i64 s, .int .i64 i] [Pt p 46 [.map (some b)], MapA encK b es, Row 3 1 A n c (L.flatMap encN)] [] Unit (fun _ => .slice A n c) (fun _ => True)
      (fun _ => [Pt p 46 [.map (some b)], MapA encK b (delE es (s, i)), Row 3 1 A n c (L.flatMap encN)]) := by
  refine triple_intro Try.tbs_ok Try.func11 rfl [.pt 0 p 0, .va (.int .i64 s), .va (.int .i64 i)] [.box p 46 [.va (.map (some b))], .fact (MapA encK b es), .fact (Row 3 1 A n c (L.flatMap encN))] ⟨rfl, trivial, trivial, trivial⟩ rfl (by simp [SV.good, SV.goodL]) ?_
  intro E
  refine go Try.tbs_ok 1000 ?_
  refine ev_call (isNone (p) (b)) [0] [] (fun v0_ => [.box (p) 46 [.va (Value.map (some b))]]) rfl rfl (by decide) rfl (by simp) (fun _ => rfl) (fun _ => (newsOk_box (by simp [SV.good, SV.goodL]) (newsOk_nil _))) (fun _ => (by repeat (first | exact trivial | refine ⟨rfl, ?_⟩))) (fun _ h0 => ?_)
  refine go Try.tbs_ok 1000 ?_
  refine ev_if_no rfl ?_
  refine go Try.tbs_ok 1000 ?_
  refine ev_new fun b1 => ?_
  refine ev_stop (go_draw Try.tbs_ok false [0, 1, 3] [(0,true),(1,true),(2,true),(3,true),(4,true),(5,true),(6,false)] rfl ?_)
  refine go Try.tbs_ok 1000 ?_
  refine ev_need ⟨⟨(by repeat (first | exact trivial | refine ⟨rfl, ?_⟩)), rfl⟩, by kernel_rfl⟩ ?_
  refine ev_stop (tk_lookup (encK := encK) Try.tbs_ok (es) keyOk ((s, i)) _ (Value.slice A n c) (.inr 1) ⟨⟨(by repeat (first | exact trivial | refine ⟨rfl, ?_⟩)), rfl⟩, by kernel_rfl⟩ rfl rfl rfl rfl rfl rfl rfl zeroI rfl (fun _ h => h) hv ?_)
  refine go Try.tbs_ok 1000 ?_
  refine ev_need ⟨⟨(by repeat (first | exact trivial | refine ⟨rfl, ?_⟩)), rfl⟩, by kernel_rfl⟩ ?_
  refine ev_need (by kernel_rfl) ?_
  refine ev_stop (go_draw Try.tbs_ok false [0, 3] [(0,true),(1,true),(2,true),(3,true),(4,true),(5,false)] rfl ?_)
  refine go Try.tbs_ok 1000 ?_
  refine ev_need ⟨⟨(by repeat (first | exact trivial | refine ⟨rfl, ?_⟩)), rfl⟩, by kernel_rfl⟩ ?_
  refine ev_stop (go_delete (encK := encK) Try.tbs_ok 1 (es) (delE (es) ((s, i))) keyOk ((s, i)) rfl rfl rfl rfl rfl rfl rfl rfl ?_)
  refine go Try.tbs_ok 1000 ?_
  refine ev_need (by kernel_rfl) ?_
  refine ev_fin ⟨trivial, _, rfl, (()), rfl, (by trivial), Frm.sel [0, 1, 2] rfl (by decide)⟩
set_option maxRecDepth 100000 in
theorem newT : Triple Try.prog 8 [] [] [] (Nat × Nat) (fun (p, _) => .pointer (some ⟨p, 0, none⟩)) (fun _ => True) (fun (p, b) => [Pt p 46 [.map (some b)], MapA encK b []]) := by
  refine triple_intro Try.tbs_ok Try.func8 rfl [] [] trivial rfl (by simp) ?_
  intro E
  refine go Try.tbs_ok 1000 ?_
  refine ev_stop (go_makeMap encK rfl (fun _ => (by repeat (first | exact trivial | refine ⟨rfl, ?_⟩))) (fun b0 => ?_))
  refine go Try.tbs_ok 1000 ?_
  refine ev_new fun b1 => ?_
  refine ev_fin ⟨trivial, _, rfl, ((b1, b0)), rfl, (by trivial), Frm.sel [1, 0] rfl (by decide)⟩
end Go.Proofs.Ytkjpfodnbjbmfaa
