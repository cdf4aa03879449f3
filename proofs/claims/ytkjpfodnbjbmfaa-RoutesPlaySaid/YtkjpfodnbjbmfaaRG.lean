/-
  What is proved: who waits no more: what it does with one entry. Conditions: none.
-/
import Derived.Test.YtkjpfodnbjbmfaaRF
namespace Go.Proofs.Ytkjpfodnbjbmfaa
open Go.Sy Go.RowKit

theorem ixOf_put (es : List (Key × Value)) (k : Key) (v : Value) : ∃ j, ixOf ((putE es k v).map (·.1)) k = some j ∧ (putE es k v)[j]? = some (k, v) := by
  unfold putE
  cases hix : ixOf (es.map (·.1)) k with
  | some j =>
    obtain ⟨hj, hk⟩ := ixOf_lt hix
    have hj1 : j < es.length := by simpa using hj
    refine ⟨j, ?_, by simp [hj1]⟩
    show ixOf ((es.set j (k, v)).map (·.1)) k = some j
    have e : (es.set j (k, v)).map (·.1) = es.map (·.1) := by
      rw [List.map_set]
      apply List.ext_getElem
      · simp
      · intro q h1 h2
        rw [List.getElem_set]
        split
        · rename_i e; subst e; simpa using hk.symm
        · rfl
    rw [e]
    exact hix
  | none =>
    refine ⟨es.length, ?_, by simp⟩
    show ixOf ((es ++ [(k, v)]).map (·.1)) k = some es.length
    unfold ixOf at hix ⊢
    rw [List.map_append, List.findIdx?_append, hix]
    simp
theorem look_put (es : List (Key × Value)) (k : Key) (v z : Value) : lookE (putE es k v) k z = v := by
  obtain ⟨j, h1, h2⟩ := ixOf_put es k v
  unfold lookE
  rw [h1]
  simp [h2]
theorem deleteU (A : Option Addr) (L L' : List Int) (n m c bo : Nat) (o : Int) (hn : n = L.length) (h1 : n ≤ 1000) (hm : o ∈ L) (hL : L' = L.filter (· != o)) (hm' : m = L'.length) :
    Triple Try.prog 25 [.slice A n c, eqFn bo] [Row 3 1 A n c (L.flatMap encN), Pt bo 3 [.int .i64 o]] [] Unit (fun _ => .slice A m c) (fun _ => True)
      (fun _ => [Row 3 1 A m c (L'.flatMap encN), Pt bo 3 [.int .i64 o]]) :=
  (deleteF A L n c bo o hn h1 hm).imp fun q hq => ⟨(), by rw [hm', hL, show q = _ from hq], trivial, by rw [hm', hL, show q = _ from hq]; exact fun _ p => p⟩
set_option maxRecDepth 100000 in
theorem drop_no (p b : Nat) (es : List (Key × Value)) (s i o : Int) (A : Option Addr) (L : List Int) (n c : Nat) (hn : n = L.length) (h1 : n ≤ 1000) (hv : lookE es (s, i) (.slice none 0 0) = .slice A n c) (hm : o ∉ L) :
    Triple Try.prog 16 [.pointer (some ⟨p, 0, none⟩), .int .i64 s, .int .i64 i, .int .i64 o] [Pt p 46 [.map (some b)], MapA encK b es, Row 3 1 A n c (L.flatMap encN)] [] Unit (fun _ => .bool false) (fun _ => True)
      (fun _ => [Pt p 46 [.map (some b)], MapA encK b es, Row 3 1 A n c (L.flatMap encN)]) := by
  have T1 := has1 p b es s i o A L n c hn h1 hv
  rw [decide_eq_false hm] at T1
  refine triple_intro Try.tbs_ok Try.func16 rfl [.pt 0 p 0, .va (.int .i64 s), .va (.int .i64 i), .va (.int .i64 o)] [.box p 46 [.va (.map (some b))], .fact (MapA encK b es), .fact (Row 3 1 A n c (L.flatMap encN))] ⟨rfl, trivial, trivial, trivial, trivial⟩ rfl (by simp [SV.good, SV.goodL]) ?_
  intro E
  refine go Try.tbs_ok 1000 ?_
  refine ev_new fun b0 => ?_
  refine ev_call (T1 ) [0, 1, 2] [] (fun v0_ => [.box (p) 46 [.va (Value.map (some b))], .fact (MapA encK b es), .fact (Row 3 1 A n c (List.flatMap encN L))]) rfl rfl (by decide) rfl (by simp) (fun _ => rfl) (fun _ => (newsOk_box (by simp [SV.good, SV.goodL]) (newsOk_fact (newsOk_fact (newsOk_nil _))))) (fun _ => (by repeat (first | exact trivial | refine ⟨rfl, ?_⟩))) (fun _ h1 => ?_)
  refine go Try.tbs_ok 1000 ?_
  refine ev_if_yes rfl ?_
  refine go Try.tbs_ok 1000 ?_
  refine ev_fin ⟨trivial, _, rfl, (()), rfl, (by trivial), Frm.sel [0, 1, 2] rfl (by decide)⟩
set_option maxRecDepth 100000 in
theorem drop_yes (p b : Nat) (es : List (Key × Value)) (s i o : Int) (A : Option Addr) (L L' : List Int) (n m c : Nat) (hn : n = L.length) (h1 : n ≤ 1000) (hv : lookE es (s, i) (.slice none 0 0) = .slice A n c) (hm : o ∈ L) (hL : L' = L.filter (· != o)) (hm' : m = L'.length) (h0 : 0 < m) :
    Triple Try.prog 16 [.pointer (some ⟨p, 0, none⟩), .int .i64 s, .int .i64 i, .int .i64 o] [Pt p 46 [.map (some b)], MapA encK b es, Row 3 1 A n c (L.flatMap encN)] [] Unit (fun _ => .bool true) (fun _ => True)
      (fun _ => [Pt p 46 [.map (some b)], MapA encK b (putE es (s, i) (.slice A m c)), Row 3 1 A m c (L'.flatMap encN)]) := by
  have T1 := has1 p b es s i o A L n c hn h1 hv
  rw [decide_eq_true hm] at T1
  have T2 := fun bo => deleteU A L L' n m c bo o hn h1 hm hL hm'
  have hv2 := look_put es (s, i) (.slice A m c) (.slice none 0 0)
  refine triple_intro Try.tbs_ok Try.func16 rfl [.pt 0 p 0, .va (.int .i64 s), .va (.int .i64 i), .va (.int .i64 o)] [.box p 46 [.va (.map (some b))], .fact (MapA encK b es), .fact (Row 3 1 A n c (L.flatMap encN))] ⟨rfl, trivial, trivial, trivial, trivial⟩ rfl (by simp [SV.good, SV.goodL]) ?_
  intro E
  refine go Try.tbs_ok 1000 ?_
  refine ev_new fun b0 => ?_
  refine ev_call (T1 ) [0, 1, 2] [] (fun v0_ => [.box (p) 46 [.va (Value.map (some b))], .fact (MapA encK b es), .fact (Row 3 1 A n c (List.flatMap encN L))]) rfl rfl (by decide) rfl (by simp) (fun _ => rfl) (fun _ => (newsOk_box (by simp [SV.good, SV.goodL]) (newsOk_fact (newsOk_fact (newsOk_nil _))))) (fun _ => (by repeat (first | exact trivial | refine ⟨rfl, ?_⟩))) (fun _ h1 => ?_)
  refine go Try.tbs_ok 1000 ?_
  refine ev_if_no rfl ?_
  refine go Try.tbs_ok 1000 ?_
  refine ev_new fun b2 => ?_
  refine ev_stop (go_draw Try.tbs_ok false [0, 1, 4] [(0,true),(1,true),(2,true),(3,true),(4,true),(5,true),(6,true),(7,true),(8,true),(9,true),(10,true),(11,true),(12,false),(13,false)] rfl ?_)
  refine go Try.tbs_ok 1000 ?_
  refine ev_need ⟨⟨(by repeat (first | exact trivial | refine ⟨rfl, ?_⟩)), rfl⟩, by kernel_rfl⟩ ?_
  refine ev_stop (tk_lookup (encK := encK) Try.tbs_ok (es) keyOk ((s, i)) _ (Value.slice A n c) (.inr 1) ⟨⟨(by repeat (first | exact trivial | refine ⟨rfl, ?_⟩)), rfl⟩, by kernel_rfl⟩ rfl rfl rfl rfl rfl rfl rfl zeroI rfl (fun _ h => h) hv ?_)
  refine go Try.tbs_ok 1000 ?_
  refine ev_need ⟨⟨(by repeat (first | exact trivial | refine ⟨rfl, ?_⟩)), rfl⟩, by kernel_rfl⟩ ?_
  refine ev_call (T2 (b0)) [2, 3] [] (fun v0_ => [.fact (Row 3 1 A m c (List.flatMap encN L')), .box (b0) 3 [.va (Value.int IntKind.i64 o)]]) rfl rfl (by decide) rfl (by simp) (fun _ => rfl) (fun _ => (newsOk_fact (newsOk_box (by simp [SV.good, SV.goodL]) (newsOk_nil _)))) (fun _ => (by repeat (first | exact trivial | refine ⟨rfl, ?_⟩))) (fun _ h3 => ?_)
  refine go Try.tbs_ok 1000 ?_
  refine ev_need ⟨⟨(by repeat (first | exact trivial | refine ⟨rfl, ?_⟩)), rfl⟩, by kernel_rfl⟩ ?_
  refine ev_stop (go_mapUpdate (encK := encK) Try.tbs_ok 1 (es) (putE (es) ((s, i)) (Value.slice A m c)) keyOk ((s, i)) (Value.slice A m c) rfl rfl rfl rfl rfl rfl rfl rfl rfl rfl ?_)
  refine go Try.tbs_ok 1000 ?_
  refine ev_need (by kernel_rfl) ?_
  refine ev_stop (go_draw Try.tbs_ok true [0, 1, 2, 3, 4] [(0,true),(1,true),(2,true),(3,true),(4,true),(5,true),(6,true),(7,true)] rfl ?_)
  refine go Try.tbs_ok 1000 ?_
  refine ev_need ⟨⟨(by repeat (first | exact trivial | refine ⟨rfl, ?_⟩)), rfl⟩, by kernel_rfl⟩ ?_
  refine ev_stop (tk_lookup (encK := encK) Try.tbs_ok (putE es (s, i) (Value.slice A m c)) keyOk ((s, i)) _ (Value.slice A m c) (.inr 1) ⟨⟨(by repeat (first | exact trivial | refine ⟨rfl, ?_⟩)), rfl⟩, by kernel_rfl⟩ rfl rfl rfl rfl rfl rfl rfl zeroI rfl (fun _ h => h) hv2 ?_)
  refine go Try.tbs_ok 1000 ?_
  refine ev_need ⟨⟨(by repeat (first | exact trivial | refine ⟨rfl, ?_⟩)), rfl⟩, by kernel_rfl⟩ ?_
  refine ev_if_no (beq_eq_false_iff_ne.2 (show ¬(↑m : Int) = 0 from (by omega))) ?_
  refine go Try.tbs_ok 1000 ?_
  refine ev_fin ⟨trivial, _, rfl, (()), rfl, (by trivial), Frm.sel [0, 1, 2] rfl (by decide)⟩
set_option maxRecDepth 100000 in
theorem drop_last (p b : Nat) (es : List (Key × Value)) (s i o : Int) (A : Option Addr) (L : List Int) (n c : Nat) (hn : n = L.length) (h1 : n ≤ 1000) (hv : lookE es (s, i) (.slice none 0 0) = .slice A n c) (hm : o ∈ L) (hL : [] = L.filter (· != o)) :
    Triple Try.prog 16 [.pointer (some ⟨p, 0, none⟩), .int .i64 s, .int .i64 i, .int .i64 o] [Pt p 46 [.map (some b)], MapA encK b es, Row 3 1 A n c (L.flatMap encN)] [] Unit (fun _ => .bool true) (fun _ => True)
      (fun _ => [Pt p 46 [.map (some b)], MapA encK b (delE (putE es (s, i) (.slice A 0 c)) (s, i))]) := by
  have T1 := has1 p b es s i o A L n c hn h1 hv
  rw [decide_eq_true hm] at T1
  have T2 := fun bo => deleteU A L [] n 0 c bo o hn h1 hm hL rfl
  have hv2 := look_put es (s, i) (.slice A 0 c) (.slice none 0 0)
  refine triple_intro Try.tbs_ok Try.func16 rfl [.pt 0 p 0, .va (.int .i64 s), .va (.int .i64 i), .va (.int .i64 o)] [.box p 46 [.va (.map (some b))], .fact (MapA encK b es), .fact (Row 3 1 A n c (L.flatMap encN))] ⟨rfl, trivial, trivial, trivial, trivial⟩ rfl (by simp [SV.good, SV.goodL]) ?_
  intro E
  refine go Try.tbs_ok 1000 ?_
  refine ev_new fun b0 => ?_
  refine ev_call (T1 ) [0, 1, 2] [] (fun v0_ => [.box (p) 46 [.va (Value.map (some b))], .fact (MapA encK b es), .fact (Row 3 1 A n c (List.flatMap encN L))]) rfl rfl (by decide) rfl (by simp) (fun _ => rfl) (fun _ => (newsOk_box (by simp [SV.good, SV.goodL]) (newsOk_fact (newsOk_fact (newsOk_nil _))))) (fun _ => (by repeat (first | exact trivial | refine ⟨rfl, ?_⟩))) (fun _ h1 => ?_)
  refine go Try.tbs_ok 1000 ?_
  refine ev_if_no rfl ?_
  refine go Try.tbs_ok 1000 ?_
  refine ev_new fun b2 => ?_
  refine ev_stop (go_draw Try.tbs_ok false [0, 1, 4] [(0,true),(1,true),(2,true),(3,true),(4,true),(5,true),(6,true),(7,true),(8,true),(9,true),(10,true),(11,true),(12,false),(13,false)] rfl ?_)
  refine go Try.tbs_ok 1000 ?_
  refine ev_need ⟨⟨(by repeat (first | exact trivial | refine ⟨rfl, ?_⟩)), rfl⟩, by kernel_rfl⟩ ?_
  refine ev_stop (tk_lookup (encK := encK) Try.tbs_ok (es) keyOk ((s, i)) _ (Value.slice A n c) (.inr 1) ⟨⟨(by repeat (first | exact trivial | refine ⟨rfl, ?_⟩)), rfl⟩, by kernel_rfl⟩ rfl rfl rfl rfl rfl rfl rfl zeroI rfl (fun _ h => h) hv ?_)
  refine go Try.tbs_ok 1000 ?_
  refine ev_need ⟨⟨(by repeat (first | exact trivial | refine ⟨rfl, ?_⟩)), rfl⟩, by kernel_rfl⟩ ?_
  refine ev_call (T2 (b0)) [2, 3] [] (fun v0_ => [.fact (Row 3 1 A 0 c (List.flatMap encN [])), .box (b0) 3 [.va (Value.int IntKind.i64 o)]]) rfl rfl (by decide) rfl (by simp) (fun _ => rfl) (fun _ => (newsOk_fact (newsOk_box (by simp [SV.good, SV.goodL]) (newsOk_nil _)))) (fun _ => (by repeat (first | exact trivial | refine ⟨rfl, ?_⟩))) (fun _ h3 => ?_)
  refine go Try.tbs_ok 1000 ?_
  refine ev_need ⟨⟨(by repeat (first | exact trivial | refine ⟨rfl, ?_⟩)), rfl⟩, by kernel_rfl⟩ ?_
  refine ev_stop (go_mapUpdate (encK := encK) Try.tbs_ok 1 (es) (putE (es) ((s, i)) (Value.slice A 0 c)) keyOk ((s, i)) (Value.slice A 0 c) rfl rfl rfl rfl rfl rfl rfl rfl rfl rfl ?_)
  refine go Try.tbs_ok 1000 ?_
  refine ev_need (by kernel_rfl) ?_
  refine ev_stop (go_draw Try.tbs_ok true [0, 1, 2, 3, 4] [(0,true),(1,true),(2,true),(3,true),(4,true),(5,true),(6,true),(7,true)] rfl ?_)
  refine go Try.tbs_ok 1000 ?_
  refine ev_need ⟨⟨(by repeat (first | exact trivial | refine ⟨rfl, ?_⟩)), rfl⟩, by kernel_rfl⟩ ?_
  refine ev_stop (tk_lookup (encK := encK) Try.tbs_ok (putE es (s, i) (Value.slice A 0 c)) keyOk ((s, i)) _ (Value.slice A 0 c) (.inr 1) ⟨⟨(by repeat (first | exact trivial | refine ⟨rfl, ?_⟩)), rfl⟩, by kernel_rfl⟩ rfl rfl rfl rfl rfl rfl rfl zeroI rfl (fun _ h => h) hv2 ?_)
  refine go Try.tbs_ok 1000 ?_
  refine ev_need ⟨⟨(by repeat (first | exact trivial | refine ⟨rfl, ?_⟩)), rfl⟩, by kernel_rfl⟩ ?_
  refine ev_if_yes rfl ?_
  refine go Try.tbs_ok 1000 ?_
  refine ev_stop (go_draw Try.tbs_ok false [0, 4] [(0,true),(1,true),(2,true),(3,true),(4,true),(5,false)] rfl ?_)
  refine go Try.tbs_ok 1000 ?_
  refine ev_need ⟨⟨(by repeat (first | exact trivial | refine ⟨rfl, ?_⟩)), rfl⟩, by kernel_rfl⟩ ?_
  refine ev_stop (go_delete (encK := encK) Try.tbs_ok 1 (putE es (s, i) (Value.slice A 0 c)) (delE (putE es (s, i) (Value.slice A 0 c)) ((s, i))) keyOk ((s, i)) rfl rfl rfl rfl rfl rfl rfl rfl ?_)
  refine go Try.tbs_ok 1000 ?_
  refine ev_need (by kernel_rfl) ?_
  refine ev_fin ⟨trivial, _, rfl, (()), rfl, (by trivial), Frm.sel [0, 1] rfl (by decide)⟩
end Go.Proofs.Ytkjpfodnbjbmfaa
