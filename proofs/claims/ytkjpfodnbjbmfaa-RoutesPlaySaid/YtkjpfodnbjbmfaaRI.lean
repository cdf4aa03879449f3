/-
  What is proved: the chapter's table; a table that is none. Conditions: none.
-/
import Derived.Test.YtkjpfodnbjbmfaaRH
namespace Go.Proofs.Ytkjpfodnbjbmfaa
open Go.Sy Go.RowKit

instance (T : WT) (k : Key) : Decidable (okL T k) := inferInstanceAs (Decidable (_ ∧ _))
set_option maxRecDepth 100000 in
theorem sameInts (A B : Option Addr) (L M : List Int) (m c n d : Nat) (hm : m = L.length) (hn : n = M.length) (h1 : m ≤ 1000000) :
    Triple Try.prog 13 [.slice A m c, .slice B n d] [] [Rd 1 A m (L.flatMap encN), Rd 1 B n (M.flatMap encN)] Unit (fun _ => .bool (decide (L = M))) (fun _ => True) (fun _ => []) := by
  refine triple_intro Try.tbs_ok Try.func13 rfl [.va (.slice A m c), .va (.slice B n d)] [] ⟨trivial, trivial, trivial⟩ rfl (by simp) ?_
  intro E
  refine go Try.tbs_ok 1000 ?_
  refine ev_if_ne (fun h0 => ?_) (fun h0 => ?_)
  refine go Try.tbs_ok 1000 ?_
  refine ev_fin ⟨trivial, _, rfl, (()), ?_, (by trivial), Frm.nil _⟩
  rotate_left
  refine go Try.tbs_ok 1000 ?_
  rotate_left
  · exact congrArg Value.bool (decide_eq_false (fun e => by rw [e] at hm; omega)).symm
  · have hmn : m = n := by omega
    refine ev_stop (go_loopR [4, 5, 11, 12, 13, 14, 15, 16, 17, 18, 19, 20, 21, 22, 23, 24, 25] (fun i => [(5, .va (.int .i64 (i : Nat)))]) (fun _ => []) (fun i => i ≤ m ∧ L.take i = M.take i) (fun i => m - i) (0 : Nat) ⟨Nat.zero_le _, rfl⟩ ⟨⟨by kernel_rfl, by kernel_rfl⟩, ⟨_, rfl⟩, ⟨_, rfl⟩, by kernel_rfl, by kernel_rfl⟩ (fun i h_ => ?_))
    obtain ⟨hi, hi2⟩ := h_
    refine go Try.tbs_ok 1000 ?_
    refine ev_if_lt (fun h20 => ?_) (fun h20 => ?_)
    refine go Try.tbs_ok 1000 ?_
    refine ev_stop (go_draw Try.tbs_ok true [] [(0,true),(1,true),(2,true),(3,true),(4,true),(5,true),(6,true),(7,true),(8,true)] rfl ?_)
    refine go Try.tbs_ok 1000 ?_
    refine ev_need ⟨⟨(by repeat (first | exact trivial | refine ⟨rfl, ?_⟩)), rfl⟩, by kernel_rfl⟩ ?_
    refine ev_stop (tk_indexE (sz := 1) Try.tbs_ok (.inl 0) (i) ⟨⟨(by repeat (first | exact trivial | refine ⟨rfl, ?_⟩)), rfl⟩, by kernel_rfl⟩ rfl rfl rfl rfl rfl rfl rfl (by omega) rfl (fun _ h => h) (fun g21 o23 e22 => ?_))
    subst e22
    refine go Try.tbs_ok 1000 ?_
    refine ev_need ⟨⟨(by repeat (first | exact trivial | refine ⟨rfl, ?_⟩)), rfl⟩, by kernel_rfl⟩ ?_
    have l24 : i < (L).length := (by omega)
    refine ev_stop (tk_loadE Try.tbs_ok (.inl 0) (i) 0 ⟨⟨(by repeat (first | exact trivial | refine ⟨rfl, ?_⟩)), rfl⟩, by kernel_rfl⟩ rfl rfl rfl rfl rfl (fun _ h => h) (by omega) (fun _ => rfl) (by omega) l24 (by decide) ?_)
    refine go Try.tbs_ok 1000 ?_
    refine ev_need ⟨⟨(by repeat (first | exact trivial | refine ⟨rfl, ?_⟩)), rfl⟩, by kernel_rfl⟩ ?_
    refine ev_stop (tk_indexE (sz := 1) Try.tbs_ok (.inl 1) (i) ⟨⟨(by repeat (first | exact trivial | refine ⟨rfl, ?_⟩)), rfl⟩, by kernel_rfl⟩ rfl rfl rfl rfl rfl rfl rfl (by omega) rfl (fun _ h => h) (fun g25 o27 e26 => ?_))
    subst e26
    refine go Try.tbs_ok 1000 ?_
    refine ev_need ⟨⟨(by repeat (first | exact trivial | refine ⟨rfl, ?_⟩)), rfl⟩, by kernel_rfl⟩ ?_
    have l28 : i < (M).length := (by omega)
    refine ev_stop (tk_loadE Try.tbs_ok (.inl 1) (i) 0 ⟨⟨(by repeat (first | exact trivial | refine ⟨rfl, ?_⟩)), rfl⟩, by kernel_rfl⟩ rfl rfl rfl rfl rfl (fun _ h => h) (by omega) (fun _ => rfl) (by omega) l28 (by decide) ?_)
    refine go Try.tbs_ok 1000 ?_
    refine ev_need ⟨⟨(by repeat (first | exact trivial | refine ⟨rfl, ?_⟩)), rfl⟩, by kernel_rfl⟩ ?_
    refine ev_if_ne (fun h29 => ?_) (fun h29 => ?_)
    refine go Try.tbs_ok 1000 ?_
    refine ev_fin ⟨trivial, _, rfl, (()), ?_, (by trivial), Frm.nil _⟩
    rotate_left
    refine go Try.tbs_ok 1000 ?_
    refine ev_wrapN (i + 1) (by constructor <;> omega) (by rfl) ?_
    refine ev_fin (round_next (i + 1) (?_ : i + 1 ≤ m ∧ List.take (i + 1) L = List.take (i + 1) M) (show m - (i + 1) < m - i from (by omega)) ⟨⟨by kernel_rfl, by kernel_rfl⟩, ⟨_, rfl⟩, ⟨_, rfl⟩, by kernel_rfl, by kernel_rfl⟩)
    rotate_left
    refine go Try.tbs_ok 1000 ?_
    refine ev_fin (go Try.tbs_ok 1000 ?_)
    refine ev_fin ⟨trivial, _, rfl, (()), ?_, (by trivial), Frm.nil _⟩
    rotate_left
    · exact congrArg Value.bool (decide_eq_false (fun e => by subst e; exact h29 rfl)).symm
    · refine ⟨by omega, ?_⟩
      rw [← List.take_append_getElem l24, ← List.take_append_getElem l28, hi2]
      rw [h29]
    · refine congrArg Value.bool (decide_eq_true ?_).symm
      rw [List.take_of_length_le (by omega), List.take_of_length_le (by omega)] at hi2
      exact hi2
theorem sameLit (A : Option Addr) (L : List Int) (m c b n : Nat) (vs : List Int) (hm : m = L.length) (hn : n = vs.length) (h1 : m ≤ 1000000) :
    Triple Try.prog 13 [.slice A m c, .slice (some ⟨b, 0, none⟩) n n] [] [Row 3 1 A m c (L.flatMap encN), Pt b 3 (vs.flatMap encN)] Unit (fun _ => .bool (decide (L = vs))) (fun _ => True) (fun _ => []) :=
  (sameInts A (some ⟨b, 0, none⟩) L vs m c n n hm hn h1).reads fun X hX => by
    simp only [List.mem_cons, List.not_mem_nil, or_false] at hX
    rcases hX with rfl | rfl
    · exact ⟨_, List.mem_cons_self, fun _ q => Row.rd q⟩
    · exact ⟨_, List.mem_cons_of_mem _ List.mem_cons_self, fun _ q => Pt.rd q (by rw [hn, flat_len (sz := 1) (fun _ => rfl)])⟩
theorem sameRows (A B : Option Addr) (L M : List Int) (m c n d : Nat) (hm : m = L.length) (hn : n = M.length) (h1 : m ≤ 1000000) :
    Triple Try.prog 13 [.slice A m c, .slice B n d] [] [Row 3 1 A m c (L.flatMap encN), Row 3 1 B n d (M.flatMap encN)] Unit (fun _ => .bool (decide (L = M))) (fun _ => True) (fun _ => []) :=
  (sameInts A B L M m c n d hm hn h1).reads fun X hX => by
    simp only [List.mem_cons, List.not_mem_nil, or_false] at hX
    rcases hX with rfl | rfl
    · exact ⟨_, List.mem_cons_self, fun _ q => Row.rd q⟩
    · exact ⟨_, List.mem_cons_of_mem _ List.mem_cons_self, fun _ q => Row.rd q⟩
theorem live1 (p : Nat) : Triple Try.prog 9 [.pointer (some ⟨p, 0, none⟩), .int .i64 0, .int .i64 5, .int .i64 2] [TabM p []] [] Unit (fun _ => .int .i64 0) (fun _ => True) (fun _ => [TabM p [((0, 5), [2])]]) :=
  tWait p [] 0 5 2 (by decide) ([((0, 5), [2])], 0) (by decide)
theorem live2 (p : Nat) : Triple Try.prog 9 [.pointer (some ⟨p, 0, none⟩), .int .i64 0, .int .i64 5, .int .i64 (-1)] [TabM p [((0, 5), [2])]] [] Unit (fun _ => .int .i64 0) (fun _ => True) (fun _ => [TabM p [((0, 5), [-1, 2])]]) :=
  tWait p [((0, 5), [2])] 0 5 (-1) (by decide) ([((0, 5), [-1, 2])], 0) (by decide)
theorem live3 (p : Nat) : Triple Try.prog 9 [.pointer (some ⟨p, 0, none⟩), .int .i64 0, .int .i64 5, .int .i64 2] [TabM p [((0, 5), [-1, 2])]] [] Unit (fun _ => .int .i64 0) (fun _ => True) (fun _ => [TabM p [((0, 5), [-1, 2])]]) :=
  tWait p [((0, 5), [-1, 2])] 0 5 2 (by decide) ([((0, 5), [-1, 2])], 0) (by decide)
theorem live4 (p : Nat) : Triple Try.prog 9 [.pointer (some ⟨p, 0, none⟩), .int .i64 1, .int .i64 5, .int .i64 7] [TabM p [((0, 5), [-1, 2])]] [] Unit (fun _ => .int .i64 2) (fun _ => True) (fun _ => [TabM p [((0, 5), [-1, 2])]]) :=
  tWait p [((0, 5), [-1, 2])] 1 5 7 (by decide) ([((0, 5), [-1, 2])], 2) (by decide)
theorem live5 (p : Nat) : Triple Try.prog 10 [.pointer (some ⟨p, 0, none⟩)] [TabM p [((0, 5), [-1, 2])]] [] Unit (fun _ => .int .i64 1) (fun _ => True) (fun _ => [TabM p [((0, 5), [-1, 2])]]) := tLen p [((0, 5), [-1, 2])]
theorem live6 (p : Nat) : Triple Try.prog 19 [.pointer (some ⟨p, 0, none⟩), .int .i64 0, .int .i64 5, .int .i64 2] [TabM p [((0, 5), [-1, 2])]] [] Unit (fun _ => .bool true) (fun _ => True) (fun _ => [TabM p [((0, 5), [-1, 2])]]) := tHas p [((0, 5), [-1, 2])] 0 5 2 (by decide)
theorem live7 (p : Nat) : Triple Try.prog 19 [.pointer (some ⟨p, 0, none⟩), .int .i64 1, .int .i64 5, .int .i64 2] [TabM p [((0, 5), [-1, 2])]] [] Unit (fun _ => .bool false) (fun _ => True) (fun _ => [TabM p [((0, 5), [-1, 2])]]) := tHas p [((0, 5), [-1, 2])] 1 5 2 (by decide)
theorem live8 (p : Nat) : Triple Try.prog 11 [.pointer (some ⟨p, 0, none⟩), .int .i64 0, .int .i64 5] [TabM p [((0, 5), [-1, 2])]] [] (Option Addr × Nat) (fun (A, c) => .slice A 2 c) (fun _ => True) (fun (A, c) => [TabM p [], Row 3 1 A 2 c (([-1, 2] : List Int).flatMap encN)]) :=
  (tTake p [((0, 5), [-1, 2])] 0 5).imp fun (A, n, c) hn => ⟨(A, c), by rw [show n = 2 from hn], trivial, fun h q => by rw [show n = 2 from hn] at q; exact q⟩
theorem live9 (p : Nat) : Triple Try.prog 11 [.pointer (some ⟨p, 0, none⟩), .int .i64 0, .int .i64 5] [TabM p []] [] (Option Addr × Nat) (fun (A, c) => .slice A 0 c) (fun _ => True) (fun _ => [TabM p []]) :=
  (tTake p [] 0 5).imp fun (A, n, c) hn => ⟨(A, c), by rw [show n = 0 from hn], trivial, fun h q => by obtain ⟨h1, h2, d, a, b, p, q⟩ := q; exact starH_one.2 (Asn.mono _ a p)⟩
theorem liveA (p : Nat) : Triple Try.prog 10 [.pointer (some ⟨p, 0, none⟩)] [TabM p []] [] Unit (fun _ => .int .i64 0) (fun _ => True) (fun _ => [TabM p []]) := tLen p []
theorem liveB (A : Option Addr) (c b : Nat) : Triple Try.prog 13 [.slice A 2 c, .slice (some ⟨b, 0, none⟩) 2 2] [] [Row 3 1 A 2 c (([-1, 2] : List Int).flatMap encN), Pt b 3 [.int .i64 (-1), .int .i64 2]] Unit (fun _ => .bool true) (fun _ => True) (fun _ => []) :=
  sameLit A [-1, 2] 2 c b 2 [-1, 2] rfl rfl (by decide)
set_option maxRecDepth 100000 in
theorem lives : Triple Try.prog 12 [] [] [] Unit (fun _ => .bool true) (fun _ => True) (fun _ => []) := by
  refine triple_intro Try.tbs_ok Try.func12 rfl [] [] trivial rfl (by simp) ?_
  intro E
  refine go Try.tbs_ok 1000 ?_
  refine ev_callF (tNew ) [] [] rfl rfl (by decide) rfl (by simp) (fun _ => (by repeat (first | exact trivial | refine ⟨rfl, ?_⟩))) (fun x0 h1 => ?_)
  refine go Try.tbs_ok 1000 ?_
  refine ev_callF (live1 (x0)) [0] [] rfl rfl (by decide) rfl (by simp) (fun _ => (by repeat (first | exact trivial | refine ⟨rfl, ?_⟩))) (fun _ h2 => ?_)
  refine go Try.tbs_ok 1000 ?_
  refine ev_callF (live2 (x0)) [0] [] rfl rfl (by decide) rfl (by simp) (fun _ => (by repeat (first | exact trivial | refine ⟨rfl, ?_⟩))) (fun _ h3 => ?_)
  refine go Try.tbs_ok 1000 ?_
  refine ev_callF (live3 (x0)) [0] [] rfl rfl (by decide) rfl (by simp) (fun _ => (by repeat (first | exact trivial | refine ⟨rfl, ?_⟩))) (fun _ h4 => ?_)
  refine go Try.tbs_ok 1000 ?_
  refine ev_callF (live4 (x0)) [0] [] rfl rfl (by decide) rfl (by simp) (fun _ => (by repeat (first | exact trivial | refine ⟨rfl, ?_⟩))) (fun _ h5 => ?_)
  refine go Try.tbs_ok 1000 ?_
  refine ev_callF (live5 (x0)) [0] [] rfl rfl (by decide) rfl (by simp) (fun _ => (by repeat (first | exact trivial | refine ⟨rfl, ?_⟩))) (fun _ h6 => ?_)
  refine go Try.tbs_ok 1000 ?_
  refine ev_callF (live6 (x0)) [0] [] rfl rfl (by decide) rfl (by simp) (fun _ => (by repeat (first | exact trivial | refine ⟨rfl, ?_⟩))) (fun _ h7 => ?_)
  refine go Try.tbs_ok 1000 ?_
  refine ev_callF (live7 (x0)) [0] [] rfl rfl (by decide) rfl (by simp) (fun _ => (by repeat (first | exact trivial | refine ⟨rfl, ?_⟩))) (fun _ h8 => ?_)
  refine go Try.tbs_ok 1000 ?_
  refine ev_callF (live8 (x0)) [0] [] rfl rfl (by decide) rfl (by simp) (fun _ => (by repeat (first | exact trivial | refine ⟨rfl, ?_⟩))) (fun ⟨x9, x10⟩ h11 => ?_)
  refine go Try.tbs_ok 1000 ?_
  refine ev_if_yes rfl ?_
  refine go Try.tbs_ok 1000 ?_
  refine ev_if_yes rfl ?_
  refine go Try.tbs_ok 1000 ?_
  refine ev_if_yes rfl ?_
  refine go Try.tbs_ok 1000 ?_
  refine ev_if_yes rfl ?_
  refine go Try.tbs_ok 1000 ?_
  refine ev_if_yes rfl ?_
  refine go Try.tbs_ok 1000 ?_
  refine ev_if_yes rfl ?_
  refine go Try.tbs_ok 1000 ?_
  refine ev_if_yes rfl ?_
  refine go Try.tbs_ok 1000 ?_
  refine ev_new fun b12 => ?_
  refine ev_callF (liveB (x9) (x10) (b12)) [] [.inr 1, .inr 2] rfl rfl (by decide) rfl (by simp) (fun _ => (by repeat (first | exact trivial | refine ⟨rfl, ?_⟩))) (fun _ h13 => ?_)
  refine go Try.tbs_ok 1000 ?_
  refine ev_if_yes rfl ?_
  refine go Try.tbs_ok 1000 ?_
  refine ev_callF (live9 (x0)) [0] [] rfl rfl (by decide) rfl (by simp) (fun _ => (by repeat (first | exact trivial | refine ⟨rfl, ?_⟩))) (fun ⟨x14, x15⟩ h16 => ?_)
  refine go Try.tbs_ok 1000 ?_
  refine ev_if_yes rfl ?_
  refine go Try.tbs_ok 1000 ?_
  refine ev_callF (liveA (x0)) [0] [] rfl rfl (by decide) rfl (by simp) (fun _ => (by repeat (first | exact trivial | refine ⟨rfl, ?_⟩))) (fun _ h17 => ?_)
  refine go Try.tbs_ok 1000 ?_
  refine ev_fin ⟨trivial, _, rfl, (()), rfl, (by trivial), Frm.nil _⟩
set_option maxRecDepth 100000 in
theorem none_nil : Triple Try.prog 21 [.pointer none] [] [] Unit (fun _ => .bool true) (fun _ => True) (fun _ => []) := by
  refine triple_intro Try.tbs_ok Try.func21 rfl [.va (.pointer none)] [] ⟨trivial, trivial⟩ rfl (by simp []) ?_
  intro E
  refine go Try.tbs_ok 1000 ?_
  refine ev_fin ⟨trivial, _, rfl, (()), rfl, (by trivial), Frm.nil _⟩
set_option maxRecDepth 100000 in
theorem nwait_nil (s i o : Int) : Triple Try.prog 9 [.pointer none, .int .i64 s, .int .i64 i, .int .i64 o] [] [] Unit (fun _ => .int .i64 1) (fun _ => True) (fun _ => []) := by
  refine triple_intro Try.tbs_ok Try.func9 rfl [.va (.pointer none), .va (.int .i64 s), .va (.int .i64 i), .va (.int .i64 o)] [] ⟨trivial, trivial, trivial, trivial, trivial⟩ rfl (by simp []) ?_
  intro E
  refine go Try.tbs_ok 1000 ?_
  refine ev_callF (none_nil ) [] [] rfl rfl (by decide) rfl (by simp) (fun _ => (by repeat (first | exact trivial | refine ⟨rfl, ?_⟩))) (fun _ h0 => ?_)
  refine go Try.tbs_ok 1000 ?_
  refine ev_if_yes rfl ?_
  refine go Try.tbs_ok 1000 ?_
  refine ev_fin ⟨trivial, _, rfl, (()), rfl, (by trivial), Frm.nil _⟩
set_option maxRecDepth 100000 in
theorem nhas_nil (s i o : Int) : Triple Try.prog 19 [.pointer none, .int .i64 s, .int .i64 i, .int .i64 o] [] [] Unit (fun _ => .bool false) (fun _ => True) (fun _ => []) := by
  refine triple_intro Try.tbs_ok Try.func19 rfl [.va (.pointer none), .va (.int .i64 s), .va (.int .i64 i), .va (.int .i64 o)] [] ⟨trivial, trivial, trivial, trivial, trivial⟩ rfl (by simp []) ?_
  intro E
  refine go Try.tbs_ok 1000 ?_
  refine ev_callF (none_nil ) [] [] rfl rfl (by decide) rfl (by simp) (fun _ => (by repeat (first | exact trivial | refine ⟨rfl, ?_⟩))) (fun _ h0 => ?_)
  refine go Try.tbs_ok 1000 ?_
  refine ev_if_no rfl ?_
  refine go Try.tbs_ok 1000 ?_
  refine ev_fin ⟨trivial, _, rfl, (()), rfl, (by trivial), Frm.nil _⟩
set_option maxRecDepth 100000 in
theorem ntake_nil (s i : Int) : Triple Try.prog 11 [.pointer none, .int .i64 s, .int .i64 i] [] [] Unit (fun _ => .slice none 0 0) (fun _ => True) (fun _ => []) := by
  refine triple_intro Try.tbs_ok Try.func11 rfl [.va (.pointer none), .va (.int .i64 s), .va (.int .i64 i)] [] ⟨trivial, trivial, trivial, trivial⟩ rfl (by simp []) ?_
  intro E
  refine go Try.tbs_ok 1000 ?_
  refine ev_callF (none_nil ) [] [] rfl rfl (by decide) rfl (by simp) (fun _ => (by repeat (first | exact trivial | refine ⟨rfl, ?_⟩))) (fun _ h0 => ?_)
  refine go Try.tbs_ok 1000 ?_
  refine ev_if_yes rfl ?_
  refine go Try.tbs_ok 1000 ?_
  refine ev_fin ⟨trivial, _, rfl, (()), rfl, (by trivial), Frm.nil _⟩
set_option maxRecDepth 100000 in
theorem ndrop_nil (s i o : Int) : Triple Try.prog 16 [.pointer none, .int .i64 s, .int .i64 i, .int .i64 o] [] [] Unit (fun _ => .bool false) (fun _ => True) (fun _ => []) := by
  refine triple_intro Try.tbs_ok Try.func16 rfl [.va (.pointer none), .va (.int .i64 s), .va (.int .i64 i), .va (.int .i64 o)] [] ⟨trivial, trivial, trivial, trivial, trivial⟩ rfl (by simp []) ?_
  intro E
  refine go Try.tbs_ok 1000 ?_
  refine ev_new fun b0 => ?_
  refine ev_callF (nhas_nil (s) (i) (o)) [] [] rfl rfl (by decide) rfl (by simp) (fun _ => (by repeat (first | exact trivial | refine ⟨rfl, ?_⟩))) (fun _ h1 => ?_)
  refine go Try.tbs_ok 1000 ?_
  refine ev_if_yes rfl ?_
  refine go Try.tbs_ok 1000 ?_
  refine ev_fin ⟨trivial, _, rfl, (()), rfl, (by trivial), Frm.nil _⟩
set_option maxRecDepth 100000 in
theorem nlen_nil : Triple Try.prog 10 [.pointer none] [] [] Unit (fun _ => .int .i64 0) (fun _ => True) (fun _ => []) := by
  refine triple_intro Try.tbs_ok Try.func10 rfl [.va (.pointer none)] [] ⟨trivial, trivial⟩ rfl (by simp []) ?_
  intro E
  refine go Try.tbs_ok 1000 ?_
  refine ev_callF (none_nil ) [] [] rfl rfl (by decide) rfl (by simp) (fun _ => (by repeat (first | exact trivial | refine ⟨rfl, ?_⟩))) (fun _ h0 => ?_)
  refine go Try.tbs_ok 1000 ?_
  refine ev_if_yes rfl ?_
  refine go Try.tbs_ok 1000 ?_
  refine ev_fin ⟨trivial, _, rfl, (()), rfl, (by trivial), Frm.nil _⟩
set_option maxRecDepth 100000 in
theorem none_zero (p : Nat) : Triple Try.prog 21 [.pointer (some ⟨p, 0, none⟩)] [Pt p 46 [.map none]] [] Unit (fun _ => .bool true) (fun _ => True) (fun _ => [Pt p 46 [.map none]]) := by
  refine triple_intro Try.tbs_ok Try.func21 rfl [.pt 0 p 0] [.box p 46 [.va (.map none)]] ⟨rfl, trivial⟩ rfl (by simp [SV.good, SV.goodL]) ?_
  intro E
  refine go Try.tbs_ok 1000 ?_
  refine ev_fin ⟨trivial, _, rfl, (()), rfl, (by trivial), Frm.sel [0] rfl (by decide)⟩
set_option maxRecDepth 100000 in
theorem nwait_zero (p : Nat) (s i o : Int) : Triple Try.prog 9 [.pointer (some ⟨p, 0, none⟩), .int .i64 s, .int .i64 i, .int .i64 o] [Pt p 46 [.map none]] [] Unit (fun _ => .int .i64 1) (fun _ => True) (fun _ => [Pt p 46 [.map none]]) := by
  refine triple_intro Try.tbs_ok Try.func9 rfl [.pt 0 p 0, .va (.int .i64 s), .va (.int .i64 i), .va (.int .i64 o)] [.box p 46 [.va (.map none)]] ⟨rfl, trivial, trivial, trivial, trivial⟩ rfl (by simp [SV.good, SV.goodL]) ?_
  intro E
  refine go Try.tbs_ok 1000 ?_
  refine ev_call (none_zero (p)) [0] [] (fun v0_ => [.box (p) 46 [.va (Value.map none)]]) rfl rfl (by decide) rfl (by simp) (fun _ => rfl) (fun _ => (newsOk_box (by simp [SV.good, SV.goodL]) (newsOk_nil _))) (fun _ => (by repeat (first | exact trivial | refine ⟨rfl, ?_⟩))) (fun _ h0 => ?_)
  refine go Try.tbs_ok 1000 ?_
  refine ev_if_yes rfl ?_
  refine go Try.tbs_ok 1000 ?_
  refine ev_fin ⟨trivial, _, rfl, (()), rfl, (by trivial), Frm.sel [0] rfl (by decide)⟩
set_option maxRecDepth 100000 in
theorem nhas_zero (p : Nat) (s i o : Int) : Triple Try.prog 19 [.pointer (some ⟨p, 0, none⟩), .int .i64 s, .int .i64 i, .int .i64 o] [Pt p 46 [.map none]] [] Unit (fun _ => .bool false) (fun _ => True) (fun _ => [Pt p 46 [.map none]]) := by
  refine triple_intro Try.tbs_ok Try.func19 rfl [.pt 0 p 0, .va (.int .i64 s), .va (.int .i64 i), .va (.int .i64 o)] [.box p 46 [.va (.map none)]] ⟨rfl, trivial, trivial, trivial, trivial⟩ rfl (by simp [SV.good, SV.goodL]) ?_
  intro E
  refine go Try.tbs_ok 1000 ?_
  refine ev_call (none_zero (p)) [0] [] (fun v0_ => [.box (p) 46 [.va (Value.map none)]]) rfl rfl (by decide) rfl (by simp) (fun _ => rfl) (fun _ => (newsOk_box (by simp [SV.good, SV.goodL]) (newsOk_nil _))) (fun _ => (by repeat (first | exact trivial | refine ⟨rfl, ?_⟩))) (fun _ h0 => ?_)
  refine go Try.tbs_ok 1000 ?_
  refine ev_if_no rfl ?_
  refine go Try.tbs_ok 1000 ?_
  refine ev_fin ⟨trivial, _, rfl, (()), rfl, (by trivial), Frm.sel [0] rfl (by decide)⟩
set_option maxRecDepth 100000 in
theorem ntake_zero (p : Nat) (s i : Int) : Triple Try.prog 11 [.pointer (some ⟨p, 0, none⟩), .int .i64 s, .int .i64 i] [Pt p 46 [.map none]] [] Unit (fun _ => .slice none 0 0) (fun _ => True) (fun _ => [Pt p 46 [.map none]]) := by
  refine triple_intro Try.tbs_ok Try.func11 rfl [.pt 0 p 0, .va (.int .i64 s), .va (.int .i64 i)] [.box p 46 [.va (.map none)]] ⟨rfl, trivial, trivial, trivial⟩ rfl (by simp [SV.good, SV.goodL]) ?_
  intro E
  refine go Try.tbs_ok 1000 ?_
  refine ev_call (none_zero (p)) [0] [] (fun v0_ => [.box (p) 46 [.va (Value.map none)]]) rfl rfl (by decide) rfl (by simp) (fun _ => rfl) (fun _ => (newsOk_box (by simp [SV.good, SV.goodL]) (newsOk_nil _))) (fun _ => (by repeat (first | exact trivial | refine ⟨rfl, ?_⟩))) (fun _ h0 => ?_)
  refine go Try.tbs_ok 1000 ?_
  refine ev_if_yes rfl ?_
  refine go Try.tbs_ok 1000 ?_
  refine ev_fin ⟨trivial, _, rfl, (()), rfl, (by trivial), Frm.sel [0] rfl (by decide)⟩
set_option maxRecDepth 100000 in
theorem ndrop_zero (p : Nat) (s i o : Int) : Triple Try.prog 16 [.pointer (some ⟨p, 0, none⟩), .int .i64 s, .int .i64 i, .int .i64 o] [Pt p 46 [.map none]] [] Unit (fun _ => .bool false) (fun _ => True) (fun _ => [Pt p 46 [.map none]]) := by
  refine triple_intro Try.tbs_ok Try.func16 rfl [.pt 0 p 0, .va (.int .i64 s), .va (.int .i64 i), .va (.int .i64 o)] [.box p 46 [.va (.map none)]] ⟨rfl, trivial, trivial, trivial, trivial⟩ rfl (by simp [SV.good, SV.goodL]) ?_
  intro E
  refine go Try.tbs_ok 1000 ?_
  refine ev_new fun b0 => ?_
  refine ev_call (nhas_zero (p) (s) (i) (o)) [0] [] (fun v0_ => [.box (p) 46 [.va (Value.map none)]]) rfl rfl (by decide) rfl (by simp) (fun _ => rfl) (fun _ => (newsOk_box (by simp [SV.good, SV.goodL]) (newsOk_nil _))) (fun _ => (by repeat (first | exact trivial | refine ⟨rfl, ?_⟩))) (fun _ h1 => ?_)
  refine go Try.tbs_ok 1000 ?_
  refine ev_if_yes rfl ?_
  refine go Try.tbs_ok 1000 ?_
  refine ev_fin ⟨trivial, _, rfl, (()), rfl, (by trivial), Frm.sel [0] rfl (by decide)⟩
set_option maxRecDepth 100000 in
theorem nlen_zero (p : Nat) : Triple Try.prog 10 [.pointer (some ⟨p, 0, none⟩)] [Pt p 46 [.map none]] [] Unit (fun _ => .int .i64 0) (fun _ => True) (fun _ => [Pt p 46 [.map none]]) := by
  refine triple_intro Try.tbs_ok Try.func10 rfl [.pt 0 p 0] [.box p 46 [.va (.map none)]] ⟨rfl, trivial⟩ rfl (by simp [SV.good, SV.goodL]) ?_
  intro E
  refine go Try.tbs_ok 1000 ?_
  refine ev_call (none_zero (p)) [0] [] (fun v0_ => [.box (p) 46 [.va (Value.map none)]]) rfl rfl (by decide) rfl (by simp) (fun _ => rfl) (fun _ => (newsOk_box (by simp [SV.good, SV.goodL]) (newsOk_nil _))) (fun _ => (by repeat (first | exact trivial | refine ⟨rfl, ?_⟩))) (fun _ h0 => ?_)
  refine go Try.tbs_ok 1000 ?_
  refine ev_if_yes rfl ?_
  refine go Try.tbs_ok 1000 ?_
  refine ev_fin ⟨trivial, _, rfl, (()), rfl, (by trivial), Frm.sel [0] rfl (by decide)⟩
set_option maxHeartbeats 4000000 in
set_option maxRecDepth 100000 in
theorem routesNone (s i o : Int) : Triple Try.prog 6 [.int .i64 s, .int .i64 i, .int .i64 o] [] [] Unit (fun _ => .bool true) (fun _ => True) (fun _ => []) := by
  refine triple_intro Try.tbs_ok Try.func6 rfl [.va (.int .i64 s), .va (.int .i64 i), .va (.int .i64 o)] [] ⟨trivial, trivial, trivial, trivial⟩ rfl (by simp) ?_
  intro E
  refine go Try.tbs_ok 1000 ?_
  refine ev_stop (go_rounds 2 ?_)
  refine go Try.tbs_ok 1000 ?_
  refine ev_if_yes rfl ?_
  refine go Try.tbs_ok 1000 ?_
  refine ev_callF (nwait_nil (s) (i) (o)) [] [] rfl rfl (by decide) rfl (by simp) (fun _ => (by repeat (first | exact trivial | refine ⟨rfl, ?_⟩))) (fun _ h10 => ?_)
  refine go Try.tbs_ok 1000 ?_
  refine ev_if_no rfl ?_
  refine go Try.tbs_ok 1000 ?_
  refine ev_callF (nhas_nil (s) (i) (o)) [] [] rfl rfl (by decide) rfl (by simp) (fun _ => (by repeat (first | exact trivial | refine ⟨rfl, ?_⟩))) (fun _ h11 => ?_)
  refine go Try.tbs_ok 1000 ?_
  refine ev_if_no rfl ?_
  refine go Try.tbs_ok 1000 ?_
  refine ev_callF (ntake_nil (s) (i)) [] [] rfl rfl (by decide) rfl (by simp) (fun _ => (by repeat (first | exact trivial | refine ⟨rfl, ?_⟩))) (fun _ h12 => ?_)
  refine go Try.tbs_ok 1000 ?_
  refine ev_if_no rfl ?_
  refine go Try.tbs_ok 1000 ?_
  refine ev_callF (ndrop_nil (s) (i) (o)) [] [] rfl rfl (by decide) rfl (by simp) (fun _ => (by repeat (first | exact trivial | refine ⟨rfl, ?_⟩))) (fun _ h13 => ?_)
  refine go Try.tbs_ok 1000 ?_
  refine ev_if_no rfl ?_
  refine go Try.tbs_ok 1000 ?_
  refine ev_callF (nlen_nil ) [] [] rfl rfl (by decide) rfl (by simp) (fun _ => (by repeat (first | exact trivial | refine ⟨rfl, ?_⟩))) (fun _ h14 => ?_)
  refine go Try.tbs_ok 1000 ?_
  refine ev_if_no rfl ?_
  refine go Try.tbs_ok 1000 ?_
  refine ev_new fun b15 => ?_
  refine ev_wrapN (0 + 1) (by constructor <;> omega) (by rfl) ?_
  refine ev_fin (go Try.tbs_ok 1000 ?_)
  refine ev_if_yes rfl ?_
  refine go Try.tbs_ok 1000 ?_
  refine ev_call (nwait_zero (b15) (s) (i) (o)) [0] [] (fun v0_ => [.box (b15) 46 [.va (Value.map none)]]) rfl rfl (by decide) rfl (by simp) (fun _ => rfl) (fun _ => (newsOk_box (by simp [SV.good, SV.goodL]) (newsOk_nil _))) (fun _ => (by repeat (first | exact trivial | refine ⟨rfl, ?_⟩))) (fun _ h16 => ?_)
  refine go Try.tbs_ok 1000 ?_
  refine ev_if_no rfl ?_
  refine go Try.tbs_ok 1000 ?_
  refine ev_call (nhas_zero (b15) (s) (i) (o)) [0] [] (fun v0_ => [.box (b15) 46 [.va (Value.map none)]]) rfl rfl (by decide) rfl (by simp) (fun _ => rfl) (fun _ => (newsOk_box (by simp [SV.good, SV.goodL]) (newsOk_nil _))) (fun _ => (by repeat (first | exact trivial | refine ⟨rfl, ?_⟩))) (fun _ h17 => ?_)
  refine go Try.tbs_ok 1000 ?_
  refine ev_if_no rfl ?_
  refine go Try.tbs_ok 1000 ?_
  refine ev_call (ntake_zero (b15) (s) (i)) [0] [] (fun v0_ => [.box (b15) 46 [.va (Value.map none)]]) rfl rfl (by decide) rfl (by simp) (fun _ => rfl) (fun _ => (newsOk_box (by simp [SV.good, SV.goodL]) (newsOk_nil _))) (fun _ => (by repeat (first | exact trivial | refine ⟨rfl, ?_⟩))) (fun _ h18 => ?_)
  refine go Try.tbs_ok 1000 ?_
  refine ev_if_no rfl ?_
  refine go Try.tbs_ok 1000 ?_
  refine ev_call (ndrop_zero (b15) (s) (i) (o)) [0] [] (fun v0_ => [.box (b15) 46 [.va (Value.map none)]]) rfl rfl (by decide) rfl (by simp) (fun _ => rfl) (fun _ => (newsOk_box (by simp [SV.good, SV.goodL]) (newsOk_nil _))) (fun _ => (by repeat (first | exact trivial | refine ⟨rfl, ?_⟩))) (fun _ h19 => ?_)
  refine go Try.tbs_ok 1000 ?_
  refine ev_if_no rfl ?_
  refine go Try.tbs_ok 1000 ?_
  refine ev_call (nlen_zero (b15)) [0] [] (fun v0_ => [.box (b15) 46 [.va (Value.map none)]]) rfl rfl (by decide) rfl (by simp) (fun _ => rfl) (fun _ => (newsOk_box (by simp [SV.good, SV.goodL]) (newsOk_nil _))) (fun _ => (by repeat (first | exact trivial | refine ⟨rfl, ?_⟩))) (fun _ h20 => ?_)
  refine go Try.tbs_ok 1000 ?_
  refine ev_if_no rfl ?_
  refine go Try.tbs_ok 1000 ?_
  refine ev_new fun b21 => ?_
  refine ev_wrapN (0 + 1 + 1) (by constructor <;> omega) (by rfl) ?_
  refine ev_fin (go Try.tbs_ok 1000 ?_)
  refine ev_if_no rfl ?_
  refine go Try.tbs_ok 1000 ?_
  refine ev_fin (go Try.tbs_ok 1000 ?_)
  refine ev_callF (lives ) [] [] rfl rfl (by decide) rfl (by simp) (fun _ => (by repeat (first | exact trivial | refine ⟨rfl, ?_⟩))) (fun _ h22 => ?_)
  refine go Try.tbs_ok 1000 ?_
  refine ev_fin ⟨trivial, _, rfl, (()), rfl, (by trivial), Frm.nil _⟩
end Go.Proofs.Ytkjpfodnbjbmfaa
