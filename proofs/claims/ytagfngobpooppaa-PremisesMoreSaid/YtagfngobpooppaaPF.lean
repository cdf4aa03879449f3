/-
  What is proved: the chapter's scripts. Conditions: none.
-/
import Derived.Test.YtagfngobpooppaaPE
namespace Go.Proofs.Ytagfngobpooppaa
open Go.Sy

def tickI (s : Int) : StepI := ⟨2, s, 0, 0, 0, 0, 0, 0, 0, none, 0, 0⟩
set_option maxRecDepth 100000 in
theorem ticksL (A : Option Addr) (L : List Int) (n c : Nat) (hn : n = L.length) (h1 : n ≤ 1000) :
    Triple Try.prog 15 [.slice A n c] [] [Rd 1 A n (L.flatMap encN)] (Option Addr × Nat) (fun (B, d) => .slice B n d) (fun _ => True) (fun (B, d) => [Row 34 10 B n d ((L.map tickI).flatMap encS)]) := by
  refine triple_intro Try.tbs_ok Try.func15 rfl [.va (.slice A n c)] [] ⟨trivial, trivial⟩ rfl (by simp) ?_
  intro E
  refine go Try.tbs_ok 1000 ?_
  refine ev_stop (go_fact (Row 34 10 none 0 0 (([] : List StepI).flatMap encS)) (Row.nilE _ _) ?_)
  refine go Try.tbs_ok 1000 ?_
  refine ev_stop (go_loopR [3, 4, 5, 6, 7, 8, 9, 10, 11, 12, 13, 14, 15, 16, 17, 18] (fun (i, B, m, d, _) => [(3, .va (.slice B m d)), (4, .va (.int .i64 (i : Nat)))]) (fun (_, B, m, d, S) => [(0, .fact (Row 34 10 B m d (S.flatMap encS)))]) (fun (i, _, m, _, S) => i ≤ n ∧ m = i ∧ S = (L.take i).map tickI) (fun (i, _, _, _, _) => n - i) ((0, none, 0, 0, []) : Nat × Option Addr × Nat × Nat × List StepI) ⟨Nat.zero_le _, rfl, rfl⟩ ⟨⟨by kernel_rfl, by kernel_rfl⟩, ⟨_, rfl⟩, ⟨_, rfl⟩, by kernel_rfl, by kernel_rfl⟩ (fun x_ h_ => ?_))
  obtain ⟨i, B, m, d, S⟩ := x_
  obtain ⟨hi, hm, hS⟩ := h_
  refine go Try.tbs_ok 1000 ?_
  refine ev_if_lt (fun h20 => ?_) (fun h20 => ?_)
  refine go Try.tbs_ok 1000 ?_
  refine ev_stop (go_indexE (sz := 1) Try.tbs_ok (.inl 0) (i) rfl rfl rfl rfl rfl rfl (by omega) rfl (fun _ h => h) (fun g21 o23 e22 => ?_))
  subst e22
  refine go Try.tbs_ok 1000 ?_
  have l24 : i < (L).length := (by omega)
  refine ev_stop (go_loadE Try.tbs_ok (.inl 0) (i) 0 rfl rfl rfl rfl (fun _ h => h) (by omega) (fun _ => rfl) (by omega) l24 (by decide) ?_)
  refine go Try.tbs_ok 1000 ?_
  refine ev_new fun b25 => ?_
  refine ev_stop (go_appendE (sz := 10) (M := [_]) (enc := encS) Try.tbs_ok [0] [] (.inr 1) (S) ([{ k := 2, s := L[i], st := 0, ix := 0, o1 := 0, o2 := 0, o3 := 0, o4 := 0, o5 := 0, a := none, n := 0, c := 0 }]) ((S) ++ ([{ k := 2, s := L[i], st := 0, ix := 0, o1 := 0, o2 := 0, o3 := 0, o4 := 0, o5 := 0, a := none, n := 0, c := 0 }])) (m + 1) rfl rfl rfl rfl rfl rfl rfl (by decide) rfl (by decide) (fun _ p => starH_one.1 p) rfl (fun _ p => Pt.rd p rfl) (by first | rfl | simp) (by first | rfl | omega) (le_app (s := m + 1) (by omega) (by first | rfl | omega)) (le_appb (s := m + 1) (by omega) (by first | rfl | omega) (by decide)) (fun _ _ => (by repeat (first | exact trivial | refine ⟨rfl, ?_⟩))) (fun A26 c27 h28 => ?_))
  refine go Try.tbs_ok 1000 ?_
  refine ev_wrapN (i + 1) (by constructor <;> omega) (by rfl) ?_
  refine ev_fin (round_next ((i + 1, A26, m + 1, c27, S ++ [{ k := 2, s := L[i], st := 0, ix := 0, o1 := 0, o2 := 0, o3 := 0, o4 := 0, o5 := 0, a := none, n := 0, c := 0 }])) (?_ : i + 1 ≤ n ∧ m + 1 = i + 1 ∧ S ++ [{ k := 2, s := L[i], st := 0, ix := 0, o1 := 0, o2 := 0, o3 := 0, o4 := 0, o5 := 0, a := none, n := 0, c := 0 }] = List.map tickI (List.take (i + 1) L)) (show n - (i + 1) < n - i from (by omega)) ⟨⟨by kernel_rfl, by kernel_rfl⟩, ⟨_, rfl⟩, ⟨_, rfl⟩, by kernel_rfl, by kernel_rfl⟩)
  rotate_left
  refine go Try.tbs_ok 1000 ?_
  refine ev_fin (go Try.tbs_ok 1000 ?_)
  rotate_left
  · refine ⟨by omega, by omega, ?_⟩
    rw [← List.take_append_getElem l24, List.map_append, hS]
    rfl
  · obtain rfl : i = n := by omega
    rw [List.take_of_length_le (by omega)] at hS
    subst hS
    subst hm
    refine ev_fin ⟨trivial, _, rfl, ((B, d)), rfl, (by trivial), Frm.sel [0] rfl (by decide)⟩
/-- literals -/
theorem ticks5 (b : Nat) : Triple Try.prog 15 [.slice (some ⟨b, 0, none⟩) 5 5] [] [Pt b 3 [.int .i64 0, .int .i64 0, .int .i64 1, .int .i64 2, .int .i64 2]] (Option Addr × Nat) (fun (B, d) => .slice B 5 d) (fun _ => True) (fun (B, d) => [Row 34 10 B 5 d (([0, 0, 1, 2, 2].map tickI).flatMap encS)]) :=
  (ticksL (some ⟨b, 0, none⟩) [0, 0, 1, 2, 2] 5 5 rfl (by decide)).reads fun X hX => by
    rw [List.mem_singleton.1 hX]
    exact ⟨_, List.mem_singleton.2 rfl, fun _ q => Pt.rd q rfl⟩
theorem ticks4 (b : Nat) : Triple Try.prog 15 [.slice (some ⟨b, 0, none⟩) 4 4] [] [Pt b 3 [.int .i64 1, .int .i64 1, .int .i64 1, .int .i64 1]] (Option Addr × Nat) (fun (B, d) => .slice B 4 d) (fun _ => True) (fun (B, d) => [Row 34 10 B 4 d (([1, 1, 1, 1].map tickI).flatMap encS)]) :=
  (ticksL (some ⟨b, 0, none⟩) [1, 1, 1, 1] 4 4 rfl (by decide)).reads fun X hX => by
    rw [List.mem_singleton.1 hX]
    exact ⟨_, List.mem_singleton.2 rfl, fun _ q => Pt.rd q rfl⟩
theorem ticks1 (b : Nat) : Triple Try.prog 15 [.slice (some ⟨b, 0, none⟩) 1 1] [] [Pt b 3 [.int .i64 0]] (Option Addr × Nat) (fun (B, d) => .slice B 1 d) (fun _ => True) (fun (B, d) => [Row 34 10 B 1 d (([0].map tickI).flatMap encS)]) :=
  (ticksL (some ⟨b, 0, none⟩) [0] 1 1 rfl (by decide)).reads fun X hX => by
    rw [List.mem_singleton.1 hX]
    exact ⟨_, List.mem_singleton.2 rfl, fun _ q => Pt.rd q rfl⟩
theorem worst5 (B : Option Addr) (d : Nat) : Triple Try.prog 8 [.int .i64 3, .slice B 5 d] [] [Row 34 10 B 5 d (([0, 0, 1, 2, 2].map tickI).flatMap encS)] Unit (fun _ => .int .i64 2) (fun _ => True) (fun _ => []) :=
  (show Triple Try.prog 8 [.int .i64 3, .slice B 5 d] [] [Rd 10 B 5 (([0, 0, 1, 2, 2].map tickI).flatMap encS)] Unit (fun _ => .int .i64 2) (fun _ => True) (fun _ => []) from pWorst B ([0, 0, 1, 2, 2].map tickI) d 3 (by decide)).ofRow 34 d
theorem within4 (B : Option Addr) (d : Nat) : Triple Try.prog 9 [.int .i64 3, .slice B 4 d] [] [Row 34 10 B 4 d (([1, 1, 1, 1].map tickI).flatMap encS)] Unit (fun _ => .bool false) (fun _ => True) (fun _ => []) :=
  (show Triple Try.prog 9 [.int .i64 3, .slice B 4 d] [] [Rd 10 B 4 (([1, 1, 1, 1].map tickI).flatMap encS)] Unit (fun _ => .bool false) (fun _ => True) (fun _ => []) from within B ([1, 1, 1, 1].map tickI) d 3 (by decide)).ofRow 34 d
theorem worst1 (B : Option Addr) (d : Nat) : Triple Try.prog 8 [.int .i64 1, .slice B 1 d] [] [Row 34 10 B 1 d (([0].map tickI).flatMap encS)] Unit (fun _ => .int .i64 0) (fun _ => True) (fun _ => []) :=
  (show Triple Try.prog 8 [.int .i64 1, .slice B 1 d] [] [Rd 10 B 1 (([0].map tickI).flatMap encS)] Unit (fun _ => .int .i64 0) (fun _ => True) (fun _ => []) from pWorst B ([0].map tickI) d 1 (by decide)).ofRow 34 d
def stepI (k s : Int) : StepI := ⟨k, s, 0, 0, 0, 0, 0, 0, 0, none, 0, 0⟩
theorem up3 (b : Nat) : Triple Try.prog 11 [.int .i64 3, .slice (some ⟨b, 0, none⟩) 3 3] [] [Pt b 34 (encS (stepI 10 1) ++ (encS (stepI 11 1) ++ encS (stepI 10 2)))] Nat (fun b => .slice (some ⟨b, 0, none⟩) 3 3) (fun _ => True) (fun b => [Row 4 1 (some ⟨b, 0, none⟩) 3 3 ([true, true, false].flatMap encB)]) :=
  ((pUp (some ⟨b, 0, none⟩) [stepI 10 1, stepI 11 1, stepI 10 2] 3 3 (by decide)).reads (N' := [Pt b 34 (encS (stepI 10 1) ++ (encS (stepI 11 1) ++ encS (stepI 10 2)))]) fun X hX => by
    rw [List.mem_singleton.1 hX]
    exact ⟨_, List.mem_singleton.2 rfl, fun _ q => Pt.rd q rfl⟩).imp fun (b, m) hm => ⟨b, by rw [show m = 3 from hm], trivial, by rw [show m = 3 from hm]; exact fun _ q => q⟩
theorem same3 (A : Option Addr) (b c : Nat) : Triple Try.prog 10 [.slice A 3 c, .slice (some ⟨b, 0, none⟩) 3 3] [] [Row 4 1 A 3 c ([true, true, false].flatMap encB), Pt b 4 [.bool true, .bool true, .bool false]] Unit (fun _ => .bool true) (fun _ => True) (fun _ => []) :=
  (sameBools A (some ⟨b, 0, none⟩) [true, true, false] [true, true, false] 3 c 3 3 rfl rfl (by decide)).reads fun X hX => by
    simp only [List.mem_cons, List.not_mem_nil, or_false] at hX
    rcases hX with rfl | rfl
    · exact ⟨_, List.mem_cons_self, fun _ q => Row.rd q⟩
    · exact ⟨_, List.mem_cons_of_mem _ List.mem_cons_self, fun _ q => Pt.rd q rfl⟩
theorem most3 (A : Option Addr) (c : Nat) : Triple Try.prog 14 [.slice A 3 c] [] [Row 4 1 A 3 c ([true, true, false].flatMap encB)] Unit (fun _ => .bool true) (fun _ => True) (fun _ => []) :=
  (pMost A [true, true, false] 3 c rfl (by decide)).ofRow 4 c
theorem most3f (b : Nat) : Triple Try.prog 14 [.slice (some ⟨b, 0, none⟩) 3 3] [] [Pt b 4 [.bool false, .bool true, .bool false]] Unit (fun _ => .bool false) (fun _ => True) (fun _ => []) :=
  (pMost (some ⟨b, 0, none⟩) [false, true, false] 3 3 rfl (by decide)).reads fun X hX => by
    rw [List.mem_singleton.1 hX]
    exact ⟨_, List.mem_singleton.2 rfl, fun _ q => Pt.rd q rfl⟩
set_option maxRecDepth 100000 in
theorem most0 : Triple Try.prog 14 [.slice none 0 0] [] [] Unit (fun _ => .bool false) (fun _ => True) (fun _ => []) := by
  refine triple_intro Try.tbs_ok Try.func14 rfl [.va (.slice none 0 0)] [] ⟨trivial, trivial⟩ rfl (by simp) ?_
  intro E
  have T0 : Triple Try.prog 17 [.int .i64 0] [] [] Unit (fun _ => .int .i64 0) (fun _ => True) (fun _ => []) := many 0
  refine go Try.tbs_ok 1000 ?_
  refine ev_callF (T0 ) [] [] rfl rfl (by decide) rfl (by simp) (fun _ => (by repeat (first | exact trivial | refine ⟨rfl, ?_⟩))) (fun _ h0 => ?_)
  refine go Try.tbs_ok 1000 ?_
  refine ev_if_yes rfl ?_
  refine go Try.tbs_ok 1000 ?_
  refine ev_fin ⟨trivial, _, rfl, (()), rfl, (by trivial), Frm.nil _⟩
set_option maxRecDepth 100000 in
theorem lives : Triple Try.prog 6 [] [] [] Unit (fun _ => .bool true) (fun _ => True) (fun _ => []) := by
  refine triple_intro Try.tbs_ok Try.func6 rfl [] [] trivial rfl (by simp) ?_
  intro E
  refine go Try.tbs_ok 1000 ?_
  refine ev_new fun b0 => ?_
  refine ev_callF (ticks5 (b0)) [] [.inr 0] rfl rfl (by decide) rfl (by simp) (fun _ => (by repeat (first | exact trivial | refine ⟨rfl, ?_⟩))) (fun ⟨x1, x2⟩ h3 => ?_)
  refine go Try.tbs_ok 1000 ?_
  refine ev_new fun b4 => ?_
  refine ev_callF (up3 (b4)) [] [.inr 2] rfl rfl (by decide) rfl (by simp) (fun _ => (by repeat (first | exact trivial | refine ⟨rfl, ?_⟩))) (fun x5 h6 => ?_)
  refine go Try.tbs_ok 1000 ?_
  refine ev_callF (worst5 (x1) (x2)) [] [.inr 1] rfl rfl (by decide) rfl (by simp) (fun _ => (by repeat (first | exact trivial | refine ⟨rfl, ?_⟩))) (fun _ h7 => ?_)
  refine go Try.tbs_ok 1000 ?_
  refine ev_if_yes rfl ?_
  refine go Try.tbs_ok 1000 ?_
  refine ev_new fun b8 => ?_
  refine ev_callF (ticks4 (b8)) [] [.inr 4] rfl rfl (by decide) rfl (by simp) (fun _ => (by repeat (first | exact trivial | refine ⟨rfl, ?_⟩))) (fun ⟨x9, x10⟩ h11 => ?_)
  refine go Try.tbs_ok 1000 ?_
  refine ev_callF (within4 (x9) (x10)) [] [.inr 5] rfl rfl (by decide) rfl (by simp) (fun _ => (by repeat (first | exact trivial | refine ⟨rfl, ?_⟩))) (fun _ h12 => ?_)
  refine go Try.tbs_ok 1000 ?_
  refine ev_if_yes rfl ?_
  refine go Try.tbs_ok 1000 ?_
  refine ev_new fun b13 => ?_
  refine ev_callF (ticks1 (b13)) [] [.inr 6] rfl rfl (by decide) rfl (by simp) (fun _ => (by repeat (first | exact trivial | refine ⟨rfl, ?_⟩))) (fun ⟨x14, x15⟩ h16 => ?_)
  refine go Try.tbs_ok 1000 ?_
  refine ev_callF (worst1 (x14) (x15)) [] [.inr 7] rfl rfl (by decide) rfl (by simp) (fun _ => (by repeat (first | exact trivial | refine ⟨rfl, ?_⟩))) (fun _ h17 => ?_)
  refine go Try.tbs_ok 1000 ?_
  refine ev_if_yes rfl ?_
  refine go Try.tbs_ok 1000 ?_
  refine ev_new fun b18 => ?_
  refine ev_callF (same3 (some { block := x5, off := 0 }) (b18) (3)) [] [.inr 3, .inr 8] rfl rfl (by decide) rfl (by simp) (fun _ => (by repeat (first | exact trivial | refine ⟨rfl, ?_⟩))) (fun _ h19 => ?_)
  refine go Try.tbs_ok 1000 ?_
  refine ev_if_yes rfl ?_
  refine go Try.tbs_ok 1000 ?_
  refine ev_callF (most3 (some { block := x5, off := 0 }) (3)) [] [.inr 3] rfl rfl (by decide) rfl (by simp) (fun _ => (by repeat (first | exact trivial | refine ⟨rfl, ?_⟩))) (fun _ h20 => ?_)
  refine go Try.tbs_ok 1000 ?_
  refine ev_if_yes rfl ?_
  refine go Try.tbs_ok 1000 ?_
  refine ev_new fun b21 => ?_
  refine ev_callF (most3f (b21)) [] [.inr 9] rfl rfl (by decide) rfl (by simp) (fun _ => (by repeat (first | exact trivial | refine ⟨rfl, ?_⟩))) (fun _ h22 => ?_)
  refine go Try.tbs_ok 1000 ?_
  refine ev_if_yes rfl ?_
  refine go Try.tbs_ok 1000 ?_
  refine ev_callF (most0 ) [] [] rfl rfl (by decide) rfl (by simp) (fun _ => (by repeat (first | exact trivial | refine ⟨rfl, ?_⟩))) (fun _ h23 => ?_)
  refine go Try.tbs_ok 1000 ?_
  refine ev_fin ⟨trivial, _, rfl, (()), rfl, (by trivial), Frm.nil _⟩
end Go.Proofs.Ytagfngobpooppaa
