/-
  What is proved: the document's table: how its functions turn it. Conditions: none.
-/
import Derived.Test.YtkjpfodnbjbmfaaRS
namespace Go.Proofs.Ytkjpfodnbjbmfaa
open Go.Sy

/-- the document's table, in memory -/
def RefM (r : Nat) (W : List WR) : Asn := Asn.ex fun x : Option Addr × Nat => Asn.star [Pt r 39 [.slice x.1 W.length x.2], Row 56 3 x.1 W.length x.2 (W.flatMap encW)]
theorem RefM.in {r : Nat} {W : List WR} {A : Option Addr} {c n : Nat} (hn : n = W.length) {h : Hp} (q : Asn.starH [Pt r 39 [.slice A n c], Row 56 3 A n c (W.flatMap encW)] h) : (RefM r W).holds h := by
  subst hn
  exact ⟨(A, c), star_holds.2 q⟩
theorem RefM.pre {r : Nat} {W : List WR} (h : Hp) (q : Asn.starH [RefM r W] h) : ∃ x : Option Addr × Nat, Asn.starH [Pt r 39 [.slice x.1 W.length x.2], Row 56 3 x.1 W.length x.2 (W.flatMap encW)] h := by
  obtain ⟨x, q⟩ := starH_one.1 q
  exact ⟨x, star_holds.1 q⟩
def whoOk (W : List WR) (s i : Int) (L : List Int) : Prop := L.Pairwise (· < ·) ∧ ∀ x, x ∈ L ↔ (-1 ≤ x ∧ x < 7 ∧ (⟨s, i, x⟩ : WR) ∈ W)
theorem sHas (r : Nat) (W : List WR) (s i o : Int) (h1 : W.length ≤ 1000) : Triple Try.prog 20 [.pointer (some ⟨r, 0, none⟩), .int .i64 s, .int .i64 i, .int .i64 o] [RefM r W] [] Unit (fun _ => .bool (decide ((⟨s, i, o⟩ : WR) ∈ W))) (fun _ => True) (fun _ => [RefM r W]) :=
  Triple.pre RefM.pre fun (A, c) => (rHas r A W W.length c s i o rfl h1).imp fun _ _ => ⟨(), rfl, trivial, fun h q => starH_one.2 (RefM.in rfl q)⟩
theorem sLen (r : Nat) (W : List WR) (h1 : W.length ≤ 1000) : Triple Try.prog 18 [.pointer (some ⟨r, 0, none⟩)] [RefM r W] [] Unit (fun _ => .int .i64 ((kd W).length : Nat)) (fun _ => True) (fun _ => [RefM r W]) :=
  Triple.pre RefM.pre fun (A, c) => (rLen r A W W.length c rfl h1).imp fun _ _ => ⟨(), rfl, trivial, fun h q => starH_one.2 (RefM.in rfl q)⟩
theorem sWho (r : Nat) (W : List WR) (s i : Int) (L : List Int) (hL : whoOk W s i L) (h1 : W.length ≤ 1000) : Triple Try.prog 24 [.pointer (some ⟨r, 0, none⟩), .int .i64 s, .int .i64 i] [RefM r W] [] (Option Addr × Nat) (fun (B, d) => .slice B L.length d) (fun _ => True) (fun (B, d) => [RefM r W, Row 3 1 B L.length d (L.flatMap encN)]) :=
  Triple.pre RefM.pre fun (A, c) => (rWho r A W W.length c s i rfl h1).imp fun (B, m, d, L') ⟨e1, e2, e3⟩ => by
    have e : L' = L := rise_ext e2 hL.1 fun x => (e3 x).trans (hL.2 x).symm
    subst e
    refine ⟨(B, d), by rw [e1], trivial, fun h q => ?_⟩
    rw [e1] at q
    obtain ⟨h1, h2, d, a, b, p1, p2⟩ := (starH_append [_, _] [_]).1 q
    exact ⟨h1, h2, d, a, b, RefM.in rfl p1, p2⟩
set_option maxRecDepth 100000 in
theorem rWait_arg (r : Nat) (s i o : Int) (ho : o < -1 ∨ 7 ≤ o) : Triple Try.prog 14 [.pointer (some ⟨r, 0, none⟩), .int .i64 s, .int .i64 i, .int .i64 o] [] [] Unit (fun _ => .int .i64 2) (fun _ => True) (fun _ => []) := by
  refine triple_intro Try.tbs_ok Try.func14 rfl [.va (.pointer (some ⟨r, 0, none⟩)), .va (.int .i64 s), .va (.int .i64 i), .va (.int .i64 o)] [] ⟨trivial, trivial, trivial, trivial, trivial⟩ rfl (by simp [SV.good, SV.goodL]) ?_
  intro E
  refine go Try.tbs_ok 1000 ?_
  refine ev_if_lt (fun h0 => ?_) (fun h0 => ?_)
  refine go Try.tbs_ok 1000 ?_
  refine ev_fin ⟨trivial, _, rfl, (()), rfl, (by trivial), Frm.nil _⟩
  refine go Try.tbs_ok 1000 ?_
  refine ev_if_yes (decide_eq_true (show o ≥ 7 from (by omega))) ?_
  refine go Try.tbs_ok 1000 ?_
  refine ev_fin ⟨trivial, _, rfl, (()), rfl, (by trivial), Frm.nil _⟩
set_option maxRecDepth 100000 in
theorem rWait_ok (r : Nat) (W : List WR) (s i o : Int) (ho : ¬ (o < -1 ∨ 7 ≤ o)) (h1 : W.length ≤ 1000) (hm : (⟨s, i, o⟩ : WR) ∈ W) : Triple Try.prog 14 [.pointer (some ⟨r, 0, none⟩), .int .i64 s, .int .i64 i, .int .i64 o] [RefM r W] [] Unit (fun _ => .int .i64 0) (fun _ => True) (fun _ => [RefM r W]) := by
  have T1 := sHas r W s i o h1
  rw [decide_eq_true hm] at T1
  refine triple_intro Try.tbs_ok Try.func14 rfl [.va (.pointer (some ⟨r, 0, none⟩)), .va (.int .i64 s), .va (.int .i64 i), .va (.int .i64 o)] [.fact (RefM r W)] ⟨trivial, trivial, trivial, trivial, trivial⟩ rfl (by simp [SV.good, SV.goodL]) ?_
  intro E
  refine go Try.tbs_ok 1000 ?_
  refine ev_if_no (decide_eq_false (show ¬o < -1 from (by omega))) ?_
  refine go Try.tbs_ok 1000 ?_
  refine ev_if_no (decide_eq_false (show ¬o ≥ 7 from (by omega))) ?_
  refine go Try.tbs_ok 1000 ?_
  refine ev_callF (T1 ) [0] [] rfl rfl (by decide) rfl (by simp) (fun _ => (by repeat (first | exact trivial | refine ⟨rfl, ?_⟩))) (fun _ h0 => ?_)
  refine go Try.tbs_ok 1000 ?_
  refine ev_if_yes rfl ?_
  refine go Try.tbs_ok 1000 ?_
  refine ev_fin ⟨trivial, _, rfl, (()), rfl, (by trivial), Frm.sel [0] rfl (by decide)⟩
set_option maxRecDepth 100000 in
theorem rWait_long (r : Nat) (W : List WR) (s i o : Int) (ho : ¬ (o < -1 ∨ 7 ≤ o)) (h1 : W.length ≤ 1000) (hm : (⟨s, i, o⟩ : WR) ∉ W) (hw : whoOk W s i []) (hk : 64 ≤ (kd W).length) : Triple Try.prog 14 [.pointer (some ⟨r, 0, none⟩), .int .i64 s, .int .i64 i, .int .i64 o] [RefM r W] [] Unit (fun _ => .int .i64 3) (fun _ => True) (fun _ => [RefM r W]) := by
  have T1 := sHas r W s i o h1
  rw [decide_eq_false hm] at T1
  have T2 := sWho r W s i [] hw h1
  have T3 := sLen r W h1
  refine triple_intro Try.tbs_ok Try.func14 rfl [.va (.pointer (some ⟨r, 0, none⟩)), .va (.int .i64 s), .va (.int .i64 i), .va (.int .i64 o)] [.fact (RefM r W)] ⟨trivial, trivial, trivial, trivial, trivial⟩ rfl (by simp [SV.good, SV.goodL]) ?_
  intro E
  refine go Try.tbs_ok 1000 ?_
  refine ev_if_no (decide_eq_false (show ¬o < -1 from (by omega))) ?_
  refine go Try.tbs_ok 1000 ?_
  refine ev_if_no (decide_eq_false (show ¬o ≥ 7 from (by omega))) ?_
  refine go Try.tbs_ok 1000 ?_
  refine ev_callF (T1 ) [0] [] rfl rfl (by decide) rfl (by simp) (fun _ => (by repeat (first | exact trivial | refine ⟨rfl, ?_⟩))) (fun _ h0 => ?_)
  refine go Try.tbs_ok 1000 ?_
  refine ev_if_no rfl ?_
  refine go Try.tbs_ok 1000 ?_
  refine ev_callF (T2 ) [0] [] rfl rfl (by decide) rfl (by simp) (fun _ => (by repeat (first | exact trivial | refine ⟨rfl, ?_⟩))) (fun ⟨x1, x2⟩ h3 => ?_)
  refine go Try.tbs_ok 1000 ?_
  refine ev_if_yes rfl ?_
  refine go Try.tbs_ok 1000 ?_
  refine ev_callF (T3 ) [0] [] rfl rfl (by decide) rfl (by simp) (fun _ => (by repeat (first | exact trivial | refine ⟨rfl, ?_⟩))) (fun _ h4 => ?_)
  refine go Try.tbs_ok 1000 ?_
  refine ev_if_yes (decide_eq_true (show (↑(kd W).length : Int) ≥ 64 from (by omega))) ?_
  refine go Try.tbs_ok 1000 ?_
  refine ev_fin ⟨trivial, _, rfl, (()), rfl, (by trivial), Frm.sel [0] rfl (by decide)⟩
theorem rWhoX (r : Nat) (A : Option Addr) (W : List WR) (n c : Nat) (s i : Int) (L : List Int) (hn : n = W.length) (h1 : n ≤ 1000) (hL : whoOk W s i L) :
    Triple Try.prog 24 [.pointer (some ⟨r, 0, none⟩), .int .i64 s, .int .i64 i] [Pt r 39 [.slice A n c], Row 56 3 A n c (W.flatMap encW)] [] (Option Addr × Nat) (fun (B, d) => .slice B L.length d) (fun _ => True)
      (fun (B, d) => [Pt r 39 [.slice A n c], Row 56 3 A n c (W.flatMap encW), Row 3 1 B L.length d (L.flatMap encN)]) :=
  (rWho r A W n c s i hn h1).imp fun (B, m, d, L') ⟨e1, e2, e3⟩ => by
    have e : L' = L := rise_ext e2 hL.1 fun x => (e3 x).trans (hL.2 x).symm
    subst e
    exact ⟨(B, d), by rw [e1], trivial, fun h q => by rw [e1] at q; exact q⟩
set_option maxRecDepth 100000 in
theorem rWait_put (r : Nat) (A : Option Addr) (W : List WR) (n c : Nat) (s i o : Int) (L : List Int) (hn : n = W.length) (ho : ¬ (o < -1 ∨ 7 ≤ o)) (h1 : n ≤ 1000) (hm : (⟨s, i, o⟩ : WR) ∉ W) (hw : whoOk W s i L) (hk : 0 < L.length ∨ (kd W).length < 64) :
    Triple Try.prog 14 [.pointer (some ⟨r, 0, none⟩), .int .i64 s, .int .i64 i, .int .i64 o] [Pt r 39 [.slice A n c], Row 56 3 A n c (W.flatMap encW)] [] (Option Addr × Nat) (fun _ => .int .i64 0) (fun _ => True)
      (fun (B, d) => [Pt r 39 [.slice B (n + 1) d], Row 56 3 B (n + 1) d ((W ++ [(⟨s, i, o⟩ : WR)]).flatMap encW)]) := by
  have T1 := rHas r A W n c s i o hn h1
  rw [decide_eq_false hm] at T1
  have T2 := rWhoX r A W n c s i L hn h1 hw
  have T3 := rLen r A W n c hn h1
  refine triple_intro Try.tbs_ok Try.func14 rfl [.pt 0 r 0, .va (.int .i64 s), .va (.int .i64 i), .va (.int .i64 o)] [.box r 39 [.va (.slice A n c)], .fact (Row 56 3 A n c (W.flatMap encW))] ⟨rfl, trivial, trivial, trivial, trivial⟩ rfl (by simp [SV.good, SV.goodL]) ?_
  intro E
  refine go Try.tbs_ok 1000 ?_
  refine ev_if_no (decide_eq_false (show ¬o < -1 from (by omega))) ?_
  refine go Try.tbs_ok 1000 ?_
  refine ev_if_no (decide_eq_false (show ¬o ≥ 7 from (by omega))) ?_
  refine go Try.tbs_ok 1000 ?_
  refine ev_call (T1 ) [0, 1] [] (fun v0_ => [.box (r) 39 [.va (Value.slice A n c)], .fact (Row 56 3 A n c (List.flatMap encW W))]) rfl rfl (by decide) rfl (by simp) (fun _ => rfl) (fun _ => (newsOk_box (by simp [SV.good, SV.goodL]) (newsOk_fact (newsOk_nil _)))) (fun _ => (by repeat (first | exact trivial | refine ⟨rfl, ?_⟩))) (fun _ h0 => ?_)
  refine go Try.tbs_ok 1000 ?_
  refine ev_if_no rfl ?_
  refine go Try.tbs_ok 1000 ?_
  refine ev_call (T2 ) [0, 1] [] (fun (v0_, v1_) => [.box (r) 39 [.va (Value.slice A n c)], .fact (Row 56 3 A n c (List.flatMap encW W)), .fact (Row 3 1 v0_ L.length v1_ (List.flatMap encN L))]) rfl rfl (by decide) rfl (by simp) (fun _ => rfl) (fun _ => (newsOk_box (by simp [SV.good, SV.goodL]) (newsOk_fact (newsOk_fact (newsOk_nil _))))) (fun _ => (by repeat (first | exact trivial | refine ⟨rfl, ?_⟩))) (fun ⟨x1, x2⟩ h3 => ?_)
  refine go Try.tbs_ok 1000 ?_
  refine ev_if_eq (fun h4 => ?_) (fun h4 => ?_)
  refine go Try.tbs_ok 1000 ?_
  refine ev_call (T3 ) [0, 1] [] (fun v0_ => [.box (r) 39 [.va (Value.slice A n c)], .fact (Row 56 3 A n c (List.flatMap encW W))]) rfl rfl (by decide) rfl (by simp) (fun _ => rfl) (fun _ => (newsOk_box (by simp [SV.good, SV.goodL]) (newsOk_fact (newsOk_nil _)))) (fun _ => (by repeat (first | exact trivial | refine ⟨rfl, ?_⟩))) (fun _ h5 => ?_)
  refine go Try.tbs_ok 1000 ?_
  refine ev_if_no (decide_eq_false (show ¬(↑(kd W).length : Int) ≥ 64 from (by omega))) ?_
  refine go Try.tbs_ok 1000 ?_
  refine ev_new fun b6 => ?_
  refine ev_stop (go_appendE (sz := 3) (M := [_]) (enc := encW) Try.tbs_ok [1] [] (.inr 3) (W) ([{ s := s, i := i, o := o }]) ((W) ++ ([{ s := s, i := i, o := o }])) (n + 1) rfl rfl rfl rfl rfl rfl rfl (by decide) rfl (by decide) (fun _ p => starH_one.1 p) rfl (fun _ p => Pt.rd p rfl) (by first | rfl | simp) (by first | rfl | omega) (le_app (s := n + 1) (by omega) (by first | rfl | omega)) (le_appb (s := n + 1) (by omega) (by first | rfl | omega) (by decide)) (fun _ _ => (by repeat (first | exact trivial | refine ⟨rfl, ?_⟩))) (fun A7 c8 h9 => ?_))
  refine go Try.tbs_ok 1000 ?_
  refine ev_fin ⟨trivial, _, rfl, ((A7, c8)), rfl, (by trivial), Frm.sel [0, 1] rfl (by decide)⟩
  refine go Try.tbs_ok 1000 ?_
  refine ev_new fun b10 => ?_
  refine ev_stop (go_appendE (sz := 3) (M := [_]) (enc := encW) Try.tbs_ok [1] [] (.inr 3) (W) ([{ s := s, i := i, o := o }]) ((W) ++ ([{ s := s, i := i, o := o }])) (n + 1) rfl rfl rfl rfl rfl rfl rfl (by decide) rfl (by decide) (fun _ p => starH_one.1 p) rfl (fun _ p => Pt.rd p rfl) (by first | rfl | simp) (by first | rfl | omega) (le_app (s := n + 1) (by omega) (by first | rfl | omega)) (le_appb (s := n + 1) (by omega) (by first | rfl | omega) (by decide)) (fun _ _ => (by repeat (first | exact trivial | refine ⟨rfl, ?_⟩))) (fun A11 c12 h13 => ?_))
  refine go Try.tbs_ok 1000 ?_
  refine ev_fin ⟨trivial, _, rfl, ((A11, c12)), rfl, (by trivial), Frm.sel [0, 1] rfl (by decide)⟩
def dropR (W : List WR) (x : WR) : List WR := W.filter fun y => !decide (y = x)
theorem dropR_step {W : List WR} {x : WR} {j : Nat} (hj : j < W.length) : dropR (W.take (j + 1)) x = dropR (W.take j) x ++ (if W[j] = x then [] else [W[j]]) := by
  unfold dropR
  rw [← List.take_append_getElem hj, List.filter_append]
  by_cases h : W[j] = x
  · rw [if_pos h]
    simp [h]
  · rw [if_neg h]
    simp [h]
set_option maxRecDepth 100000 in
theorem rDrop (r : Nat) (A : Option Addr) (W : List WR) (n c : Nat) (s i o : Int) (hn : n = W.length) (h1 : n ≤ 1000) :
    Triple Try.prog 17 [.pointer (some ⟨r, 0, none⟩), .int .i64 s, .int .i64 i, .int .i64 o] [Pt r 39 [.slice A n c], Row 56 3 A n c (W.flatMap encW)] [] (Option Addr × Nat × Nat) (fun (_, m, _) => .bool (decide (m < n))) (fun (_, m, _) => m = (dropR W ⟨s, i, o⟩).length)
      (fun (B, m, d) => [Pt r 39 [.slice B m d], Row 56 3 B m d ((dropR W ⟨s, i, o⟩).flatMap encW)]) := by
  refine triple_intro Try.tbs_ok Try.func17 rfl [.pt 0 r 0, .va (.int .i64 s), .va (.int .i64 i), .va (.int .i64 o)] [.box r 39 [.va (.slice A n c)], .fact (Row 56 3 A n c (W.flatMap encW))] ⟨rfl, trivial, trivial, trivial, trivial⟩ rfl (by simp [SV.good, SV.goodL]) ?_
  intro E
  refine go Try.tbs_ok 1000 ?_
  refine ev_stop (go_fact (Row 56 3 none 0 0 (([] : List WR).flatMap encW)) (Row.nilE _ _) ?_)
  refine go Try.tbs_ok 1000 ?_
  refine ev_stop (go_loopR [9, 10, 12, 13, 14, 15, 16, 17, 18, 19, 20, 21, 22, 23, 24, 25, 26, 27, 28, 29, 30, 31, 32, 33, 34, 35, 36, 37, 38, 39, 40, 41, 42] (fun (j, B, m, d, _) => [(9, .va (.slice B m d)), (10, .va (.int .i64 (j : Nat)))]) (fun (_, B, m, d, C) => [(2, .fact (Row 56 3 B m d (C.flatMap encW)))]) (fun (j, _, m, _, C) => j ≤ n ∧ m = C.length ∧ m ≤ j ∧ C = dropR (W.take j) ⟨s, i, o⟩) (fun (j, _, _, _, _) => n - j) ((0, none, 0, 0, []) : Nat × Option Addr × Nat × Nat × List WR) ⟨Nat.zero_le _, rfl, Nat.le_refl _, rfl⟩ ⟨⟨by kernel_rfl, by kernel_rfl⟩, ⟨_, rfl⟩, ⟨_, rfl⟩, by kernel_rfl, by kernel_rfl⟩ (fun x_ h_ => ?_))
  obtain ⟨j, B, m, d, C⟩ := x_
  obtain ⟨hj, hm, hmj, hC⟩ := h_
  refine go Try.tbs_ok 1000 ?_
  refine ev_if_lt (fun hlt => ?_) (fun hge => ?_)
  · have hjn : j < W.length := by
      have : (j : Int) < (n : Int) := hlt
      omega
    refine go Try.tbs_ok 1000 ?_
    refine ev_stop (go_index0 (sz := 3) Try.tbs_ok (.inr 1) (j) rfl rfl rfl rfl rfl rfl (by omega) rfl Row.at0 (fun g20 e21 => ?_))
    subst e21
    refine go Try.tbs_ok 1000 ?_
    have l22 : j < (W).length := (by omega)
    refine ev_stop (go_loadE Try.tbs_ok (.inr 1) (j) 0 rfl rfl rfl rfl (fun _ h => Row.rd h) (by omega) (fun _ => rfl) (by omega) l22 (by decide) ?_)
    refine go Try.tbs_ok 1000 ?_
    refine ev_stop (go_val rfl (.bq (!decide (W[j] = (⟨s, i, o⟩ : WR)))) trivial (fun a w hR => neq_run (ev_denv hR.fr rfl rfl) (ev_denv hR.fr rfl rfl) (by kernel_rfl) (eqW W[j] ⟨s, i, o⟩ w)) ?_)
    refine go Try.tbs_ok 1000 ?_
    refine ev_if (fun h40 => ?_) (fun h40 => ?_)
    refine go Try.tbs_ok 1000 ?_
    refine ev_stop (go_atE (sz := 3) Try.tbs_ok (j) rfl rfl rfl rfl rfl rfl (by omega) ?_)
    refine go Try.tbs_ok 1000 ?_
    have l41 : j < (W).length := (by omega)
    refine ev_stop (go_loadE Try.tbs_ok (.inr 1) (j) 0 rfl rfl rfl rfl (fun _ h => Row.rd h) (by omega) (fun _ => rfl) (by omega) l41 (by decide) ?_)
    refine go Try.tbs_ok 1000 ?_
    refine ev_new fun b42 => ?_
    refine ev_stop (go_appendE (sz := 3) (M := [_]) (enc := encW) Try.tbs_ok [2] [] (.inr 3) (C) ([W[j]]) ((C) ++ ([W[j]])) (m + 1) rfl rfl rfl rfl rfl rfl rfl (by decide) rfl (by decide) (fun _ p => starH_one.1 p) rfl (fun _ p => Pt.rd p rfl) (by first | rfl | simp) (by first | rfl | omega) (le_app (s := m + 1) (by omega) (by first | rfl | omega)) (le_appb (s := m + 1) (by omega) (by first | rfl | omega) (by decide)) (fun _ _ => (by repeat (first | exact trivial | refine ⟨rfl, ?_⟩))) (fun A43 c44 h45 => ?_))
    refine go Try.tbs_ok 1000 ?_
    refine ev_wrapN (j + 1) (by constructor <;> omega) (by rfl) ?_
    refine ev_fin (round_next ((j + 1, A43, m + 1, c44, C ++ [W[j]])) (?_ : j + 1 ≤ n ∧ m + 1 = (C ++ [W[j]]).length ∧ m + 1 ≤ j + 1 ∧ C ++ [W[j]] = dropR (List.take (j + 1) W) { s := s, i := i, o := o }) (show n - (j + 1) < n - j from (by omega)) ⟨⟨by kernel_rfl, by kernel_rfl⟩, ⟨_, rfl⟩, ⟨_, rfl⟩, by kernel_rfl, by kernel_rfl⟩)
    rotate_left
    refine go Try.tbs_ok 1000 ?_
    refine ev_wrapN (j + 1) (by constructor <;> omega) (by rfl) ?_
    refine ev_fin (round_next ((j + 1, B, m, d, C)) (?_ : j + 1 ≤ n ∧ m = C.length ∧ m ≤ j + 1 ∧ C = dropR (List.take (j + 1) W) { s := s, i := i, o := o }) (show n - (j + 1) < n - j from (by omega)) ⟨⟨by kernel_rfl, by kernel_rfl⟩, ⟨_, rfl⟩, ⟨_, rfl⟩, by kernel_rfl, by kernel_rfl⟩)
    rotate_left
    · refine ⟨by omega, by rw [List.length_append, ← hm]; rfl, by omega, ?_⟩
      rw [hC, dropR_step hjn]
      rw [if_neg (by simpa using h40)]
    · refine ⟨by omega, hm, by omega, ?_⟩
      rw [hC, dropR_step hjn]
      rw [if_pos (by simpa using h40), List.append_nil]
  · obtain rfl : j = n := by
      have : ¬ (j : Int) < (n : Int) := hge
      omega
    rw [List.take_of_length_le (by omega)] at hC
    subst hC
    refine go Try.tbs_ok 1000 ?_
    refine ev_fin (go Try.tbs_ok 1000 ?_)
    refine ev_fin ⟨trivial, _, rfl, ((B, m, d)), ?_, (by trivial), Frm.sel [0, 2] rfl (by decide)⟩
    exact congrArg Value.bool (decide_eq_decide.2 Int.ofNat_lt)
theorem dropR_lt (W : List WR) (x : WR) : decide ((dropR W x).length < W.length) = decide (x ∈ W) := by
  rw [decide_eq_decide]
  unfold dropR
  rw [List.length_filter_lt_length_iff_exists]
  constructor
  · rintro ⟨y, hy, e⟩
    have : y = x := by simpa using e
    exact this ▸ hy
  · exact fun h => ⟨x, h, by simp⟩
theorem sDrop (r : Nat) (W : List WR) (s i o : Int) (h1 : W.length ≤ 1000) : Triple Try.prog 17 [.pointer (some ⟨r, 0, none⟩), .int .i64 s, .int .i64 i, .int .i64 o] [RefM r W] [] Unit (fun _ => .bool (decide ((⟨s, i, o⟩ : WR) ∈ W))) (fun _ => True) (fun _ => [RefM r (dropR W ⟨s, i, o⟩)]) :=
  Triple.pre RefM.pre fun (A, c) => (rDrop r A W W.length c s i o rfl h1).imp fun (_, m, _) hm => ⟨(), by show Value.bool (decide (m < W.length)) = _; rw [show m = _ from hm, dropR_lt], trivial, fun h q => starH_one.2 (RefM.in (show m = _ from hm) q)⟩
/-- all but those of one order -/
def takeR (W : List WR) (s i : Int) (L : List Int) : List WR := W.filter fun y => !(decide (y.s = s) && decide (y.i = i) && decide (y.o ∈ L))
theorem takeR_step {W : List WR} {s i : Int} {L : List Int} {j : Nat} (hj : j < L.length) : dropR (takeR W s i (L.take j)) ⟨s, i, L[j]⟩ = takeR W s i (L.take (j + 1)) := by
  have hm : ∀ c, decide (c ∈ L.take (j + 1)) = (decide (c = L[j]) || decide (c ∈ L.take j)) := fun c => by
    rw [Bool.eq_iff_iff, decide_eq_true_iff, ← List.take_append_getElem hj, List.mem_append, List.mem_singleton, Bool.or_eq_true, decide_eq_true_iff, decide_eq_true_iff, or_comm]
  unfold dropR takeR
  rw [List.filter_filter]
  refine List.filter_congr fun y _ => ?_
  obtain ⟨a, b, c⟩ := y
  rw [hm]
  have : decide ((⟨a, b, c⟩ : WR) = ⟨s, i, L[j]⟩) = (decide (a = s) && (decide (b = i) && decide (c = L[j]))) := by
    rw [Bool.eq_iff_iff]
    simp
  rw [this]
  cases decide (a = s) <;> cases decide (b = i) <;> cases decide (c = L[j]) <;> cases decide (c ∈ L.take j) <;> rfl
theorem takeR_nil (W : List WR) (s i : Int) : takeR W s i [] = W := by
  unfold takeR
  simp
theorem takeR_len (W : List WR) (s i : Int) (L : List Int) : (takeR W s i L).length ≤ W.length := List.length_filter_le _ _
set_option maxRecDepth 100000 in
theorem rTake (r : Nat) (W : List WR) (s i : Int) (L : List Int) (hL : whoOk W s i L) (h1 : W.length ≤ 1000) (h2 : L.length ≤ 100) :
    Triple Try.prog 15 [.pointer (some ⟨r, 0, none⟩), .int .i64 s, .int .i64 i] [RefM r W] [] (Option Addr × Nat) (fun (B, d) => .slice B L.length d) (fun _ => True) (fun (B, d) => [RefM r (takeR W s i L), Row 3 1 B L.length d (L.flatMap encN)]) := by
  have T1 := sWho r W s i L hL h1
  have T2 := fun (V : List WR) (h : V.length ≤ 1000) o => sDrop r V s i o h
  refine triple_intro Try.tbs_ok Try.func15 rfl [.va (.pointer (some ⟨r, 0, none⟩)), .va (.int .i64 s), .va (.int .i64 i)] [.fact (RefM r W)] ⟨trivial, trivial, trivial, trivial⟩ rfl (by simp [SV.good, SV.goodL]) ?_
  intro E
  obtain ⟨n, hn⟩ : ∃ n, n = L.length := ⟨_, rfl⟩
  rw [← hn] at T1 ⊢
  refine go Try.tbs_ok 1000 ?_
  refine ev_callF (T1 ) [0] [] rfl rfl (by decide) rfl (by simp) (fun _ => (by repeat (first | exact trivial | refine ⟨rfl, ?_⟩))) (fun ⟨x0, x1⟩ h2 => ?_)
  refine go Try.tbs_ok 1000 ?_
  refine ev_stop (go_loopR [8, 13, 14, 15, 16, 17, 18, 19, 20, 21, 22, 23, 24, 25, 26] (fun (j, _) => [(8, .va (.int .i64 (j : Nat)))]) (fun (_, V) => [(0, .fact (RefM r V))]) (fun (j, V) => j ≤ n ∧ V = takeR W s i (L.take j)) (fun (j, _) => n - j) ((0, W) : Nat × List WR) ⟨Nat.zero_le _, (takeR_nil W s i).symm⟩ ⟨⟨by kernel_rfl, by kernel_rfl⟩, ⟨_, rfl⟩, ⟨_, rfl⟩, by kernel_rfl, by kernel_rfl⟩ (fun x_ h_ => ?_))
  obtain ⟨j, V⟩ := x_
  obtain ⟨hj, hV⟩ := h_
  refine go Try.tbs_ok 1000 ?_
  refine ev_if_lt (fun hlt => ?_) (fun hge => ?_)
  · have hjn : j < L.length := by
      have : (j : Int) < (n : Int) := hlt
      omega
    have T3 := T2 (takeR W s i (L.take j)) (Nat.le_trans (takeR_len _ _ _ _) h1) L[j]
    rw [takeR_step hjn, ← hV] at T3
    refine go Try.tbs_ok 1000 ?_
    refine ev_stop (go_index0 (sz := 1) Try.tbs_ok (.inr 1) (j) rfl rfl rfl rfl rfl rfl (by omega) rfl Row.at0 (fun g40 e41 => ?_))
    subst e41
    refine go Try.tbs_ok 1000 ?_
    have l42 : j < (L).length := (by omega)
    refine ev_stop (go_loadE Try.tbs_ok (.inr 1) (j) 0 rfl rfl rfl rfl (fun _ h => Row.rd h) (by omega) (fun _ => rfl) (by omega) l42 (by decide) ?_)
    refine go Try.tbs_ok 1000 ?_
    refine ev_callF (T3 ) [0] [] rfl rfl (by decide) rfl (by simp) (fun _ => (by repeat (first | exact trivial | refine ⟨rfl, ?_⟩))) (fun _ h43 => ?_)
    refine go Try.tbs_ok 1000 ?_
    refine ev_wrapN (j + 1) (by constructor <;> omega) (by rfl) ?_
    refine ev_fin (round_next ((j + 1, takeR W s i (List.take (j + 1) L))) (show j + 1 ≤ n ∧ takeR W s i (List.take (j + 1) L) = takeR W s i (List.take (j + 1) L) from (by (refine ⟨?_, ?_⟩ <;> first | assumption | omega | (simp only [List.length_set, List.length_append, List.length_cons, List.length_nil] <;> omega) | rfl))) (show n - (j + 1) < n - j from (by omega)) ⟨⟨by kernel_rfl, by kernel_rfl⟩, ⟨_, rfl⟩, ⟨_, rfl⟩, by kernel_rfl, by kernel_rfl⟩)
  · obtain rfl : j = n := by
      have : ¬ (j : Int) < (n : Int) := hge
      omega
    rw [List.take_of_length_le (by omega)] at hV
    subst hV
    refine go Try.tbs_ok 1000 ?_
    refine ev_fin (go Try.tbs_ok 1000 ?_)
    refine ev_fin ⟨trivial, _, rfl, ((x0, x1)), rfl, (by trivial), Frm.sel [0, 1] rfl (by decide)⟩
end Go.Proofs.Ytkjpfodnbjbmfaa
