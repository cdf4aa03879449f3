/-
  What is proved: the texts of this claim, part 3 of 7, each text behind the other. Conditions: none.
-/
import Derived.Test.YthknokcgclcbmaaPl2
namespace Go.Proofs.Ythknokcgclcbmaa
open Go.Sy
set_option maxRecDepth 100000 in
theorem thereP (p : Nat) (m s : Int) (dn : Bool) (A : Option Addr) (n c : Nat) (fv : Value) (B : Option Addr) (k d : Nat) : Triple Try.prog 55 [.pointer (some ⟨p, 0, none⟩)] [Pt p 53 [.int .i64 m, .int .i64 s, .bool dn, .slice A n c, fv, .slice B k d]] [] (Unit) (fun _ => .bool (decide (m > 0))) (fun _ => True) (fun _ => [Pt p 53 [.int .i64 m, .int .i64 s, .bool dn, .slice A n c, fv, .slice B k d]]) := by
  refine triple_intro Try.tbs_ok Try.func55 rfl [.pt 0 p 0] [.box p 53 [.va (.int .i64 m), .va (.int .i64 s), .va (.bool dn), .va (.slice A n c), .va fv, .va (.slice B k d)]] ⟨rfl, trivial⟩ rfl (by simp [SV.good, SV.goodL]) ?_
  intro E
  refine go Try.tbs_ok 1000 ?_
  refine ev_fin ⟨trivial, _, rfl, (()), rfl, (by trivial), Frm.sel [0] rfl (by decide)⟩
theorem thereT (p : Nat) (m s : Int) (dn : Bool) (A : Option Addr) (n c : Nat) (fv : Value) (B : Option Addr) (k d : Nat) (hm : 0 < m) : Triple Try.prog 55 [.pointer (some ⟨p, 0, none⟩)] [Pt p 53 [.int .i64 m, .int .i64 s, .bool dn, .slice A n c, fv, .slice B k d]] [] Unit (fun _ => .bool true) (fun _ => True) (fun _ => [Pt p 53 [.int .i64 m, .int .i64 s, .bool dn, .slice A n c, fv, .slice B k d]]) := by
  have := thereP p m s dn A n c fv B k d
  rwa [decide_eq_true (show m > 0 by omega)] at this
set_option maxRecDepth 100000 in
theorem askP (p : Nat) (m s : Int) (dn : Bool) (A : Option Addr) (n c : Nat) (fv : Value) (B : Option Addr) (k d : Nat) (hm : 0 < m) : Triple Try.prog 56 [.pointer (some ⟨p, 0, none⟩)] [Pt p 53 [.int .i64 m, .int .i64 s, .bool dn, .slice A n c, fv, .slice B k d]] [] (Unit) (fun _ => .int .i64 (if dn then 41 else 0)) (fun _ => True) (fun _ => [Pt p 53 [.int .i64 m, .int .i64 s, .bool dn, .slice A n c, fv, .slice B k d]]) := by
  have T1 := thereT p m s dn A n c fv B k d hm
  refine triple_intro Try.tbs_ok Try.func56 rfl [.pt 0 p 0] [.box p 53 [.va (.int .i64 m), .va (.int .i64 s), .va (.bool dn), .va (.slice A n c), .va fv, .va (.slice B k d)]] ⟨rfl, trivial⟩ rfl (by simp [SV.good, SV.goodL]) ?_
  intro E
  cases dn
  · refine go Try.tbs_ok 1000 ?_
    refine ev_call (T1 ) [0] [] (fun v0_ => [.box (p) 53 [.va (Value.int IntKind.i64 m), .va (Value.int IntKind.i64 s), .bl false, .va (Value.slice A n c), .va (fv), .va (Value.slice B k d)]]) rfl rfl (by decide) rfl (by simp) (fun _ => rfl) (fun _ => (newsOk_box (by simp [SV.good, SV.goodL]) (newsOk_nil _))) (fun _ => (by repeat (first | exact trivial | refine ⟨rfl, ?_⟩))) (fun _ h0 => ?_)
    refine go Try.tbs_ok 1000 ?_
    refine ev_if_no rfl ?_
    refine go Try.tbs_ok 1000 ?_
    refine ev_fin ⟨trivial, _, rfl, (()), rfl, (by trivial), Frm.sel [0] rfl (by decide)⟩
  · refine go Try.tbs_ok 1000 ?_
    refine ev_call (T1 ) [0] [] (fun v0_ => [.box (p) 53 [.va (Value.int IntKind.i64 m), .va (Value.int IntKind.i64 s), .bl true, .va (Value.slice A n c), .va (fv), .va (Value.slice B k d)]]) rfl rfl (by decide) rfl (by simp) (fun _ => rfl) (fun _ => (newsOk_box (by simp [SV.good, SV.goodL]) (newsOk_nil _))) (fun _ => (by repeat (first | exact trivial | refine ⟨rfl, ?_⟩))) (fun _ h0 => ?_)
    refine go Try.tbs_ok 1000 ?_
    refine ev_if_no rfl ?_
    refine go Try.tbs_ok 1000 ?_
    refine ev_fin ⟨trivial, _, rfl, (()), rfl, (by trivial), Frm.sel [0] rfl (by decide)⟩
theorem empty_iff {x : ByteArray} : x.size = 0 ↔ x = ⟨#[]⟩ := by
  obtain ⟨a⟩ := x
  rw [ByteArray.mk.injEq]
  exact Array.size_eq_zero_iff
def oddS (x : ByteArray) : Bool := decide (x.size = 0) || decide (16 < x.size)
set_option maxRecDepth 100000 in
theorem oddT (x : ByteArray) : Triple Try.prog 60 [.string x] [] [] (Unit) (fun _ => .bool (oddS x)) (fun _ => True) (fun _ => []) := by
  refine triple_intro Try.tbs_ok Try.func60 rfl [.va (.string x)] [] ⟨trivial, trivial⟩ rfl (by simp []) ?_
  intro E
  refine go Try.tbs_ok 1000 ?_
  refine ev_if_lt (fun h0 => ?_) (fun h0 => ?_)
  refine go Try.tbs_ok 1000 ?_
  refine ev_fin ⟨trivial, _, rfl, (()), ?_, (by trivial), Frm.nil _⟩
  rotate_left
  refine go Try.tbs_ok 1000 ?_
  refine ev_fin ⟨trivial, _, rfl, (()), ?_, (by trivial), Frm.nil _⟩
  rotate_left
  · rw [h0]
    rfl
  · refine congrArg Value.bool ?_
    have h1 : x.size ≠ 0 := fun e => h0 (empty_iff.1 e)
    unfold oddS
    rw [decide_eq_false h1, Bool.false_or, decide_eq_decide]
    omega
set_option maxRecDepth 100000 in
theorem findT (p : Nat) (m s : Int) (dn : Bool) (A : Option Addr) (n c : Nat) (fv : Value) (B : Option Addr) (k d : Nat) (L : List Fl) (x : ByteArray) (hn : n = L.length) (h1 : n ≤ 1000) (hs : riseF L) : Triple Try.prog 59 [.pointer (some ⟨p, 0, none⟩), .string x] [Pt p 53 [.int .i64 m, .int .i64 s, .bool dn, .slice A n c, fv, .slice B k d], Row 71 3 A n c (L.flatMap encF)] [] (Unit) (fun _ => .tuple #[.int .i64 (posF L x : Nat), .bool (hasF L x)]) (fun _ => True) (fun _ => [Pt p 53 [.int .i64 m, .int .i64 s, .bool dn, .slice A n c, fv, .slice B k d], Row 71 3 A n c (L.flatMap encF)]) := by
  have T1 := (searchF A L n c x hn h1 hs).ofRow 71 c
  refine triple_intro Try.tbs_ok Try.func59 rfl [.pt 0 p 0, .va (.string x)] [.box p 53 [.va (.int .i64 m), .va (.int .i64 s), .va (.bool dn), .va (.slice A n c), .va fv, .va (.slice B k d)], .fact (Row 71 3 A n c (L.flatMap encF))] ⟨rfl, trivial, trivial⟩ rfl (by simp [SV.good, SV.goodL]) ?_
  intro E
  refine go Try.tbs_ok 1000 ?_
  refine ev_callF (T1 ) [] [.inr 1] rfl rfl (by decide) rfl (by simp) (fun _ => (by repeat (first | exact trivial | refine ⟨rfl, ?_⟩))) (fun _ h0 => ?_)
  refine go Try.tbs_ok 1000 ?_
  refine ev_fin ⟨trivial, _, rfl, (()), rfl, (by trivial), Frm.sel [0, 1] rfl (by decide)⟩
set_option maxRecDepth 100000 in
theorem sizeE1 (f : Fl) : Triple Try.prog 37 [.agg #[.string f.n, .string f.d, .int .i64 f.s]] [] [] (Unit) (fun _ => .int .i64 (f.d.size : Nat)) (fun _ => True) (fun _ => []) := by
  refine triple_intro Try.tbs_ok Try.func37 rfl [.ag [.va (.string f.n), .va (.string f.d), .va (.int .i64 f.s)]] [] ⟨by simp [SV.good, SV.goodL], trivial⟩ rfl (by simp []) ?_
  intro E
  refine go Try.tbs_ok 1000 ?_
  refine ev_new fun b0 => ?_
  refine ev_fin ⟨trivial, _, rfl, (()), rfl, (by trivial), Frm.nil _⟩
def sizeEG (f : Fl) : Int := (f.d.size : Int)
set_option maxRecDepth 100000 in
theorem sizeE (p : Nat) (m s : Int) (dn : Bool) (A : Option Addr) (n c : Nat) (fv : Value) (B : Option Addr) (k d : Nat) (L : List Fl) (hm : 0 < m) (hn : n = L.length) (h1 : n ≤ 1000) : Triple Try.prog 36 [.pointer (some ⟨p, 0, none⟩), .func (.func 37) #[] #[]] [Pt p 53 [.int .i64 m, .int .i64 s, .bool dn, .slice A n c, fv, .slice B k d], Row 71 3 A n c (L.flatMap encF)] [] (Option Addr × Nat) (fun (C, e) => .slice C n e) (fun _ => True) (fun (C, e) => [Pt p 53 [.int .i64 m, .int .i64 s, .bool dn, .slice A n c, fv, .slice B k d], Row 71 3 A n c (L.flatMap encF), Row 3 1 C n e ((L.map sizeEG).flatMap encN)]) := by
  have T1 := thereT p m s dn A n c fv B k d hm
  refine triple_intro Try.tbs_ok Try.func36 rfl [.pt 0 p 0, .va (.func (.func 37) #[] #[])] [.box p 53 [.va (.int .i64 m), .va (.int .i64 s), .va (.bool dn), .va (.slice A n c), .va fv, .va (.slice B k d)], .fact (Row 71 3 A n c (L.flatMap encF))] ⟨rfl, trivial, trivial⟩ rfl (by simp [SV.good, SV.goodL]) ?_
  intro E
  refine go Try.tbs_ok 1000 ?_
  refine ev_call (T1 ) [0] [] (fun v0_ => [.box (p) 53 [.va (Value.int IntKind.i64 m), .va (Value.int IntKind.i64 s), .bq (dn), .va (Value.slice A n c), .va (fv), .va (Value.slice B k d)]]) rfl rfl (by decide) rfl (by simp) (fun _ => rfl) (fun _ => (newsOk_box (by simp [SV.good, SV.goodL]) (newsOk_nil _))) (fun _ => (by repeat (first | exact trivial | refine ⟨rfl, ?_⟩))) (fun _ h0 => ?_)
  refine go Try.tbs_ok 1000 ?_
  refine ev_if_no rfl ?_
  refine go Try.tbs_ok 1000 ?_
  refine ev_stop (go_fact (Row 3 1 none 0 0 (([] : List Int).flatMap encN)) (Row.nilE _ _) ?_)
  refine go Try.tbs_ok 1000 ?_
  refine ev_stop (go_loopR [5, 7, 16, 17, 18, 19, 20, 21, 22, 23, 24, 25, 26] (fun (j, C, q, e, _) => [(5, .va (.slice C q e)), (16, .va (.int .i64 (j : Nat)))]) (fun (_, C, q, e, M) => [(2, .fact (Row 3 1 C q e (M.flatMap encN)))]) (fun (j, _, q, _, M) => j ≤ n ∧ q = M.length ∧ q = j ∧ M = (L.take j).map sizeEG) (fun (j, _, _, _, _) => n - j) ((0, none, 0, 0, []) : Nat × Option Addr × Nat × Nat × List Int) ⟨Nat.zero_le _, rfl, rfl, rfl⟩ ⟨⟨by kernel_rfl, by kernel_rfl⟩, ⟨_, rfl⟩, ⟨_, rfl⟩, by kernel_rfl, by kernel_rfl⟩ (fun x_ h_ => ?_))
  obtain ⟨j, C, q, e, M⟩ := x_
  obtain ⟨hj, hq, hqj, hM⟩ := h_
  refine go Try.tbs_ok 1000 ?_
  refine ev_if_lt (fun hlt => ?_) (fun hge => ?_)
  · have hjn : j < L.length := by
      have : (j : Int) < (n : Int) := hlt
      omega
    have T2 := sizeE1 L[j]
    refine go Try.tbs_ok 1000 ?_
    refine ev_stop (go_index0 (sz := 3) Try.tbs_ok (.inr 1) (j) rfl rfl rfl rfl rfl rfl (by omega) rfl Row.at0 (fun g40 e41 => ?_))
    subst e41
    refine go Try.tbs_ok 1000 ?_
    have l42 : j < (L).length := (by omega)
    refine ev_stop (go_loadE Try.tbs_ok (.inr 1) (j) 0 rfl rfl rfl rfl (fun _ h => Row.rd h) (by omega) (fun _ => rfl) (by omega) l42 (by decide) ?_)
    refine go Try.tbs_ok 1000 ?_
    refine ev_new fun b43 => ?_
    refine ev_callF (T2 ) [] [] rfl rfl (by decide) rfl (by simp) (fun _ => (by repeat (first | exact trivial | refine ⟨rfl, ?_⟩))) (fun _ h44 => ?_)
    refine go Try.tbs_ok 1000 ?_
    refine ev_new fun b45 => ?_
    refine ev_stop (go_appendE (sz := 1) (M := [_]) (enc := encN) Try.tbs_ok [2] [] (.inr 4) (M) ([(↑L[j].d.size : Int)]) ((M) ++ ([(↑L[j].d.size : Int)])) (q + 1) rfl rfl rfl rfl rfl rfl rfl (by decide) rfl (by decide) (fun _ p => starH_one.1 p) rfl (fun _ p => Pt.rd p rfl) (by first | rfl | simp) (by first | rfl | omega) (le_app (s := q + 1) (by omega) (by first | rfl | omega)) (le_appb (s := q + 1) (by omega) (by first | rfl | omega) (by decide)) (fun _ _ => (by repeat (first | exact trivial | refine ⟨rfl, ?_⟩))) (fun A46 c47 h48 => ?_))
    refine go Try.tbs_ok 1000 ?_
    refine ev_wrapN (j + 1) (by constructor <;> omega) (by rfl) ?_
    refine ev_fin (round_next ((j + 1, A46, q + 1, c47, M ++ [(↑L[j].d.size : Int)])) (?_ : j + 1 ≤ n ∧ q + 1 = (M ++ [(↑L[j].d.size : Int)]).length ∧ q + 1 = j + 1 ∧ M ++ [(↑L[j].d.size : Int)] = List.map sizeEG (List.take (j + 1) L)) (show n - (j + 1) < n - j from (by omega)) ⟨⟨by kernel_rfl, by kernel_rfl⟩, ⟨_, rfl⟩, ⟨_, rfl⟩, by kernel_rfl, by kernel_rfl⟩)
    refine ⟨by omega, by rw [List.length_append, ← hq]; rfl, by omega, ?_⟩
    rw [hM, ← List.take_append_getElem hjn, List.map_append]
    rfl
  · obtain rfl : j = n := by
      have : ¬ (j : Int) < (n : Int) := hge
      omega
    obtain rfl := hqj
    rw [List.take_of_length_le (by omega)] at hM
    subst hM
    refine go Try.tbs_ok 1000 ?_
    refine ev_fin (go Try.tbs_ok 1000 ?_)
    refine ev_fin ⟨trivial, _, rfl, ((C, e)), rfl, (by trivial), Frm.sel [0, 1, 2] rfl (by decide)⟩
set_option maxRecDepth 100000 in
theorem nameE1 (f : Fl) : Triple Try.prog 39 [.agg #[.string f.n, .string f.d, .int .i64 f.s]] [] [] (Unit) (fun _ => .string f.n) (fun _ => True) (fun _ => []) := by
  refine triple_intro Try.tbs_ok Try.func39 rfl [.ag [.va (.string f.n), .va (.string f.d), .va (.int .i64 f.s)]] [] ⟨by simp [SV.good, SV.goodL], trivial⟩ rfl (by simp []) ?_
  intro E
  refine go Try.tbs_ok 1000 ?_
  refine ev_new fun b0 => ?_
  refine ev_fin ⟨trivial, _, rfl, (()), rfl, (by trivial), Frm.nil _⟩
def nameEG (f : Fl) : ByteArray := f.n
set_option maxRecDepth 100000 in
theorem nameE (p : Nat) (m s : Int) (dn : Bool) (A : Option Addr) (n c : Nat) (fv : Value) (B : Option Addr) (k d : Nat) (L : List Fl) (hm : 0 < m) (hn : n = L.length) (h1 : n ≤ 1000) : Triple Try.prog 38 [.pointer (some ⟨p, 0, none⟩), .func (.func 39) #[] #[]] [Pt p 53 [.int .i64 m, .int .i64 s, .bool dn, .slice A n c, fv, .slice B k d], Row 71 3 A n c (L.flatMap encF)] [] (Option Addr × Nat) (fun (C, e) => .slice C n e) (fun _ => True) (fun (C, e) => [Pt p 53 [.int .i64 m, .int .i64 s, .bool dn, .slice A n c, fv, .slice B k d], Row 71 3 A n c (L.flatMap encF), Row 9 1 C n e ((L.map nameEG).flatMap encS)]) := by
  have T1 := thereT p m s dn A n c fv B k d hm
  refine triple_intro Try.tbs_ok Try.func38 rfl [.pt 0 p 0, .va (.func (.func 39) #[] #[])] [.box p 53 [.va (.int .i64 m), .va (.int .i64 s), .va (.bool dn), .va (.slice A n c), .va fv, .va (.slice B k d)], .fact (Row 71 3 A n c (L.flatMap encF))] ⟨rfl, trivial, trivial⟩ rfl (by simp [SV.good, SV.goodL]) ?_
  intro E
  refine go Try.tbs_ok 1000 ?_
  refine ev_call (T1 ) [0] [] (fun v0_ => [.box (p) 53 [.va (Value.int IntKind.i64 m), .va (Value.int IntKind.i64 s), .bq (dn), .va (Value.slice A n c), .va (fv), .va (Value.slice B k d)]]) rfl rfl (by decide) rfl (by simp) (fun _ => rfl) (fun _ => (newsOk_box (by simp [SV.good, SV.goodL]) (newsOk_nil _))) (fun _ => (by repeat (first | exact trivial | refine ⟨rfl, ?_⟩))) (fun _ h0 => ?_)
  refine go Try.tbs_ok 1000 ?_
  refine ev_if_no rfl ?_
  refine go Try.tbs_ok 1000 ?_
  refine ev_stop (go_fact (Row 9 1 none 0 0 (([] : List ByteArray).flatMap encS)) (Row.nilE _ _) ?_)
  refine go Try.tbs_ok 1000 ?_
  refine ev_stop (go_loopR [5, 7, 16, 17, 18, 19, 20, 21, 22, 23, 24, 25, 26] (fun (j, C, q, e, _) => [(5, .va (.slice C q e)), (16, .va (.int .i64 (j : Nat)))]) (fun (_, C, q, e, M) => [(2, .fact (Row 9 1 C q e (M.flatMap encS)))]) (fun (j, _, q, _, M) => j ≤ n ∧ q = M.length ∧ q = j ∧ M = (L.take j).map nameEG) (fun (j, _, _, _, _) => n - j) ((0, none, 0, 0, []) : Nat × Option Addr × Nat × Nat × List ByteArray) ⟨Nat.zero_le _, rfl, rfl, rfl⟩ ⟨⟨by kernel_rfl, by kernel_rfl⟩, ⟨_, rfl⟩, ⟨_, rfl⟩, by kernel_rfl, by kernel_rfl⟩ (fun x_ h_ => ?_))
  obtain ⟨j, C, q, e, M⟩ := x_
  obtain ⟨hj, hq, hqj, hM⟩ := h_
  refine go Try.tbs_ok 1000 ?_
  refine ev_if_lt (fun hlt => ?_) (fun hge => ?_)
  · have hjn : j < L.length := by
      have : (j : Int) < (n : Int) := hlt
      omega
    have T2 := nameE1 L[j]
    refine go Try.tbs_ok 1000 ?_
    refine ev_stop (go_index0 (sz := 3) Try.tbs_ok (.inr 1) (j) rfl rfl rfl rfl rfl rfl (by omega) rfl Row.at0 (fun g40 e41 => ?_))
    subst e41
    refine go Try.tbs_ok 1000 ?_
    have l42 : j < (L).length := (by omega)
    refine ev_stop (go_loadE Try.tbs_ok (.inr 1) (j) 0 rfl rfl rfl rfl (fun _ h => Row.rd h) (by omega) (fun _ => rfl) (by omega) l42 (by decide) ?_)
    refine go Try.tbs_ok 1000 ?_
    refine ev_new fun b43 => ?_
    refine ev_callF (T2 ) [] [] rfl rfl (by decide) rfl (by simp) (fun _ => (by repeat (first | exact trivial | refine ⟨rfl, ?_⟩))) (fun _ h44 => ?_)
    refine go Try.tbs_ok 1000 ?_
    refine ev_new fun b45 => ?_
    refine ev_stop (go_appendE (sz := 1) (M := [_]) (enc := encS) Try.tbs_ok [2] [] (.inr 4) (M) ([L[j].n]) ((M) ++ ([L[j].n])) (q + 1) rfl rfl rfl rfl rfl rfl rfl (by decide) rfl (by decide) (fun _ p => starH_one.1 p) rfl (fun _ p => Pt.rd p rfl) (by first | rfl | simp) (by first | rfl | omega) (le_app (s := q + 1) (by omega) (by first | rfl | omega)) (le_appb (s := q + 1) (by omega) (by first | rfl | omega) (by decide)) (fun _ _ => (by repeat (first | exact trivial | refine ⟨rfl, ?_⟩))) (fun A46 c47 h48 => ?_))
    refine go Try.tbs_ok 1000 ?_
    refine ev_wrapN (j + 1) (by constructor <;> omega) (by rfl) ?_
    refine ev_fin (round_next ((j + 1, A46, q + 1, c47, M ++ [L[j].n])) (?_ : j + 1 ≤ n ∧ q + 1 = (M ++ [L[j].n]).length ∧ q + 1 = j + 1 ∧ M ++ [L[j].n] = List.map nameEG (List.take (j + 1) L)) (show n - (j + 1) < n - j from (by omega)) ⟨⟨by kernel_rfl, by kernel_rfl⟩, ⟨_, rfl⟩, ⟨_, rfl⟩, by kernel_rfl, by kernel_rfl⟩)
    refine ⟨by omega, by rw [List.length_append, ← hq]; rfl, by omega, ?_⟩
    rw [hM, ← List.take_append_getElem hjn, List.map_append]
    rfl
  · obtain rfl : j = n := by
      have : ¬ (j : Int) < (n : Int) := hge
      omega
    obtain rfl := hqj
    rw [List.take_of_length_le (by omega)] at hM
    subst hM
    refine go Try.tbs_ok 1000 ?_
    refine ev_fin (go Try.tbs_ok 1000 ?_)
    refine ev_fin ⟨trivial, _, rfl, ((C, e)), rfl, (by trivial), Frm.sel [0, 1, 2] rfl (by decide)⟩
set_option maxRecDepth 100000 in
theorem leftE1 (f : Fl) (h0 : 0 ≤ f.s) (h1 : f.s ≤ f.d.size) (h2 : f.d.size ≤ 1000000000) : Triple Try.prog 43 [.agg #[.string f.n, .string f.d, .int .i64 f.s]] [] [] (Unit) (fun _ => .int .i64 ((f.d.size : Int) - f.s)) (fun _ => True) (fun _ => []) := by
  refine triple_intro Try.tbs_ok Try.func43 rfl [.ag [.va (.string f.n), .va (.string f.d), .va (.int .i64 f.s)]] [] ⟨by simp [SV.good, SV.goodL], trivial⟩ rfl (by simp []) ?_
  intro E
  refine go Try.tbs_ok 1000 ?_
  refine ev_new fun b0 => ?_
  refine ev_w64 (by constructor <;> omega) ?_
  refine ev_fin ⟨trivial, _, rfl, (()), rfl, (by trivial), Frm.nil _⟩
def leftEG (f : Fl) : Int := (f.d.size : Int) - f.s
set_option maxRecDepth 100000 in
theorem leftE (p : Nat) (m s : Int) (dn : Bool) (A : Option Addr) (n c : Nat) (fv : Value) (B : Option Addr) (k d : Nat) (L : List Fl) (hm : 0 < m) (hn : n = L.length) (h1 : n ≤ 1000) (hL : ∀ f ∈ L, 0 ≤ f.s ∧ f.s ≤ f.d.size ∧ f.d.size ≤ 1000000000) : Triple Try.prog 36 [.pointer (some ⟨p, 0, none⟩), .func (.func 43) #[] #[]] [Pt p 53 [.int .i64 m, .int .i64 s, .bool dn, .slice A n c, fv, .slice B k d], Row 71 3 A n c (L.flatMap encF)] [] (Option Addr × Nat) (fun (C, e) => .slice C n e) (fun _ => True) (fun (C, e) => [Pt p 53 [.int .i64 m, .int .i64 s, .bool dn, .slice A n c, fv, .slice B k d], Row 71 3 A n c (L.flatMap encF), Row 3 1 C n e ((L.map leftEG).flatMap encN)]) := by
  have T1 := thereT p m s dn A n c fv B k d hm
  refine triple_intro Try.tbs_ok Try.func36 rfl [.pt 0 p 0, .va (.func (.func 43) #[] #[])] [.box p 53 [.va (.int .i64 m), .va (.int .i64 s), .va (.bool dn), .va (.slice A n c), .va fv, .va (.slice B k d)], .fact (Row 71 3 A n c (L.flatMap encF))] ⟨rfl, trivial, trivial⟩ rfl (by simp [SV.good, SV.goodL]) ?_
  intro E
  refine go Try.tbs_ok 1000 ?_
  refine ev_call (T1 ) [0] [] (fun v0_ => [.box (p) 53 [.va (Value.int IntKind.i64 m), .va (Value.int IntKind.i64 s), .bq (dn), .va (Value.slice A n c), .va (fv), .va (Value.slice B k d)]]) rfl rfl (by decide) rfl (by simp) (fun _ => rfl) (fun _ => (newsOk_box (by simp [SV.good, SV.goodL]) (newsOk_nil _))) (fun _ => (by repeat (first | exact trivial | refine ⟨rfl, ?_⟩))) (fun _ h0 => ?_)
  refine go Try.tbs_ok 1000 ?_
  refine ev_if_no rfl ?_
  refine go Try.tbs_ok 1000 ?_
  refine ev_stop (go_fact (Row 3 1 none 0 0 (([] : List Int).flatMap encN)) (Row.nilE _ _) ?_)
  refine go Try.tbs_ok 1000 ?_
  refine ev_stop (go_loopR [5, 7, 16, 17, 18, 19, 20, 21, 22, 23, 24, 25, 26] (fun (j, C, q, e, _) => [(5, .va (.slice C q e)), (16, .va (.int .i64 (j : Nat)))]) (fun (_, C, q, e, M) => [(2, .fact (Row 3 1 C q e (M.flatMap encN)))]) (fun (j, _, q, _, M) => j ≤ n ∧ q = M.length ∧ q = j ∧ M = (L.take j).map leftEG) (fun (j, _, _, _, _) => n - j) ((0, none, 0, 0, []) : Nat × Option Addr × Nat × Nat × List Int) ⟨Nat.zero_le _, rfl, rfl, rfl⟩ ⟨⟨by kernel_rfl, by kernel_rfl⟩, ⟨_, rfl⟩, ⟨_, rfl⟩, by kernel_rfl, by kernel_rfl⟩ (fun x_ h_ => ?_))
  obtain ⟨j, C, q, e, M⟩ := x_
  obtain ⟨hj, hq, hqj, hM⟩ := h_
  refine go Try.tbs_ok 1000 ?_
  refine ev_if_lt (fun hlt => ?_) (fun hge => ?_)
  · have hjn : j < L.length := by
      have : (j : Int) < (n : Int) := hlt
      omega
    have T2 := leftE1 L[j] (hL _ (List.getElem_mem hjn)).1 (hL _ (List.getElem_mem hjn)).2.1 (hL _ (List.getElem_mem hjn)).2.2
    refine go Try.tbs_ok 1000 ?_
    refine ev_stop (go_index0 (sz := 3) Try.tbs_ok (.inr 1) (j) rfl rfl rfl rfl rfl rfl (by omega) rfl Row.at0 (fun g40 e41 => ?_))
    subst e41
    refine go Try.tbs_ok 1000 ?_
    have l42 : j < (L).length := (by omega)
    refine ev_stop (go_loadE Try.tbs_ok (.inr 1) (j) 0 rfl rfl rfl rfl (fun _ h => Row.rd h) (by omega) (fun _ => rfl) (by omega) l42 (by decide) ?_)
    refine go Try.tbs_ok 1000 ?_
    refine ev_new fun b43 => ?_
    refine ev_callF (T2 ) [] [] rfl rfl (by decide) rfl (by simp) (fun _ => (by repeat (first | exact trivial | refine ⟨rfl, ?_⟩))) (fun _ h44 => ?_)
    refine go Try.tbs_ok 1000 ?_
    refine ev_new fun b45 => ?_
    refine ev_stop (go_appendE (sz := 1) (M := [_]) (enc := encN) Try.tbs_ok [2] [] (.inr 4) (M) ([(↑L[j].d.size : Int) - L[j].s]) ((M) ++ ([(↑L[j].d.size : Int) - L[j].s])) (q + 1) rfl rfl rfl rfl rfl rfl rfl (by decide) rfl (by decide) (fun _ p => starH_one.1 p) rfl (fun _ p => Pt.rd p rfl) (by first | rfl | simp) (by first | rfl | omega) (le_app (s := q + 1) (by omega) (by first | rfl | omega)) (le_appb (s := q + 1) (by omega) (by first | rfl | omega) (by decide)) (fun _ _ => (by repeat (first | exact trivial | refine ⟨rfl, ?_⟩))) (fun A46 c47 h48 => ?_))
    refine go Try.tbs_ok 1000 ?_
    refine ev_wrapN (j + 1) (by constructor <;> omega) (by rfl) ?_
    refine ev_fin (round_next ((j + 1, A46, q + 1, c47, M ++ [(↑L[j].d.size : Int) - L[j].s])) (?_ : j + 1 ≤ n ∧ q + 1 = (M ++ [(↑L[j].d.size : Int) - L[j].s]).length ∧ q + 1 = j + 1 ∧ M ++ [(↑L[j].d.size : Int) - L[j].s] = List.map leftEG (List.take (j + 1) L)) (show n - (j + 1) < n - j from (by omega)) ⟨⟨by kernel_rfl, by kernel_rfl⟩, ⟨_, rfl⟩, ⟨_, rfl⟩, by kernel_rfl, by kernel_rfl⟩)
    refine ⟨by omega, by rw [List.length_append, ← hq]; rfl, by omega, ?_⟩
    rw [hM, ← List.take_append_getElem hjn, List.map_append]
    rfl
  · obtain rfl : j = n := by
      have : ¬ (j : Int) < (n : Int) := hge
      omega
    obtain rfl := hqj
    rw [List.take_of_length_le (by omega)] at hM
    subst hM
    refine go Try.tbs_ok 1000 ?_
    refine ev_fin (go Try.tbs_ok 1000 ?_)
    refine ev_fin ⟨trivial, _, rfl, ((C, e)), rfl, (by trivial), Frm.sel [0, 1, 2] rfl (by decide)⟩
/-- how many bytes in all -/
def sumD (L : List Fl) : Nat := (L.map fun f => f.d.size).sum
theorem sumD_take (L : List Fl) (j : Nat) : sumD (L.take j) ≤ sumD L := by
  unfold sumD
  conv => rhs; rw [← List.take_append_drop j L, List.map_append, List.sum_append]
  omega
theorem sumD_step {L : List Fl} {j : Nat} (hj : j < L.length) : sumD (L.take (j + 1)) = sumD (L.take j) + L[j].d.size := by
  unfold sumD
  rw [← List.take_append_getElem hj, List.map_append, List.sum_append]
  rfl
set_option maxRecDepth 100000 in
theorem sizeT (p : Nat) (m s : Int) (dn : Bool) (A : Option Addr) (n c : Nat) (fv : Value) (B : Option Addr) (k d : Nat) (L : List Fl) (hm : 0 < m) (hn : n = L.length) (h1 : n ≤ 1000) (hb : sumD L ≤ 1000000000) : Triple Try.prog 11 [.pointer (some ⟨p, 0, none⟩)] [Pt p 53 [.int .i64 m, .int .i64 s, .bool dn, .slice A n c, fv, .slice B k d], Row 71 3 A n c (L.flatMap encF)] [] (Unit) (fun _ => .int .i64 (sumD L : Nat)) (fun _ => True) (fun _ => [Pt p 53 [.int .i64 m, .int .i64 s, .bool dn, .slice A n c, fv, .slice B k d], Row 71 3 A n c (L.flatMap encF)]) := by
  have T1 := sizeE p m s dn A n c fv B k d L hm hn h1
  refine triple_intro Try.tbs_ok Try.func11 rfl [.pt 0 p 0] [.box p 53 [.va (.int .i64 m), .va (.int .i64 s), .va (.bool dn), .va (.slice A n c), .va fv, .va (.slice B k d)], .fact (Row 71 3 A n c (L.flatMap encF))] ⟨rfl, trivial⟩ rfl (by simp [SV.good, SV.goodL]) ?_
  intro E
  refine go Try.tbs_ok 1000 ?_
  refine ev_call (T1 ) [0, 1] [] (fun (v0_, v1_) => [.box (p) 53 [.va (Value.int IntKind.i64 m), .va (Value.int IntKind.i64 s), .bq (dn), .va (Value.slice A n c), .va (fv), .va (Value.slice B k d)], .fact (Row 71 3 A n c (List.flatMap encF L)), .fact (Row 3 1 v0_ n v1_ (List.flatMap encN (List.map sizeEG L)))]) rfl rfl (by decide) rfl (by simp) (fun _ => rfl) (fun _ => (newsOk_box (by simp [SV.good, SV.goodL]) (newsOk_fact (newsOk_fact (newsOk_nil _))))) (fun _ => (by repeat (first | exact trivial | refine ⟨rfl, ?_⟩))) (fun ⟨x0, x1⟩ h2 => ?_)
  refine go Try.tbs_ok 1000 ?_
  refine ev_stop (go_loopR [3, 5, 9, 10, 11, 12, 13, 14, 15, 16] (fun (j, q) => [(3, .va (.int .i64 q)), (9, .va (.int .i64 (j : Nat)))]) (fun _ => []) (fun (j, q) => j ≤ n ∧ q = ((sumD (L.take j) : Nat) : Int)) (fun (j, _) => n - j) ((0, 0) : Nat × Int) ⟨Nat.zero_le _, rfl⟩ ⟨⟨by kernel_rfl, by kernel_rfl⟩, ⟨_, rfl⟩, ⟨_, rfl⟩, by kernel_rfl, by kernel_rfl⟩ (fun x_ h_ => ?_))
  obtain ⟨j, q⟩ := x_
  obtain ⟨hj, hq⟩ := h_
  refine go Try.tbs_ok 1000 ?_
  refine ev_if_lt (fun hlt => ?_) (fun hge => ?_)
  · have hjn : j < L.length := by
      have : (j : Int) < (n : Int) := hlt
      omega
    have hs1 := sumD_step hjn
    have hs2 := sumD_take L (j + 1)
    have hg : (L.map sizeEG)[j]'(by simpa using hjn) = ((L[j].d.size : Nat) : Int) := by simp [sizeEG]
    refine go Try.tbs_ok 1000 ?_
    refine ev_stop (go_index0 (sz := 1) Try.tbs_ok (.inr 2) (j) rfl rfl rfl rfl rfl rfl (by omega) rfl Row.at0 (fun g40 e41 => ?_))
    subst e41
    refine go Try.tbs_ok 1000 ?_
    have l42 : j < (List.map sizeEG L).length := (by (simp only [List.length_map] <;> omega))
    refine ev_stop (go_loadE Try.tbs_ok (.inr 2) (j) 0 rfl rfl rfl rfl (fun _ h => Row.rd h) (by omega) (fun _ => rfl) (by omega) l42 (by decide) ?_)
    refine go Try.tbs_ok 1000 ?_
    refine ev_w64 (by constructor <;> omega) ?_
    refine ev_wrapN (j + 1) (by constructor <;> omega) (by rfl) ?_
    refine ev_fin (round_next ((j + 1, q + (List.map sizeEG L)[j])) (show j + 1 ≤ n ∧ q + (List.map sizeEG L)[j] = (↑(sumD (List.take (j + 1) L)) : Int) from (by omega)) (show n - (j + 1) < n - j from (by omega)) ⟨⟨by kernel_rfl, by kernel_rfl⟩, ⟨_, rfl⟩, ⟨_, rfl⟩, by kernel_rfl, by kernel_rfl⟩)
  · refine go Try.tbs_ok 1000 ?_
    refine ev_fin (go Try.tbs_ok 1000 ?_)
    refine ev_fin ⟨trivial, _, rfl, (()), ?_, (by trivial), Frm.sel [0, 1] rfl (by decide)⟩
    rw [hq, List.take_of_length_le (by omega)]
    rfl
set_option maxRecDepth 100000 in
theorem namesT (p : Nat) (m s : Int) (dn : Bool) (A : Option Addr) (n c : Nat) (fv : Value) (B : Option Addr) (k d : Nat) (L : List Fl) (hm : 0 < m) (hn : n = L.length) (h1 : n ≤ 1000) : Triple Try.prog 12 [.pointer (some ⟨p, 0, none⟩)] [Pt p 53 [.int .i64 m, .int .i64 s, .bool dn, .slice A n c, fv, .slice B k d], Row 71 3 A n c (L.flatMap encF)] [] (Option Addr × Nat) (fun (C, e) => .slice C n e) (fun _ => True) (fun (C, e) => [Pt p 53 [.int .i64 m, .int .i64 s, .bool dn, .slice A n c, fv, .slice B k d], Row 71 3 A n c (L.flatMap encF), Row 9 1 C n e ((L.map nameEG).flatMap encS)]) := by
  have T1 := nameE p m s dn A n c fv B k d L hm hn h1
  refine triple_intro Try.tbs_ok Try.func12 rfl [.pt 0 p 0] [.box p 53 [.va (.int .i64 m), .va (.int .i64 s), .va (.bool dn), .va (.slice A n c), .va fv, .va (.slice B k d)], .fact (Row 71 3 A n c (L.flatMap encF))] ⟨rfl, trivial⟩ rfl (by simp [SV.good, SV.goodL]) ?_
  intro E
  refine go Try.tbs_ok 1000 ?_
  refine ev_call (T1 ) [0, 1] [] (fun (v0_, v1_) => [.box (p) 53 [.va (Value.int IntKind.i64 m), .va (Value.int IntKind.i64 s), .bq (dn), .va (Value.slice A n c), .va (fv), .va (Value.slice B k d)], .fact (Row 71 3 A n c (List.flatMap encF L)), .fact (Row 9 1 v0_ n v1_ (List.flatMap encS (List.map nameEG L)))]) rfl rfl (by decide) rfl (by simp) (fun _ => rfl) (fun _ => (newsOk_box (by simp [SV.good, SV.goodL]) (newsOk_fact (newsOk_fact (newsOk_nil _))))) (fun _ => (by repeat (first | exact trivial | refine ⟨rfl, ?_⟩))) (fun ⟨x0, x1⟩ h2 => ?_)
  refine go Try.tbs_ok 1000 ?_
  refine ev_fin ⟨trivial, _, rfl, ((x0, x1)), rfl, (by trivial), Frm.sel [0, 1, 2] rfl (by decide)⟩
set_option maxRecDepth 100000 in
theorem leftT (p : Nat) (m s : Int) (dn : Bool) (A : Option Addr) (n c : Nat) (fv : Value) (B : Option Addr) (k d : Nat) (L : List Fl) (hm : 0 < m) (hn : n = L.length) (h1 : n ≤ 1000) (hL : ∀ f ∈ L, 0 ≤ f.s ∧ f.s ≤ f.d.size ∧ f.d.size ≤ 1000000000) : Triple Try.prog 15 [.pointer (some ⟨p, 0, none⟩)] [Pt p 53 [.int .i64 m, .int .i64 s, .bool dn, .slice A n c, fv, .slice B k d], Row 71 3 A n c (L.flatMap encF)] [] (Option Addr × Nat) (fun (C, e) => .slice C n e) (fun _ => True) (fun (C, e) => [Pt p 53 [.int .i64 m, .int .i64 s, .bool dn, .slice A n c, fv, .slice B k d], Row 71 3 A n c (L.flatMap encF), Row 3 1 C n e ((L.map leftEG).flatMap encN)]) := by
  have T1 := leftE p m s dn A n c fv B k d L hm hn h1 hL
  refine triple_intro Try.tbs_ok Try.func15 rfl [.pt 0 p 0] [.box p 53 [.va (.int .i64 m), .va (.int .i64 s), .va (.bool dn), .va (.slice A n c), .va fv, .va (.slice B k d)], .fact (Row 71 3 A n c (L.flatMap encF))] ⟨rfl, trivial⟩ rfl (by simp [SV.good, SV.goodL]) ?_
  intro E
  refine go Try.tbs_ok 1000 ?_
  refine ev_call (T1 ) [0, 1] [] (fun (v0_, v1_) => [.box (p) 53 [.va (Value.int IntKind.i64 m), .va (Value.int IntKind.i64 s), .bq (dn), .va (Value.slice A n c), .va (fv), .va (Value.slice B k d)], .fact (Row 71 3 A n c (List.flatMap encF L)), .fact (Row 3 1 v0_ n v1_ (List.flatMap encN (List.map leftEG L)))]) rfl rfl (by decide) rfl (by simp) (fun _ => rfl) (fun _ => (newsOk_box (by simp [SV.good, SV.goodL]) (newsOk_fact (newsOk_fact (newsOk_nil _))))) (fun _ => (by repeat (first | exact trivial | refine ⟨rfl, ?_⟩))) (fun ⟨x0, x1⟩ h2 => ?_)
  refine go Try.tbs_ok 1000 ?_
  refine ev_fin ⟨trivial, _, rfl, ((x0, x1)), rfl, (by trivial), Frm.sel [0, 1, 2] rfl (by decide)⟩
set_option maxRecDepth 100000 in
theorem upT (p : Nat) (m s : Int) (dn : Bool) (A : Option Addr) (n c : Nat) (fv : Value) (B : Option Addr) (k d : Nat) (hm : 0 < m) : Triple Try.prog 25 [.pointer (some ⟨p, 0, none⟩)] [Pt p 53 [.int .i64 m, .int .i64 s, .bool dn, .slice A n c, fv, .slice B k d]] [] (Unit) (fun _ => .bool (!dn)) (fun _ => True) (fun _ => [Pt p 53 [.int .i64 m, .int .i64 s, .bool dn, .slice A n c, fv, .slice B k d]]) := by
  have T1 := thereT p m s dn A n c fv B k d hm
  refine triple_intro Try.tbs_ok Try.func25 rfl [.pt 0 p 0] [.box p 53 [.va (.int .i64 m), .va (.int .i64 s), .va (.bool dn), .va (.slice A n c), .va fv, .va (.slice B k d)]] ⟨rfl, trivial⟩ rfl (by simp [SV.good, SV.goodL]) ?_
  intro E
  refine go Try.tbs_ok 1000 ?_
  refine ev_call (T1 ) [0] [] (fun v0_ => [.box (p) 53 [.va (Value.int IntKind.i64 m), .va (Value.int IntKind.i64 s), .bq (dn), .va (Value.slice A n c), .va (fv), .va (Value.slice B k d)]]) rfl rfl (by decide) rfl (by simp) (fun _ => rfl) (fun _ => (newsOk_box (by simp [SV.good, SV.goodL]) (newsOk_nil _))) (fun _ => (by repeat (first | exact trivial | refine ⟨rfl, ?_⟩))) (fun _ h0 => ?_)
  refine go Try.tbs_ok 1000 ?_
  refine ev_if_yes rfl ?_
  refine go Try.tbs_ok 1000 ?_
  refine ev_fin ⟨trivial, _, rfl, (()), rfl, (by trivial), Frm.sel [0] rfl (by decide)⟩
set_option maxRecDepth 100000 in
theorem startsT (p : Nat) (m s : Int) (dn : Bool) (A : Option Addr) (n c : Nat) (fv : Value) (B : Option Addr) (k d : Nat) (hm : 0 < m) : Triple Try.prog 26 [.pointer (some ⟨p, 0, none⟩)] [Pt p 53 [.int .i64 m, .int .i64 s, .bool dn, .slice A n c, fv, .slice B k d]] [] (Unit) (fun _ => .int .i64 s) (fun _ => True) (fun _ => [Pt p 53 [.int .i64 m, .int .i64 s, .bool dn, .slice A n c, fv, .slice B k d]]) := by
  have T1 := thereT p m s dn A n c fv B k d hm
  refine triple_intro Try.tbs_ok Try.func26 rfl [.pt 0 p 0] [.box p 53 [.va (.int .i64 m), .va (.int .i64 s), .va (.bool dn), .va (.slice A n c), .va fv, .va (.slice B k d)]] ⟨rfl, trivial⟩ rfl (by simp [SV.good, SV.goodL]) ?_
  intro E
  refine go Try.tbs_ok 1000 ?_
  refine ev_call (T1 ) [0] [] (fun v0_ => [.box (p) 53 [.va (Value.int IntKind.i64 m), .va (Value.int IntKind.i64 s), .bq (dn), .va (Value.slice A n c), .va (fv), .va (Value.slice B k d)]]) rfl rfl (by decide) rfl (by simp) (fun _ => rfl) (fun _ => (newsOk_box (by simp [SV.good, SV.goodL]) (newsOk_nil _))) (fun _ => (by repeat (first | exact trivial | refine ⟨rfl, ?_⟩))) (fun _ h0 => ?_)
  refine go Try.tbs_ok 1000 ?_
  refine ev_if_no rfl ?_
  refine go Try.tbs_ok 1000 ?_
  refine ev_fin ⟨trivial, _, rfl, (()), rfl, (by trivial), Frm.sel [0] rfl (by decide)⟩
end Go.Proofs.Ythknokcgclcbmaa
namespace Go.Proofs.Ythknokcgclcbmaa
open Go.Sy
/-- what stays of a file: of what is not synced, at most so much -/
def keep1 (k : Option Int) (f : Fl) : Fl :=
  match k with
  | some k => ⟨f.n, f.d.extract 0 (f.s + max 0 (min k ((f.d.size : Int) - f.s))).toNat, f.s + max 0 (min k ((f.d.size : Int) - f.s))⟩
  | none => ⟨f.n, f.d.extract 0 f.s.toNat, f.s⟩
def crashF (L : List Fl) (K : List Int) : List Fl := L.mapIdx fun i f => keep1 K[i]? f
/-- bytes that are synced are some of a file's -/
def okF (L : List Fl) : Prop := ∀ f ∈ L, 0 ≤ f.s ∧ f.s ≤ f.d.size ∧ f.d.size ≤ 1000000000
theorem crashF_len (L : List Fl) (K : List Int) : (crashF L K).length = L.length := List.length_mapIdx
theorem crashF_at (L : List Fl) (K : List Int) {j : Nat} (hj : j < L.length) : (crashF L K)[j]'(by rw [crashF_len]; exact hj) = keep1 K[j]? L[j] := List.getElem_mapIdx
theorem crashF_step {L : List Fl} {K : List Int} {j : Nat} (hj : j < L.length) (f : Fl) (hf : f = keep1 K[j]? L[j]) : ((crashF L K).take j ++ L.drop j).set j f = (crashF L K).take (j + 1) ++ L.drop (j + 1) := by
  have hl : ((crashF L K).take j).length = j := by rw [List.length_take, crashF_len]; omega
  rw [List.set_append_right _ _ (by omega), hl, Nat.sub_self, List.drop_eq_getElem_cons hj, List.set_cons_zero, ← List.take_append_getElem (show j < (crashF L K).length by rw [crashF_len]; exact hj), crashF_at L K hj, hf, List.append_assoc]
  rfl
theorem crashF_get {L : List Fl} {K : List Int} {j : Nat} (hj : j < L.length) {hx : j < ((crashF L K).take j ++ L.drop j).length} : ((crashF L K).take j ++ L.drop j)[j] = L[j] := by
  have hl : ((crashF L K).take j).length = j := by rw [List.length_take, crashF_len]; omega
  rw [List.getElem_append_right (by omega), List.getElem_drop]
  congr 1
  omega
set_option maxRecDepth 100000 in
theorem failT (nb : Nat) (q : Int) (h0 : -1000 ≤ q) (h1 : q ≤ 9223372036854775807) : Triple Try.prog 58 [.pointer (some ⟨nb, 0, none⟩)] [Pt nb 3 [.int .i64 q]] [] (Unit) (fun _ => .bool (decide (q - 1 < 0))) (fun _ => True) (fun _ => [Pt nb 3 [.int .i64 (q - 1)]]) := by
  refine triple_intro Try.tbs_ok Try.func58 rfl [.pt 0 nb 0] [.box nb 3 [.va (.int .i64 q)]] ⟨rfl, trivial⟩ rfl (by simp [SV.good, SV.goodL]) ?_
  intro E
  refine go Try.tbs_ok 1000 ?_
  refine ev_w64 (by constructor <;> omega) ?_
  refine ev_fin ⟨trivial, _, rfl, (()), rfl, (by trivial), Frm.sel [0] rfl (by decide)⟩
set_option maxRecDepth 100000 in
theorem crashT (p : Nat) (m s : Int) (A : Option Addr) (n c : Nat) (fv : Value) (B : Option Addr) (k d : Nat) (L : List Fl) (Q : Option Addr) (kq dq : Nat) (K : List Int) (hm : 0 < m) (hn : n = L.length) (h1 : n ≤ 1000) (hq : kq = K.length) (hL : okF L) : Triple Try.prog 30 [.pointer (some ⟨p, 0, none⟩), .slice Q kq dq] [Pt p 53 [.int .i64 m, .int .i64 s, .bool false, .slice A n c, fv, .slice B k d], Row 71 3 A n c (L.flatMap encF)] [Rd 1 Q kq (K.flatMap encN)] (Unit) (fun _ => .int .i64 0) (fun _ => True) (fun _ => [Pt p 53 [.int .i64 m, .int .i64 s, .bool true, .slice A n c, .nilFunc, .slice B k d], Row 71 3 A n c ((crashF L K).flatMap encF)]) := by
  have T1 := askP p m s false A n c fv B k d hm
  refine triple_intro Try.tbs_ok Try.func30 rfl [.pt 0 p 0, .va (.slice Q kq dq)] [.box p 53 [.va (.int .i64 m), .va (.int .i64 s), .va (.bool false), .va (.slice A n c), .va fv, .va (.slice B k d)], .fact (Row 71 3 A n c (L.flatMap encF))] ⟨rfl, trivial, trivial⟩ rfl (by simp [SV.good, SV.goodL]) ?_
  intro E
  refine go Try.tbs_ok 1000 ?_
  refine ev_call (T1 ) [0] [] (fun v0_ => [.box (p) 53 [.va (Value.int IntKind.i64 m), .va (Value.int IntKind.i64 s), .bl false, .va (Value.slice A n c), .va (fv), .va (Value.slice B k d)]]) rfl rfl (by decide) rfl (by simp) (fun _ => rfl) (fun _ => (newsOk_box (by simp [SV.good, SV.goodL]) (newsOk_nil _))) (fun _ => (by repeat (first | exact trivial | refine ⟨rfl, ?_⟩))) (fun _ h0 => ?_)
  refine go Try.tbs_ok 1000 ?_
  refine ev_if_no rfl ?_
  refine go Try.tbs_ok 1000 ?_
  refine ev_stop (go_loopR [6, 7, 24, 25, 26, 27, 28, 29, 30, 31, 32, 33, 34, 35, 36, 37, 38, 39, 40, 41, 42, 43, 44, 45, 46, 47, 48, 49, 50, 51, 52, 53, 54, 55, 56, 57, 58, 59, 60, 61, 62, 63, 64, 65, 66, 67, 68, 69, 70, 71, 72] (fun j => [(24, .va (.int .i64 (j : Nat)))]) (fun j => [(1, .fact (Row 71 3 A n c (((crashF L K).take j ++ L.drop j).flatMap encF)))]) (fun j => j ≤ n) (fun j => n - j) (0 : Nat) (Nat.zero_le _) ⟨⟨by kernel_rfl, by kernel_rfl⟩, ⟨_, rfl⟩, ⟨_, rfl⟩, by kernel_rfl, by kernel_rfl⟩ (fun j hj => ?_))
  refine go Try.tbs_ok 1000 ?_
  refine ev_if_lt (fun hlt => ?_) (fun hge => ?_)
  · have hjn : j < L.length := by
      have : (j : Int) < (n : Int) := hlt
      omega
    have hf := hL _ (List.getElem_mem hjn)
    obtain ⟨C, hC⟩ : ∃ C, C = (crashF L K).take j ++ L.drop j := ⟨_, rfl⟩
    have hCl : C.length = n := by rw [hC, List.length_append, List.length_take, crashF_len, List.length_drop]; omega
    have hCj : C[j]'(by omega) = L[j] := by simp only [hC]; exact crashF_get hjn
    rw [← hCj] at hf
    rw [← hC]
    have hj2 : j < C.length := by omega
    have e1 : ∀ hK : j < K.length, C.set j (⟨C[j].n, C[j].d.extract 0 (C[j].s + max 0 (min K[j] ((C[j].d.size : Int) - C[j].s))).toNat, C[j].s + max 0 (min K[j] ((C[j].d.size : Int) - C[j].s))⟩ : Fl) = (crashF L K).take (j + 1) ++ L.drop (j + 1) := fun hK => by
      rw [hCj, hC]
      exact crashF_step hjn _ (by rw [List.getElem?_eq_getElem hK]; rfl)
    have e2 : ¬ j < K.length → C.set j (⟨C[j].n, C[j].d.extract 0 C[j].s.toNat, C[j].s⟩ : Fl) = (crashF L K).take (j + 1) ++ L.drop (j + 1) := fun hK => by
      rw [hCj, hC]
      exact crashF_step hjn _ (by rw [List.getElem?_eq_none (by omega)]; rfl)
    refine go Try.tbs_ok 1000 ?_
    refine ev_stop (go_index0 (sz := 3) Try.tbs_ok (.inr 1) (j) rfl rfl rfl rfl rfl rfl (by omega) rfl Row.at0 (fun g40 e41 => ?_))
    subst e41
    refine go Try.tbs_ok 1000 ?_
    refine ev_if_lt (fun h42 => ?_) (fun h42 => ?_)
    refine go Try.tbs_ok 1000 ?_
    refine ev_stop (go_draw Try.tbs_ok false [1] [(0,true),(1,true),(2,true),(3,true),(4,true),(5,true),(6,true),(7,true),(8,true),(9,true),(10,true),(11,true),(12,true),(13,true),(14,true),(15,true),(16,true),(17,true),(18,true),(19,true),(20,true),(21,true),(22,true),(23,false)] rfl ?_)
    refine go Try.tbs_ok 1000 ?_
    refine ev_need ⟨⟨(by repeat (first | exact trivial | refine ⟨rfl, ?_⟩)), rfl⟩, by kernel_rfl⟩ ?_
    have l43 : j < (C).length := (by omega)
    refine ev_stop (tk_loadE Try.tbs_ok (.inr 0) (j) 2 ⟨⟨(by repeat (first | exact trivial | refine ⟨rfl, ?_⟩)), rfl⟩, by kernel_rfl⟩ rfl rfl rfl rfl rfl (fun _ h => Row.rd h) (by omega) (fun _ => rfl) (by omega) l43 (by decide) ?_)
    refine go Try.tbs_ok 1000 ?_
    refine ev_need ⟨⟨(by repeat (first | exact trivial | refine ⟨rfl, ?_⟩)), rfl⟩, by kernel_rfl⟩ ?_
    refine ev_stop (tk_indexE (sz := 1) Try.tbs_ok (.inl 0) (j) ⟨⟨(by repeat (first | exact trivial | refine ⟨rfl, ?_⟩)), rfl⟩, by kernel_rfl⟩ rfl rfl rfl rfl rfl rfl rfl (by omega) rfl (fun _ h => h) (fun g44 o46 e45 => ?_))
    subst e45
    refine go Try.tbs_ok 1000 ?_
    refine ev_need ⟨⟨(by repeat (first | exact trivial | refine ⟨rfl, ?_⟩)), rfl⟩, by kernel_rfl⟩ ?_
    have l47 : j < (K).length := (by omega)
    refine ev_stop (tk_loadE Try.tbs_ok (.inl 0) (j) 0 ⟨⟨(by repeat (first | exact trivial | refine ⟨rfl, ?_⟩)), rfl⟩, by kernel_rfl⟩ rfl rfl rfl rfl rfl (fun _ h => h) (by omega) (fun _ => rfl) (by omega) l47 (by decide) ?_)
    refine go Try.tbs_ok 1000 ?_
    refine ev_need ⟨⟨(by repeat (first | exact trivial | refine ⟨rfl, ?_⟩)), rfl⟩, by kernel_rfl⟩ ?_
    have l48 : j < (C).length := (by omega)
    refine ev_stop (tk_loadE Try.tbs_ok (.inr 0) (j) 1 ⟨⟨(by repeat (first | exact trivial | refine ⟨rfl, ?_⟩)), rfl⟩, by kernel_rfl⟩ rfl rfl rfl rfl rfl (fun _ h => Row.rd h) (by omega) (fun _ => rfl) (by omega) l48 (by decide) ?_)
    refine go Try.tbs_ok 1000 ?_
    refine ev_need ⟨⟨(by repeat (first | exact trivial | refine ⟨rfl, ?_⟩)), rfl⟩, by kernel_rfl⟩ ?_
    have l49 : j < (C).length := (by omega)
    refine ev_stop (tk_loadE Try.tbs_ok (.inr 0) (j) 2 ⟨⟨(by repeat (first | exact trivial | refine ⟨rfl, ?_⟩)), rfl⟩, by kernel_rfl⟩ rfl rfl rfl rfl rfl (fun _ h => Row.rd h) (by omega) (fun _ => rfl) (by omega) l49 (by decide) ?_)
    refine go Try.tbs_ok 1000 ?_
    refine ev_need ⟨⟨(by repeat (first | exact trivial | refine ⟨rfl, ?_⟩)), rfl⟩, by kernel_rfl⟩ ?_
    refine ev_w64 (by constructor <;> omega) ?_
    refine ev_w64 (by constructor <;> omega) ?_
    have l50 : j < (C).length := (by omega)
    refine ev_stop (go_storeR Try.tbs_ok 1 (j) 2 ({ n := C[j].n, d := C[j].d, s := C[j].s + max 0 (min K[j] ((↑C[j].d.size : Int) - C[j].s)) : Fl }) rfl rfl rfl rfl rfl (by omega) (fun _ => rfl) (ones_of rfl) (by omega) l50 rfl (by decide) (ones_of rfl) rfl ?_)
    refine go Try.tbs_ok 1000 ?_
    refine ev_need (by kernel_rfl) ?_
    refine ev_stop (go_draw Try.tbs_ok false [1] [(0,true),(1,true),(2,true),(3,true),(4,true),(5,true),(6,true),(7,true),(8,true),(9,true),(10,true),(11,true),(12,false)] rfl ?_)
    refine go Try.tbs_ok 1000 ?_
    refine ev_need ⟨⟨(by repeat (first | exact trivial | refine ⟨rfl, ?_⟩)), rfl⟩, by kernel_rfl⟩ ?_
    have l51 : j < (C.set j { n := C[j].n, d := C[j].d, s := C[j].s + max 0 (min K[j] ((↑C[j].d.size : Int) - C[j].s)) : Fl }).length := (by (simp only [List.length_set] <;> omega))
    refine ev_stop (tk_loadE Try.tbs_ok (.inr 0) (j) 1 ⟨⟨(by repeat (first | exact trivial | refine ⟨rfl, ?_⟩)), rfl⟩, by kernel_rfl⟩ rfl rfl rfl rfl rfl (fun _ h => Row.rd h) (by omega) (fun _ => rfl) (by omega) l51 (by decide) ?_)
    refine go Try.tbs_ok 1000 ?_
    refine ev_need ⟨⟨(by repeat (first | exact trivial | refine ⟨rfl, ?_⟩)), rfl⟩, by kernel_rfl⟩ ?_
    have l52 : j < (C.set j { n := C[j].n, d := C[j].d, s := C[j].s + max 0 (min K[j] ((↑C[j].d.size : Int) - C[j].s)) : Fl }).length := (by omega)
    refine ev_stop (tk_loadE Try.tbs_ok (.inr 0) (j) 2 ⟨⟨(by repeat (first | exact trivial | refine ⟨rfl, ?_⟩)), rfl⟩, by kernel_rfl⟩ rfl rfl rfl rfl rfl (fun _ h => Row.rd h) (by omega) (fun _ => rfl) (by omega) l52 (by decide) ?_)
    refine go Try.tbs_ok 1000 ?_
    refine ev_need ⟨⟨(by repeat (first | exact trivial | refine ⟨rfl, ?_⟩)), rfl⟩, by kernel_rfl⟩ ?_
    refine ev_stop (go_slot 68 _ (.va (.int IntKind.i64 (((C.set j { n := C[j].n, d := C[j].d, s := C[j].s + max 0 (min K[j] ((↑C[j].d.size : Int) - C[j].s)) : Fl })[j].s.toNat : Nat) : Int))) rfl rfl (congrArg (fun z => Value.int IntKind.i64 z) (show (C.set j { n := C[j].n, d := C[j].d, s := C[j].s + max 0 (min K[j] ((↑C[j].d.size : Int) - C[j].s)) : Fl })[j].s = (((C.set j { n := C[j].n, d := C[j].d, s := C[j].s + max 0 (min K[j] ((↑C[j].d.size : Int) - C[j].s)) : Fl })[j].s.toNat : Nat) : Int) by first | omega | (simp only [List.getElem_set_self]; omega))) (fun _ => trivial) ?_)
    refine go Try.tbs_ok 1000 ?_
    refine ev_need ⟨⟨(by repeat (first | exact trivial | refine ⟨rfl, ?_⟩)), rfl⟩, by kernel_rfl⟩ ?_
    refine ev_stop (tk_sliceS Try.tbs_ok (0) ((C.set j { n := C[j].n, d := C[j].d, s := C[j].s + max 0 (min K[j] ((↑C[j].d.size : Int) - C[j].s)) : Fl })[j].s.toNat) ⟨⟨(by repeat (first | exact trivial | refine ⟨rfl, ?_⟩)), rfl⟩, by kernel_rfl⟩ rfl rfl rfl rfl rfl rfl ⟨_, rfl⟩ (by omega) (by (simp only [List.getElem_set_self]; omega)) ?_)
    refine go Try.tbs_ok 1000 ?_
    refine ev_need ⟨⟨(by repeat (first | exact trivial | refine ⟨rfl, ?_⟩)), rfl⟩, by kernel_rfl⟩ ?_
    have l53 : j < (C.set j { n := C[j].n, d := C[j].d, s := C[j].s + max 0 (min K[j] ((↑C[j].d.size : Int) - C[j].s)) : Fl }).length := (by omega)
    refine ev_stop (go_storeR Try.tbs_ok 1 (j) 1 ({ n := (C.set j { n := C[j].n, d := C[j].d, s := C[j].s + max 0 (min K[j] ((↑C[j].d.size : Int) - C[j].s)) : Fl })[j].n, d := (C.set j { n := C[j].n, d := C[j].d, s := C[j].s + max 0 (min K[j] ((↑C[j].d.size : Int) - C[j].s)) : Fl })[j].d.extract 0 (C.set j { n := C[j].n, d := C[j].d, s := C[j].s + max 0 (min K[j] ((↑C[j].d.size : Int) - C[j].s)) : Fl })[j].s.toNat, s := (C.set j { n := C[j].n, d := C[j].d, s := C[j].s + max 0 (min K[j] ((↑C[j].d.size : Int) - C[j].s)) : Fl })[j].s : Fl }) rfl rfl rfl rfl rfl (by omega) (fun _ => rfl) (ones_of rfl) (by omega) l53 rfl (by decide) (ones_of rfl) rfl ?_)
    refine go Try.tbs_ok 1000 ?_
    refine ev_need (by kernel_rfl) ?_
    refine ev_wrapN (j + 1) (by constructor <;> omega) (by rfl) ?_
    rotate_left
    refine go Try.tbs_ok 1000 ?_
    refine ev_stop (go_draw Try.tbs_ok false [1] [(0,true),(1,true),(2,true),(3,true),(4,true),(5,true),(6,true),(7,true),(8,true),(9,true),(10,true),(11,true),(12,false)] rfl ?_)
    refine go Try.tbs_ok 1000 ?_
    refine ev_need ⟨⟨(by repeat (first | exact trivial | refine ⟨rfl, ?_⟩)), rfl⟩, by kernel_rfl⟩ ?_
    have l54 : j < (C).length := (by omega)
    refine ev_stop (tk_loadE Try.tbs_ok (.inr 0) (j) 1 ⟨⟨(by repeat (first | exact trivial | refine ⟨rfl, ?_⟩)), rfl⟩, by kernel_rfl⟩ rfl rfl rfl rfl rfl (fun _ h => Row.rd h) (by omega) (fun _ => rfl) (by omega) l54 (by decide) ?_)
    refine go Try.tbs_ok 1000 ?_
    refine ev_need ⟨⟨(by repeat (first | exact trivial | refine ⟨rfl, ?_⟩)), rfl⟩, by kernel_rfl⟩ ?_
    have l55 : j < (C).length := (by omega)
    refine ev_stop (tk_loadE Try.tbs_ok (.inr 0) (j) 2 ⟨⟨(by repeat (first | exact trivial | refine ⟨rfl, ?_⟩)), rfl⟩, by kernel_rfl⟩ rfl rfl rfl rfl rfl (fun _ h => Row.rd h) (by omega) (fun _ => rfl) (by omega) l55 (by decide) ?_)
    refine go Try.tbs_ok 1000 ?_
    refine ev_need ⟨⟨(by repeat (first | exact trivial | refine ⟨rfl, ?_⟩)), rfl⟩, by kernel_rfl⟩ ?_
    refine ev_stop (go_slot 68 _ (.va (.int IntKind.i64 ((C[j].s.toNat : Nat) : Int))) rfl rfl (congrArg (fun z => Value.int IntKind.i64 z) (show C[j].s = ((C[j].s.toNat : Nat) : Int) by first | omega | (simp only [List.getElem_set_self]; omega))) (fun _ => trivial) ?_)
    refine go Try.tbs_ok 1000 ?_
    refine ev_need ⟨⟨(by repeat (first | exact trivial | refine ⟨rfl, ?_⟩)), rfl⟩, by kernel_rfl⟩ ?_
    refine ev_stop (tk_sliceS Try.tbs_ok (0) (C[j].s.toNat) ⟨⟨(by repeat (first | exact trivial | refine ⟨rfl, ?_⟩)), rfl⟩, by kernel_rfl⟩ rfl rfl rfl rfl rfl rfl ⟨_, rfl⟩ (by omega) (by omega) ?_)
    refine go Try.tbs_ok 1000 ?_
    refine ev_need ⟨⟨(by repeat (first | exact trivial | refine ⟨rfl, ?_⟩)), rfl⟩, by kernel_rfl⟩ ?_
    have l56 : j < (C).length := (by omega)
    refine ev_stop (go_storeR Try.tbs_ok 1 (j) 1 ({ n := C[j].n, d := C[j].d.extract 0 C[j].s.toNat, s := C[j].s : Fl }) rfl rfl rfl rfl rfl (by omega) (fun _ => rfl) (ones_of rfl) (by omega) l56 rfl (by decide) (ones_of rfl) rfl ?_)
    refine go Try.tbs_ok 1000 ?_
    refine ev_need (by kernel_rfl) ?_
    refine ev_wrapN (j + 1) (by constructor <;> omega) (by rfl) ?_
    rotate_left
    · simp only [List.getElem_set_self, List.set_set]
      rw [e1 (by omega)]
      refine ev_fin (round_next (j + 1) (show j + 1 ≤ n from (by omega)) (show n - (j + 1) < n - j from (by omega)) ⟨⟨by kernel_rfl, by kernel_rfl⟩, ⟨_, rfl⟩, ⟨_, rfl⟩, by kernel_rfl, by kernel_rfl⟩)
    · rw [e2 (by omega)]
      refine ev_fin (round_next (j + 1) (show j + 1 ≤ n from (by omega)) (show n - (j + 1) < n - j from (by omega)) ⟨⟨by kernel_rfl, by kernel_rfl⟩, ⟨_, rfl⟩, ⟨_, rfl⟩, by kernel_rfl, by kernel_rfl⟩)
  · obtain rfl : j = n := by
      have : ¬ (j : Int) < (n : Int) := hge
      omega
    have e : (crashF L K).take j ++ L.drop j = crashF L K := by
      rw [List.take_of_length_le (by rw [crashF_len]; omega), List.drop_of_length_le (by omega), List.append_nil]
    rw [e]
    refine go Try.tbs_ok 1000 ?_
    refine ev_fin (go Try.tbs_ok 1000 ?_)
    refine ev_fin ⟨trivial, _, rfl, (()), rfl, (by trivial), Frm.sel [0, 1] rfl (by decide)⟩
end Go.Proofs.Ythknokcgclcbmaa
namespace Go.Proofs.Ythknokcgclcbmaa
open Go.Sy
theorem row_shrink {e sz n k c : Nat} {A : Option Addr} {α : Type} {enc : α → List Value} (hlen : ∀ x, (enc x).length = sz) {L : List α} {h : Hp} (p : (Row e sz A n c (L.flatMap enc)).holds h) (hk : k ≤ n) : (Row e sz A k c ((L.take k).flatMap enc)).holds h := by
  obtain ⟨p1, p2, p3⟩ := p
  have hkn : k * sz ≤ n * sz := Nat.mul_le_mul_right _ hk
  refine ⟨?_, fun v hv => p2 v ?_, ?_⟩
  · rw [← flat_take hlen, List.length_take]; omega
  · rw [← flat_take hlen] at hv; exact List.mem_of_mem_take hv
  · rcases p3 with ⟨h1, h2, h3⟩ | ⟨g, cur, h1, h2, h3, h4, h5, h6⟩
    · exact .inl ⟨h1, by omega, h3⟩
    · exact .inr ⟨g, cur, h1, h2, by omega, h4, h5, by rw [← flat_take hlen, ← h6, List.take_take, Nat.min_eq_left hkn]⟩
theorem drop_eq {L : List Fl} {n at_ : Nat} (hn : n = L.length) (h : at_ < n) {k : Nat} (hk : k = n - (at_ + 1)) : ((L.take at_ ++ (((L.take (at_ + 1 + k)).drop (at_ + 1)).take k) ++ L.drop (at_ + k)).take (n - 1)) = L.eraseIdx at_ := by
  subst hk
  have h1 : at_ + 1 + (n - (at_ + 1)) = L.length := by omega
  have hl : (L.take at_).length = at_ := by rw [List.length_take]; omega
  have h2 : (L.drop (at_ + 1)).take (n - (at_ + 1)) = L.drop (at_ + 1) := List.take_of_length_le (by rw [List.length_drop]; omega)
  rw [h1, List.take_length, h2, List.take_append_of_le_length (by rw [List.length_append, hl, List.length_drop]; omega), List.take_of_length_le (by rw [List.length_append, hl, List.length_drop]; omega), List.eraseIdx_eq_take_drop_succ]
set_option maxRecDepth 100000 in
theorem dropT (p : Nat) (m s : Int) (dn : Bool) (A : Option Addr) (n c : Nat) (fv : Value) (B : Option Addr) (k d : Nat) (L : List Fl) (hn : n = L.length) (h1 : n ≤ 1000) (i : Nat) (hi : i < n) : Triple Try.prog 66 [.pointer (some ⟨p, 0, none⟩), .int .i64 (i : Nat)] [Pt p 53 [.int .i64 m, .int .i64 s, .bool dn, .slice A n c, fv, .slice B k d], Row 71 3 A n c (L.flatMap encF)] [] (Unit) (fun _ => .tuple #[]) (fun _ => True) (fun _ => [Pt p 53 [.int .i64 m, .int .i64 s, .bool dn, .slice A (n - 1) c, fv, .slice B k d], Row 71 3 A (n - 1) c ((L.eraseIdx i).flatMap encF)]) := by
  refine triple_intro Try.tbs_ok Try.func66 rfl [.pt 0 p 0, .va (.int .i64 (i : Nat))] [.box p 53 [.va (.int .i64 m), .va (.int .i64 s), .va (.bool dn), .va (.slice A n c), .va fv, .va (.slice B k d)], .fact (Row 71 3 A n c (L.flatMap encF))] ⟨rfl, trivial, trivial⟩ rfl (by simp [SV.good, SV.goodL]) ?_
  intro E
  refine go_know (.inr 1) (Row 71 3 A n c (L.flatMap encF)) rfl (p := n ≤ c) (fun _ p => Row.cap p) fun hc => ?_
  refine go_know (.inr 1) (Row 71 3 A n c (L.flatMap encF)) rfl (p := ∃ g, A = some ⟨g, 0, none⟩) (fun h p => Row.at0 h p (by omega)) ?_
  rintro ⟨g, rfl⟩
  refine go Try.tbs_ok 1000 ?_
  refine ev_stop (go_draw Try.tbs_ok false [0] [(0,true),(1,true),(2,true),(3,true),(4,true),(5,true),(6,true),(7,true),(8,true),(9,true),(10,true),(11,true),(12,true),(13,false)] rfl ?_)
  refine go Try.tbs_ok 1000 ?_
  refine ev_need ⟨⟨(by repeat (first | exact trivial | refine ⟨rfl, ?_⟩)), rfl⟩, by kernel_rfl⟩ ?_
  refine ev_stop (tk_back Try.tbs_ok (i) (n) (c) ⟨⟨(by repeat (first | exact trivial | refine ⟨rfl, ?_⟩)), rfl⟩, by kernel_rfl⟩ rfl rfl rfl rfl rfl rfl ⟨_, rfl⟩ rfl rfl (by decide) (by omega) (by omega) (by omega) ?_)
  refine go Try.tbs_ok 1000 ?_
  refine ev_need ⟨⟨(by repeat (first | exact trivial | refine ⟨rfl, ?_⟩)), rfl⟩, by kernel_rfl⟩ ?_
  refine ev_wrapN (i + 1) (by constructor <;> omega) (by rfl) ?_
  refine ev_stop (tk_back Try.tbs_ok (i + 1) (n) (c) ⟨⟨(by repeat (first | exact trivial | refine ⟨rfl, ?_⟩)), rfl⟩, by kernel_rfl⟩ rfl rfl rfl rfl rfl rfl ⟨_, rfl⟩ rfl rfl (by decide) (by omega) (by omega) (by omega) ?_)
  refine go Try.tbs_ok 1000 ?_
  refine ev_need ⟨⟨(by repeat (first | exact trivial | refine ⟨rfl, ?_⟩)), rfl⟩, by kernel_rfl⟩ ?_
  refine ev_stop (go_copyE (sz := 3) (enc := encF) Try.tbs_ok 1 (i) (n - (i + 1)) (.inr 1) (L) ((((L).take ((i + 1) + (n - (i + 1)))).drop (i + 1))) ((L).take (i) ++ ((((L).take ((i + 1) + (n - (i + 1)))).drop (i + 1))).take (n - (i + 1)) ++ (L).drop ((i) + (n - (i + 1)))) rfl rfl rfl rfl rfl rfl rfl (by decide) rfl (backA_at (by omega)) rfl (fun _ h => rd_part (lo := i + 1) (m := n - (i + 1)) (fun _ => rfl) (Row.rd h) (by omega) (by omega)) (fun _ => rfl) (by first | rfl | (show _ = min _ _; omega)) (by omega) rfl ?_)
  refine go Try.tbs_ok 1000 ?_
  refine ev_need (by kernel_rfl) ?_
  refine ev_stop (go_draw Try.tbs_ok false [0] [(0,true),(1,true),(2,true),(3,true),(4,true),(5,true),(6,true),(7,true),(8,true),(9,true),(10,true),(11,true),(12,true),(13,true),(14,false)] rfl ?_)
  refine go Try.tbs_ok 1000 ?_
  refine ev_need ⟨⟨(by repeat (first | exact trivial | refine ⟨rfl, ?_⟩)), rfl⟩, by kernel_rfl⟩ ?_
  refine ev_wrapN (n - 1) (by constructor <;> omega) (by omega) ?_
  refine ev_stop (tk_front Try.tbs_ok (n - 1) (c) ⟨⟨(by repeat (first | exact trivial | refine ⟨rfl, ?_⟩)), rfl⟩, by kernel_rfl⟩ rfl rfl rfl rfl rfl rfl rfl ⟨_, rfl⟩ rfl (by decide) (by omega) (by omega) ?_)
  refine go Try.tbs_ok 1000 ?_
  refine ev_need ⟨⟨(by repeat (first | exact trivial | refine ⟨rfl, ?_⟩)), rfl⟩, by kernel_rfl⟩ ?_
  refine ev_need (by kernel_rfl) ?_
  refine ev_fin ⟨trivial, _, rfl, (), rfl, trivial, Frm.imp (M := [Pt p 53 [.int .i64 m, .int .i64 s, .bool dn, .slice (some ⟨g, 0, none⟩) (n - 1) c, fv, .slice B k d], Row 71 3 (some ⟨g, 0, none⟩) n c ((L.take i ++ (((L.take (i + 1 + (n - (i + 1)))).drop (i + 1)).take (n - (i + 1))) ++ L.drop (i + (n - (i + 1)))).flatMap encF)]) [0, 1] rfl (by decide) (fun h q => ?_)⟩
  obtain ⟨h1', h2', d1, a, b, p1, q⟩ := q
  refine ⟨h1', h2', d1, a, b, p1, starH_one.2 ?_⟩
  rw [← drop_eq hn hi rfl]
  exact row_shrink (enc := encF) (sz := 3) (fun _ => rfl) (starH_one.1 q) (by omega)
set_option maxRecDepth 100000 in
theorem syncDo (p : Nat) (m s : Int) (dn : Bool) (A : Option Addr) (n c : Nat) (fv : Value) (B : Option Addr) (k d : Nat) (L : List Fl) (hn : n = L.length) (_h1 : n ≤ 1000) (bd ba i : Nat) (hi : i < L.length) : Triple Try.prog 68 [.pointer (some ⟨bd, 0, none⟩), .pointer (some ⟨ba, 0, none⟩)] [Pt p 53 [.int .i64 m, .int .i64 s, .bool dn, .slice A n c, fv, .slice B k d], Row 71 3 A n c (L.flatMap encF), Pt bd 25 [.pointer (some ⟨p, 0, none⟩)], Pt ba 3 [.int .i64 (i : Nat)]] [] (Unit) (fun _ => .tuple #[]) (fun _ => True) (fun _ => [Pt p 53 [.int .i64 m, .int .i64 s, .bool dn, .slice A n c, fv, .slice B k d], Row 71 3 A n c ((L.set i ⟨(L[i]'hi).n, (L[i]'hi).d, ((L[i]'hi).d.size : Nat)⟩).flatMap encF), Pt bd 25 [.pointer (some ⟨p, 0, none⟩)], Pt ba 3 [.int .i64 (i : Nat)]]) := by
  refine triple_intro Try.tbs_ok Try.func68 rfl [.pt 2 bd 0, .pt 3 ba 0] [.box p 53 [.va (.int .i64 m), .va (.int .i64 s), .va (.bool dn), .va (.slice A n c), .va fv, .va (.slice B k d)], .fact (Row 71 3 A n c (L.flatMap encF)), .box bd 25 [.pt 0 p 0], .box ba 3 [.va (.int .i64 (i : Nat))]] ⟨rfl, rfl, trivial⟩ rfl (by simp [SV.good, SV.goodL] <;> rfl) ?_
  intro E
  refine go Try.tbs_ok 1000 ?_
  refine ev_stop (go_draw Try.tbs_ok false [0, 1, 2, 3] [(0,true),(1,true),(2,true),(3,true),(4,true),(5,true),(6,true),(7,true),(8,true),(9,true),(10,true),(11,true),(12,true),(13,true),(14,true),(15,true),(16,false)] rfl ?_)
  refine go Try.tbs_ok 1000 ?_
  refine ev_need ⟨⟨(by repeat (first | exact trivial | refine ⟨rfl, ?_⟩)), rfl⟩, by kernel_rfl⟩ ?_
  refine ev_stop (tk_index0 (sz := 3) Try.tbs_ok (.inr 1) (i) ⟨⟨(by repeat (first | exact trivial | refine ⟨rfl, ?_⟩)), rfl⟩, by kernel_rfl⟩ rfl rfl rfl rfl rfl rfl rfl (by omega) rfl Row.at0 (fun g0 e1 => ?_))
  subst e1
  refine go Try.tbs_ok 1000 ?_
  refine ev_need ⟨⟨(by repeat (first | exact trivial | refine ⟨rfl, ?_⟩)), rfl⟩, by kernel_rfl⟩ ?_
  have l2 : i < (L).length := (by omega)
  refine ev_stop (tk_loadE Try.tbs_ok (.inr 1) (i) 1 ⟨⟨(by repeat (first | exact trivial | refine ⟨rfl, ?_⟩)), rfl⟩, by kernel_rfl⟩ rfl rfl rfl rfl rfl (fun _ h => Row.rd h) (by omega) (fun _ => rfl) (by omega) l2 (by decide) ?_)
  refine go Try.tbs_ok 1000 ?_
  refine ev_need ⟨⟨(by repeat (first | exact trivial | refine ⟨rfl, ?_⟩)), rfl⟩, by kernel_rfl⟩ ?_
  refine ev_stop (tk_atE (sz := 3) Try.tbs_ok (i) ⟨⟨(by repeat (first | exact trivial | refine ⟨rfl, ?_⟩)), rfl⟩, by kernel_rfl⟩ rfl rfl rfl rfl rfl rfl rfl (by omega) ?_)
  refine go Try.tbs_ok 1000 ?_
  refine ev_need ⟨⟨(by repeat (first | exact trivial | refine ⟨rfl, ?_⟩)), rfl⟩, by kernel_rfl⟩ ?_
  have l3 : i < (L).length := (by omega)
  refine ev_stop (go_storeR Try.tbs_ok 1 (i) 2 ({ n := L[i].n, d := L[i].d, s := (↑L[i].d.size : Int) : Fl }) rfl rfl rfl rfl rfl (by omega) (fun _ => rfl) (ones_of rfl) (by omega) l3 rfl (by decide) (ones_of rfl) rfl ?_)
  refine go Try.tbs_ok 1000 ?_
  refine ev_need (by kernel_rfl) ?_
  refine ev_fin ⟨trivial, _, rfl, (()), rfl, (by trivial), Frm.sel [0, 1, 2, 3] rfl (by decide)⟩
set_option maxRecDepth 100000 in
theorem truncDo (n c g : Nat) (L : List Fl) (hn : n = L.length) (_h1 : n ≤ 1000) (bf bn i : Nat) (q : Int) (hi : i < L.length) (hq : 0 ≤ q) (hq2 : q ≤ (L[i]'hi).d.size) : Triple Try.prog 70 [.pointer (some ⟨bf, 0, none⟩), .pointer (some ⟨bn, 0, none⟩)] [Row 71 3 (some ⟨g, 0, none⟩) n c ((L).flatMap encF), Pt bf 83 [.pointer (some ⟨g, 0 + i * 3, none⟩)], Pt bn 3 [.int .i64 q]] [] (Unit) (fun _ => .tuple #[]) (fun _ => True) (fun _ => [Row 71 3 (some ⟨g, 0, none⟩) n c ((L.set i ⟨(L[i]'hi).n, (L[i]'hi).d.extract 0 q.toNat, min (L[i]'hi).s q⟩).flatMap encF), Pt bf 83 [.pointer (some ⟨g, 0 + i * 3, none⟩)], Pt bn 3 [.int .i64 q]]) := by
  refine triple_intro Try.tbs_ok Try.func70 rfl [.pt 1 bf 0, .pt 2 bn 0] [.fact (Row 71 3 (some ⟨g, 0, none⟩) n c ((L).flatMap encF)), .box bf 83 [.va (.pointer (some ⟨g, 0 + i * 3, none⟩))], .box bn 3 [.va (.int .i64 q)]] ⟨rfl, rfl, trivial⟩ rfl (by simp [SV.good, SV.goodL]) ?_
  intro E
  refine go Try.tbs_ok 1000 ?_
  refine ev_stop (go_draw Try.tbs_ok false [1, 2] [(0,true),(1,true),(2,true),(3,true),(4,true),(6,true),(8,true),(9,true),(10,true),(12,true),(99,false),(0,true),(0,true),(0,true),(0,true),(0,true),(0,true),(0,true),(0,true),(0,true)] rfl ?_)
  refine go Try.tbs_ok 1000 ?_
  refine ev_need ⟨⟨(by repeat (first | exact trivial | refine ⟨rfl, ?_⟩)), rfl⟩, by kernel_rfl⟩ ?_
  refine ev_stop (go_fork 5 11 [(7,true),(11,false),(13,true),(14,false),(15,false),(16,false),(17,false),(18,false),(19,false)] [(13,true),(5,false),(7,false),(14,false),(15,false),(16,false),(17,false),(18,false),(19,false)] _ _ ⟨(by repeat (first | exact trivial | refine ⟨rfl, ?_⟩)), rfl⟩ (by kernel_rfl) rfl rfl rfl rfl ?_ ?_)
  refine go Try.tbs_ok 1000 ?_
  have l0 : i < (L).length := (by omega)
  refine ev_stop (go_loadE Try.tbs_ok (.inr 0) (i) 1 rfl rfl rfl rfl (fun _ h => Row.rd h) (by omega) (fun _ => rfl) (by omega) l0 (by decide) ?_)
  refine go Try.tbs_ok 1000 ?_
  refine ev_need ⟨⟨(by repeat (first | exact trivial | refine ⟨rfl, ?_⟩)), rfl⟩, by kernel_rfl⟩ ?_
  refine ev_stop (go_slot 8 _ (.va (.int IntKind.i64 ((q.toNat : Nat) : Int))) rfl rfl (congrArg (fun z => Value.int IntKind.i64 z) (show q = ((q.toNat : Nat) : Int) by first | omega | (simp only [List.getElem_set_self]; omega))) (fun _ => trivial) ?_)
  refine go Try.tbs_ok 1000 ?_
  refine ev_need ⟨⟨(by repeat (first | exact trivial | refine ⟨rfl, ?_⟩)), rfl⟩, by kernel_rfl⟩ ?_
  refine ev_stop (tk_sliceS Try.tbs_ok (0) (q.toNat) ⟨⟨(by repeat (first | exact trivial | refine ⟨rfl, ?_⟩)), rfl⟩, by kernel_rfl⟩ rfl rfl rfl rfl rfl rfl ⟨_, rfl⟩ (by omega) (by omega) ?_)
  refine go Try.tbs_ok 1000 ?_
  refine ev_need ⟨⟨(by repeat (first | exact trivial | refine ⟨rfl, ?_⟩)), rfl⟩, by kernel_rfl⟩ ?_
  have l1 : i < (L).length := (by omega)
  refine ev_stop (go_loadE Try.tbs_ok (.inr 0) (i) 2 rfl rfl rfl rfl (fun _ h => Row.rd h) (by omega) (fun _ => rfl) (by omega) l1 (by decide) ?_)
  refine go Try.tbs_ok 1000 ?_
  refine ev_need ⟨⟨(by repeat (first | exact trivial | refine ⟨rfl, ?_⟩)), rfl⟩, by kernel_rfl⟩ ?_
  refine ev_need ⟨⟨(by repeat (first | exact trivial | refine ⟨rfl, ?_⟩)), rfl⟩, by kernel_rfl⟩ ?_
  refine ev_need ⟨⟨(by repeat (first | exact trivial | refine ⟨rfl, ?_⟩)), rfl⟩, by kernel_rfl⟩ ?_
  have l2 : i < (L).length := (by omega)
  refine ev_stop (go_storeR Try.tbs_ok 0 (i) 1 ({ n := L[i].n, d := L[i].d.extract 0 q.toNat, s := L[i].s : Fl }) rfl rfl rfl rfl rfl (by omega) (fun _ => rfl) (ones_of rfl) (by omega) l2 rfl (by decide) (ones_of rfl) rfl ?_)
  refine go Try.tbs_ok 1000 ?_
  refine ev_need ⟨⟨(by repeat (first | exact trivial | refine ⟨rfl, ?_⟩)), rfl⟩, by kernel_rfl⟩ ?_
  refine ev_need ⟨⟨(by repeat (first | exact trivial | refine ⟨rfl, ?_⟩)), rfl⟩, by kernel_rfl⟩ ?_
  refine ev_need ⟨⟨(by repeat (first | exact trivial | refine ⟨rfl, ?_⟩)), rfl⟩, by kernel_rfl⟩ ?_
  have l3 : i < (L.set i { n := L[i].n, d := L[i].d.extract 0 q.toNat, s := L[i].s : Fl }).length := (by (simp only [List.length_set] <;> omega))
  refine ev_stop (go_storeR Try.tbs_ok 0 (i) 2 ({ n := (L.set i { n := L[i].n, d := L[i].d.extract 0 q.toNat, s := L[i].s : Fl })[i].n, d := (L.set i { n := L[i].n, d := L[i].d.extract 0 q.toNat, s := L[i].s : Fl })[i].d, s := min L[i].s q : Fl }) rfl rfl rfl rfl rfl (by omega) (fun _ => rfl) (ones_of rfl) (by omega) l3 rfl (by decide) (ones_of rfl) rfl ?_)
  refine go Try.tbs_ok 1000 ?_
  refine ev_need (by kernel_rfl) ?_
  rotate_left
  refine go Try.tbs_ok 1000 ?_
  have l4 : i < (L).length := (by omega)
  refine ev_stop (go_loadE Try.tbs_ok (.inr 0) (i) 2 rfl rfl rfl rfl (fun _ h => Row.rd h) (by omega) (fun _ => rfl) (by omega) l4 (by decide) ?_)
  refine go Try.tbs_ok 1000 ?_
  refine ev_need ⟨⟨(by repeat (first | exact trivial | refine ⟨rfl, ?_⟩)), rfl⟩, by kernel_rfl⟩ ?_
  have l5 : i < (L).length := (by omega)
  refine ev_stop (go_loadE Try.tbs_ok (.inr 0) (i) 1 rfl rfl rfl rfl (fun _ h => Row.rd h) (by omega) (fun _ => rfl) (by omega) l5 (by decide) ?_)
  refine go Try.tbs_ok 1000 ?_
  refine ev_need ⟨⟨(by repeat (first | exact trivial | refine ⟨rfl, ?_⟩)), rfl⟩, by kernel_rfl⟩ ?_
  refine ev_stop (go_slot 8 _ (.va (.int IntKind.i64 ((q.toNat : Nat) : Int))) rfl rfl (congrArg (fun z => Value.int IntKind.i64 z) (show q = ((q.toNat : Nat) : Int) by first | omega | (simp only [List.getElem_set_self]; omega))) (fun _ => trivial) ?_)
  refine go Try.tbs_ok 1000 ?_
  refine ev_stop (go_sliceS Try.tbs_ok (0) (q.toNat) rfl rfl rfl rfl rfl ⟨_, rfl⟩ (by omega) (by omega) ?_)
  refine go Try.tbs_ok 1000 ?_
  refine ev_need ⟨⟨(by repeat (first | exact trivial | refine ⟨rfl, ?_⟩)), rfl⟩, by kernel_rfl⟩ ?_
  refine ev_need ⟨⟨(by repeat (first | exact trivial | refine ⟨rfl, ?_⟩)), rfl⟩, by kernel_rfl⟩ ?_
  refine ev_need ⟨⟨(by repeat (first | exact trivial | refine ⟨rfl, ?_⟩)), rfl⟩, by kernel_rfl⟩ ?_
  have l6 : i < (L).length := (by omega)
  refine ev_stop (go_storeR Try.tbs_ok 0 (i) 1 ({ n := L[i].n, d := L[i].d.extract 0 q.toNat, s := L[i].s : Fl }) rfl rfl rfl rfl rfl (by omega) (fun _ => rfl) (ones_of rfl) (by omega) l6 rfl (by decide) (ones_of rfl) rfl ?_)
  refine go Try.tbs_ok 1000 ?_
  refine ev_need ⟨⟨(by repeat (first | exact trivial | refine ⟨rfl, ?_⟩)), rfl⟩, by kernel_rfl⟩ ?_
  refine ev_need ⟨⟨(by repeat (first | exact trivial | refine ⟨rfl, ?_⟩)), rfl⟩, by kernel_rfl⟩ ?_
  refine ev_need ⟨⟨(by repeat (first | exact trivial | refine ⟨rfl, ?_⟩)), rfl⟩, by kernel_rfl⟩ ?_
  have l7 : i < (L.set i { n := L[i].n, d := L[i].d.extract 0 q.toNat, s := L[i].s : Fl }).length := (by (simp only [List.length_set] <;> omega))
  refine ev_stop (go_storeR Try.tbs_ok 0 (i) 2 ({ n := (L.set i { n := L[i].n, d := L[i].d.extract 0 q.toNat, s := L[i].s : Fl })[i].n, d := (L.set i { n := L[i].n, d := L[i].d.extract 0 q.toNat, s := L[i].s : Fl })[i].d, s := min L[i].s q : Fl }) rfl rfl rfl rfl rfl (by omega) (fun _ => rfl) (ones_of rfl) (by omega) l7 rfl (by decide) (ones_of rfl) rfl ?_)
  refine go Try.tbs_ok 1000 ?_
  refine ev_need (by kernel_rfl) ?_
  rotate_left
  · simp only [List.getElem_set_self, List.set_set]
    refine ev_fin ⟨trivial, _, rfl, (()), rfl, (by trivial), Frm.sel [0, 1, 2] rfl (by decide)⟩
  · simp only [List.getElem_set_self, List.set_set]
    refine ev_fin ⟨trivial, _, rfl, (()), rfl, (by trivial), Frm.sel [0, 1, 2] rfl (by decide)⟩
set_option maxRecDepth 100000 in
theorem removeDo (p : Nat) (m s : Int) (dn : Bool) (A : Option Addr) (n c : Nat) (fv : Value) (B : Option Addr) (k d : Nat) (L : List Fl) (hn : n = L.length) (h1 : n ≤ 1000) (bd ba i : Nat) (hi : i < n) : Triple Try.prog 72 [.pointer (some ⟨bd, 0, none⟩), .pointer (some ⟨ba, 0, none⟩)] [Pt p 53 [.int .i64 m, .int .i64 s, .bool dn, .slice A n c, fv, .slice B k d], Row 71 3 A n c (L.flatMap encF), Pt bd 25 [.pointer (some ⟨p, 0, none⟩)], Pt ba 3 [.int .i64 (i : Nat)]] [] (Unit) (fun _ => .tuple #[]) (fun _ => True) (fun _ => [Pt p 53 [.int .i64 m, .int .i64 s, .bool dn, .slice A (n - 1) c, fv, .slice B k d], Row 71 3 A (n - 1) c ((L.eraseIdx i).flatMap encF), Pt bd 25 [.pointer (some ⟨p, 0, none⟩)], Pt ba 3 [.int .i64 (i : Nat)]]) := by
  have T1 := dropT p m s dn A n c fv B k d L hn h1 i hi
  refine triple_intro Try.tbs_ok Try.func72 rfl [.pt 2 bd 0, .pt 3 ba 0] [.box p 53 [.va (.int .i64 m), .va (.int .i64 s), .va (.bool dn), .va (.slice A n c), .va fv, .va (.slice B k d)], .fact (Row 71 3 A n c (L.flatMap encF)), .box bd 25 [.pt 0 p 0], .box ba 3 [.va (.int .i64 (i : Nat))]] ⟨rfl, rfl, trivial⟩ rfl (by simp [SV.good, SV.goodL] <;> rfl) ?_
  intro E
  refine go Try.tbs_ok 1000 ?_
  refine ev_call (T1 ) [0, 1] [] (fun v0_ => [.box (p) 53 [.va (Value.int IntKind.i64 m), .va (Value.int IntKind.i64 s), .bq (dn), .va (Value.slice A (n - 1) c), .va (fv), .va (Value.slice B k d)], .fact (Row 71 3 A (n - 1) c (List.flatMap encF (L.eraseIdx i)))]) rfl rfl (by decide) rfl (by simp) (fun _ => rfl) (fun _ => (newsOk_box (by simp [SV.good, SV.goodL]) (newsOk_fact (newsOk_nil _)))) (fun _ => (by repeat (first | exact trivial | refine ⟨rfl, ?_⟩))) (fun _ h0 => ?_)
  refine go Try.tbs_ok 1000 ?_
  refine ev_fin ⟨trivial, _, rfl, (()), rfl, (by trivial), Frm.sel [0, 1, 2, 3] rfl (by decide)⟩
end Go.Proofs.Ythknokcgclcbmaa
namespace Go.Proofs.Ythknokcgclcbmaa
open Go.Sy
set_option maxRecDepth 100000 in
theorem appendDoT (p : Nat) (m s : Int) (dn : Bool) (A : Option Addr) (n c : Nat) (fv : Value) (B : Option Addr) (k d : Nat) (L : List Fl) (hn : n = L.length) (_h1 : n ≤ 1000) (bk bd ba bx bs i : Nat) (x y : ByteArray) (hi : i < L.length) (hy : (L[i]'hi).d.size + y.size ≤ 1000000000) : Triple Try.prog 62 [.pointer (some ⟨bk, 0, none⟩), .pointer (some ⟨bd, 0, none⟩), .pointer (some ⟨ba, 0, none⟩), .pointer (some ⟨bx, 0, none⟩), .pointer (some ⟨bs, 0, none⟩)] [Pt p 53 [.int .i64 m, .int .i64 s, .bool dn, .slice A n c, fv, .slice B k d], Row 71 3 A n c (L.flatMap encF), Pt bk 4 [.bool true], Pt bd 25 [.pointer (some ⟨p, 0, none⟩)], Pt ba 3 [.int .i64 (i : Nat)], Pt bx 9 [.string x], Pt bs 9 [.string y]] [] (Unit) (fun _ => .tuple #[]) (fun _ => True) (fun _ => [Pt p 53 [.int .i64 m, .int .i64 s, .bool dn, .slice A n c, fv, .slice B k d], Row 71 3 A n c ((L.set i ⟨(L[i]'hi).n, (L[i]'hi).d ++ y, (L[i]'hi).s⟩).flatMap encF), Pt bk 4 [.bool true], Pt bd 25 [.pointer (some ⟨p, 0, none⟩)], Pt ba 3 [.int .i64 (i : Nat)], Pt bx 9 [.string x], Pt bs 9 [.string y]]) := by
  refine triple_intro Try.tbs_ok Try.func62 rfl [.pt 2 bk 0, .pt 3 bd 0, .pt 4 ba 0, .pt 5 bx 0, .pt 6 bs 0] [.box p 53 [.va (.int .i64 m), .va (.int .i64 s), .va (.bool dn), .va (.slice A n c), .va fv, .va (.slice B k d)], .fact (Row 71 3 A n c (L.flatMap encF)), .box bk 4 [.va (.bool true)], .box bd 25 [.pt 0 p 0], .box ba 3 [.va (.int .i64 (i : Nat))], .box bx 9 [.va (.string x)], .box bs 9 [.va (.string y)]] ⟨rfl, rfl, rfl, rfl, rfl, trivial⟩ rfl (by simp [SV.good, SV.goodL] <;> rfl) ?_
  intro E
  refine go Try.tbs_ok 1000 ?_
  refine ev_if_no rfl ?_
  refine go Try.tbs_ok 1000 ?_
  refine ev_stop (go_draw Try.tbs_ok false [0, 1, 3, 4, 6] [(0,true),(1,true),(2,true),(3,true),(4,true),(5,true),(6,true),(7,true),(8,true),(9,true),(10,true),(11,true),(12,false)] rfl ?_)
  refine go Try.tbs_ok 1000 ?_
  refine ev_need ⟨⟨(by repeat (first | exact trivial | refine ⟨rfl, ?_⟩)), rfl⟩, by kernel_rfl⟩ ?_
  refine ev_stop (tk_index0 (sz := 3) Try.tbs_ok (.inr 1) (i) ⟨⟨(by repeat (first | exact trivial | refine ⟨rfl, ?_⟩)), rfl⟩, by kernel_rfl⟩ rfl rfl rfl rfl rfl rfl rfl (by omega) rfl Row.at0 (fun g0 e1 => ?_))
  subst e1
  refine go Try.tbs_ok 1000 ?_
  refine ev_need ⟨⟨(by repeat (first | exact trivial | refine ⟨rfl, ?_⟩)), rfl⟩, by kernel_rfl⟩ ?_
  have l2 : i < (L).length := (by omega)
  refine ev_stop (tk_loadE Try.tbs_ok (.inr 1) (i) 1 ⟨⟨(by repeat (first | exact trivial | refine ⟨rfl, ?_⟩)), rfl⟩, by kernel_rfl⟩ rfl rfl rfl rfl rfl (fun _ h => Row.rd h) (by omega) (fun _ => rfl) (by omega) l2 (by decide) ?_)
  refine go Try.tbs_ok 1000 ?_
  refine ev_need ⟨⟨(by repeat (first | exact trivial | refine ⟨rfl, ?_⟩)), rfl⟩, by kernel_rfl⟩ ?_
  refine ev_stop (tk_bin (.va _) trivial ⟨⟨(by repeat (first | exact trivial | refine ⟨rfl, ?_⟩)), rfl⟩, by kernel_rfl⟩ rfl rfl rfl rfl rfl rfl (by decide) (by decide) (fun w => cat_run (by omega) w) ?_)
  refine go Try.tbs_ok 1000 ?_
  refine ev_need ⟨⟨(by repeat (first | exact trivial | refine ⟨rfl, ?_⟩)), rfl⟩, by kernel_rfl⟩ ?_
  refine ev_stop (tk_atE (sz := 3) Try.tbs_ok (i) ⟨⟨(by repeat (first | exact trivial | refine ⟨rfl, ?_⟩)), rfl⟩, by kernel_rfl⟩ rfl rfl rfl rfl rfl rfl rfl (by omega) ?_)
  refine go Try.tbs_ok 1000 ?_
  refine ev_need ⟨⟨(by repeat (first | exact trivial | refine ⟨rfl, ?_⟩)), rfl⟩, by kernel_rfl⟩ ?_
  have l3 : i < (L).length := (by omega)
  refine ev_stop (go_storeR Try.tbs_ok 1 (i) 1 ({ n := L[i].n, d := L[i].d ++ y, s := L[i].s : Fl }) rfl rfl rfl rfl rfl (by omega) (fun _ => rfl) (ones_of rfl) (by omega) l3 rfl (by decide) (ones_of rfl) rfl ?_)
  refine go Try.tbs_ok 1000 ?_
  refine ev_need (by kernel_rfl) ?_
  refine ev_fin ⟨trivial, _, rfl, (()), rfl, (by trivial), Frm.sel [0, 1, 2, 3, 4, 5, 6] rfl (by decide)⟩
set_option maxRecDepth 100000 in
theorem appendDoF (p : Nat) (m s : Int) (dn : Bool) (A : Option Addr) (n c : Nat) (fv : Value) (B : Option Addr) (k d : Nat) (L : List Fl) (hn : n = L.length) (h1 : n ≤ 1000) (bk bd ba bx bs i : Nat) (x y : ByteArray) (hi : i ≤ n) (hy : y.size ≤ 1000000000) : Triple Try.prog 62 [.pointer (some ⟨bk, 0, none⟩), .pointer (some ⟨bd, 0, none⟩), .pointer (some ⟨ba, 0, none⟩), .pointer (some ⟨bx, 0, none⟩), .pointer (some ⟨bs, 0, none⟩)] [Pt p 53 [.int .i64 m, .int .i64 s, .bool dn, .slice A n c, fv, .slice B k d], Row 71 3 A n c (L.flatMap encF), Pt bk 4 [.bool false], Pt bd 25 [.pointer (some ⟨p, 0, none⟩)], Pt ba 3 [.int .i64 (i : Nat)], Pt bx 9 [.string x], Pt bs 9 [.string y]] [] (Option Addr × Nat) (fun _ => .tuple #[]) (fun _ => True) (fun (A2, c2) => [Pt p 53 [.int .i64 m, .int .i64 s, .bool dn, .slice A2 (n + 1) c2, fv, .slice B k d], Row 71 3 A2 (n + 1) c2 ((L.take i ++ ⟨x, y, 0⟩ :: L.drop i).flatMap encF), Pt bk 4 [.bool false], Pt bd 25 [.pointer (some ⟨p, 0, none⟩)], Pt ba 3 [.int .i64 (i : Nat)], Pt bx 9 [.string x], Pt bs 9 [.string y]]) := by
  have T1 := fun vb => insertF A L n c i vb ⟨x, ByteArray.empty, 0⟩ hn h1 hi
  refine triple_intro Try.tbs_ok Try.func62 rfl [.pt 2 bk 0, .pt 3 bd 0, .pt 4 ba 0, .pt 5 bx 0, .pt 6 bs 0] [.box p 53 [.va (.int .i64 m), .va (.int .i64 s), .va (.bool dn), .va (.slice A n c), .va fv, .va (.slice B k d)], .fact (Row 71 3 A n c (L.flatMap encF)), .box bk 4 [.va (.bool false)], .box bd 25 [.pt 0 p 0], .box ba 3 [.va (.int .i64 (i : Nat))], .box bx 9 [.va (.string x)], .box bs 9 [.va (.string y)]] ⟨rfl, rfl, rfl, rfl, rfl, trivial⟩ rfl (by simp [SV.good, SV.goodL] <;> rfl) ?_
  intro E
  obtain ⟨J, hJ⟩ : ∃ J, J = L.take i ++ (⟨x, ByteArray.empty, 0⟩ : Fl) :: L.drop i := ⟨_, rfl⟩
  have hl : (L.take i).length = i := by rw [List.length_take]; omega
  have hJl : J.length = n + 1 := by
    rw [hJ, List.length_append, hl, List.length_cons, List.length_drop]; omega
  have hJi : J[i]'(by omega) = ⟨x, ByteArray.empty, 0⟩ := by
    simp only [hJ]
    rw [List.getElem_append_right (by omega)]
    simp [hl]
  have hJz : (J[i]'(by omega)).d.size + y.size ≤ 1000000000 := by
    rw [hJi]
    have : ByteArray.empty.size = 0 := rfl
    simp only [this]
    omega
  have e1 : J.set i ⟨(J[i]'(by omega)).n, (J[i]'(by omega)).d ++ y, (J[i]'(by omega)).s⟩ = L.take i ++ ⟨x, y, 0⟩ :: L.drop i := by
    rw [hJi, hJ, List.set_append_right _ _ (by omega), hl, Nat.sub_self, List.set_cons_zero]
    simp only [ByteArray.empty_append]
  simp only [← hJ] at T1
  refine go Try.tbs_ok 1000 ?_
  refine ev_if_yes rfl ?_
  refine go Try.tbs_ok 1000 ?_
  refine ev_stop (go_draw Try.tbs_ok false [0, 3, 4, 5] [(0,true),(1,true),(2,true),(3,true),(4,true),(5,true),(6,true),(7,true),(8,false),(9,false),(10,false),(11,false),(12,false)] rfl ?_)
  refine go Try.tbs_ok 1000 ?_
  refine ev_need ⟨⟨(by repeat (first | exact trivial | refine ⟨rfl, ?_⟩)), rfl⟩, by kernel_rfl⟩ ?_
  refine ev_new fun b0 => ?_
  refine ev_need ⟨⟨(by repeat (first | exact trivial | refine ⟨rfl, ?_⟩)), rfl⟩, by kernel_rfl⟩ ?_
  refine ev_callF (T1 (b0)) [1, 7] [] rfl rfl (by decide) rfl (by simp) (fun _ => (by repeat (first | exact trivial | refine ⟨rfl, ?_⟩))) (fun ⟨x1, x2⟩ h3 => ?_)
  refine go Try.tbs_ok 1000 ?_
  refine ev_need ⟨⟨(by repeat (first | exact trivial | refine ⟨rfl, ?_⟩)), rfl⟩, by kernel_rfl⟩ ?_
  refine ev_need ⟨⟨(by repeat (first | exact trivial | refine ⟨rfl, ?_⟩)), rfl⟩, by kernel_rfl⟩ ?_
  refine ev_need ⟨⟨(by repeat (first | exact trivial | refine ⟨rfl, ?_⟩)), rfl⟩, by kernel_rfl⟩ ?_
  refine ev_need (by kernel_rfl) ?_
  refine ev_stop (go_draw Try.tbs_ok false [0, 1, 3, 4, 6] [(0,true),(1,true),(2,true),(3,true),(4,true),(5,true),(6,true),(7,true),(8,true),(9,true),(10,true),(11,true),(12,false)] rfl ?_)
  refine go Try.tbs_ok 1000 ?_
  refine ev_need ⟨⟨(by repeat (first | exact trivial | refine ⟨rfl, ?_⟩)), rfl⟩, by kernel_rfl⟩ ?_
  refine ev_stop (tk_index0 (sz := 3) Try.tbs_ok (.inr 1) (i) ⟨⟨(by repeat (first | exact trivial | refine ⟨rfl, ?_⟩)), rfl⟩, by kernel_rfl⟩ rfl rfl rfl rfl rfl rfl rfl (by omega) rfl Row.at0 (fun g4 e5 => ?_))
  subst e5
  refine go Try.tbs_ok 1000 ?_
  refine ev_need ⟨⟨(by repeat (first | exact trivial | refine ⟨rfl, ?_⟩)), rfl⟩, by kernel_rfl⟩ ?_
  have l6 : i < (J).length := (by omega)
  refine ev_stop (tk_loadE Try.tbs_ok (.inr 1) (i) 1 ⟨⟨(by repeat (first | exact trivial | refine ⟨rfl, ?_⟩)), rfl⟩, by kernel_rfl⟩ rfl rfl rfl rfl rfl (fun _ h => Row.rd h) (by omega) (fun _ => rfl) (by omega) l6 (by decide) ?_)
  refine go Try.tbs_ok 1000 ?_
  refine ev_need ⟨⟨(by repeat (first | exact trivial | refine ⟨rfl, ?_⟩)), rfl⟩, by kernel_rfl⟩ ?_
  refine ev_stop (tk_bin (.va _) trivial ⟨⟨(by repeat (first | exact trivial | refine ⟨rfl, ?_⟩)), rfl⟩, by kernel_rfl⟩ rfl rfl rfl rfl rfl rfl (by decide) (by decide) (fun w => cat_run (by omega) w) ?_)
  refine go Try.tbs_ok 1000 ?_
  refine ev_need ⟨⟨(by repeat (first | exact trivial | refine ⟨rfl, ?_⟩)), rfl⟩, by kernel_rfl⟩ ?_
  refine ev_stop (tk_atE (sz := 3) Try.tbs_ok (i) ⟨⟨(by repeat (first | exact trivial | refine ⟨rfl, ?_⟩)), rfl⟩, by kernel_rfl⟩ rfl rfl rfl rfl rfl rfl rfl (by omega) ?_)
  refine go Try.tbs_ok 1000 ?_
  refine ev_need ⟨⟨(by repeat (first | exact trivial | refine ⟨rfl, ?_⟩)), rfl⟩, by kernel_rfl⟩ ?_
  have l7 : i < (J).length := (by omega)
  refine ev_stop (go_storeR Try.tbs_ok 1 (i) 1 ({ n := J[i].n, d := J[i].d ++ y, s := J[i].s : Fl }) rfl rfl rfl rfl rfl (by omega) (fun _ => rfl) (ones_of rfl) (by omega) l7 rfl (by decide) (ones_of rfl) rfl ?_)
  refine go Try.tbs_ok 1000 ?_
  refine ev_need (by kernel_rfl) ?_
  rw [e1]
  refine ev_fin ⟨trivial, _, rfl, ((some { block := g4, off := 0 : Addr }, x2)), rfl, (by trivial), Frm.sel [0, 1, 2, 3, 4, 5, 6] rfl (by decide)⟩
theorem has_pos {L : List Fl} (hs : riseF L) {x : ByteArray} (h : hasF L x = true) : ∃ h : posF L x < L.length, (L[posF L x]'h).n = x := by
  unfold hasF at h
  rw [List.any_eq_true] at h
  obtain ⟨y, hy, e⟩ := h
  have e := of_decide_eq_true e
  obtain ⟨k, hk, rfl⟩ := List.getElem_of_mem hy
  have h1 : ∀ y ∈ L.take k, ltS y.n x := fun y hy => by
    obtain ⟨j, hj, rfl⟩ := List.getElem_of_mem hy
    rw [List.length_take] at hj
    rw [List.getElem_take, ← e]
    exact List.pairwise_iff_getElem.1 hs j k (by omega) hk (by omega)
  have h2 : ∀ y ∈ L.drop k, ¬ ltS y.n x := fun y hy => by
    obtain ⟨j, hj, rfl⟩ := List.getElem_of_mem hy
    rw [List.length_drop] at hj
    rw [List.getElem_drop, ← e]
    rcases Nat.eq_zero_or_pos j with h0 | h0
    · subst h0; exact ltS.irrefl _
    · exact (List.pairwise_iff_getElem.1 hs k (k + j) hk (by omega) (by omega)).asymm
  have : posF L x = k := posF_of (by omega) h1 h2
  simp only [this]
  exact ⟨hk, e⟩
set_option maxRecDepth 100000 in
theorem renameDoT (p : Nat) (m s : Int) (dn : Bool) (A : Option Addr) (n c : Nat) (fv : Value) (B : Option Addr) (k d : Nat) (L : List Fl) (hn : n = L.length) (h1 : n ≤ 1000) (hs : riseF L) (bd ba bt i : Nat) (x : ByteArray) (hi : i < L.length) (hh : hasF (L.eraseIdx i) x = true) : Triple Try.prog 65 [.pointer (some ⟨bd, 0, none⟩), .pointer (some ⟨ba, 0, none⟩), .pointer (some ⟨bt, 0, none⟩)] [Pt p 53 [.int .i64 m, .int .i64 s, .bool dn, .slice A n c, fv, .slice B k d], Row 71 3 A n c (L.flatMap encF), Pt bd 25 [.pointer (some ⟨p, 0, none⟩)], Pt ba 3 [.int .i64 (i : Nat)], Pt bt 9 [.string x]] [] (Unit) (fun _ => .tuple #[]) (fun _ => True) (fun _ => [Pt p 53 [.int .i64 m, .int .i64 s, .bool dn, .slice A (n - 1) c, fv, .slice B k d], Row 71 3 A (n - 1) c (((L.eraseIdx i).set (posF (L.eraseIdx i) x) ⟨x, (L[i]'hi).d, (L[i]'hi).s⟩).flatMap encF), Pt bd 25 [.pointer (some ⟨p, 0, none⟩)], Pt ba 3 [.int .i64 (i : Nat)], Pt bt 9 [.string x]]) := by
  have T1 := dropT p m s dn A n c fv B k d L hn h1 i (by omega)
  have hl : (L.eraseIdx i).length = n - 1 := by rw [List.length_eraseIdx_of_lt hi]; omega
  have hsM : riseF (L.eraseIdx i) := List.Pairwise.sublist (List.eraseIdx_sublist _ _) hs
  have T2 := findT p m s dn A (n - 1) c fv B k d (L.eraseIdx i) x hl.symm (by omega) hsM
  rw [hh] at T2
  obtain ⟨hp, _⟩ := has_pos hsM hh
  refine triple_intro Try.tbs_ok Try.func65 rfl [.pt 2 bd 0, .pt 3 ba 0, .pt 4 bt 0] [.box p 53 [.va (.int .i64 m), .va (.int .i64 s), .va (.bool dn), .va (.slice A n c), .va fv, .va (.slice B k d)], .fact (Row 71 3 A n c (L.flatMap encF)), .box bd 25 [.pt 0 p 0], .box ba 3 [.va (.int .i64 (i : Nat))], .box bt 9 [.va (.string x)]] ⟨rfl, rfl, rfl, trivial⟩ rfl (by simp [SV.good, SV.goodL] <;> rfl) ?_
  intro E
  refine go Try.tbs_ok 1000 ?_
  refine ev_stop (go_draw Try.tbs_ok false [0, 1, 2, 3] [(0,true),(1,true),(2,true),(3,true),(4,true),(5,true),(6,true),(7,false),(8,false)] rfl ?_)
  refine go Try.tbs_ok 1000 ?_
  refine ev_need ⟨⟨(by repeat (first | exact trivial | refine ⟨rfl, ?_⟩)), rfl⟩, by kernel_rfl⟩ ?_
  refine ev_stop (tk_index0 (sz := 3) Try.tbs_ok (.inr 1) (i) ⟨⟨(by repeat (first | exact trivial | refine ⟨rfl, ?_⟩)), rfl⟩, by kernel_rfl⟩ rfl rfl rfl rfl rfl rfl rfl (by omega) rfl Row.at0 (fun g0 e1 => ?_))
  subst e1
  refine go Try.tbs_ok 1000 ?_
  refine ev_need ⟨⟨(by repeat (first | exact trivial | refine ⟨rfl, ?_⟩)), rfl⟩, by kernel_rfl⟩ ?_
  have l2 : i < (L).length := (by omega)
  refine ev_stop (tk_loadE Try.tbs_ok (.inr 1) (i) 0 ⟨⟨(by repeat (first | exact trivial | refine ⟨rfl, ?_⟩)), rfl⟩, by kernel_rfl⟩ rfl rfl rfl rfl rfl (fun _ h => Row.rd h) (by omega) (fun _ => rfl) (by omega) l2 (by decide) ?_)
  refine go Try.tbs_ok 1000 ?_
  refine ev_need ⟨⟨(by repeat (first | exact trivial | refine ⟨rfl, ?_⟩)), rfl⟩, by kernel_rfl⟩ ?_
  refine ev_new fun b3 => ?_
  refine ev_need ⟨⟨(by repeat (first | exact trivial | refine ⟨rfl, ?_⟩)), rfl⟩, by kernel_rfl⟩ ?_
  refine ev_need (by kernel_rfl) ?_
  refine ev_call (T1 ) [0, 1] [] (fun v0_ => [.box (p) 53 [.va (Value.int IntKind.i64 m), .va (Value.int IntKind.i64 s), .bq (dn), .va (Value.slice (some { block := g0, off := 0 : Addr }) (n - 1) c), .va (fv), .va (Value.slice B k d)], .fact (Row 71 3 (some { block := g0, off := 0 : Addr }) (n - 1) c (List.flatMap encF (L.eraseIdx i)))]) rfl rfl (by decide) rfl (by simp) (fun _ => rfl) (fun _ => (newsOk_box (by simp [SV.good, SV.goodL]) (newsOk_fact (newsOk_nil _)))) (fun _ => (by repeat (first | exact trivial | refine ⟨rfl, ?_⟩))) (fun _ h4 => ?_)
  refine go Try.tbs_ok 1000 ?_
  refine ev_call (T2 ) [0, 1] [] (fun v0_ => [.box (p) 53 [.va (Value.int IntKind.i64 m), .va (Value.int IntKind.i64 s), .bq (dn), .va (Value.slice (some { block := g0, off := 0 : Addr }) (n - 1) c), .va (fv), .va (Value.slice B k d)], .fact (Row 71 3 (some { block := g0, off := 0 : Addr }) (n - 1) c (List.flatMap encF (L.eraseIdx i)))]) rfl rfl (by decide) rfl (by simp) (fun _ => rfl) (fun _ => (newsOk_box (by simp [SV.good, SV.goodL]) (newsOk_fact (newsOk_nil _)))) (fun _ => (by repeat (first | exact trivial | refine ⟨rfl, ?_⟩))) (fun _ h5 => ?_)
  refine go Try.tbs_ok 1000 ?_
  refine ev_if_yes rfl ?_
  refine go Try.tbs_ok 1000 ?_
  refine ev_stop (go_draw Try.tbs_ok false [0, 2, 5] [(0,true),(1,true),(2,true),(3,true),(4,true),(5,true),(6,true),(7,false)] rfl ?_)
  refine go Try.tbs_ok 1000 ?_
  refine ev_need ⟨⟨(by repeat (first | exact trivial | refine ⟨rfl, ?_⟩)), rfl⟩, by kernel_rfl⟩ ?_
  refine ev_stop (tk_atE (sz := 3) Try.tbs_ok (posF (L.eraseIdx i) x) ⟨⟨(by repeat (first | exact trivial | refine ⟨rfl, ?_⟩)), rfl⟩, by kernel_rfl⟩ rfl rfl rfl rfl rfl rfl rfl (by omega) ?_)
  refine go Try.tbs_ok 1000 ?_
  refine ev_need ⟨⟨(by repeat (first | exact trivial | refine ⟨rfl, ?_⟩)), rfl⟩, by kernel_rfl⟩ ?_
  have l6 : posF (L.eraseIdx i) x < (L.eraseIdx i).length := (by omega)
  refine ev_stop (go_storeR Try.tbs_ok 1 (posF (L.eraseIdx i) x) 0 ({ n := x, d := L[i].d, s := L[i].s : Fl }) rfl rfl rfl rfl rfl (by omega) (fun _ => rfl) (ones_of rfl) (by omega) l6 rfl (by decide) (ones_of rfl) rfl ?_)
  refine go Try.tbs_ok 1000 ?_
  refine ev_need (by kernel_rfl) ?_
  refine ev_fin ⟨trivial, _, rfl, (()), rfl, (by trivial), Frm.sel [0, 1, 2, 3, 4] rfl (by decide)⟩
set_option maxRecDepth 100000 in
theorem renameDoF (p : Nat) (m s : Int) (dn : Bool) (A : Option Addr) (n c : Nat) (fv : Value) (B : Option Addr) (k d : Nat) (L : List Fl) (hn : n = L.length) (h1 : n ≤ 1000) (hs : riseF L) (bd ba bt i : Nat) (x : ByteArray) (hi : i < L.length) (hh : hasF (L.eraseIdx i) x = false) : Triple Try.prog 65 [.pointer (some ⟨bd, 0, none⟩), .pointer (some ⟨ba, 0, none⟩), .pointer (some ⟨bt, 0, none⟩)] [Pt p 53 [.int .i64 m, .int .i64 s, .bool dn, .slice A n c, fv, .slice B k d], Row 71 3 A n c (L.flatMap encF), Pt bd 25 [.pointer (some ⟨p, 0, none⟩)], Pt ba 3 [.int .i64 (i : Nat)], Pt bt 9 [.string x]] [] (Option Addr × Nat) (fun _ => .tuple #[]) (fun _ => True) (fun (A2, c2) => [Pt p 53 [.int .i64 m, .int .i64 s, .bool dn, .slice A2 (n - 1 + 1) c2, fv, .slice B k d], Row 71 3 A2 (n - 1 + 1) c2 (((L.eraseIdx i).take (posF (L.eraseIdx i) x) ++ ⟨x, (L[i]'hi).d, (L[i]'hi).s⟩ :: (L.eraseIdx i).drop (posF (L.eraseIdx i) x)).flatMap encF), Pt bd 25 [.pointer (some ⟨p, 0, none⟩)], Pt ba 3 [.int .i64 (i : Nat)], Pt bt 9 [.string x]]) := by
  have T1 := dropT p m s dn A n c fv B k d L hn h1 i (by omega)
  have hl : (L.eraseIdx i).length = n - 1 := by rw [List.length_eraseIdx_of_lt hi]; omega
  have hsM : riseF (L.eraseIdx i) := List.Pairwise.sublist (List.eraseIdx_sublist _ _) hs
  have T2 := findT p m s dn A (n - 1) c fv B k d (L.eraseIdx i) x hl.symm (by omega) hsM
  rw [hh] at T2
  have hp := posF_le (L.eraseIdx i) x
  have T3 := fun vb => insertF A (L.eraseIdx i) (n - 1) c (posF (L.eraseIdx i) x) vb ⟨x, L[i].d, L[i].s⟩ hl.symm (by omega) (by omega)
  refine triple_intro Try.tbs_ok Try.func65 rfl [.pt 2 bd 0, .pt 3 ba 0, .pt 4 bt 0] [.box p 53 [.va (.int .i64 m), .va (.int .i64 s), .va (.bool dn), .va (.slice A n c), .va fv, .va (.slice B k d)], .fact (Row 71 3 A n c (L.flatMap encF)), .box bd 25 [.pt 0 p 0], .box ba 3 [.va (.int .i64 (i : Nat))], .box bt 9 [.va (.string x)]] ⟨rfl, rfl, rfl, trivial⟩ rfl (by simp [SV.good, SV.goodL] <;> rfl) ?_
  intro E
  refine go Try.tbs_ok 1000 ?_
  refine ev_stop (go_draw Try.tbs_ok false [0, 1, 2, 3] [(0,true),(1,true),(2,true),(3,true),(4,true),(5,true),(6,true),(7,false),(8,false)] rfl ?_)
  refine go Try.tbs_ok 1000 ?_
  refine ev_need ⟨⟨(by repeat (first | exact trivial | refine ⟨rfl, ?_⟩)), rfl⟩, by kernel_rfl⟩ ?_
  refine ev_stop (tk_index0 (sz := 3) Try.tbs_ok (.inr 1) (i) ⟨⟨(by repeat (first | exact trivial | refine ⟨rfl, ?_⟩)), rfl⟩, by kernel_rfl⟩ rfl rfl rfl rfl rfl rfl rfl (by omega) rfl Row.at0 (fun g0 e1 => ?_))
  subst e1
  refine go Try.tbs_ok 1000 ?_
  refine ev_need ⟨⟨(by repeat (first | exact trivial | refine ⟨rfl, ?_⟩)), rfl⟩, by kernel_rfl⟩ ?_
  have l2 : i < (L).length := (by omega)
  refine ev_stop (tk_loadE Try.tbs_ok (.inr 1) (i) 0 ⟨⟨(by repeat (first | exact trivial | refine ⟨rfl, ?_⟩)), rfl⟩, by kernel_rfl⟩ rfl rfl rfl rfl rfl (fun _ h => Row.rd h) (by omega) (fun _ => rfl) (by omega) l2 (by decide) ?_)
  refine go Try.tbs_ok 1000 ?_
  refine ev_need ⟨⟨(by repeat (first | exact trivial | refine ⟨rfl, ?_⟩)), rfl⟩, by kernel_rfl⟩ ?_
  refine ev_new fun b3 => ?_
  refine ev_need ⟨⟨(by repeat (first | exact trivial | refine ⟨rfl, ?_⟩)), rfl⟩, by kernel_rfl⟩ ?_
  refine ev_need (by kernel_rfl) ?_
  refine ev_call (T1 ) [0, 1] [] (fun v0_ => [.box (p) 53 [.va (Value.int IntKind.i64 m), .va (Value.int IntKind.i64 s), .bq (dn), .va (Value.slice (some { block := g0, off := 0 : Addr }) (n - 1) c), .va (fv), .va (Value.slice B k d)], .fact (Row 71 3 (some { block := g0, off := 0 : Addr }) (n - 1) c (List.flatMap encF (L.eraseIdx i)))]) rfl rfl (by decide) rfl (by simp) (fun _ => rfl) (fun _ => (newsOk_box (by simp [SV.good, SV.goodL]) (newsOk_fact (newsOk_nil _)))) (fun _ => (by repeat (first | exact trivial | refine ⟨rfl, ?_⟩))) (fun _ h4 => ?_)
  refine go Try.tbs_ok 1000 ?_
  refine ev_call (T2 ) [0, 1] [] (fun v0_ => [.box (p) 53 [.va (Value.int IntKind.i64 m), .va (Value.int IntKind.i64 s), .bq (dn), .va (Value.slice (some { block := g0, off := 0 : Addr }) (n - 1) c), .va (fv), .va (Value.slice B k d)], .fact (Row 71 3 (some { block := g0, off := 0 : Addr }) (n - 1) c (List.flatMap encF (L.eraseIdx i)))]) rfl rfl (by decide) rfl (by simp) (fun _ => rfl) (fun _ => (newsOk_box (by simp [SV.good, SV.goodL]) (newsOk_fact (newsOk_nil _)))) (fun _ => (by repeat (first | exact trivial | refine ⟨rfl, ?_⟩))) (fun _ h5 => ?_)
  refine go Try.tbs_ok 1000 ?_
  refine ev_if_no rfl ?_
  refine go Try.tbs_ok 1000 ?_
  refine ev_stop (go_draw Try.tbs_ok false [0, 2, 5] [(0,true),(1,true),(2,true),(3,true),(4,true),(5,true),(6,true),(7,false),(8,false),(9,false),(10,false),(11,false)] rfl ?_)
  refine go Try.tbs_ok 1000 ?_
  refine ev_need ⟨⟨(by repeat (first | exact trivial | refine ⟨rfl, ?_⟩)), rfl⟩, by kernel_rfl⟩ ?_
  refine ev_new fun b6 => ?_
  refine ev_need ⟨⟨(by repeat (first | exact trivial | refine ⟨rfl, ?_⟩)), rfl⟩, by kernel_rfl⟩ ?_
  refine ev_callF (T3 (b6)) [1, 6] [] rfl rfl (by decide) rfl (by simp) (fun _ => (by repeat (first | exact trivial | refine ⟨rfl, ?_⟩))) (fun ⟨x7, x8⟩ h9 => ?_)
  refine go Try.tbs_ok 1000 ?_
  refine ev_need ⟨⟨(by repeat (first | exact trivial | refine ⟨rfl, ?_⟩)), rfl⟩, by kernel_rfl⟩ ?_
  refine ev_need ⟨⟨(by repeat (first | exact trivial | refine ⟨rfl, ?_⟩)), rfl⟩, by kernel_rfl⟩ ?_
  refine ev_need ⟨⟨(by repeat (first | exact trivial | refine ⟨rfl, ?_⟩)), rfl⟩, by kernel_rfl⟩ ?_
  refine ev_need (by kernel_rfl) ?_
  refine ev_fin ⟨trivial, _, rfl, ((x7, x8)), rfl, (by trivial), Frm.sel [0, 1, 2, 3, 4] rfl (by decide)⟩
end Go.Proofs.Ythknokcgclcbmaa
namespace Go.Proofs.Ythknokcgclcbmaa
open Go.Sy
set_option maxRecDepth 100000 in
theorem syncN (p : Nat) (m s : Int) (A : Option Addr) (n c : Nat) (B : Option Addr) (k d : Nat) (L : List Fl) (hn : n = L.length) (h1 : n ≤ 1000) (x : ByteArray) (hh : hasF L x = true) (hi' : posF L x < L.length) (_hF : okF L) (hm : 0 < m) (hs : riseF L) : Triple Try.prog 40 [.pointer (some ⟨p, 0, none⟩), .string x] [Pt p 53 [.int .i64 m, .int .i64 s, .bool false, .slice A n c, .nilFunc, .slice B k d], Row 71 3 A n c (L.flatMap encF)] [] (Unit) (fun _ => .int .i64 0) (fun _ => True) (fun _ => [Pt p 53 [.int .i64 m, .int .i64 s, .bool false, .slice A n c, .nilFunc, .slice B k d], Row 71 3 A n c ((L.set (posF L x) ⟨(L[posF L x]'hi').n, (L[posF L x]'hi').d, ((L[posF L x]'hi').d.size : Nat)⟩).flatMap encF)]) := by
  have T1 := askP p m s false A n c (.nilFunc) B k d hm
  have T2 := findT p m s false A n c (.nilFunc) B k d L x hn h1 hs
  have hi : posF L x < L.length := (has_pos hs hh).1
  rw [hh] at T2
  have TD := fun bd ba => syncDo p m s false A n c (.nilFunc) B k d L hn h1 bd ba (posF L x) hi
  refine triple_intro Try.tbs_ok Try.func40 rfl [.pt 0 p 0, .va (.string x)] [.box p 53 [.va (.int .i64 m), .va (.int .i64 s), .va (.bool false), .va (.slice A n c), .va (.nilFunc), .va (.slice B k d)], .fact (Row 71 3 A n c (L.flatMap encF))] ⟨rfl, trivial, trivial⟩ rfl (by simp [SV.good, SV.goodL]) ?_
  intro E
  refine go Try.tbs_ok 1000 ?_
  refine ev_new fun b0 => ?_
  refine ev_inline Try.tbs_ok Try.func52 rfl rfl ?_
  refine go Try.tbs_ok 1000 ?_
  refine ev_call (T1 ) [0] [] (fun v0_ => [.box (p) 53 [.va (Value.int IntKind.i64 m), .va (Value.int IntKind.i64 s), .bl false, .va (Value.slice A n c), .va (Value.nilFunc), .va (Value.slice B k d)]]) rfl rfl (by decide) rfl (by simp) (fun _ => rfl) (fun _ => (newsOk_box (by simp [SV.good, SV.goodL]) (newsOk_nil _))) (fun _ => (by repeat (first | exact trivial | refine ⟨rfl, ?_⟩))) (fun _ h1 => ?_)
  refine go Try.tbs_ok 1000 ?_
  refine ev_if_no rfl ?_
  refine go Try.tbs_ok 1000 ?_
  refine ev_call (T2 ) [0, 1] [] (fun v0_ => [.box (p) 53 [.va (Value.int IntKind.i64 m), .va (Value.int IntKind.i64 s), .bl false, .va (Value.slice A n c), .va (Value.nilFunc), .va (Value.slice B k d)], .fact (Row 71 3 A n c (List.flatMap encF L))]) rfl rfl (by decide) rfl (by simp) (fun _ => rfl) (fun _ => (newsOk_box (by simp [SV.good, SV.goodL]) (newsOk_fact (newsOk_nil _)))) (fun _ => (by repeat (first | exact trivial | refine ⟨rfl, ?_⟩))) (fun _ h2 => ?_)
  refine go Try.tbs_ok 1000 ?_
  refine ev_if_no rfl ?_
  refine go Try.tbs_ok 1000 ?_
  refine ev_inline Try.tbs_ok Try.func67 rfl rfl ?_
  refine go Try.tbs_ok 1000 ?_
  refine ev_new fun b3 => ?_
  refine ev_inline Try.tbs_ok Try.func61 rfl rfl ?_
  refine go Try.tbs_ok 1000 ?_
  refine ev_call (TD (b0) (b3)) [0, 1, 2, 3] [] (fun v0_ => [.box (p) 53 [.va (Value.int IntKind.i64 m), .va (Value.int IntKind.i64 s), .bl false, .va (Value.slice A n c), .va (Value.nilFunc), .va (Value.slice B k d)], .fact (Row 71 3 A n c (List.flatMap encF (L.set (posF L x) { n := L[posF L x].n, d := L[posF L x].d, s := (↑L[posF L x].d.size : Int) : Fl }))), .box (b0) 25 [.va (Value.pointer (some { block := p, off := 0 : Addr }))], .box (b3) 3 [.va (Value.int IntKind.i64 (↑(posF L x) : Int))]]) rfl rfl (by decide) rfl (by simp) (fun _ => rfl) (fun _ => (newsOk_box (by simp [SV.good, SV.goodL]) (newsOk_fact (newsOk_box (by simp [SV.good, SV.goodL]) (newsOk_box (by simp [SV.good, SV.goodL]) (newsOk_nil _)))))) (fun _ => (by repeat (first | exact trivial | refine ⟨rfl, ?_⟩))) (fun _ h4 => ?_)
  refine go Try.tbs_ok 1000 ?_
  refine ev_fin ⟨trivial, (by repeat (first | exact trivial | refine ⟨rfl, ?_⟩)), _, rfl, ?_⟩
  refine go Try.tbs_ok 1000 ?_
  refine ev_fin ⟨trivial, (by repeat (first | exact trivial | refine ⟨rfl, ?_⟩)), _, rfl, ?_⟩
  refine go Try.tbs_ok 1000 ?_
  refine ev_fin ⟨trivial, (by repeat (first | exact trivial | refine ⟨rfl, ?_⟩)), _, rfl, ?_⟩
  refine go Try.tbs_ok 1000 ?_
  refine ev_fin ⟨trivial, _, rfl, (()), rfl, (by trivial), Frm.sel [0, 1] rfl (by decide)⟩
set_option maxRecDepth 100000 in
theorem syncG (p : Nat) (m s : Int) (A : Option Addr) (n c : Nat) (B : Option Addr) (k d : Nat) (L : List Fl) (hn : n = L.length) (h1 : n ≤ 1000) (x : ByteArray) (hh : hasF L x = true) (hi' : posF L x < L.length) (_hF : okF L) (hm : 0 < m) (hs : riseF L) (nb : Nat) (q : Int) (K : List Int) (hq : 0 < q) (hq2 : q ≤ 9223372036854775807) : Triple Try.prog 40 [.pointer (some ⟨p, 0, none⟩), .string x] [Pt p 53 [.int .i64 m, .int .i64 s, .bool false, .slice A n c, .func (.func 58) #[] #[.pointer (some ⟨nb, 0, none⟩)], .slice B k d], Row 71 3 A n c (L.flatMap encF), Pt nb 3 [.int .i64 q], Row 3 1 B k d (K.flatMap encN)] [] (Unit) (fun _ => .int .i64 0) (fun _ => True) (fun _ => [Pt p 53 [.int .i64 m, .int .i64 s, .bool false, .slice A n c, .func (.func 58) #[] #[.pointer (some ⟨nb, 0, none⟩)], .slice B k d], Row 71 3 A n c ((L.set (posF L x) ⟨(L[posF L x]'hi').n, (L[posF L x]'hi').d, ((L[posF L x]'hi').d.size : Nat)⟩).flatMap encF), Pt nb 3 [.int .i64 (q - 1)], Row 3 1 B k d (K.flatMap encN)]) := by
  have T1 := askP p m s false A n c (.func (.func 58) #[] #[.pointer (some ⟨nb, 0, none⟩)]) B k d hm
  have T2 := findT p m s false A n c (.func (.func 58) #[] #[.pointer (some ⟨nb, 0, none⟩)]) B k d L x hn h1 hs
  have hi : posF L x < L.length := (has_pos hs hh).1
  rw [hh] at T2
  have TD := fun bd ba => syncDo p m s false A n c (.func (.func 58) #[] #[.pointer (some ⟨nb, 0, none⟩)]) B k d L hn h1 bd ba (posF L x) hi
  have TF := failT nb q (by omega) (by omega)
  rw [decide_eq_false (show ¬ q - 1 < 0 by omega)] at TF
  refine triple_intro Try.tbs_ok Try.func40 rfl [.pt 0 p 0, .va (.string x)] [.box p 53 [.va (.int .i64 m), .va (.int .i64 s), .va (.bool false), .va (.slice A n c), .va (.func (.func 58) #[] #[.pointer (some ⟨nb, 0, none⟩)]), .va (.slice B k d)], .fact (Row 71 3 A n c (L.flatMap encF)), .box nb 3 [.va (.int .i64 q)], .fact (Row 3 1 B k d (K.flatMap encN))] ⟨rfl, trivial, trivial⟩ rfl (by simp [SV.good, SV.goodL]) ?_
  intro E
  refine go Try.tbs_ok 1000 ?_
  refine ev_new fun b0 => ?_
  refine ev_inline Try.tbs_ok Try.func52 rfl rfl ?_
  refine go Try.tbs_ok 1000 ?_
  refine ev_call (T1 ) [0] [] (fun v0_ => [.box (p) 53 [.va (Value.int IntKind.i64 m), .va (Value.int IntKind.i64 s), .bl false, .va (Value.slice A n c), .va (Value.func (Fn.func 58) #[] #[Value.pointer (some { block := nb, off := 0 : Addr })]), .va (Value.slice B k d)]]) rfl rfl (by decide) rfl (by simp) (fun _ => rfl) (fun _ => (newsOk_box (by simp [SV.good, SV.goodL]) (newsOk_nil _))) (fun _ => (by repeat (first | exact trivial | refine ⟨rfl, ?_⟩))) (fun _ h1 => ?_)
  refine go Try.tbs_ok 1000 ?_
  refine ev_if_no rfl ?_
  refine go Try.tbs_ok 1000 ?_
  refine ev_call (T2 ) [0, 1] [] (fun v0_ => [.box (p) 53 [.va (Value.int IntKind.i64 m), .va (Value.int IntKind.i64 s), .bl false, .va (Value.slice A n c), .va (Value.func (Fn.func 58) #[] #[Value.pointer (some { block := nb, off := 0 : Addr })]), .va (Value.slice B k d)], .fact (Row 71 3 A n c (List.flatMap encF L))]) rfl rfl (by decide) rfl (by simp) (fun _ => rfl) (fun _ => (newsOk_box (by simp [SV.good, SV.goodL]) (newsOk_fact (newsOk_nil _)))) (fun _ => (by repeat (first | exact trivial | refine ⟨rfl, ?_⟩))) (fun _ h2 => ?_)
  refine go Try.tbs_ok 1000 ?_
  refine ev_if_no rfl ?_
  refine go Try.tbs_ok 1000 ?_
  refine ev_inline Try.tbs_ok Try.func67 rfl rfl ?_
  refine go Try.tbs_ok 1000 ?_
  refine ev_new fun b3 => ?_
  refine ev_inline Try.tbs_ok Try.func61 rfl rfl ?_
  refine go Try.tbs_ok 1000 ?_
  refine ev_call (TF ) [2] [] (fun v0_ => [.box (nb) 3 [.va (Value.int IntKind.i64 (q - 1))]]) rfl rfl (by decide) rfl (by simp) (fun _ => rfl) (fun _ => (newsOk_box (by simp [SV.good, SV.goodL]) (newsOk_nil _))) (fun _ => (by repeat (first | exact trivial | refine ⟨rfl, ?_⟩))) (fun _ h4 => ?_)
  refine go Try.tbs_ok 1000 ?_
  refine ev_if_yes rfl ?_
  refine go Try.tbs_ok 1000 ?_
  refine ev_call (TD (b0) (b3)) [0, 1, 4, 5] [] (fun v0_ => [.box (p) 53 [.va (Value.int IntKind.i64 m), .va (Value.int IntKind.i64 s), .bl false, .va (Value.slice A n c), .va (Value.func (Fn.func 58) #[] #[Value.pointer (some { block := nb, off := 0 : Addr })]), .va (Value.slice B k d)], .fact (Row 71 3 A n c (List.flatMap encF (L.set (posF L x) { n := L[posF L x].n, d := L[posF L x].d, s := (↑L[posF L x].d.size : Int) : Fl }))), .box (b0) 25 [.va (Value.pointer (some { block := p, off := 0 : Addr }))], .box (b3) 3 [.va (Value.int IntKind.i64 (↑(posF L x) : Int))]]) rfl rfl (by decide) rfl (by simp) (fun _ => rfl) (fun _ => (newsOk_box (by simp [SV.good, SV.goodL]) (newsOk_fact (newsOk_box (by simp [SV.good, SV.goodL]) (newsOk_box (by simp [SV.good, SV.goodL]) (newsOk_nil _)))))) (fun _ => (by repeat (first | exact trivial | refine ⟨rfl, ?_⟩))) (fun _ h5 => ?_)
  refine go Try.tbs_ok 1000 ?_
  refine ev_if_no rfl ?_
  refine go Try.tbs_ok 1000 ?_
  refine ev_fin ⟨trivial, (by repeat (first | exact trivial | refine ⟨rfl, ?_⟩)), _, rfl, ?_⟩
  refine go Try.tbs_ok 1000 ?_
  refine ev_fin ⟨trivial, (by repeat (first | exact trivial | refine ⟨rfl, ?_⟩)), _, rfl, ?_⟩
  refine go Try.tbs_ok 1000 ?_
  refine ev_fin ⟨trivial, (by repeat (first | exact trivial | refine ⟨rfl, ?_⟩)), _, rfl, ?_⟩
  refine go Try.tbs_ok 1000 ?_
  refine ev_fin ⟨trivial, _, rfl, (()), rfl, (by trivial), Frm.sel [0, 1, 2, 3] rfl (by decide)⟩
set_option maxRecDepth 100000 in
theorem syncS (p : Nat) (m s : Int) (A : Option Addr) (n c : Nat) (B : Option Addr) (k d : Nat) (L : List Fl) (hn : n = L.length) (h1 : n ≤ 1000) (x : ByteArray) (hh : hasF L x = true) (_hi' : posF L x < L.length) (hF : okF L) (hm : 0 < m) (hs : riseF L) (nb : Nat) (q : Int) (K : List Int) (hq : q = 0) (hk : k = K.length) : Triple Try.prog 40 [.pointer (some ⟨p, 0, none⟩), .string x] [Pt p 53 [.int .i64 m, .int .i64 s, .bool false, .slice A n c, .func (.func 58) #[] #[.pointer (some ⟨nb, 0, none⟩)], .slice B k d], Row 71 3 A n c (L.flatMap encF), Pt nb 3 [.int .i64 q], Row 3 1 B k d (K.flatMap encN)] [] (Unit) (fun _ => .int .i64 41) (fun _ => True) (fun _ => [Pt p 53 [.int .i64 m, .int .i64 s, .bool true, .slice A n c, .nilFunc, .slice B k d], Row 71 3 A n c ((crashF L K).flatMap encF), Pt nb 3 [.int .i64 (q - 1)], Row 3 1 B k d (K.flatMap encN)]) := by
  have T1 := askP p m s false A n c (.func (.func 58) #[] #[.pointer (some ⟨nb, 0, none⟩)]) B k d hm
  have T2 := findT p m s false A n c (.func (.func 58) #[] #[.pointer (some ⟨nb, 0, none⟩)]) B k d L x hn h1 hs
  have hi : posF L x < L.length := (has_pos hs hh).1
  rw [hh] at T2
  have TD := fun bd ba => syncDo p m s false A n c (.func (.func 58) #[] #[.pointer (some ⟨nb, 0, none⟩)]) B k d L hn h1 bd ba (posF L x) hi
  have TC := (crashT p m s A n c (.func (.func 58) #[] #[.pointer (some ⟨nb, 0, none⟩)]) B k d L B k d K hm hn h1 hk hF).reads (N' := [Row 3 1 B k d (K.flatMap encN)]) (fun X hX => ⟨_, List.mem_cons_self, fun _ q => by rw [List.mem_singleton.1 hX]; exact Row.rd q⟩)
  have TF := failT nb q (by omega) (by omega)
  rw [decide_eq_true (show q - 1 < 0 by omega)] at TF
  refine triple_intro Try.tbs_ok Try.func40 rfl [.pt 0 p 0, .va (.string x)] [.box p 53 [.va (.int .i64 m), .va (.int .i64 s), .va (.bool false), .va (.slice A n c), .va (.func (.func 58) #[] #[.pointer (some ⟨nb, 0, none⟩)]), .va (.slice B k d)], .fact (Row 71 3 A n c (L.flatMap encF)), .box nb 3 [.va (.int .i64 q)], .fact (Row 3 1 B k d (K.flatMap encN))] ⟨rfl, trivial, trivial⟩ rfl (by simp [SV.good, SV.goodL]) ?_
  intro E
  refine go Try.tbs_ok 1000 ?_
  refine ev_new fun b0 => ?_
  refine ev_inline Try.tbs_ok Try.func52 rfl rfl ?_
  refine go Try.tbs_ok 1000 ?_
  refine ev_call (T1 ) [0] [] (fun v0_ => [.box (p) 53 [.va (Value.int IntKind.i64 m), .va (Value.int IntKind.i64 s), .bl false, .va (Value.slice A n c), .va (Value.func (Fn.func 58) #[] #[Value.pointer (some { block := nb, off := 0 : Addr })]), .va (Value.slice B k d)]]) rfl rfl (by decide) rfl (by simp) (fun _ => rfl) (fun _ => (newsOk_box (by simp [SV.good, SV.goodL]) (newsOk_nil _))) (fun _ => (by repeat (first | exact trivial | refine ⟨rfl, ?_⟩))) (fun _ h1 => ?_)
  refine go Try.tbs_ok 1000 ?_
  refine ev_if_no rfl ?_
  refine go Try.tbs_ok 1000 ?_
  refine ev_call (T2 ) [0, 1] [] (fun v0_ => [.box (p) 53 [.va (Value.int IntKind.i64 m), .va (Value.int IntKind.i64 s), .bl false, .va (Value.slice A n c), .va (Value.func (Fn.func 58) #[] #[Value.pointer (some { block := nb, off := 0 : Addr })]), .va (Value.slice B k d)], .fact (Row 71 3 A n c (List.flatMap encF L))]) rfl rfl (by decide) rfl (by simp) (fun _ => rfl) (fun _ => (newsOk_box (by simp [SV.good, SV.goodL]) (newsOk_fact (newsOk_nil _)))) (fun _ => (by repeat (first | exact trivial | refine ⟨rfl, ?_⟩))) (fun _ h2 => ?_)
  refine go Try.tbs_ok 1000 ?_
  refine ev_if_no rfl ?_
  refine go Try.tbs_ok 1000 ?_
  refine ev_inline Try.tbs_ok Try.func67 rfl rfl ?_
  refine go Try.tbs_ok 1000 ?_
  refine ev_new fun b3 => ?_
  refine ev_inline Try.tbs_ok Try.func61 rfl rfl ?_
  refine go Try.tbs_ok 1000 ?_
  refine ev_call (TF ) [2] [] (fun v0_ => [.box (nb) 3 [.va (Value.int IntKind.i64 (q - 1))]]) rfl rfl (by decide) rfl (by simp) (fun _ => rfl) (fun _ => (newsOk_box (by simp [SV.good, SV.goodL]) (newsOk_nil _))) (fun _ => (by repeat (first | exact trivial | refine ⟨rfl, ?_⟩))) (fun _ h4 => ?_)
  refine go Try.tbs_ok 1000 ?_
  refine ev_if_no rfl ?_
  refine go Try.tbs_ok 1000 ?_
  refine ev_if_yes rfl ?_
  refine go Try.tbs_ok 1000 ?_
  refine ev_call (TC ) [0, 1] [.inr 3] (fun v0_ => [.box (p) 53 [.va (Value.int IntKind.i64 m), .va (Value.int IntKind.i64 s), .bl true, .va (Value.slice A n c), .va (Value.nilFunc), .va (Value.slice B k d)], .fact (Row 71 3 A n c (List.flatMap encF (crashF L K)))]) rfl rfl (by decide) rfl (by simp) (fun _ => rfl) (fun _ => (newsOk_box (by simp [SV.good, SV.goodL]) (newsOk_fact (newsOk_nil _)))) (fun _ => (by repeat (first | exact trivial | refine ⟨rfl, ?_⟩))) (fun _ h5 => ?_)
  refine go Try.tbs_ok 1000 ?_
  refine ev_fin ⟨trivial, (by repeat (first | exact trivial | refine ⟨rfl, ?_⟩)), _, rfl, ?_⟩
  refine go Try.tbs_ok 1000 ?_
  refine ev_fin ⟨trivial, (by repeat (first | exact trivial | refine ⟨rfl, ?_⟩)), _, rfl, ?_⟩
  refine go Try.tbs_ok 1000 ?_
  refine ev_fin ⟨trivial, (by repeat (first | exact trivial | refine ⟨rfl, ?_⟩)), _, rfl, ?_⟩
  refine go Try.tbs_ok 1000 ?_
  refine ev_fin ⟨trivial, _, rfl, (()), rfl, (by trivial), Frm.sel [0, 1, 2, 3] rfl (by decide)⟩
set_option maxRecDepth 100000 in
theorem truncN (p : Nat) (m s : Int) (A : Option Addr) (n c : Nat) (B : Option Addr) (k d : Nat) (L : List Fl) (hn : n = L.length) (h1 : n ≤ 1000) (x : ByteArray) (z : Int) (hh : hasF L x = true) (hi' : posF L x < L.length) (_hF : okF L) (hz1 : 0 ≤ z) (hz2 : z ≤ (L[posF L x]'hi').d.size) (hm : 0 < m) (hs : riseF L) : Triple Try.prog 41 [.pointer (some ⟨p, 0, none⟩), .string x, .int .i64 z] [Pt p 53 [.int .i64 m, .int .i64 s, .bool false, .slice A n c, .nilFunc, .slice B k d], Row 71 3 A n c (L.flatMap encF)] [] (Unit) (fun _ => .int .i64 0) (fun _ => True) (fun _ => [Pt p 53 [.int .i64 m, .int .i64 s, .bool false, .slice A n c, .nilFunc, .slice B k d], Row 71 3 A n c ((L.set (posF L x) ⟨(L[posF L x]'hi').n, (L[posF L x]'hi').d.extract 0 z.toNat, min (L[posF L x]'hi').s z⟩).flatMap encF)]) := by
  have T1 := askP p m s false A n c (.nilFunc) B k d hm
  have T2 := findT p m s false A n c (.nilFunc) B k d L x hn h1 hs
  have hi : posF L x < L.length := (has_pos hs hh).1
  rw [hh] at T2
  have TD := fun g bf bn => truncDo n c g L hn h1 bf bn (posF L x) z hi hz1 hz2
  refine triple_intro Try.tbs_ok Try.func41 rfl [.pt 0 p 0, .va (.string x), .va (.int .i64 z)] [.box p 53 [.va (.int .i64 m), .va (.int .i64 s), .va (.bool false), .va (.slice A n c), .va (.nilFunc), .va (.slice B k d)], .fact (Row 71 3 A n c (L.flatMap encF))] ⟨rfl, trivial, trivial, trivial⟩ rfl (by simp [SV.good, SV.goodL]) ?_
  intro E
  refine go Try.tbs_ok 1000 ?_
  refine ev_new fun b0 => ?_
  refine ev_new fun b1 => ?_
  refine ev_inline Try.tbs_ok Try.func52 rfl rfl ?_
  refine go Try.tbs_ok 1000 ?_
  refine ev_call (T1 ) [0] [] (fun v0_ => [.box (p) 53 [.va (Value.int IntKind.i64 m), .va (Value.int IntKind.i64 s), .bl false, .va (Value.slice A n c), .va (Value.nilFunc), .va (Value.slice B k d)]]) rfl rfl (by decide) rfl (by simp) (fun _ => rfl) (fun _ => (newsOk_box (by simp [SV.good, SV.goodL]) (newsOk_nil _))) (fun _ => (by repeat (first | exact trivial | refine ⟨rfl, ?_⟩))) (fun _ h2 => ?_)
  refine go Try.tbs_ok 1000 ?_
  refine ev_if_no rfl ?_
  refine go Try.tbs_ok 1000 ?_
  refine ev_call (T2 ) [0, 1] [] (fun v0_ => [.box (p) 53 [.va (Value.int IntKind.i64 m), .va (Value.int IntKind.i64 s), .bl false, .va (Value.slice A n c), .va (Value.nilFunc), .va (Value.slice B k d)], .fact (Row 71 3 A n c (List.flatMap encF L))]) rfl rfl (by decide) rfl (by simp) (fun _ => rfl) (fun _ => (newsOk_box (by simp [SV.good, SV.goodL]) (newsOk_fact (newsOk_nil _)))) (fun _ => (by repeat (first | exact trivial | refine ⟨rfl, ?_⟩))) (fun _ h3 => ?_)
  refine go Try.tbs_ok 1000 ?_
  refine ev_if_no rfl ?_
  refine go Try.tbs_ok 1000 ?_
  refine ev_inline Try.tbs_ok Try.func69 rfl rfl ?_
  refine go Try.tbs_ok 1000 ?_
  refine ev_stop (go_index0 (sz := 3) Try.tbs_ok (.inr 1) (posF L x) rfl rfl rfl rfl rfl rfl (by omega) rfl Row.at0 (fun g4 e5 => ?_))
  subst e5
  refine go Try.tbs_ok 1000 ?_
  refine ev_new fun b6 => ?_
  refine ev_stop (go_draw Try.tbs_ok true [0, 1, 2, 3, 4] [(0,true),(1,true),(2,true),(3,true),(4,true),(5,true),(6,true),(7,true),(8,true),(9,true),(10,true)] rfl ?_)
  refine go Try.tbs_ok 1000 ?_
  refine ev_need ⟨⟨(by repeat (first | exact trivial | refine ⟨rfl, ?_⟩)), rfl⟩, by kernel_rfl⟩ ?_
  refine ev_if_no (decide_eq_false (show ¬z < 0 from (by omega))) ?_
  refine go Try.tbs_ok 1000 ?_
  refine ev_need ⟨⟨(by repeat (first | exact trivial | refine ⟨rfl, ?_⟩)), rfl⟩, by kernel_rfl⟩ ?_
  have l7 : posF L x < (L).length := (by omega)
  refine ev_stop (tk_loadE Try.tbs_ok (.inr 1) (posF L x) 1 ⟨⟨(by repeat (first | exact trivial | refine ⟨rfl, ?_⟩)), rfl⟩, by kernel_rfl⟩ rfl rfl rfl rfl rfl (fun _ h => Row.rd h) (by omega) (fun _ => rfl) (by omega) l7 (by decide) ?_)
  refine go Try.tbs_ok 1000 ?_
  refine ev_need ⟨⟨(by repeat (first | exact trivial | refine ⟨rfl, ?_⟩)), rfl⟩, by kernel_rfl⟩ ?_
  refine ev_if_no (decide_eq_false (show ¬z > (↑L[posF L x].d.size : Int) from (by omega))) ?_
  refine go Try.tbs_ok 1000 ?_
  refine ev_inline Try.tbs_ok Try.func61 rfl rfl ?_
  refine go Try.tbs_ok 1000 ?_
  refine ev_call (TD (g4) (b6) (b1)) [1, 4, 3] [] (fun v0_ => [.fact (Row 71 3 (some { block := g4, off := 0 : Addr }) n c (List.flatMap encF (L.set (posF L x) { n := L[posF L x].n, d := L[posF L x].d.extract 0 z.toNat, s := min L[posF L x].s z : Fl }))), .box (b6) 83 [.va (Value.pointer (some { block := g4, off := 0 + posF L x * 3 : Addr }))], .box (b1) 3 [.va (Value.int IntKind.i64 z)]]) rfl rfl (by decide) rfl (by simp) (fun _ => rfl) (fun _ => (newsOk_fact (newsOk_box (by simp [SV.good, SV.goodL]) (newsOk_box (by simp [SV.good, SV.goodL]) (newsOk_nil _))))) (fun _ => (by repeat (first | exact trivial | refine ⟨rfl, ?_⟩))) (fun _ h8 => ?_)
  refine go Try.tbs_ok 1000 ?_
  refine ev_fin ⟨trivial, (by repeat (first | exact trivial | refine ⟨rfl, ?_⟩)), _, rfl, ?_⟩
  refine go Try.tbs_ok 1000 ?_
  refine ev_fin ⟨trivial, (by repeat (first | exact trivial | refine ⟨rfl, ?_⟩)), _, rfl, ?_⟩
  refine go Try.tbs_ok 1000 ?_
  refine ev_fin ⟨trivial, (by repeat (first | exact trivial | refine ⟨rfl, ?_⟩)), _, rfl, ?_⟩
  refine go Try.tbs_ok 1000 ?_
  refine ev_fin ⟨trivial, _, rfl, (()), rfl, (by trivial), Frm.sel [0, 1] rfl (by decide)⟩
set_option maxRecDepth 100000 in
theorem truncG (p : Nat) (m s : Int) (A : Option Addr) (n c : Nat) (B : Option Addr) (k d : Nat) (L : List Fl) (hn : n = L.length) (h1 : n ≤ 1000) (x : ByteArray) (z : Int) (hh : hasF L x = true) (hi' : posF L x < L.length) (_hF : okF L) (hz1 : 0 ≤ z) (hz2 : z ≤ (L[posF L x]'hi').d.size) (hm : 0 < m) (hs : riseF L) (nb : Nat) (q : Int) (K : List Int) (hq : 0 < q) (hq2 : q ≤ 9223372036854775807) : Triple Try.prog 41 [.pointer (some ⟨p, 0, none⟩), .string x, .int .i64 z] [Pt p 53 [.int .i64 m, .int .i64 s, .bool false, .slice A n c, .func (.func 58) #[] #[.pointer (some ⟨nb, 0, none⟩)], .slice B k d], Row 71 3 A n c (L.flatMap encF), Pt nb 3 [.int .i64 q], Row 3 1 B k d (K.flatMap encN)] [] (Unit) (fun _ => .int .i64 0) (fun _ => True) (fun _ => [Pt p 53 [.int .i64 m, .int .i64 s, .bool false, .slice A n c, .func (.func 58) #[] #[.pointer (some ⟨nb, 0, none⟩)], .slice B k d], Row 71 3 A n c ((L.set (posF L x) ⟨(L[posF L x]'hi').n, (L[posF L x]'hi').d.extract 0 z.toNat, min (L[posF L x]'hi').s z⟩).flatMap encF), Pt nb 3 [.int .i64 (q - 1)], Row 3 1 B k d (K.flatMap encN)]) := by
  have T1 := askP p m s false A n c (.func (.func 58) #[] #[.pointer (some ⟨nb, 0, none⟩)]) B k d hm
  have T2 := findT p m s false A n c (.func (.func 58) #[] #[.pointer (some ⟨nb, 0, none⟩)]) B k d L x hn h1 hs
  have hi : posF L x < L.length := (has_pos hs hh).1
  rw [hh] at T2
  have TD := fun g bf bn => truncDo n c g L hn h1 bf bn (posF L x) z hi hz1 hz2
  have TF := failT nb q (by omega) (by omega)
  rw [decide_eq_false (show ¬ q - 1 < 0 by omega)] at TF
  refine triple_intro Try.tbs_ok Try.func41 rfl [.pt 0 p 0, .va (.string x), .va (.int .i64 z)] [.box p 53 [.va (.int .i64 m), .va (.int .i64 s), .va (.bool false), .va (.slice A n c), .va (.func (.func 58) #[] #[.pointer (some ⟨nb, 0, none⟩)]), .va (.slice B k d)], .fact (Row 71 3 A n c (L.flatMap encF)), .box nb 3 [.va (.int .i64 q)], .fact (Row 3 1 B k d (K.flatMap encN))] ⟨rfl, trivial, trivial, trivial⟩ rfl (by simp [SV.good, SV.goodL]) ?_
  intro E
  refine go Try.tbs_ok 1000 ?_
  refine ev_new fun b0 => ?_
  refine ev_new fun b1 => ?_
  refine ev_inline Try.tbs_ok Try.func52 rfl rfl ?_
  refine go Try.tbs_ok 1000 ?_
  refine ev_call (T1 ) [0] [] (fun v0_ => [.box (p) 53 [.va (Value.int IntKind.i64 m), .va (Value.int IntKind.i64 s), .bl false, .va (Value.slice A n c), .va (Value.func (Fn.func 58) #[] #[Value.pointer (some { block := nb, off := 0 : Addr })]), .va (Value.slice B k d)]]) rfl rfl (by decide) rfl (by simp) (fun _ => rfl) (fun _ => (newsOk_box (by simp [SV.good, SV.goodL]) (newsOk_nil _))) (fun _ => (by repeat (first | exact trivial | refine ⟨rfl, ?_⟩))) (fun _ h2 => ?_)
  refine go Try.tbs_ok 1000 ?_
  refine ev_if_no rfl ?_
  refine go Try.tbs_ok 1000 ?_
  refine ev_call (T2 ) [0, 1] [] (fun v0_ => [.box (p) 53 [.va (Value.int IntKind.i64 m), .va (Value.int IntKind.i64 s), .bl false, .va (Value.slice A n c), .va (Value.func (Fn.func 58) #[] #[Value.pointer (some { block := nb, off := 0 : Addr })]), .va (Value.slice B k d)], .fact (Row 71 3 A n c (List.flatMap encF L))]) rfl rfl (by decide) rfl (by simp) (fun _ => rfl) (fun _ => (newsOk_box (by simp [SV.good, SV.goodL]) (newsOk_fact (newsOk_nil _)))) (fun _ => (by repeat (first | exact trivial | refine ⟨rfl, ?_⟩))) (fun _ h3 => ?_)
  refine go Try.tbs_ok 1000 ?_
  refine ev_if_no rfl ?_
  refine go Try.tbs_ok 1000 ?_
  refine ev_inline Try.tbs_ok Try.func69 rfl rfl ?_
  refine go Try.tbs_ok 1000 ?_
  refine ev_stop (go_index0 (sz := 3) Try.tbs_ok (.inr 1) (posF L x) rfl rfl rfl rfl rfl rfl (by omega) rfl Row.at0 (fun g4 e5 => ?_))
  subst e5
  refine go Try.tbs_ok 1000 ?_
  refine ev_new fun b6 => ?_
  refine ev_stop (go_draw Try.tbs_ok true [0, 1, 2, 3, 4, 5, 6] [(0,true),(1,true),(2,true),(3,true),(4,true),(5,true),(6,true),(7,true),(8,true),(9,true),(10,true)] rfl ?_)
  refine go Try.tbs_ok 1000 ?_
  refine ev_need ⟨⟨(by repeat (first | exact trivial | refine ⟨rfl, ?_⟩)), rfl⟩, by kernel_rfl⟩ ?_
  refine ev_if_no (decide_eq_false (show ¬z < 0 from (by omega))) ?_
  refine go Try.tbs_ok 1000 ?_
  refine ev_need ⟨⟨(by repeat (first | exact trivial | refine ⟨rfl, ?_⟩)), rfl⟩, by kernel_rfl⟩ ?_
  have l7 : posF L x < (L).length := (by omega)
  refine ev_stop (tk_loadE Try.tbs_ok (.inr 1) (posF L x) 1 ⟨⟨(by repeat (first | exact trivial | refine ⟨rfl, ?_⟩)), rfl⟩, by kernel_rfl⟩ rfl rfl rfl rfl rfl (fun _ h => Row.rd h) (by omega) (fun _ => rfl) (by omega) l7 (by decide) ?_)
  refine go Try.tbs_ok 1000 ?_
  refine ev_need ⟨⟨(by repeat (first | exact trivial | refine ⟨rfl, ?_⟩)), rfl⟩, by kernel_rfl⟩ ?_
  refine ev_if_no (decide_eq_false (show ¬z > (↑L[posF L x].d.size : Int) from (by omega))) ?_
  refine go Try.tbs_ok 1000 ?_
  refine ev_inline Try.tbs_ok Try.func61 rfl rfl ?_
  refine go Try.tbs_ok 1000 ?_
  refine ev_call (TF ) [2] [] (fun v0_ => [.box (nb) 3 [.va (Value.int IntKind.i64 (q - 1))]]) rfl rfl (by decide) rfl (by simp) (fun _ => rfl) (fun _ => (newsOk_box (by simp [SV.good, SV.goodL]) (newsOk_nil _))) (fun _ => (by repeat (first | exact trivial | refine ⟨rfl, ?_⟩))) (fun _ h8 => ?_)
  refine go Try.tbs_ok 1000 ?_
  refine ev_if_yes rfl ?_
  refine go Try.tbs_ok 1000 ?_
  refine ev_call (TD (g4) (b6) (b1)) [1, 6, 5] [] (fun v0_ => [.fact (Row 71 3 (some { block := g4, off := 0 : Addr }) n c (List.flatMap encF (L.set (posF L x) { n := L[posF L x].n, d := L[posF L x].d.extract 0 z.toNat, s := min L[posF L x].s z : Fl }))), .box (b6) 83 [.va (Value.pointer (some { block := g4, off := 0 + posF L x * 3 : Addr }))], .box (b1) 3 [.va (Value.int IntKind.i64 z)]]) rfl rfl (by decide) rfl (by simp) (fun _ => rfl) (fun _ => (newsOk_fact (newsOk_box (by simp [SV.good, SV.goodL]) (newsOk_box (by simp [SV.good, SV.goodL]) (newsOk_nil _))))) (fun _ => (by repeat (first | exact trivial | refine ⟨rfl, ?_⟩))) (fun _ h9 => ?_)
  refine go Try.tbs_ok 1000 ?_
  refine ev_if_no rfl ?_
  refine go Try.tbs_ok 1000 ?_
  refine ev_fin ⟨trivial, (by repeat (first | exact trivial | refine ⟨rfl, ?_⟩)), _, rfl, ?_⟩
  refine go Try.tbs_ok 1000 ?_
  refine ev_fin ⟨trivial, (by repeat (first | exact trivial | refine ⟨rfl, ?_⟩)), _, rfl, ?_⟩
  refine go Try.tbs_ok 1000 ?_
  refine ev_fin ⟨trivial, (by repeat (first | exact trivial | refine ⟨rfl, ?_⟩)), _, rfl, ?_⟩
  refine go Try.tbs_ok 1000 ?_
  refine ev_fin ⟨trivial, _, rfl, (()), rfl, (by trivial), Frm.sel [0, 1, 2, 3] rfl (by decide)⟩
set_option maxRecDepth 100000 in
theorem truncS (p : Nat) (m s : Int) (A : Option Addr) (n c : Nat) (B : Option Addr) (k d : Nat) (L : List Fl) (hn : n = L.length) (h1 : n ≤ 1000) (x : ByteArray) (z : Int) (hh : hasF L x = true) (hi' : posF L x < L.length) (hF : okF L) (hz1 : 0 ≤ z) (hz2 : z ≤ (L[posF L x]'hi').d.size) (hm : 0 < m) (hs : riseF L) (nb : Nat) (q : Int) (K : List Int) (hq : q = 0) (hk : k = K.length) : Triple Try.prog 41 [.pointer (some ⟨p, 0, none⟩), .string x, .int .i64 z] [Pt p 53 [.int .i64 m, .int .i64 s, .bool false, .slice A n c, .func (.func 58) #[] #[.pointer (some ⟨nb, 0, none⟩)], .slice B k d], Row 71 3 A n c (L.flatMap encF), Pt nb 3 [.int .i64 q], Row 3 1 B k d (K.flatMap encN)] [] (Unit) (fun _ => .int .i64 41) (fun _ => True) (fun _ => [Pt p 53 [.int .i64 m, .int .i64 s, .bool true, .slice A n c, .nilFunc, .slice B k d], Row 71 3 A n c ((crashF L K).flatMap encF), Pt nb 3 [.int .i64 (q - 1)], Row 3 1 B k d (K.flatMap encN)]) := by
  have T1 := askP p m s false A n c (.func (.func 58) #[] #[.pointer (some ⟨nb, 0, none⟩)]) B k d hm
  have T2 := findT p m s false A n c (.func (.func 58) #[] #[.pointer (some ⟨nb, 0, none⟩)]) B k d L x hn h1 hs
  have hi : posF L x < L.length := (has_pos hs hh).1
  rw [hh] at T2
  have TD := fun g bf bn => truncDo n c g L hn h1 bf bn (posF L x) z hi hz1 hz2
  have TC := (crashT p m s A (n) c (.func (.func 58) #[] #[.pointer (some ⟨nb, 0, none⟩)]) B k d (L) B k d K hm hn h1 hk hF).reads (N' := [Row 3 1 B k d (K.flatMap encN)]) (fun X hX => ⟨_, List.mem_cons_self, fun _ q => by rw [List.mem_singleton.1 hX]; exact Row.rd q⟩)
  have TF := failT nb q (by omega) (by omega)
  rw [decide_eq_true (show q - 1 < 0 by omega)] at TF
  refine triple_intro Try.tbs_ok Try.func41 rfl [.pt 0 p 0, .va (.string x), .va (.int .i64 z)] [.box p 53 [.va (.int .i64 m), .va (.int .i64 s), .va (.bool false), .va (.slice A n c), .va (.func (.func 58) #[] #[.pointer (some ⟨nb, 0, none⟩)]), .va (.slice B k d)], .fact (Row 71 3 A n c (L.flatMap encF)), .box nb 3 [.va (.int .i64 q)], .fact (Row 3 1 B k d (K.flatMap encN))] ⟨rfl, trivial, trivial, trivial⟩ rfl (by simp [SV.good, SV.goodL]) ?_
  intro E
  refine go Try.tbs_ok 1000 ?_
  refine ev_new fun b0 => ?_
  refine ev_new fun b1 => ?_
  refine ev_inline Try.tbs_ok Try.func52 rfl rfl ?_
  refine go Try.tbs_ok 1000 ?_
  refine ev_call (T1 ) [0] [] (fun v0_ => [.box (p) 53 [.va (Value.int IntKind.i64 m), .va (Value.int IntKind.i64 s), .bl false, .va (Value.slice A n c), .va (Value.func (Fn.func 58) #[] #[Value.pointer (some { block := nb, off := 0 : Addr })]), .va (Value.slice B k d)]]) rfl rfl (by decide) rfl (by simp) (fun _ => rfl) (fun _ => (newsOk_box (by simp [SV.good, SV.goodL]) (newsOk_nil _))) (fun _ => (by repeat (first | exact trivial | refine ⟨rfl, ?_⟩))) (fun _ h2 => ?_)
  refine go Try.tbs_ok 1000 ?_
  refine ev_if_no rfl ?_
  refine go Try.tbs_ok 1000 ?_
  refine ev_call (T2 ) [0, 1] [] (fun v0_ => [.box (p) 53 [.va (Value.int IntKind.i64 m), .va (Value.int IntKind.i64 s), .bl false, .va (Value.slice A n c), .va (Value.func (Fn.func 58) #[] #[Value.pointer (some { block := nb, off := 0 : Addr })]), .va (Value.slice B k d)], .fact (Row 71 3 A n c (List.flatMap encF L))]) rfl rfl (by decide) rfl (by simp) (fun _ => rfl) (fun _ => (newsOk_box (by simp [SV.good, SV.goodL]) (newsOk_fact (newsOk_nil _)))) (fun _ => (by repeat (first | exact trivial | refine ⟨rfl, ?_⟩))) (fun _ h3 => ?_)
  refine go Try.tbs_ok 1000 ?_
  refine ev_if_no rfl ?_
  refine go Try.tbs_ok 1000 ?_
  refine ev_inline Try.tbs_ok Try.func69 rfl rfl ?_
  refine go Try.tbs_ok 1000 ?_
  refine ev_stop (go_index0 (sz := 3) Try.tbs_ok (.inr 1) (posF L x) rfl rfl rfl rfl rfl rfl (by omega) rfl Row.at0 (fun g4 e5 => ?_))
  subst e5
  refine go Try.tbs_ok 1000 ?_
  refine ev_new fun b6 => ?_
  refine ev_stop (go_draw Try.tbs_ok true [0, 1, 2, 3, 4, 5, 6] [(0,true),(1,true),(2,true),(3,true),(4,true),(5,true),(6,true),(7,true),(8,true),(9,true),(10,true)] rfl ?_)
  refine go Try.tbs_ok 1000 ?_
  refine ev_need ⟨⟨(by repeat (first | exact trivial | refine ⟨rfl, ?_⟩)), rfl⟩, by kernel_rfl⟩ ?_
  refine ev_if_no (decide_eq_false (show ¬z < 0 from (by omega))) ?_
  refine go Try.tbs_ok 1000 ?_
  refine ev_need ⟨⟨(by repeat (first | exact trivial | refine ⟨rfl, ?_⟩)), rfl⟩, by kernel_rfl⟩ ?_
  have l7 : posF L x < (L).length := (by omega)
  refine ev_stop (tk_loadE Try.tbs_ok (.inr 1) (posF L x) 1 ⟨⟨(by repeat (first | exact trivial | refine ⟨rfl, ?_⟩)), rfl⟩, by kernel_rfl⟩ rfl rfl rfl rfl rfl (fun _ h => Row.rd h) (by omega) (fun _ => rfl) (by omega) l7 (by decide) ?_)
  refine go Try.tbs_ok 1000 ?_
  refine ev_need ⟨⟨(by repeat (first | exact trivial | refine ⟨rfl, ?_⟩)), rfl⟩, by kernel_rfl⟩ ?_
  refine ev_if_no (decide_eq_false (show ¬z > (↑L[posF L x].d.size : Int) from (by omega))) ?_
  refine go Try.tbs_ok 1000 ?_
  refine ev_inline Try.tbs_ok Try.func61 rfl rfl ?_
  refine go Try.tbs_ok 1000 ?_
  refine ev_call (TF ) [2] [] (fun v0_ => [.box (nb) 3 [.va (Value.int IntKind.i64 (q - 1))]]) rfl rfl (by decide) rfl (by simp) (fun _ => rfl) (fun _ => (newsOk_box (by simp [SV.good, SV.goodL]) (newsOk_nil _))) (fun _ => (by repeat (first | exact trivial | refine ⟨rfl, ?_⟩))) (fun _ h8 => ?_)
  refine go Try.tbs_ok 1000 ?_
  refine ev_if_no rfl ?_
  refine go Try.tbs_ok 1000 ?_
  refine ev_if_yes rfl ?_
  refine go Try.tbs_ok 1000 ?_
  refine ev_call (TC ) [0, 1] [.inr 3] (fun v0_ => [.box (p) 53 [.va (Value.int IntKind.i64 m), .va (Value.int IntKind.i64 s), .bl true, .va (Value.slice (some { block := g4, off := 0 : Addr }) n c), .va (Value.nilFunc), .va (Value.slice B k d)], .fact (Row 71 3 (some { block := g4, off := 0 : Addr }) n c (List.flatMap encF (crashF L K)))]) rfl rfl (by decide) rfl (by simp) (fun _ => rfl) (fun _ => (newsOk_box (by simp [SV.good, SV.goodL]) (newsOk_fact (newsOk_nil _)))) (fun _ => (by repeat (first | exact trivial | refine ⟨rfl, ?_⟩))) (fun _ h9 => ?_)
  refine go Try.tbs_ok 1000 ?_
  refine ev_fin ⟨trivial, (by repeat (first | exact trivial | refine ⟨rfl, ?_⟩)), _, rfl, ?_⟩
  refine go Try.tbs_ok 1000 ?_
  refine ev_fin ⟨trivial, (by repeat (first | exact trivial | refine ⟨rfl, ?_⟩)), _, rfl, ?_⟩
  refine go Try.tbs_ok 1000 ?_
  refine ev_fin ⟨trivial, (by repeat (first | exact trivial | refine ⟨rfl, ?_⟩)), _, rfl, ?_⟩
  refine go Try.tbs_ok 1000 ?_
  refine ev_fin ⟨trivial, _, rfl, (()), rfl, (by trivial), Frm.sel [0, 1, 2, 3] rfl (by decide)⟩
set_option maxRecDepth 100000 in
theorem removeN (p : Nat) (m s : Int) (A : Option Addr) (n c : Nat) (B : Option Addr) (k d : Nat) (L : List Fl) (hn : n = L.length) (h1 : n ≤ 1000) (x : ByteArray) (hh : hasF L x = true) (hi' : posF L x < L.length) (_hF : okF L) (hm : 0 < m) (hs : riseF L) : Triple Try.prog 42 [.pointer (some ⟨p, 0, none⟩), .string x] [Pt p 53 [.int .i64 m, .int .i64 s, .bool false, .slice A n c, .nilFunc, .slice B k d], Row 71 3 A n c (L.flatMap encF)] [] (Unit) (fun _ => .int .i64 0) (fun _ => True) (fun _ => [Pt p 53 [.int .i64 m, .int .i64 s, .bool false, .slice A (n - 1) c, .nilFunc, .slice B k d], Row 71 3 A (n - 1) c ((L.eraseIdx (posF L x)).flatMap encF)]) := by
  have T1 := askP p m s false A n c (.nilFunc) B k d hm
  have T2 := findT p m s false A n c (.nilFunc) B k d L x hn h1 hs
  have hi : posF L x < L.length := (has_pos hs hh).1
  rw [hh] at T2
  have TD := fun bd ba => removeDo p m s false A n c (.nilFunc) B k d L hn h1 bd ba (posF L x) (by omega)
  refine triple_intro Try.tbs_ok Try.func42 rfl [.pt 0 p 0, .va (.string x)] [.box p 53 [.va (.int .i64 m), .va (.int .i64 s), .va (.bool false), .va (.slice A n c), .va (.nilFunc), .va (.slice B k d)], .fact (Row 71 3 A n c (L.flatMap encF))] ⟨rfl, trivial, trivial⟩ rfl (by simp [SV.good, SV.goodL]) ?_
  intro E
  refine go Try.tbs_ok 1000 ?_
  refine ev_new fun b0 => ?_
  refine ev_inline Try.tbs_ok Try.func52 rfl rfl ?_
  refine go Try.tbs_ok 1000 ?_
  refine ev_call (T1 ) [0] [] (fun v0_ => [.box (p) 53 [.va (Value.int IntKind.i64 m), .va (Value.int IntKind.i64 s), .bl false, .va (Value.slice A n c), .va (Value.nilFunc), .va (Value.slice B k d)]]) rfl rfl (by decide) rfl (by simp) (fun _ => rfl) (fun _ => (newsOk_box (by simp [SV.good, SV.goodL]) (newsOk_nil _))) (fun _ => (by repeat (first | exact trivial | refine ⟨rfl, ?_⟩))) (fun _ h1 => ?_)
  refine go Try.tbs_ok 1000 ?_
  refine ev_if_no rfl ?_
  refine go Try.tbs_ok 1000 ?_
  refine ev_call (T2 ) [0, 1] [] (fun v0_ => [.box (p) 53 [.va (Value.int IntKind.i64 m), .va (Value.int IntKind.i64 s), .bl false, .va (Value.slice A n c), .va (Value.nilFunc), .va (Value.slice B k d)], .fact (Row 71 3 A n c (List.flatMap encF L))]) rfl rfl (by decide) rfl (by simp) (fun _ => rfl) (fun _ => (newsOk_box (by simp [SV.good, SV.goodL]) (newsOk_fact (newsOk_nil _)))) (fun _ => (by repeat (first | exact trivial | refine ⟨rfl, ?_⟩))) (fun _ h2 => ?_)
  refine go Try.tbs_ok 1000 ?_
  refine ev_if_no rfl ?_
  refine go Try.tbs_ok 1000 ?_
  refine ev_inline Try.tbs_ok Try.func71 rfl rfl ?_
  refine go Try.tbs_ok 1000 ?_
  refine ev_new fun b3 => ?_
  refine ev_inline Try.tbs_ok Try.func61 rfl rfl ?_
  refine go Try.tbs_ok 1000 ?_
  refine ev_call (TD (b0) (b3)) [0, 1, 2, 3] [] (fun v0_ => [.box (p) 53 [.va (Value.int IntKind.i64 m), .va (Value.int IntKind.i64 s), .bl false, .va (Value.slice A (n - 1) c), .va (Value.nilFunc), .va (Value.slice B k d)], .fact (Row 71 3 A (n - 1) c (List.flatMap encF (L.eraseIdx (posF L x)))), .box (b0) 25 [.va (Value.pointer (some { block := p, off := 0 : Addr }))], .box (b3) 3 [.va (Value.int IntKind.i64 (↑(posF L x) : Int))]]) rfl rfl (by decide) rfl (by simp) (fun _ => rfl) (fun _ => (newsOk_box (by simp [SV.good, SV.goodL]) (newsOk_fact (newsOk_box (by simp [SV.good, SV.goodL]) (newsOk_box (by simp [SV.good, SV.goodL]) (newsOk_nil _)))))) (fun _ => (by repeat (first | exact trivial | refine ⟨rfl, ?_⟩))) (fun _ h4 => ?_)
  refine go Try.tbs_ok 1000 ?_
  refine ev_fin ⟨trivial, (by repeat (first | exact trivial | refine ⟨rfl, ?_⟩)), _, rfl, ?_⟩
  refine go Try.tbs_ok 1000 ?_
  refine ev_fin ⟨trivial, (by repeat (first | exact trivial | refine ⟨rfl, ?_⟩)), _, rfl, ?_⟩
  refine go Try.tbs_ok 1000 ?_
  refine ev_fin ⟨trivial, (by repeat (first | exact trivial | refine ⟨rfl, ?_⟩)), _, rfl, ?_⟩
  refine go Try.tbs_ok 1000 ?_
  refine ev_fin ⟨trivial, _, rfl, (()), rfl, (by trivial), Frm.sel [0, 1] rfl (by decide)⟩
set_option maxRecDepth 100000 in
theorem removeG (p : Nat) (m s : Int) (A : Option Addr) (n c : Nat) (B : Option Addr) (k d : Nat) (L : List Fl) (hn : n = L.length) (h1 : n ≤ 1000) (x : ByteArray) (hh : hasF L x = true) (hi' : posF L x < L.length) (_hF : okF L) (hm : 0 < m) (hs : riseF L) (nb : Nat) (q : Int) (K : List Int) (hq : 0 < q) (hq2 : q ≤ 9223372036854775807) : Triple Try.prog 42 [.pointer (some ⟨p, 0, none⟩), .string x] [Pt p 53 [.int .i64 m, .int .i64 s, .bool false, .slice A n c, .func (.func 58) #[] #[.pointer (some ⟨nb, 0, none⟩)], .slice B k d], Row 71 3 A n c (L.flatMap encF), Pt nb 3 [.int .i64 q], Row 3 1 B k d (K.flatMap encN)] [] (Unit) (fun _ => .int .i64 0) (fun _ => True) (fun _ => [Pt p 53 [.int .i64 m, .int .i64 s, .bool false, .slice A (n - 1) c, .func (.func 58) #[] #[.pointer (some ⟨nb, 0, none⟩)], .slice B k d], Row 71 3 A (n - 1) c ((L.eraseIdx (posF L x)).flatMap encF), Pt nb 3 [.int .i64 (q - 1)], Row 3 1 B k d (K.flatMap encN)]) := by
  have T1 := askP p m s false A n c (.func (.func 58) #[] #[.pointer (some ⟨nb, 0, none⟩)]) B k d hm
  have T2 := findT p m s false A n c (.func (.func 58) #[] #[.pointer (some ⟨nb, 0, none⟩)]) B k d L x hn h1 hs
  have hi : posF L x < L.length := (has_pos hs hh).1
  rw [hh] at T2
  have TD := fun bd ba => removeDo p m s false A n c (.func (.func 58) #[] #[.pointer (some ⟨nb, 0, none⟩)]) B k d L hn h1 bd ba (posF L x) (by omega)
  have TF := failT nb q (by omega) (by omega)
  rw [decide_eq_false (show ¬ q - 1 < 0 by omega)] at TF
  refine triple_intro Try.tbs_ok Try.func42 rfl [.pt 0 p 0, .va (.string x)] [.box p 53 [.va (.int .i64 m), .va (.int .i64 s), .va (.bool false), .va (.slice A n c), .va (.func (.func 58) #[] #[.pointer (some ⟨nb, 0, none⟩)]), .va (.slice B k d)], .fact (Row 71 3 A n c (L.flatMap encF)), .box nb 3 [.va (.int .i64 q)], .fact (Row 3 1 B k d (K.flatMap encN))] ⟨rfl, trivial, trivial⟩ rfl (by simp [SV.good, SV.goodL]) ?_
  intro E
  refine go Try.tbs_ok 1000 ?_
  refine ev_new fun b0 => ?_
  refine ev_inline Try.tbs_ok Try.func52 rfl rfl ?_
  refine go Try.tbs_ok 1000 ?_
  refine ev_call (T1 ) [0] [] (fun v0_ => [.box (p) 53 [.va (Value.int IntKind.i64 m), .va (Value.int IntKind.i64 s), .bl false, .va (Value.slice A n c), .va (Value.func (Fn.func 58) #[] #[Value.pointer (some { block := nb, off := 0 : Addr })]), .va (Value.slice B k d)]]) rfl rfl (by decide) rfl (by simp) (fun _ => rfl) (fun _ => (newsOk_box (by simp [SV.good, SV.goodL]) (newsOk_nil _))) (fun _ => (by repeat (first | exact trivial | refine ⟨rfl, ?_⟩))) (fun _ h1 => ?_)
  refine go Try.tbs_ok 1000 ?_
  refine ev_if_no rfl ?_
  refine go Try.tbs_ok 1000 ?_
  refine ev_call (T2 ) [0, 1] [] (fun v0_ => [.box (p) 53 [.va (Value.int IntKind.i64 m), .va (Value.int IntKind.i64 s), .bl false, .va (Value.slice A n c), .va (Value.func (Fn.func 58) #[] #[Value.pointer (some { block := nb, off := 0 : Addr })]), .va (Value.slice B k d)], .fact (Row 71 3 A n c (List.flatMap encF L))]) rfl rfl (by decide) rfl (by simp) (fun _ => rfl) (fun _ => (newsOk_box (by simp [SV.good, SV.goodL]) (newsOk_fact (newsOk_nil _)))) (fun _ => (by repeat (first | exact trivial | refine ⟨rfl, ?_⟩))) (fun _ h2 => ?_)
  refine go Try.tbs_ok 1000 ?_
  refine ev_if_no rfl ?_
  refine go Try.tbs_ok 1000 ?_
  refine ev_inline Try.tbs_ok Try.func71 rfl rfl ?_
  refine go Try.tbs_ok 1000 ?_
  refine ev_new fun b3 => ?_
  refine ev_inline Try.tbs_ok Try.func61 rfl rfl ?_
  refine go Try.tbs_ok 1000 ?_
  refine ev_call (TF ) [2] [] (fun v0_ => [.box (nb) 3 [.va (Value.int IntKind.i64 (q - 1))]]) rfl rfl (by decide) rfl (by simp) (fun _ => rfl) (fun _ => (newsOk_box (by simp [SV.good, SV.goodL]) (newsOk_nil _))) (fun _ => (by repeat (first | exact trivial | refine ⟨rfl, ?_⟩))) (fun _ h4 => ?_)
  refine go Try.tbs_ok 1000 ?_
  refine ev_if_yes rfl ?_
  refine go Try.tbs_ok 1000 ?_
  refine ev_call (TD (b0) (b3)) [0, 1, 4, 5] [] (fun v0_ => [.box (p) 53 [.va (Value.int IntKind.i64 m), .va (Value.int IntKind.i64 s), .bl false, .va (Value.slice A (n - 1) c), .va (Value.func (Fn.func 58) #[] #[Value.pointer (some { block := nb, off := 0 : Addr })]), .va (Value.slice B k d)], .fact (Row 71 3 A (n - 1) c (List.flatMap encF (L.eraseIdx (posF L x)))), .box (b0) 25 [.va (Value.pointer (some { block := p, off := 0 : Addr }))], .box (b3) 3 [.va (Value.int IntKind.i64 (↑(posF L x) : Int))]]) rfl rfl (by decide) rfl (by simp) (fun _ => rfl) (fun _ => (newsOk_box (by simp [SV.good, SV.goodL]) (newsOk_fact (newsOk_box (by simp [SV.good, SV.goodL]) (newsOk_box (by simp [SV.good, SV.goodL]) (newsOk_nil _)))))) (fun _ => (by repeat (first | exact trivial | refine ⟨rfl, ?_⟩))) (fun _ h5 => ?_)
  refine go Try.tbs_ok 1000 ?_
  refine ev_if_no rfl ?_
  refine go Try.tbs_ok 1000 ?_
  refine ev_fin ⟨trivial, (by repeat (first | exact trivial | refine ⟨rfl, ?_⟩)), _, rfl, ?_⟩
  refine go Try.tbs_ok 1000 ?_
  refine ev_fin ⟨trivial, (by repeat (first | exact trivial | refine ⟨rfl, ?_⟩)), _, rfl, ?_⟩
  refine go Try.tbs_ok 1000 ?_
  refine ev_fin ⟨trivial, (by repeat (first | exact trivial | refine ⟨rfl, ?_⟩)), _, rfl, ?_⟩
  refine go Try.tbs_ok 1000 ?_
  refine ev_fin ⟨trivial, _, rfl, (()), rfl, (by trivial), Frm.sel [0, 1, 2, 3] rfl (by decide)⟩
set_option maxRecDepth 100000 in
theorem removeS (p : Nat) (m s : Int) (A : Option Addr) (n c : Nat) (B : Option Addr) (k d : Nat) (L : List Fl) (hn : n = L.length) (h1 : n ≤ 1000) (x : ByteArray) (hh : hasF L x = true) (hi' : posF L x < L.length) (hF : okF L) (hm : 0 < m) (hs : riseF L) (nb : Nat) (q : Int) (K : List Int) (hq : q = 0) (hk : k = K.length) : Triple Try.prog 42 [.pointer (some ⟨p, 0, none⟩), .string x] [Pt p 53 [.int .i64 m, .int .i64 s, .bool false, .slice A n c, .func (.func 58) #[] #[.pointer (some ⟨nb, 0, none⟩)], .slice B k d], Row 71 3 A n c (L.flatMap encF), Pt nb 3 [.int .i64 q], Row 3 1 B k d (K.flatMap encN)] [] (Unit) (fun _ => .int .i64 41) (fun _ => True) (fun _ => [Pt p 53 [.int .i64 m, .int .i64 s, .bool true, .slice A n c, .nilFunc, .slice B k d], Row 71 3 A n c ((crashF L K).flatMap encF), Pt nb 3 [.int .i64 (q - 1)], Row 3 1 B k d (K.flatMap encN)]) := by
  have T1 := askP p m s false A n c (.func (.func 58) #[] #[.pointer (some ⟨nb, 0, none⟩)]) B k d hm
  have T2 := findT p m s false A n c (.func (.func 58) #[] #[.pointer (some ⟨nb, 0, none⟩)]) B k d L x hn h1 hs
  have hi : posF L x < L.length := (has_pos hs hh).1
  rw [hh] at T2
  have TD := fun bd ba => removeDo p m s false A n c (.func (.func 58) #[] #[.pointer (some ⟨nb, 0, none⟩)]) B k d L hn h1 bd ba (posF L x) (by omega)
  have TC := (crashT p m s A (n) c (.func (.func 58) #[] #[.pointer (some ⟨nb, 0, none⟩)]) B k d (L) B k d K hm hn h1 hk hF).reads (N' := [Row 3 1 B k d (K.flatMap encN)]) (fun X hX => ⟨_, List.mem_cons_self, fun _ q => by rw [List.mem_singleton.1 hX]; exact Row.rd q⟩)
  have TF := failT nb q (by omega) (by omega)
  rw [decide_eq_true (show q - 1 < 0 by omega)] at TF
  refine triple_intro Try.tbs_ok Try.func42 rfl [.pt 0 p 0, .va (.string x)] [.box p 53 [.va (.int .i64 m), .va (.int .i64 s), .va (.bool false), .va (.slice A n c), .va (.func (.func 58) #[] #[.pointer (some ⟨nb, 0, none⟩)]), .va (.slice B k d)], .fact (Row 71 3 A n c (L.flatMap encF)), .box nb 3 [.va (.int .i64 q)], .fact (Row 3 1 B k d (K.flatMap encN))] ⟨rfl, trivial, trivial⟩ rfl (by simp [SV.good, SV.goodL]) ?_
  intro E
  refine go Try.tbs_ok 1000 ?_
  refine ev_new fun b0 => ?_
  refine ev_inline Try.tbs_ok Try.func52 rfl rfl ?_
  refine go Try.tbs_ok 1000 ?_
  refine ev_call (T1 ) [0] [] (fun v0_ => [.box (p) 53 [.va (Value.int IntKind.i64 m), .va (Value.int IntKind.i64 s), .bl false, .va (Value.slice A n c), .va (Value.func (Fn.func 58) #[] #[Value.pointer (some { block := nb, off := 0 : Addr })]), .va (Value.slice B k d)]]) rfl rfl (by decide) rfl (by simp) (fun _ => rfl) (fun _ => (newsOk_box (by simp [SV.good, SV.goodL]) (newsOk_nil _))) (fun _ => (by repeat (first | exact trivial | refine ⟨rfl, ?_⟩))) (fun _ h1 => ?_)
  refine go Try.tbs_ok 1000 ?_
  refine ev_if_no rfl ?_
  refine go Try.tbs_ok 1000 ?_
  refine ev_call (T2 ) [0, 1] [] (fun v0_ => [.box (p) 53 [.va (Value.int IntKind.i64 m), .va (Value.int IntKind.i64 s), .bl false, .va (Value.slice A n c), .va (Value.func (Fn.func 58) #[] #[Value.pointer (some { block := nb, off := 0 : Addr })]), .va (Value.slice B k d)], .fact (Row 71 3 A n c (List.flatMap encF L))]) rfl rfl (by decide) rfl (by simp) (fun _ => rfl) (fun _ => (newsOk_box (by simp [SV.good, SV.goodL]) (newsOk_fact (newsOk_nil _)))) (fun _ => (by repeat (first | exact trivial | refine ⟨rfl, ?_⟩))) (fun _ h2 => ?_)
  refine go Try.tbs_ok 1000 ?_
  refine ev_if_no rfl ?_
  refine go Try.tbs_ok 1000 ?_
  refine ev_inline Try.tbs_ok Try.func71 rfl rfl ?_
  refine go Try.tbs_ok 1000 ?_
  refine ev_new fun b3 => ?_
  refine ev_inline Try.tbs_ok Try.func61 rfl rfl ?_
  refine go Try.tbs_ok 1000 ?_
  refine ev_call (TF ) [2] [] (fun v0_ => [.box (nb) 3 [.va (Value.int IntKind.i64 (q - 1))]]) rfl rfl (by decide) rfl (by simp) (fun _ => rfl) (fun _ => (newsOk_box (by simp [SV.good, SV.goodL]) (newsOk_nil _))) (fun _ => (by repeat (first | exact trivial | refine ⟨rfl, ?_⟩))) (fun _ h4 => ?_)
  refine go Try.tbs_ok 1000 ?_
  refine ev_if_no rfl ?_
  refine go Try.tbs_ok 1000 ?_
  refine ev_if_yes rfl ?_
  refine go Try.tbs_ok 1000 ?_
  refine ev_call (TC ) [0, 1] [.inr 3] (fun v0_ => [.box (p) 53 [.va (Value.int IntKind.i64 m), .va (Value.int IntKind.i64 s), .bl true, .va (Value.slice A n c), .va (Value.nilFunc), .va (Value.slice B k d)], .fact (Row 71 3 A n c (List.flatMap encF (crashF L K)))]) rfl rfl (by decide) rfl (by simp) (fun _ => rfl) (fun _ => (newsOk_box (by simp [SV.good, SV.goodL]) (newsOk_fact (newsOk_nil _)))) (fun _ => (by repeat (first | exact trivial | refine ⟨rfl, ?_⟩))) (fun _ h5 => ?_)
  refine go Try.tbs_ok 1000 ?_
  refine ev_fin ⟨trivial, (by repeat (first | exact trivial | refine ⟨rfl, ?_⟩)), _, rfl, ?_⟩
  refine go Try.tbs_ok 1000 ?_
  refine ev_fin ⟨trivial, (by repeat (first | exact trivial | refine ⟨rfl, ?_⟩)), _, rfl, ?_⟩
  refine go Try.tbs_ok 1000 ?_
  refine ev_fin ⟨trivial, (by repeat (first | exact trivial | refine ⟨rfl, ?_⟩)), _, rfl, ?_⟩
  refine go Try.tbs_ok 1000 ?_
  refine ev_fin ⟨trivial, _, rfl, (()), rfl, (by trivial), Frm.sel [0, 1, 2, 3] rfl (by decide)⟩
end Go.Proofs.Ythknokcgclcbmaa
