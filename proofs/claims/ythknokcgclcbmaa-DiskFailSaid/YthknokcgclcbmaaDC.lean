/-
  What is proved: what is asked of a disk. Conditions: none.
-/
import Derived.Test.YthknokcgclcbmaaDB
namespace Go.Proofs.Ythknokcgclcbmaa
open Go.Sy

set_option maxRecDepth 100000 in
theorem there0  : Triple Try.prog 55 [.pointer none] [] [] (Unit) (fun _ => .bool false) (fun _ => True) (fun _ => []) := by
  refine triple_intro Try.tbs_ok Try.func55 rfl [.va (.pointer none)] [] ⟨trivial, trivial⟩ rfl (by simp []) ?_
  intro E
  refine go Try.tbs_ok 1000 ?_
  refine ev_fin ⟨trivial, _, rfl, (()), rfl, (by trivial), Frm.nil _⟩
set_option maxRecDepth 100000 in
theorem thereP (p : Nat) (m s : Int) (dn : Bool) (A : Option Addr) (n c : Nat) (fv : Value) (B : Option Addr) (k d : Nat) : Triple Try.prog 55 [.pointer (some ⟨p, 0, none⟩)] [Pt p 53 [.int .i64 m, .int .i64 s, .bool dn, .slice A n c, fv, .slice B k d]] [] (Unit) (fun _ => .bool (decide (m > 0))) (fun _ => True) (fun _ => [Pt p 53 [.int .i64 m, .int .i64 s, .bool dn, .slice A n c, fv, .slice B k d]]) := by
  refine triple_intro Try.tbs_ok Try.func55 rfl [.pt 0 p 0] [.box p 53 [.va (.int .i64 m), .va (.int .i64 s), .va (.bool dn), .va (.slice A n c), .va fv, .va (.slice B k d)]] ⟨rfl, trivial⟩ rfl (by simp [SV.good, SV.goodL]) ?_
  intro E
  refine go Try.tbs_ok 1000 ?_
  refine ev_fin ⟨trivial, _, rfl, (()), rfl, (by trivial), Frm.sel [0] rfl (by decide)⟩
theorem thereT (p : Nat) (m s : Int) (dn : Bool) (A : Option Addr) (n c : Nat) (fv : Value) (B : Option Addr) (k d : Nat) (hm : 0 < m) : Triple Try.prog 55 [.pointer (some ⟨p, 0, none⟩)] [Pt p 53 [.int .i64 m, .int .i64 s, .bool dn, .slice A n c, fv, .slice B k d]] [] Unit (fun _ => .bool true) (fun _ => True) (fun _ => [Pt p 53 [.int .i64 m, .int .i64 s, .bool dn, .slice A n c, fv, .slice B k d]]) := by
  have := thereP p m s dn A n c fv B k d
  rwa [decide_eq_true (show m > 0 by omega)] at this
theorem thereF (p : Nat) (m s : Int) (dn : Bool) (A : Option Addr) (n c : Nat) (fv : Value) (B : Option Addr) (k d : Nat) (hm : m = 0) : Triple Try.prog 55 [.pointer (some ⟨p, 0, none⟩)] [Pt p 53 [.int .i64 m, .int .i64 s, .bool dn, .slice A n c, fv, .slice B k d]] [] Unit (fun _ => .bool false) (fun _ => True) (fun _ => [Pt p 53 [.int .i64 m, .int .i64 s, .bool dn, .slice A n c, fv, .slice B k d]]) := by
  have := thereP p m s dn A n c fv B k d
  rwa [decide_eq_false (show ¬ m > 0 by omega)] at this
set_option maxRecDepth 100000 in
theorem ask0  : Triple Try.prog 56 [.pointer none] [] [] (Unit) (fun _ => .int .i64 1) (fun _ => True) (fun _ => []) := by
  refine triple_intro Try.tbs_ok Try.func56 rfl [.va (.pointer none)] [] ⟨trivial, trivial⟩ rfl (by simp []) ?_
  intro E
  refine go Try.tbs_ok 1000 ?_
  refine ev_callF (there0 ) [] [] rfl rfl (by decide) rfl (by simp) (fun _ => (by repeat (first | exact trivial | refine ⟨rfl, ?_⟩))) (fun _ h0 => ?_)
  refine go Try.tbs_ok 1000 ?_
  refine ev_if_yes rfl ?_
  refine go Try.tbs_ok 1000 ?_
  refine ev_fin ⟨trivial, _, rfl, (()), rfl, (by trivial), Frm.nil _⟩
set_option maxRecDepth 100000 in
theorem askN (p : Nat) (m s : Int) (dn : Bool) (A : Option Addr) (n c : Nat) (fv : Value) (B : Option Addr) (k d : Nat) (hm : m = 0) : Triple Try.prog 56 [.pointer (some ⟨p, 0, none⟩)] [Pt p 53 [.int .i64 m, .int .i64 s, .bool dn, .slice A n c, fv, .slice B k d]] [] (Unit) (fun _ => .int .i64 1) (fun _ => True) (fun _ => [Pt p 53 [.int .i64 m, .int .i64 s, .bool dn, .slice A n c, fv, .slice B k d]]) := by
  have T1 := thereF p m s dn A n c fv B k d hm
  refine triple_intro Try.tbs_ok Try.func56 rfl [.pt 0 p 0] [.box p 53 [.va (.int .i64 m), .va (.int .i64 s), .va (.bool dn), .va (.slice A n c), .va fv, .va (.slice B k d)]] ⟨rfl, trivial⟩ rfl (by simp [SV.good, SV.goodL]) ?_
  intro E
  refine go Try.tbs_ok 1000 ?_
  refine ev_call (T1 ) [0] [] (fun v0_ => [.box (p) 53 [.va (Value.int IntKind.i64 m), .va (Value.int IntKind.i64 s), .bq (dn), .va (Value.slice A n c), .va (fv), .va (Value.slice B k d)]]) rfl rfl (by decide) rfl (by simp) (fun _ => rfl) (fun _ => (newsOk_box (by simp [SV.good, SV.goodL]) (newsOk_nil _))) (fun _ => (by repeat (first | exact trivial | refine ⟨rfl, ?_⟩))) (fun _ h0 => ?_)
  refine go Try.tbs_ok 1000 ?_
  refine ev_if_yes rfl ?_
  refine go Try.tbs_ok 1000 ?_
  refine ev_fin ⟨trivial, _, rfl, (()), rfl, (by trivial), Frm.sel [0] rfl (by decide)⟩
set_option maxRecDepth 100000 in
theorem askP (p : Nat) (m s : Int) (dn : Bool) (A : Option Addr) (n c : Nat) (fv : Value) (B : Option Addr) (k d : Nat) (hm : 0 < m) : Triple Try.prog 56 [.pointer (some ⟨p, 0, none⟩)] [Pt p 53 [.int .i64 m, .int .i64 s, .bool dn, .slice A n c, fv, .slice B k d]] [] (Unit) (fun _ => .int .i64 (if dn then 41 else 0)) (fun _ => True) (fun _ => [Pt p 53 [.int .i64 m, .int .i64 s, .bool dn, .slice A n c, fv, .slice B k d]]) := by
  have T1 := thereT p m s dn A n c fv B k d hm
  refine triple_intro Try.tbs_ok Try.func56 rfl [.pt 0 p 0] [.box p 53 [.va (.int .i64 m), .va (.int .i64 s), .va (.bool dn), .va (.slice A n c), .va fv, .va (.slice B k d)]] ⟨rfl, trivial⟩ rfl (by simp [SV.good, SV.goodL]) ?_
  intro E
  cases dn
  · refine go Try.tbs_ok 1000 ?_
    refine ev_call (T1 ) [0] [] (fun v0_ => [.box (p) 53 [.va (Value.int IntKind.i64 m), .va (Value.int IntKind.i64 s), .bl false, .va (Value.slice A n c), .va (fv), .va (Value.slice B k d)]]) rfl rfl (by decide) rfl (by simp) (fun _ => rfl) (fun _ => (newsOk_box (by simp [SV.good, SV.goodL]) (newsOk_nil _))) (fun _ => (by repeat (first | exact trivial | refine ⟨rfl, ?_⟩))) (fun _ h0 => ?_)
    refine go Try.tbs_ok 1000 ?_
    refine ev_if_no rfl ?_
    refine go Try.tbs_ok 1000 ?_
    refine ev_fin ⟨trivial, _, rfl, (()), rfl, (by trivial), Frm.sel [0] rfl (by decide)⟩
  · refine go Try.tbs_ok 1000 ?_
    refine ev_call (T1 ) [0] [] (fun v0_ => [.box (p) 53 [.va (Value.int IntKind.i64 m), .va (Value.int IntKind.i64 s), .bl true, .va (Value.slice A n c), .va (fv), .va (Value.slice B k d)]]) rfl rfl (by decide) rfl (by simp) (fun _ => rfl) (fun _ => (newsOk_box (by simp [SV.good, SV.goodL]) (newsOk_nil _))) (fun _ => (by repeat (first | exact trivial | refine ⟨rfl, ?_⟩))) (fun _ h0 => ?_)
    refine go Try.tbs_ok 1000 ?_
    refine ev_if_no rfl ?_
    refine go Try.tbs_ok 1000 ?_
    refine ev_fin ⟨trivial, _, rfl, (()), rfl, (by trivial), Frm.sel [0] rfl (by decide)⟩
theorem empty_iff {x : ByteArray} : x.size = 0 ↔ x = ⟨#[]⟩ := by
  obtain ⟨a⟩ := x
  rw [ByteArray.mk.injEq]
  exact Array.size_eq_zero_iff
def oddS (x : ByteArray) : Bool := decide (x.size = 0) || decide (16 < x.size)
set_option maxRecDepth 100000 in
theorem oddT (x : ByteArray) : Triple Try.prog 60 [.string x] [] [] (Unit) (fun _ => .bool (oddS x)) (fun _ => True) (fun _ => []) := by
  refine triple_intro Try.tbs_ok Try.func60 rfl [.va (.string x)] [] ⟨trivial, trivial⟩ rfl (by simp []) ?_
  intro E
  refine go Try.tbs_ok 1000 ?_
  refine ev_if_lt (fun h0 => ?_) (fun h0 => ?_)
  refine go Try.tbs_ok 1000 ?_
  refine ev_fin ⟨trivial, _, rfl, (()), ?_, (by trivial), Frm.nil _⟩
  rotate_left
  refine go Try.tbs_ok 1000 ?_
  refine ev_fin ⟨trivial, _, rfl, (()), ?_, (by trivial), Frm.nil _⟩
  rotate_left
  · rw [h0]
    rfl
  · refine congrArg Value.bool ?_
    have h1 : x.size ≠ 0 := fun e => h0 (empty_iff.1 e)
    unfold oddS
    rw [decide_eq_false h1, Bool.false_or, decide_eq_decide]
    omega
set_option maxRecDepth 100000 in
theorem findT (p : Nat) (m s : Int) (dn : Bool) (A : Option Addr) (n c : Nat) (fv : Value) (B : Option Addr) (k d : Nat) (L : List Fl) (x : ByteArray) (hn : n = L.length) (h1 : n ≤ 1000) (hs : riseF L) : Triple Try.prog 59 [.pointer (some ⟨p, 0, none⟩), .string x] [Pt p 53 [.int .i64 m, .int .i64 s, .bool dn, .slice A n c, fv, .slice B k d], Row 71 3 A n c (L.flatMap encF)] [] (Unit) (fun _ => .tuple #[.int .i64 (posF L x : Nat), .bool (hasF L x)]) (fun _ => True) (fun _ => [Pt p 53 [.int .i64 m, .int .i64 s, .bool dn, .slice A n c, fv, .slice B k d], Row 71 3 A n c (L.flatMap encF)]) := by
  have T1 := (searchF A L n c x hn h1 hs).ofRow 71 c
  refine triple_intro Try.tbs_ok Try.func59 rfl [.pt 0 p 0, .va (.string x)] [.box p 53 [.va (.int .i64 m), .va (.int .i64 s), .va (.bool dn), .va (.slice A n c), .va fv, .va (.slice B k d)], .fact (Row 71 3 A n c (L.flatMap encF))] ⟨rfl, trivial, trivial⟩ rfl (by simp [SV.good, SV.goodL]) ?_
  intro E
  refine go Try.tbs_ok 1000 ?_
  refine ev_callF (T1 ) [] [.inr 1] rfl rfl (by decide) rfl (by simp) (fun _ => (by repeat (first | exact trivial | refine ⟨rfl, ?_⟩))) (fun _ h0 => ?_)
  refine go Try.tbs_ok 1000 ?_
  refine ev_fin ⟨trivial, _, rfl, (()), rfl, (by trivial), Frm.sel [0, 1] rfl (by decide)⟩
set_option maxRecDepth 100000 in
theorem sizeE1 (f : Fl) : Triple Try.prog 37 [.agg #[.string f.n, .string f.d, .int .i64 f.s]] [] [] (Unit) (fun _ => .int .i64 (f.d.size : Nat)) (fun _ => True) (fun _ => []) := by
  refine triple_intro Try.tbs_ok Try.func37 rfl [.ag [.va (.string f.n), .va (.string f.d), .va (.int .i64 f.s)]] [] ⟨by simp [SV.good, SV.goodL], trivial⟩ rfl (by simp []) ?_
  intro E
  refine go Try.tbs_ok 1000 ?_
  refine ev_new fun b0 => ?_
  refine ev_fin ⟨trivial, _, rfl, (()), rfl, (by trivial), Frm.nil _⟩
def sizeEG (f : Fl) : Int := (f.d.size : Int)
set_option maxRecDepth 100000 in
theorem sizeE (p : Nat) (m s : Int) (dn : Bool) (A : Option Addr) (n c : Nat) (fv : Value) (B : Option Addr) (k d : Nat) (L : List Fl) (hm : 0 < m) (hn : n = L.length) (h1 : n ≤ 1000) : Triple Try.prog 36 [.pointer (some ⟨p, 0, none⟩), .func (.func 37) #[] #[]] [Pt p 53 [.int .i64 m, .int .i64 s, .bool dn, .slice A n c, fv, .slice B k d], Row 71 3 A n c (L.flatMap encF)] [] (Option Addr × Nat) (fun (C, e) => .slice C n e) (fun _ => True) (fun (C, e) => [Pt p 53 [.int .i64 m, .int .i64 s, .bool dn, .slice A n c, fv, .slice B k d], Row 71 3 A n c (L.flatMap encF), Row 3 1 C n e ((L.map sizeEG).flatMap encN)]) := by
  have T1 := thereT p m s dn A n c fv B k d hm
  refine triple_intro Try.tbs_ok Try.func36 rfl [.pt 0 p 0, .va (.func (.func 37) #[] #[])] [.box p 53 [.va (.int .i64 m), .va (.int .i64 s), .va (.bool dn), .va (.slice A n c), .va fv, .va (.slice B k d)], .fact (Row 71 3 A n c (L.flatMap encF))] ⟨rfl, trivial, trivial⟩ rfl (by simp [SV.good, SV.goodL]) ?_
  intro E
  refine go Try.tbs_ok 1000 ?_
  refine ev_call (T1 ) [0] [] (fun v0_ => [.box (p) 53 [.va (Value.int IntKind.i64 m), .va (Value.int IntKind.i64 s), .bq (dn), .va (Value.slice A n c), .va (fv), .va (Value.slice B k d)]]) rfl rfl (by decide) rfl (by simp) (fun _ => rfl) (fun _ => (newsOk_box (by simp [SV.good, SV.goodL]) (newsOk_nil _))) (fun _ => (by repeat (first | exact trivial | refine ⟨rfl, ?_⟩))) (fun _ h0 => ?_)
  refine go Try.tbs_ok 1000 ?_
  refine ev_if_no rfl ?_
  refine go Try.tbs_ok 1000 ?_
  refine ev_stop (go_fact (Row 3 1 none 0 0 (([] : List Int).flatMap encN)) (Row.nilE _ _) ?_)
  refine go Try.tbs_ok 1000 ?_
  refine ev_stop (go_loopR [5, 7, 16, 17, 18, 19, 20, 21, 22, 23, 24, 25, 26] (fun (j, C, q, e, _) => [(5, .va (.slice C q e)), (16, .va (.int .i64 (j : Nat)))]) (fun (_, C, q, e, M) => [(2, .fact (Row 3 1 C q e (M.flatMap encN)))]) (fun (j, _, q, _, M) => j ≤ n ∧ q = M.length ∧ q = j ∧ M = (L.take j).map sizeEG) (fun (j, _, _, _, _) => n - j) ((0, none, 0, 0, []) : Nat × Option Addr × Nat × Nat × List Int) ⟨Nat.zero_le _, rfl, rfl, rfl⟩ ⟨⟨by kernel_rfl, by kernel_rfl⟩, ⟨_, rfl⟩, ⟨_, rfl⟩, by kernel_rfl, by kernel_rfl⟩ (fun x_ h_ => ?_))
  obtain ⟨j, C, q, e, M⟩ := x_
  obtain ⟨hj, hq, hqj, hM⟩ := h_
  refine go Try.tbs_ok 1000 ?_
  refine ev_if_lt (fun hlt => ?_) (fun hge => ?_)
  · have hjn : j < L.length := by
      have : (j : Int) < (n : Int) := hlt
      omega
    have T2 := sizeE1 L[j]
    refine go Try.tbs_ok 1000 ?_
    refine ev_stop (go_index0 (sz := 3) Try.tbs_ok (.inr 1) (j) rfl rfl rfl rfl rfl rfl (by omega) rfl Row.at0 (fun g40 e41 => ?_))
    subst e41
    refine go Try.tbs_ok 1000 ?_
    have l42 : j < (L).length := (by omega)
    refine ev_stop (go_loadE Try.tbs_ok (.inr 1) (j) 0 rfl rfl rfl rfl (fun _ h => Row.rd h) (by omega) (fun _ => rfl) (by omega) l42 (by decide) ?_)
    refine go Try.tbs_ok 1000 ?_
    refine ev_new fun b43 => ?_
    refine ev_callF (T2 ) [] [] rfl rfl (by decide) rfl (by simp) (fun _ => (by repeat (first | exact trivial | refine ⟨rfl, ?_⟩))) (fun _ h44 => ?_)
    refine go Try.tbs_ok 1000 ?_
    refine ev_new fun b45 => ?_
    refine ev_stop (go_appendE (sz := 1) (M := [_]) (enc := encN) Try.tbs_ok [2] [] (.inr 4) (M) ([(↑L[j].d.size : Int)]) ((M) ++ ([(↑L[j].d.size : Int)])) (q + 1) rfl rfl rfl rfl rfl rfl rfl (by decide) rfl (by decide) (fun _ p => starH_one.1 p) rfl (fun _ p => Pt.rd p rfl) (by first | rfl | simp) (by first | rfl | omega) (le_app (s := q + 1) (by omega) (by first | rfl | omega)) (le_appb (s := q + 1) (by omega) (by first | rfl | omega) (by decide)) (fun _ _ => (by repeat (first | exact trivial | refine ⟨rfl, ?_⟩))) (fun A46 c47 h48 => ?_))
    refine go Try.tbs_ok 1000 ?_
    refine ev_wrapN (j + 1) (by constructor <;> omega) (by rfl) ?_
    refine ev_fin (round_next ((j + 1, A46, q + 1, c47, M ++ [(↑L[j].d.size : Int)])) (?_ : j + 1 ≤ n ∧ q + 1 = (M ++ [(↑L[j].d.size : Int)]).length ∧ q + 1 = j + 1 ∧ M ++ [(↑L[j].d.size : Int)] = List.map sizeEG (List.take (j + 1) L)) (show n - (j + 1) < n - j from (by omega)) ⟨⟨by kernel_rfl, by kernel_rfl⟩, ⟨_, rfl⟩, ⟨_, rfl⟩, by kernel_rfl, by kernel_rfl⟩)
    refine ⟨by omega, by rw [List.length_append, ← hq]; rfl, by omega, ?_⟩
    rw [hM, ← List.take_append_getElem hjn, List.map_append]
    rfl
  · obtain rfl : j = n := by
      have : ¬ (j : Int) < (n : Int) := hge
      omega
    obtain rfl := hqj
    rw [List.take_of_length_le (by omega)] at hM
    subst hM
    refine go Try.tbs_ok 1000 ?_
    refine ev_fin (go Try.tbs_ok 1000 ?_)
    refine ev_fin ⟨trivial, _, rfl, ((C, e)), rfl, (by trivial), Frm.sel [0, 1, 2] rfl (by decide)⟩
set_option maxRecDepth 100000 in
theorem nameE1 (f : Fl) : Triple Try.prog 39 [.agg #[.string f.n, .string f.d, .int .i64 f.s]] [] [] (Unit) (fun _ => .string f.n) (fun _ => True) (fun _ => []) := by
  refine triple_intro Try.tbs_ok Try.func39 rfl [.ag [.va (.string f.n), .va (.string f.d), .va (.int .i64 f.s)]] [] ⟨by simp [SV.good, SV.goodL], trivial⟩ rfl (by simp []) ?_
  intro E
  refine go Try.tbs_ok 1000 ?_
  refine ev_new fun b0 => ?_
  refine ev_fin ⟨trivial, _, rfl, (()), rfl, (by trivial), Frm.nil _⟩
def nameEG (f : Fl) : ByteArray := f.n
set_option maxRecDepth 100000 in
theorem nameE (p : Nat) (m s : Int) (dn : Bool) (A : Option Addr) (n c : Nat) (fv : Value) (B : Option Addr) (k d : Nat) (L : List Fl) (hm : 0 < m) (hn : n = L.length) (h1 : n ≤ 1000) : Triple Try.prog 38 [.pointer (some ⟨p, 0, none⟩), .func (.func 39) #[] #[]] [Pt p 53 [.int .i64 m, .int .i64 s, .bool dn, .slice A n c, fv, .slice B k d], Row 71 3 A n c (L.flatMap encF)] [] (Option Addr × Nat) (fun (C, e) => .slice C n e) (fun _ => True) (fun (C, e) => [Pt p 53 [.int .i64 m, .int .i64 s, .bool dn, .slice A n c, fv, .slice B k d], Row 71 3 A n c (L.flatMap encF), Row 9 1 C n e ((L.map nameEG).flatMap encS)]) := by
  have T1 := thereT p m s dn A n c fv B k d hm
  refine triple_intro Try.tbs_ok Try.func38 rfl [.pt 0 p 0, .va (.func (.func 39) #[] #[])] [.box p 53 [.va (.int .i64 m), .va (.int .i64 s), .va (.bool dn), .va (.slice A n c), .va fv, .va (.slice B k d)], .fact (Row 71 3 A n c (L.flatMap encF))] ⟨rfl, trivial, trivial⟩ rfl (by simp [SV.good, SV.goodL]) ?_
  intro E
  refine go Try.tbs_ok 1000 ?_
  refine ev_call (T1 ) [0] [] (fun v0_ => [.box (p) 53 [.va (Value.int IntKind.i64 m), .va (Value.int IntKind.i64 s), .bq (dn), .va (Value.slice A n c), .va (fv), .va (Value.slice B k d)]]) rfl rfl (by decide) rfl (by simp) (fun _ => rfl) (fun _ => (newsOk_box (by simp [SV.good, SV.goodL]) (newsOk_nil _))) (fun _ => (by repeat (first | exact trivial | refine ⟨rfl, ?_⟩))) (fun _ h0 => ?_)
  refine go Try.tbs_ok 1000 ?_
  refine ev_if_no rfl ?_
  refine go Try.tbs_ok 1000 ?_
  refine ev_stop (go_fact (Row 9 1 none 0 0 (([] : List ByteArray).flatMap encS)) (Row.nilE _ _) ?_)
  refine go Try.tbs_ok 1000 ?_
  refine ev_stop (go_loopR [5, 7, 16, 17, 18, 19, 20, 21, 22, 23, 24, 25, 26] (fun (j, C, q, e, _) => [(5, .va (.slice C q e)), (16, .va (.int .i64 (j : Nat)))]) (fun (_, C, q, e, M) => [(2, .fact (Row 9 1 C q e (M.flatMap encS)))]) (fun (j, _, q, _, M) => j ≤ n ∧ q = M.length ∧ q = j ∧ M = (L.take j).map nameEG) (fun (j, _, _, _, _) => n - j) ((0, none, 0, 0, []) : Nat × Option Addr × Nat × Nat × List ByteArray) ⟨Nat.zero_le _, rfl, rfl, rfl⟩ ⟨⟨by kernel_rfl, by kernel_rfl⟩, ⟨_, rfl⟩, ⟨_, rfl⟩, by kernel_rfl, by kernel_rfl⟩ (fun x_ h_ => ?_))
  obtain ⟨j, C, q, e, M⟩ := x_
  obtain ⟨hj, hq, hqj, hM⟩ := h_
  refine go Try.tbs_ok 1000 ?_
  refine ev_if_lt (fun hlt => ?_) (fun hge => ?_)
  · have hjn : j < L.length := by
      have : (j : Int) < (n : Int) := hlt
      omega
    have T2 := nameE1 L[j]
    refine go Try.tbs_ok 1000 ?_
    refine ev_stop (go_index0 (sz := 3) Try.tbs_ok (.inr 1) (j) rfl rfl rfl rfl rfl rfl (by omega) rfl Row.at0 (fun g40 e41 => ?_))
    subst e41
    refine go Try.tbs_ok 1000 ?_
    have l42 : j < (L).length := (by omega)
    refine ev_stop (go_loadE Try.tbs_ok (.inr 1) (j) 0 rfl rfl rfl rfl (fun _ h => Row.rd h) (by omega) (fun _ => rfl) (by omega) l42 (by decide) ?_)
    refine go Try.tbs_ok 1000 ?_
    refine ev_new fun b43 => ?_
    refine ev_callF (T2 ) [] [] rfl rfl (by decide) rfl (by simp) (fun _ => (by repeat (first | exact trivial | refine ⟨rfl, ?_⟩))) (fun _ h44 => ?_)
    refine go Try.tbs_ok 1000 ?_
    refine ev_new fun b45 => ?_
    refine ev_stop (go_appendE (sz := 1) (M := [_]) (enc := encS) Try.tbs_ok [2] [] (.inr 4) (M) ([L[j].n]) ((M) ++ ([L[j].n])) (q + 1) rfl rfl rfl rfl rfl rfl rfl (by decide) rfl (by decide) (fun _ p => starH_one.1 p) rfl (fun _ p => Pt.rd p rfl) (by first | rfl | simp) (by first | rfl | omega) (le_app (s := q + 1) (by omega) (by first | rfl | omega)) (le_appb (s := q + 1) (by omega) (by first | rfl | omega) (by decide)) (fun _ _ => (by repeat (first | exact trivial | refine ⟨rfl, ?_⟩))) (fun A46 c47 h48 => ?_))
    refine go Try.tbs_ok 1000 ?_
    refine ev_wrapN (j + 1) (by constructor <;> omega) (by rfl) ?_
    refine ev_fin (round_next ((j + 1, A46, q + 1, c47, M ++ [L[j].n])) (?_ : j + 1 ≤ n ∧ q + 1 = (M ++ [L[j].n]).length ∧ q + 1 = j + 1 ∧ M ++ [L[j].n] = List.map nameEG (List.take (j + 1) L)) (show n - (j + 1) < n - j from (by omega)) ⟨⟨by kernel_rfl, by kernel_rfl⟩, ⟨_, rfl⟩, ⟨_, rfl⟩, by kernel_rfl, by kernel_rfl⟩)
    refine ⟨by omega, by rw [List.length_append, ← hq]; rfl, by omega, ?_⟩
    rw [hM, ← List.take_append_getElem hjn, List.map_append]
    rfl
  · obtain rfl : j = n := by
      have : ¬ (j : Int) < (n : Int) := hge
      omega
    obtain rfl := hqj
    rw [List.take_of_length_le (by omega)] at hM
    subst hM
    refine go Try.tbs_ok 1000 ?_
    refine ev_fin (go Try.tbs_ok 1000 ?_)
    refine ev_fin ⟨trivial, _, rfl, ((C, e)), rfl, (by trivial), Frm.sel [0, 1, 2] rfl (by decide)⟩
set_option maxRecDepth 100000 in
theorem leftE1 (f : Fl) (h0 : 0 ≤ f.s) (h1 : f.s ≤ f.d.size) (h2 : f.d.size ≤ 1000000000) : Triple Try.prog 43 [.agg #[.string f.n, .string f.d, .int .i64 f.s]] [] [] (Unit) (fun _ => .int .i64 ((f.d.size : Int) - f.s)) (fun _ => True) (fun _ => []) := by
  refine triple_intro Try.tbs_ok Try.func43 rfl [.ag [.va (.string f.n), .va (.string f.d), .va (.int .i64 f.s)]] [] ⟨by simp [SV.good, SV.goodL], trivial⟩ rfl (by simp []) ?_
  intro E
  refine go Try.tbs_ok 1000 ?_
  refine ev_new fun b0 => ?_
  refine ev_w64 (by constructor <;> omega) ?_
  refine ev_fin ⟨trivial, _, rfl, (()), rfl, (by trivial), Frm.nil _⟩
def leftEG (f : Fl) : Int := (f.d.size : Int) - f.s
set_option maxRecDepth 100000 in
theorem leftE (p : Nat) (m s : Int) (dn : Bool) (A : Option Addr) (n c : Nat) (fv : Value) (B : Option Addr) (k d : Nat) (L : List Fl) (hm : 0 < m) (hn : n = L.length) (h1 : n ≤ 1000) (hL : ∀ f ∈ L, 0 ≤ f.s ∧ f.s ≤ f.d.size ∧ f.d.size ≤ 1000000000) : Triple Try.prog 36 [.pointer (some ⟨p, 0, none⟩), .func (.func 43) #[] #[]] [Pt p 53 [.int .i64 m, .int .i64 s, .bool dn, .slice A n c, fv, .slice B k d], Row 71 3 A n c (L.flatMap encF)] [] (Option Addr × Nat) (fun (C, e) => .slice C n e) (fun _ => True) (fun (C, e) => [Pt p 53 [.int .i64 m, .int .i64 s, .bool dn, .slice A n c, fv, .slice B k d], Row 71 3 A n c (L.flatMap encF), Row 3 1 C n e ((L.map leftEG).flatMap encN)]) := by
  have T1 := thereT p m s dn A n c fv B k d hm
  refine triple_intro Try.tbs_ok Try.func36 rfl [.pt 0 p 0, .va (.func (.func 43) #[] #[])] [.box p 53 [.va (.int .i64 m), .va (.int .i64 s), .va (.bool dn), .va (.slice A n c), .va fv, .va (.slice B k d)], .fact (Row 71 3 A n c (L.flatMap encF))] ⟨rfl, trivial, trivial⟩ rfl (by simp [SV.good, SV.goodL]) ?_
  intro E
  refine go Try.tbs_ok 1000 ?_
  refine ev_call (T1 ) [0] [] (fun v0_ => [.box (p) 53 [.va (Value.int IntKind.i64 m), .va (Value.int IntKind.i64 s), .bq (dn), .va (Value.slice A n c), .va (fv), .va (Value.slice B k d)]]) rfl rfl (by decide) rfl (by simp) (fun _ => rfl) (fun _ => (newsOk_box (by simp [SV.good, SV.goodL]) (newsOk_nil _))) (fun _ => (by repeat (first | exact trivial | refine ⟨rfl, ?_⟩))) (fun _ h0 => ?_)
  refine go Try.tbs_ok 1000 ?_
  refine ev_if_no rfl ?_
  refine go Try.tbs_ok 1000 ?_
  refine ev_stop (go_fact (Row 3 1 none 0 0 (([] : List Int).flatMap encN)) (Row.nilE _ _) ?_)
  refine go Try.tbs_ok 1000 ?_
  refine ev_stop (go_loopR [5, 7, 16, 17, 18, 19, 20, 21, 22, 23, 24, 25, 26] (fun (j, C, q, e, _) => [(5, .va (.slice C q e)), (16, .va (.int .i64 (j : Nat)))]) (fun (_, C, q, e, M) => [(2, .fact (Row 3 1 C q e (M.flatMap encN)))]) (fun (j, _, q, _, M) => j ≤ n ∧ q = M.length ∧ q = j ∧ M = (L.take j).map leftEG) (fun (j, _, _, _, _) => n - j) ((0, none, 0, 0, []) : Nat × Option Addr × Nat × Nat × List Int) ⟨Nat.zero_le _, rfl, rfl, rfl⟩ ⟨⟨by kernel_rfl, by kernel_rfl⟩, ⟨_, rfl⟩, ⟨_, rfl⟩, by kernel_rfl, by kernel_rfl⟩ (fun x_ h_ => ?_))
  obtain ⟨j, C, q, e, M⟩ := x_
  obtain ⟨hj, hq, hqj, hM⟩ := h_
  refine go Try.tbs_ok 1000 ?_
  refine ev_if_lt (fun hlt => ?_) (fun hge => ?_)
  · have hjn : j < L.length := by
      have : (j : Int) < (n : Int) := hlt
      omega
    have T2 := leftE1 L[j] (hL _ (List.getElem_mem hjn)).1 (hL _ (List.getElem_mem hjn)).2.1 (hL _ (List.getElem_mem hjn)).2.2
    refine go Try.tbs_ok 1000 ?_
    refine ev_stop (go_index0 (sz := 3) Try.tbs_ok (.inr 1) (j) rfl rfl rfl rfl rfl rfl (by omega) rfl Row.at0 (fun g40 e41 => ?_))
    subst e41
    refine go Try.tbs_ok 1000 ?_
    have l42 : j < (L).length := (by omega)
    refine ev_stop (go_loadE Try.tbs_ok (.inr 1) (j) 0 rfl rfl rfl rfl (fun _ h => Row.rd h) (by omega) (fun _ => rfl) (by omega) l42 (by decide) ?_)
    refine go Try.tbs_ok 1000 ?_
    refine ev_new fun b43 => ?_
    refine ev_callF (T2 ) [] [] rfl rfl (by decide) rfl (by simp) (fun _ => (by repeat (first | exact trivial | refine ⟨rfl, ?_⟩))) (fun _ h44 => ?_)
    refine go Try.tbs_ok 1000 ?_
    refine ev_new fun b45 => ?_
    refine ev_stop (go_appendE (sz := 1) (M := [_]) (enc := encN) Try.tbs_ok [2] [] (.inr 4) (M) ([(↑L[j].d.size : Int) - L[j].s]) ((M) ++ ([(↑L[j].d.size : Int) - L[j].s])) (q + 1) rfl rfl rfl rfl rfl rfl rfl (by decide) rfl (by decide) (fun _ p => starH_one.1 p) rfl (fun _ p => Pt.rd p rfl) (by first | rfl | simp) (by first | rfl | omega) (le_app (s := q + 1) (by omega) (by first | rfl | omega)) (le_appb (s := q + 1) (by omega) (by first | rfl | omega) (by decide)) (fun _ _ => (by repeat (first | exact trivial | refine ⟨rfl, ?_⟩))) (fun A46 c47 h48 => ?_))
    refine go Try.tbs_ok 1000 ?_
    refine ev_wrapN (j + 1) (by constructor <;> omega) (by rfl) ?_
    refine ev_fin (round_next ((j + 1, A46, q + 1, c47, M ++ [(↑L[j].d.size : Int) - L[j].s])) (?_ : j + 1 ≤ n ∧ q + 1 = (M ++ [(↑L[j].d.size : Int) - L[j].s]).length ∧ q + 1 = j + 1 ∧ M ++ [(↑L[j].d.size : Int) - L[j].s] = List.map leftEG (List.take (j + 1) L)) (show n - (j + 1) < n - j from (by omega)) ⟨⟨by kernel_rfl, by kernel_rfl⟩, ⟨_, rfl⟩, ⟨_, rfl⟩, by kernel_rfl, by kernel_rfl⟩)
    refine ⟨by omega, by rw [List.length_append, ← hq]; rfl, by omega, ?_⟩
    rw [hM, ← List.take_append_getElem hjn, List.map_append]
    rfl
  · obtain rfl : j = n := by
      have : ¬ (j : Int) < (n : Int) := hge
      omega
    obtain rfl := hqj
    rw [List.take_of_length_le (by omega)] at hM
    subst hM
    refine go Try.tbs_ok 1000 ?_
    refine ev_fin (go Try.tbs_ok 1000 ?_)
    refine ev_fin ⟨trivial, _, rfl, ((C, e)), rfl, (by trivial), Frm.sel [0, 1, 2] rfl (by decide)⟩
/-- how many bytes in all -/
def sumD (L : List Fl) : Nat := (L.map fun f => f.d.size).sum
theorem sumD_take (L : List Fl) (j : Nat) : sumD (L.take j) ≤ sumD L := by
  unfold sumD
  conv => rhs; rw [← List.take_append_drop j L, List.map_append, List.sum_append]
  omega
theorem sumD_step {L : List Fl} {j : Nat} (hj : j < L.length) : sumD (L.take (j + 1)) = sumD (L.take j) + L[j].d.size := by
  unfold sumD
  rw [← List.take_append_getElem hj, List.map_append, List.sum_append]
  rfl
set_option maxRecDepth 100000 in
theorem sizeT (p : Nat) (m s : Int) (dn : Bool) (A : Option Addr) (n c : Nat) (fv : Value) (B : Option Addr) (k d : Nat) (L : List Fl) (hm : 0 < m) (hn : n = L.length) (h1 : n ≤ 1000) (hb : sumD L ≤ 1000000000) : Triple Try.prog 11 [.pointer (some ⟨p, 0, none⟩)] [Pt p 53 [.int .i64 m, .int .i64 s, .bool dn, .slice A n c, fv, .slice B k d], Row 71 3 A n c (L.flatMap encF)] [] (Unit) (fun _ => .int .i64 (sumD L : Nat)) (fun _ => True) (fun _ => [Pt p 53 [.int .i64 m, .int .i64 s, .bool dn, .slice A n c, fv, .slice B k d], Row 71 3 A n c (L.flatMap encF)]) := by
  have T1 := sizeE p m s dn A n c fv B k d L hm hn h1
  refine triple_intro Try.tbs_ok Try.func11 rfl [.pt 0 p 0] [.box p 53 [.va (.int .i64 m), .va (.int .i64 s), .va (.bool dn), .va (.slice A n c), .va fv, .va (.slice B k d)], .fact (Row 71 3 A n c (L.flatMap encF))] ⟨rfl, trivial⟩ rfl (by simp [SV.good, SV.goodL]) ?_
  intro E
  refine go Try.tbs_ok 1000 ?_
  refine ev_call (T1 ) [0, 1] [] (fun (v0_, v1_) => [.box (p) 53 [.va (Value.int IntKind.i64 m), .va (Value.int IntKind.i64 s), .bq (dn), .va (Value.slice A n c), .va (fv), .va (Value.slice B k d)], .fact (Row 71 3 A n c (List.flatMap encF L)), .fact (Row 3 1 v0_ n v1_ (List.flatMap encN (List.map sizeEG L)))]) rfl rfl (by decide) rfl (by simp) (fun _ => rfl) (fun _ => (newsOk_box (by simp [SV.good, SV.goodL]) (newsOk_fact (newsOk_fact (newsOk_nil _))))) (fun _ => (by repeat (first | exact trivial | refine ⟨rfl, ?_⟩))) (fun ⟨x0, x1⟩ h2 => ?_)
  refine go Try.tbs_ok 1000 ?_
  refine ev_stop (go_loopR [3, 5, 9, 10, 11, 12, 13, 14, 15, 16] (fun (j, q) => [(3, .va (.int .i64 q)), (9, .va (.int .i64 (j : Nat)))]) (fun _ => []) (fun (j, q) => j ≤ n ∧ q = ((sumD (L.take j) : Nat) : Int)) (fun (j, _) => n - j) ((0, 0) : Nat × Int) ⟨Nat.zero_le _, rfl⟩ ⟨⟨by kernel_rfl, by kernel_rfl⟩, ⟨_, rfl⟩, ⟨_, rfl⟩, by kernel_rfl, by kernel_rfl⟩ (fun x_ h_ => ?_))
  obtain ⟨j, q⟩ := x_
  obtain ⟨hj, hq⟩ := h_
  refine go Try.tbs_ok 1000 ?_
  refine ev_if_lt (fun hlt => ?_) (fun hge => ?_)
  · have hjn : j < L.length := by
      have : (j : Int) < (n : Int) := hlt
      omega
    have hs1 := sumD_step hjn
    have hs2 := sumD_take L (j + 1)
    have hg : (L.map sizeEG)[j]'(by simpa using hjn) = ((L[j].d.size : Nat) : Int) := by simp [sizeEG]
    refine go Try.tbs_ok 1000 ?_
    refine ev_stop (go_index0 (sz := 1) Try.tbs_ok (.inr 2) (j) rfl rfl rfl rfl rfl rfl (by omega) rfl Row.at0 (fun g40 e41 => ?_))
    subst e41
    refine go Try.tbs_ok 1000 ?_
    have l42 : j < (List.map sizeEG L).length := (by (simp only [List.length_map] <;> omega))
    refine ev_stop (go_loadE Try.tbs_ok (.inr 2) (j) 0 rfl rfl rfl rfl (fun _ h => Row.rd h) (by omega) (fun _ => rfl) (by omega) l42 (by decide) ?_)
    refine go Try.tbs_ok 1000 ?_
    refine ev_w64 (by constructor <;> omega) ?_
    refine ev_wrapN (j + 1) (by constructor <;> omega) (by rfl) ?_
    refine ev_fin (round_next ((j + 1, q + (List.map sizeEG L)[j])) (show j + 1 ≤ n ∧ q + (List.map sizeEG L)[j] = (↑(sumD (List.take (j + 1) L)) : Int) from (by omega)) (show n - (j + 1) < n - j from (by omega)) ⟨⟨by kernel_rfl, by kernel_rfl⟩, ⟨_, rfl⟩, ⟨_, rfl⟩, by kernel_rfl, by kernel_rfl⟩)
  · refine go Try.tbs_ok 1000 ?_
    refine ev_fin (go Try.tbs_ok 1000 ?_)
    refine ev_fin ⟨trivial, _, rfl, (()), ?_, (by trivial), Frm.sel [0, 1] rfl (by decide)⟩
    rw [hq, List.take_of_length_le (by omega)]
    rfl
set_option maxRecDepth 100000 in
theorem namesT (p : Nat) (m s : Int) (dn : Bool) (A : Option Addr) (n c : Nat) (fv : Value) (B : Option Addr) (k d : Nat) (L : List Fl) (hm : 0 < m) (hn : n = L.length) (h1 : n ≤ 1000) : Triple Try.prog 12 [.pointer (some ⟨p, 0, none⟩)] [Pt p 53 [.int .i64 m, .int .i64 s, .bool dn, .slice A n c, fv, .slice B k d], Row 71 3 A n c (L.flatMap encF)] [] (Option Addr × Nat) (fun (C, e) => .slice C n e) (fun _ => True) (fun (C, e) => [Pt p 53 [.int .i64 m, .int .i64 s, .bool dn, .slice A n c, fv, .slice B k d], Row 71 3 A n c (L.flatMap encF), Row 9 1 C n e ((L.map nameEG).flatMap encS)]) := by
  have T1 := nameE p m s dn A n c fv B k d L hm hn h1
  refine triple_intro Try.tbs_ok Try.func12 rfl [.pt 0 p 0] [.box p 53 [.va (.int .i64 m), .va (.int .i64 s), .va (.bool dn), .va (.slice A n c), .va fv, .va (.slice B k d)], .fact (Row 71 3 A n c (L.flatMap encF))] ⟨rfl, trivial⟩ rfl (by simp [SV.good, SV.goodL]) ?_
  intro E
  refine go Try.tbs_ok 1000 ?_
  refine ev_call (T1 ) [0, 1] [] (fun (v0_, v1_) => [.box (p) 53 [.va (Value.int IntKind.i64 m), .va (Value.int IntKind.i64 s), .bq (dn), .va (Value.slice A n c), .va (fv), .va (Value.slice B k d)], .fact (Row 71 3 A n c (List.flatMap encF L)), .fact (Row 9 1 v0_ n v1_ (List.flatMap encS (List.map nameEG L)))]) rfl rfl (by decide) rfl (by simp) (fun _ => rfl) (fun _ => (newsOk_box (by simp [SV.good, SV.goodL]) (newsOk_fact (newsOk_fact (newsOk_nil _))))) (fun _ => (by repeat (first | exact trivial | refine ⟨rfl, ?_⟩))) (fun ⟨x0, x1⟩ h2 => ?_)
  refine go Try.tbs_ok 1000 ?_
  refine ev_fin ⟨trivial, _, rfl, ((x0, x1)), rfl, (by trivial), Frm.sel [0, 1, 2] rfl (by decide)⟩
set_option maxRecDepth 100000 in
theorem leftT (p : Nat) (m s : Int) (dn : Bool) (A : Option Addr) (n c : Nat) (fv : Value) (B : Option Addr) (k d : Nat) (L : List Fl) (hm : 0 < m) (hn : n = L.length) (h1 : n ≤ 1000) (hL : ∀ f ∈ L, 0 ≤ f.s ∧ f.s ≤ f.d.size ∧ f.d.size ≤ 1000000000) : Triple Try.prog 15 [.pointer (some ⟨p, 0, none⟩)] [Pt p 53 [.int .i64 m, .int .i64 s, .bool dn, .slice A n c, fv, .slice B k d], Row 71 3 A n c (L.flatMap encF)] [] (Option Addr × Nat) (fun (C, e) => .slice C n e) (fun _ => True) (fun (C, e) => [Pt p 53 [.int .i64 m, .int .i64 s, .bool dn, .slice A n c, fv, .slice B k d], Row 71 3 A n c (L.flatMap encF), Row 3 1 C n e ((L.map leftEG).flatMap encN)]) := by
  have T1 := leftE p m s dn A n c fv B k d L hm hn h1 hL
  refine triple_intro Try.tbs_ok Try.func15 rfl [.pt 0 p 0] [.box p 53 [.va (.int .i64 m), .va (.int .i64 s), .va (.bool dn), .va (.slice A n c), .va fv, .va (.slice B k d)], .fact (Row 71 3 A n c (L.flatMap encF))] ⟨rfl, trivial⟩ rfl (by simp [SV.good, SV.goodL]) ?_
  intro E
  refine go Try.tbs_ok 1000 ?_
  refine ev_call (T1 ) [0, 1] [] (fun (v0_, v1_) => [.box (p) 53 [.va (Value.int IntKind.i64 m), .va (Value.int IntKind.i64 s), .bq (dn), .va (Value.slice A n c), .va (fv), .va (Value.slice B k d)], .fact (Row 71 3 A n c (List.flatMap encF L)), .fact (Row 3 1 v0_ n v1_ (List.flatMap encN (List.map leftEG L)))]) rfl rfl (by decide) rfl (by simp) (fun _ => rfl) (fun _ => (newsOk_box (by simp [SV.good, SV.goodL]) (newsOk_fact (newsOk_fact (newsOk_nil _))))) (fun _ => (by repeat (first | exact trivial | refine ⟨rfl, ?_⟩))) (fun ⟨x0, x1⟩ h2 => ?_)
  refine go Try.tbs_ok 1000 ?_
  refine ev_fin ⟨trivial, _, rfl, ((x0, x1)), rfl, (by trivial), Frm.sel [0, 1, 2] rfl (by decide)⟩
set_option maxRecDepth 100000 in
theorem upT (p : Nat) (m s : Int) (dn : Bool) (A : Option Addr) (n c : Nat) (fv : Value) (B : Option Addr) (k d : Nat) (hm : 0 < m) : Triple Try.prog 25 [.pointer (some ⟨p, 0, none⟩)] [Pt p 53 [.int .i64 m, .int .i64 s, .bool dn, .slice A n c, fv, .slice B k d]] [] (Unit) (fun _ => .bool (!dn)) (fun _ => True) (fun _ => [Pt p 53 [.int .i64 m, .int .i64 s, .bool dn, .slice A n c, fv, .slice B k d]]) := by
  have T1 := thereT p m s dn A n c fv B k d hm
  refine triple_intro Try.tbs_ok Try.func25 rfl [.pt 0 p 0] [.box p 53 [.va (.int .i64 m), .va (.int .i64 s), .va (.bool dn), .va (.slice A n c), .va fv, .va (.slice B k d)]] ⟨rfl, trivial⟩ rfl (by simp [SV.good, SV.goodL]) ?_
  intro E
  refine go Try.tbs_ok 1000 ?_
  refine ev_call (T1 ) [0] [] (fun v0_ => [.box (p) 53 [.va (Value.int IntKind.i64 m), .va (Value.int IntKind.i64 s), .bq (dn), .va (Value.slice A n c), .va (fv), .va (Value.slice B k d)]]) rfl rfl (by decide) rfl (by simp) (fun _ => rfl) (fun _ => (newsOk_box (by simp [SV.good, SV.goodL]) (newsOk_nil _))) (fun _ => (by repeat (first | exact trivial | refine ⟨rfl, ?_⟩))) (fun _ h0 => ?_)
  refine go Try.tbs_ok 1000 ?_
  refine ev_if_yes rfl ?_
  refine go Try.tbs_ok 1000 ?_
  refine ev_fin ⟨trivial, _, rfl, (()), rfl, (by trivial), Frm.sel [0] rfl (by decide)⟩
set_option maxRecDepth 100000 in
theorem startsT (p : Nat) (m s : Int) (dn : Bool) (A : Option Addr) (n c : Nat) (fv : Value) (B : Option Addr) (k d : Nat) (hm : 0 < m) : Triple Try.prog 26 [.pointer (some ⟨p, 0, none⟩)] [Pt p 53 [.int .i64 m, .int .i64 s, .bool dn, .slice A n c, fv, .slice B k d]] [] (Unit) (fun _ => .int .i64 s) (fun _ => True) (fun _ => [Pt p 53 [.int .i64 m, .int .i64 s, .bool dn, .slice A n c, fv, .slice B k d]]) := by
  have T1 := thereT p m s dn A n c fv B k d hm
  refine triple_intro Try.tbs_ok Try.func26 rfl [.pt 0 p 0] [.box p 53 [.va (.int .i64 m), .va (.int .i64 s), .va (.bool dn), .va (.slice A n c), .va fv, .va (.slice B k d)]] ⟨rfl, trivial⟩ rfl (by simp [SV.good, SV.goodL]) ?_
  intro E
  refine go Try.tbs_ok 1000 ?_
  refine ev_call (T1 ) [0] [] (fun v0_ => [.box (p) 53 [.va (Value.int IntKind.i64 m), .va (Value.int IntKind.i64 s), .bq (dn), .va (Value.slice A n c), .va (fv), .va (Value.slice B k d)]]) rfl rfl (by decide) rfl (by simp) (fun _ => rfl) (fun _ => (newsOk_box (by simp [SV.good, SV.goodL]) (newsOk_nil _))) (fun _ => (by repeat (first | exact trivial | refine ⟨rfl, ?_⟩))) (fun _ h0 => ?_)
  refine go Try.tbs_ok 1000 ?_
  refine ev_if_no rfl ?_
  refine go Try.tbs_ok 1000 ?_
  refine ev_fin ⟨trivial, _, rfl, (()), rfl, (by trivial), Frm.sel [0] rfl (by decide)⟩
end Go.Proofs.Ythknokcgclcbmaa
