/-
  What is proved: what is not done with a disk; what is read. Conditions: none.
-/
import Derived.Test.YthknokcgclcbmaaDH
namespace Go.Proofs.Ythknokcgclcbmaa
open Go.Sy

set_option maxRecDepth 100000 in
theorem appendDown (p : Nat) (m s : Int) (A : Option Addr) (n c : Nat) (fv : Value) (B : Option Addr) (k d : Nat) (x y : ByteArray) (hm : 0 < m) : Triple Try.prog 34 [.pointer (some ⟨p, 0, none⟩), .string x, .string y] [Pt p 53 [.int .i64 m, .int .i64 s, .bool true, .slice A n c, fv, .slice B k d]] [] (Unit) (fun _ => .int .i64 41) (fun _ => True) (fun _ => [Pt p 53 [.int .i64 m, .int .i64 s, .bool true, .slice A n c, fv, .slice B k d]]) := by
  have T1 := askP p m s true A n c fv B k d hm
  refine triple_intro Try.tbs_ok Try.func34 rfl [.pt 0 p 0, .va (.string x), .va (.string y)] [.box p 53 [.va (.int .i64 m), .va (.int .i64 s), .va (.bool true), .va (.slice A n c), .va fv, .va (.slice B k d)]] ⟨rfl, trivial, trivial, trivial⟩ rfl (by simp [SV.good, SV.goodL]) ?_
  intro E
  refine go Try.tbs_ok 1000 ?_
  refine ev_new fun b0 => ?_
  refine ev_new fun b1 => ?_
  refine ev_new fun b2 => ?_
  refine ev_call (T1 ) [0] [] (fun v0_ => [.box (p) 53 [.va (Value.int IntKind.i64 m), .va (Value.int IntKind.i64 s), .bl true, .va (Value.slice A n c), .va (fv), .va (Value.slice B k d)]]) rfl rfl (by decide) rfl (by simp) (fun _ => rfl) (fun _ => (newsOk_box (by simp [SV.good, SV.goodL]) (newsOk_nil _))) (fun _ => (by repeat (first | exact trivial | refine ⟨rfl, ?_⟩))) (fun _ h3 => ?_)
  refine go Try.tbs_ok 1000 ?_
  refine ev_if_yes rfl ?_
  refine go Try.tbs_ok 1000 ?_
  refine ev_fin ⟨trivial, _, rfl, (()), rfl, (by trivial), Frm.sel [0] rfl (by decide)⟩
set_option maxRecDepth 100000 in
theorem syncDown (p : Nat) (m s : Int) (A : Option Addr) (n c : Nat) (fv : Value) (B : Option Addr) (k d : Nat) (x : ByteArray) (hm : 0 < m) : Triple Try.prog 40 [.pointer (some ⟨p, 0, none⟩), .string x] [Pt p 53 [.int .i64 m, .int .i64 s, .bool true, .slice A n c, fv, .slice B k d]] [] (Unit) (fun _ => .int .i64 41) (fun _ => True) (fun _ => [Pt p 53 [.int .i64 m, .int .i64 s, .bool true, .slice A n c, fv, .slice B k d]]) := by
  have T1 := askP p m s true A n c fv B k d hm
  refine triple_intro Try.tbs_ok Try.func40 rfl [.pt 0 p 0, .va (.string x)] [.box p 53 [.va (.int .i64 m), .va (.int .i64 s), .va (.bool true), .va (.slice A n c), .va fv, .va (.slice B k d)]] ⟨rfl, trivial, trivial⟩ rfl (by simp [SV.good, SV.goodL]) ?_
  intro E
  refine go Try.tbs_ok 1000 ?_
  refine ev_new fun b0 => ?_
  refine ev_inline Try.tbs_ok Try.func52 rfl rfl ?_
  refine go Try.tbs_ok 1000 ?_
  refine ev_call (T1 ) [0] [] (fun v0_ => [.box (p) 53 [.va (Value.int IntKind.i64 m), .va (Value.int IntKind.i64 s), .bl true, .va (Value.slice A n c), .va (fv), .va (Value.slice B k d)]]) rfl rfl (by decide) rfl (by simp) (fun _ => rfl) (fun _ => (newsOk_box (by simp [SV.good, SV.goodL]) (newsOk_nil _))) (fun _ => (by repeat (first | exact trivial | refine ⟨rfl, ?_⟩))) (fun _ h1 => ?_)
  refine go Try.tbs_ok 1000 ?_
  refine ev_if_yes rfl ?_
  refine go Try.tbs_ok 1000 ?_
  refine ev_fin ⟨trivial, (by repeat (first | exact trivial | refine ⟨rfl, ?_⟩)), _, rfl, ?_⟩
  refine go Try.tbs_ok 1000 ?_
  refine ev_fin ⟨trivial, _, rfl, (()), rfl, (by trivial), Frm.sel [0] rfl (by decide)⟩
set_option maxRecDepth 100000 in
theorem syncGone (p : Nat) (m s : Int) (A : Option Addr) (n c : Nat) (fv : Value) (B : Option Addr) (k d : Nat) (L : List Fl) (hn : n = L.length) (h1 : n ≤ 1000) (x : ByteArray) (hm : 0 < m) (hs : riseF L) (hh : hasF L x = false) : Triple Try.prog 40 [.pointer (some ⟨p, 0, none⟩), .string x] [Pt p 53 [.int .i64 m, .int .i64 s, .bool false, .slice A n c, fv, .slice B k d], Row 71 3 A n c (L.flatMap encF)] [] (Unit) (fun _ => .int .i64 4) (fun _ => True) (fun _ => [Pt p 53 [.int .i64 m, .int .i64 s, .bool false, .slice A n c, fv, .slice B k d], Row 71 3 A n c (L.flatMap encF)]) := by
  have T1 := askP p m s false A n c fv B k d hm
  have T2 := findT p m s false A n c fv B k d L x hn h1 hs
  rw [hh] at T2
  refine triple_intro Try.tbs_ok Try.func40 rfl [.pt 0 p 0, .va (.string x)] [.box p 53 [.va (.int .i64 m), .va (.int .i64 s), .va (.bool false), .va (.slice A n c), .va fv, .va (.slice B k d)], .fact (Row 71 3 A n c (L.flatMap encF))] ⟨rfl, trivial, trivial⟩ rfl (by simp [SV.good, SV.goodL]) ?_
  intro E
  refine go Try.tbs_ok 1000 ?_
  refine ev_new fun b0 => ?_
  refine ev_inline Try.tbs_ok Try.func52 rfl rfl ?_
  refine go Try.tbs_ok 1000 ?_
  refine ev_call (T1 ) [0] [] (fun v0_ => [.box (p) 53 [.va (Value.int IntKind.i64 m), .va (Value.int IntKind.i64 s), .bl false, .va (Value.slice A n c), .va (fv), .va (Value.slice B k d)]]) rfl rfl (by decide) rfl (by simp) (fun _ => rfl) (fun _ => (newsOk_box (by simp [SV.good, SV.goodL]) (newsOk_nil _))) (fun _ => (by repeat (first | exact trivial | refine ⟨rfl, ?_⟩))) (fun _ h1 => ?_)
  refine go Try.tbs_ok 1000 ?_
  refine ev_if_no rfl ?_
  refine go Try.tbs_ok 1000 ?_
  refine ev_call (T2 ) [0, 1] [] (fun v0_ => [.box (p) 53 [.va (Value.int IntKind.i64 m), .va (Value.int IntKind.i64 s), .bl false, .va (Value.slice A n c), .va (fv), .va (Value.slice B k d)], .fact (Row 71 3 A n c (List.flatMap encF L))]) rfl rfl (by decide) rfl (by simp) (fun _ => rfl) (fun _ => (newsOk_box (by simp [SV.good, SV.goodL]) (newsOk_fact (newsOk_nil _)))) (fun _ => (by repeat (first | exact trivial | refine ⟨rfl, ?_⟩))) (fun _ h2 => ?_)
  refine go Try.tbs_ok 1000 ?_
  refine ev_if_yes rfl ?_
  refine go Try.tbs_ok 1000 ?_
  refine ev_fin ⟨trivial, (by repeat (first | exact trivial | refine ⟨rfl, ?_⟩)), _, rfl, ?_⟩
  refine go Try.tbs_ok 1000 ?_
  refine ev_fin ⟨trivial, _, rfl, (()), rfl, (by trivial), Frm.sel [0, 1] rfl (by decide)⟩
set_option maxRecDepth 100000 in
theorem truncDown (p : Nat) (m s : Int) (A : Option Addr) (n c : Nat) (fv : Value) (B : Option Addr) (k d : Nat) (x : ByteArray) (z : Int) (hm : 0 < m) : Triple Try.prog 41 [.pointer (some ⟨p, 0, none⟩), .string x, .int .i64 z] [Pt p 53 [.int .i64 m, .int .i64 s, .bool true, .slice A n c, fv, .slice B k d]] [] (Unit) (fun _ => .int .i64 41) (fun _ => True) (fun _ => [Pt p 53 [.int .i64 m, .int .i64 s, .bool true, .slice A n c, fv, .slice B k d]]) := by
  have T1 := askP p m s true A n c fv B k d hm
  refine triple_intro Try.tbs_ok Try.func41 rfl [.pt 0 p 0, .va (.string x), .va (.int .i64 z)] [.box p 53 [.va (.int .i64 m), .va (.int .i64 s), .va (.bool true), .va (.slice A n c), .va fv, .va (.slice B k d)]] ⟨rfl, trivial, trivial, trivial⟩ rfl (by simp [SV.good, SV.goodL]) ?_
  intro E
  refine go Try.tbs_ok 1000 ?_
  refine ev_new fun b0 => ?_
  refine ev_new fun b1 => ?_
  refine ev_inline Try.tbs_ok Try.func52 rfl rfl ?_
  refine go Try.tbs_ok 1000 ?_
  refine ev_call (T1 ) [0] [] (fun v0_ => [.box (p) 53 [.va (Value.int IntKind.i64 m), .va (Value.int IntKind.i64 s), .bl true, .va (Value.slice A n c), .va (fv), .va (Value.slice B k d)]]) rfl rfl (by decide) rfl (by simp) (fun _ => rfl) (fun _ => (newsOk_box (by simp [SV.good, SV.goodL]) (newsOk_nil _))) (fun _ => (by repeat (first | exact trivial | refine ⟨rfl, ?_⟩))) (fun _ h2 => ?_)
  refine go Try.tbs_ok 1000 ?_
  refine ev_if_yes rfl ?_
  refine go Try.tbs_ok 1000 ?_
  refine ev_fin ⟨trivial, (by repeat (first | exact trivial | refine ⟨rfl, ?_⟩)), _, rfl, ?_⟩
  refine go Try.tbs_ok 1000 ?_
  refine ev_fin ⟨trivial, _, rfl, (()), rfl, (by trivial), Frm.sel [0] rfl (by decide)⟩
set_option maxRecDepth 100000 in
theorem truncGone (p : Nat) (m s : Int) (A : Option Addr) (n c : Nat) (fv : Value) (B : Option Addr) (k d : Nat) (L : List Fl) (hn : n = L.length) (h1 : n ≤ 1000) (x : ByteArray) (z : Int) (hm : 0 < m) (hs : riseF L) (hh : hasF L x = false) : Triple Try.prog 41 [.pointer (some ⟨p, 0, none⟩), .string x, .int .i64 z] [Pt p 53 [.int .i64 m, .int .i64 s, .bool false, .slice A n c, fv, .slice B k d], Row 71 3 A n c (L.flatMap encF)] [] (Unit) (fun _ => .int .i64 4) (fun _ => True) (fun _ => [Pt p 53 [.int .i64 m, .int .i64 s, .bool false, .slice A n c, fv, .slice B k d], Row 71 3 A n c (L.flatMap encF)]) := by
  have T1 := askP p m s false A n c fv B k d hm
  have T2 := findT p m s false A n c fv B k d L x hn h1 hs
  rw [hh] at T2
  refine triple_intro Try.tbs_ok Try.func41 rfl [.pt 0 p 0, .va (.string x), .va (.int .i64 z)] [.box p 53 [.va (.int .i64 m), .va (.int .i64 s), .va (.bool false), .va (.slice A n c), .va fv, .va (.slice B k d)], .fact (Row 71 3 A n c (L.flatMap encF))] ⟨rfl, trivial, trivial, trivial⟩ rfl (by simp [SV.good, SV.goodL]) ?_
  intro E
  refine go Try.tbs_ok 1000 ?_
  refine ev_new fun b0 => ?_
  refine ev_new fun b1 => ?_
  refine ev_inline Try.tbs_ok Try.func52 rfl rfl ?_
  refine go Try.tbs_ok 1000 ?_
  refine ev_call (T1 ) [0] [] (fun v0_ => [.box (p) 53 [.va (Value.int IntKind.i64 m), .va (Value.int IntKind.i64 s), .bl false, .va (Value.slice A n c), .va (fv), .va (Value.slice B k d)]]) rfl rfl (by decide) rfl (by simp) (fun _ => rfl) (fun _ => (newsOk_box (by simp [SV.good, SV.goodL]) (newsOk_nil _))) (fun _ => (by repeat (first | exact trivial | refine ⟨rfl, ?_⟩))) (fun _ h2 => ?_)
  refine go Try.tbs_ok 1000 ?_
  refine ev_if_no rfl ?_
  refine go Try.tbs_ok 1000 ?_
  refine ev_call (T2 ) [0, 1] [] (fun v0_ => [.box (p) 53 [.va (Value.int IntKind.i64 m), .va (Value.int IntKind.i64 s), .bl false, .va (Value.slice A n c), .va (fv), .va (Value.slice B k d)], .fact (Row 71 3 A n c (List.flatMap encF L))]) rfl rfl (by decide) rfl (by simp) (fun _ => rfl) (fun _ => (newsOk_box (by simp [SV.good, SV.goodL]) (newsOk_fact (newsOk_nil _)))) (fun _ => (by repeat (first | exact trivial | refine ⟨rfl, ?_⟩))) (fun _ h3 => ?_)
  refine go Try.tbs_ok 1000 ?_
  refine ev_if_yes rfl ?_
  refine go Try.tbs_ok 1000 ?_
  refine ev_fin ⟨trivial, (by repeat (first | exact trivial | refine ⟨rfl, ?_⟩)), _, rfl, ?_⟩
  refine go Try.tbs_ok 1000 ?_
  refine ev_fin ⟨trivial, _, rfl, (()), rfl, (by trivial), Frm.sel [0, 1] rfl (by decide)⟩
set_option maxRecDepth 100000 in
theorem renameDown (p : Nat) (m s : Int) (A : Option Addr) (n c : Nat) (fv : Value) (B : Option Addr) (k d : Nat) (x y : ByteArray) (hm : 0 < m) : Triple Try.prog 35 [.pointer (some ⟨p, 0, none⟩), .string x, .string y] [Pt p 53 [.int .i64 m, .int .i64 s, .bool true, .slice A n c, fv, .slice B k d]] [] (Unit) (fun _ => .int .i64 41) (fun _ => True) (fun _ => [Pt p 53 [.int .i64 m, .int .i64 s, .bool true, .slice A n c, fv, .slice B k d]]) := by
  have T1 := askP p m s true A n c fv B k d hm
  refine triple_intro Try.tbs_ok Try.func35 rfl [.pt 0 p 0, .va (.string x), .va (.string y)] [.box p 53 [.va (.int .i64 m), .va (.int .i64 s), .va (.bool true), .va (.slice A n c), .va fv, .va (.slice B k d)]] ⟨rfl, trivial, trivial, trivial⟩ rfl (by simp [SV.good, SV.goodL]) ?_
  intro E
  refine go Try.tbs_ok 1000 ?_
  refine ev_new fun b0 => ?_
  refine ev_new fun b1 => ?_
  refine ev_inline Try.tbs_ok Try.func52 rfl rfl ?_
  refine go Try.tbs_ok 1000 ?_
  refine ev_call (T1 ) [0] [] (fun v0_ => [.box (p) 53 [.va (Value.int IntKind.i64 m), .va (Value.int IntKind.i64 s), .bl true, .va (Value.slice A n c), .va (fv), .va (Value.slice B k d)]]) rfl rfl (by decide) rfl (by simp) (fun _ => rfl) (fun _ => (newsOk_box (by simp [SV.good, SV.goodL]) (newsOk_nil _))) (fun _ => (by repeat (first | exact trivial | refine ⟨rfl, ?_⟩))) (fun _ h2 => ?_)
  refine go Try.tbs_ok 1000 ?_
  refine ev_if_yes rfl ?_
  refine go Try.tbs_ok 1000 ?_
  refine ev_fin ⟨trivial, (by repeat (first | exact trivial | refine ⟨rfl, ?_⟩)), _, rfl, ?_⟩
  refine go Try.tbs_ok 1000 ?_
  refine ev_fin ⟨trivial, _, rfl, (()), rfl, (by trivial), Frm.sel [0] rfl (by decide)⟩
set_option maxRecDepth 100000 in
theorem renameGone (p : Nat) (m s : Int) (A : Option Addr) (n c : Nat) (fv : Value) (B : Option Addr) (k d : Nat) (L : List Fl) (hn : n = L.length) (h1 : n ≤ 1000) (x y : ByteArray) (hm : 0 < m) (hs : riseF L) (hh : hasF L x = false) : Triple Try.prog 35 [.pointer (some ⟨p, 0, none⟩), .string x, .string y] [Pt p 53 [.int .i64 m, .int .i64 s, .bool false, .slice A n c, fv, .slice B k d], Row 71 3 A n c (L.flatMap encF)] [] (Unit) (fun _ => .int .i64 4) (fun _ => True) (fun _ => [Pt p 53 [.int .i64 m, .int .i64 s, .bool false, .slice A n c, fv, .slice B k d], Row 71 3 A n c (L.flatMap encF)]) := by
  have T1 := askP p m s false A n c fv B k d hm
  have T2 := findT p m s false A n c fv B k d L x hn h1 hs
  rw [hh] at T2
  refine triple_intro Try.tbs_ok Try.func35 rfl [.pt 0 p 0, .va (.string x), .va (.string y)] [.box p 53 [.va (.int .i64 m), .va (.int .i64 s), .va (.bool false), .va (.slice A n c), .va fv, .va (.slice B k d)], .fact (Row 71 3 A n c (L.flatMap encF))] ⟨rfl, trivial, trivial, trivial⟩ rfl (by simp [SV.good, SV.goodL]) ?_
  intro E
  refine go Try.tbs_ok 1000 ?_
  refine ev_new fun b0 => ?_
  refine ev_new fun b1 => ?_
  refine ev_inline Try.tbs_ok Try.func52 rfl rfl ?_
  refine go Try.tbs_ok 1000 ?_
  refine ev_call (T1 ) [0] [] (fun v0_ => [.box (p) 53 [.va (Value.int IntKind.i64 m), .va (Value.int IntKind.i64 s), .bl false, .va (Value.slice A n c), .va (fv), .va (Value.slice B k d)]]) rfl rfl (by decide) rfl (by simp) (fun _ => rfl) (fun _ => (newsOk_box (by simp [SV.good, SV.goodL]) (newsOk_nil _))) (fun _ => (by repeat (first | exact trivial | refine ⟨rfl, ?_⟩))) (fun _ h2 => ?_)
  refine go Try.tbs_ok 1000 ?_
  refine ev_if_no rfl ?_
  refine go Try.tbs_ok 1000 ?_
  refine ev_call (T2 ) [0, 1] [] (fun v0_ => [.box (p) 53 [.va (Value.int IntKind.i64 m), .va (Value.int IntKind.i64 s), .bl false, .va (Value.slice A n c), .va (fv), .va (Value.slice B k d)], .fact (Row 71 3 A n c (List.flatMap encF L))]) rfl rfl (by decide) rfl (by simp) (fun _ => rfl) (fun _ => (newsOk_box (by simp [SV.good, SV.goodL]) (newsOk_fact (newsOk_nil _)))) (fun _ => (by repeat (first | exact trivial | refine ⟨rfl, ?_⟩))) (fun _ h3 => ?_)
  refine go Try.tbs_ok 1000 ?_
  refine ev_if_yes rfl ?_
  refine go Try.tbs_ok 1000 ?_
  refine ev_fin ⟨trivial, (by repeat (first | exact trivial | refine ⟨rfl, ?_⟩)), _, rfl, ?_⟩
  refine go Try.tbs_ok 1000 ?_
  refine ev_fin ⟨trivial, _, rfl, (()), rfl, (by trivial), Frm.sel [0, 1] rfl (by decide)⟩
set_option maxRecDepth 100000 in
theorem removeDown (p : Nat) (m s : Int) (A : Option Addr) (n c : Nat) (fv : Value) (B : Option Addr) (k d : Nat) (x : ByteArray) (hm : 0 < m) : Triple Try.prog 42 [.pointer (some ⟨p, 0, none⟩), .string x] [Pt p 53 [.int .i64 m, .int .i64 s, .bool true, .slice A n c, fv, .slice B k d]] [] (Unit) (fun _ => .int .i64 41) (fun _ => True) (fun _ => [Pt p 53 [.int .i64 m, .int .i64 s, .bool true, .slice A n c, fv, .slice B k d]]) := by
  have T1 := askP p m s true A n c fv B k d hm
  refine triple_intro Try.tbs_ok Try.func42 rfl [.pt 0 p 0, .va (.string x)] [.box p 53 [.va (.int .i64 m), .va (.int .i64 s), .va (.bool true), .va (.slice A n c), .va fv, .va (.slice B k d)]] ⟨rfl, trivial, trivial⟩ rfl (by simp [SV.good, SV.goodL]) ?_
  intro E
  refine go Try.tbs_ok 1000 ?_
  refine ev_new fun b0 => ?_
  refine ev_inline Try.tbs_ok Try.func52 rfl rfl ?_
  refine go Try.tbs_ok 1000 ?_
  refine ev_call (T1 ) [0] [] (fun v0_ => [.box (p) 53 [.va (Value.int IntKind.i64 m), .va (Value.int IntKind.i64 s), .bl true, .va (Value.slice A n c), .va (fv), .va (Value.slice B k d)]]) rfl rfl (by decide) rfl (by simp) (fun _ => rfl) (fun _ => (newsOk_box (by simp [SV.good, SV.goodL]) (newsOk_nil _))) (fun _ => (by repeat (first | exact trivial | refine ⟨rfl, ?_⟩))) (fun _ h1 => ?_)
  refine go Try.tbs_ok 1000 ?_
  refine ev_if_yes rfl ?_
  refine go Try.tbs_ok 1000 ?_
  refine ev_fin ⟨trivial, (by repeat (first | exact trivial | refine ⟨rfl, ?_⟩)), _, rfl, ?_⟩
  refine go Try.tbs_ok 1000 ?_
  refine ev_fin ⟨trivial, _, rfl, (()), rfl, (by trivial), Frm.sel [0] rfl (by decide)⟩
set_option maxRecDepth 100000 in
theorem removeGone (p : Nat) (m s : Int) (A : Option Addr) (n c : Nat) (fv : Value) (B : Option Addr) (k d : Nat) (L : List Fl) (hn : n = L.length) (h1 : n ≤ 1000) (x : ByteArray) (hm : 0 < m) (hs : riseF L) (hh : hasF L x = false) : Triple Try.prog 42 [.pointer (some ⟨p, 0, none⟩), .string x] [Pt p 53 [.int .i64 m, .int .i64 s, .bool false, .slice A n c, fv, .slice B k d], Row 71 3 A n c (L.flatMap encF)] [] (Unit) (fun _ => .int .i64 4) (fun _ => True) (fun _ => [Pt p 53 [.int .i64 m, .int .i64 s, .bool false, .slice A n c, fv, .slice B k d], Row 71 3 A n c (L.flatMap encF)]) := by
  have T1 := askP p m s false A n c fv B k d hm
  have T2 := findT p m s false A n c fv B k d L x hn h1 hs
  rw [hh] at T2
  refine triple_intro Try.tbs_ok Try.func42 rfl [.pt 0 p 0, .va (.string x)] [.box p 53 [.va (.int .i64 m), .va (.int .i64 s), .va (.bool false), .va (.slice A n c), .va fv, .va (.slice B k d)], .fact (Row 71 3 A n c (L.flatMap encF))] ⟨rfl, trivial, trivial⟩ rfl (by simp [SV.good, SV.goodL]) ?_
  intro E
  refine go Try.tbs_ok 1000 ?_
  refine ev_new fun b0 => ?_
  refine ev_inline Try.tbs_ok Try.func52 rfl rfl ?_
  refine go Try.tbs_ok 1000 ?_
  refine ev_call (T1 ) [0] [] (fun v0_ => [.box (p) 53 [.va (Value.int IntKind.i64 m), .va (Value.int IntKind.i64 s), .bl false, .va (Value.slice A n c), .va (fv), .va (Value.slice B k d)]]) rfl rfl (by decide) rfl (by simp) (fun _ => rfl) (fun _ => (newsOk_box (by simp [SV.good, SV.goodL]) (newsOk_nil _))) (fun _ => (by repeat (first | exact trivial | refine ⟨rfl, ?_⟩))) (fun _ h1 => ?_)
  refine go Try.tbs_ok 1000 ?_
  refine ev_if_no rfl ?_
  refine go Try.tbs_ok 1000 ?_
  refine ev_call (T2 ) [0, 1] [] (fun v0_ => [.box (p) 53 [.va (Value.int IntKind.i64 m), .va (Value.int IntKind.i64 s), .bl false, .va (Value.slice A n c), .va (fv), .va (Value.slice B k d)], .fact (Row 71 3 A n c (List.flatMap encF L))]) rfl rfl (by decide) rfl (by simp) (fun _ => rfl) (fun _ => (newsOk_box (by simp [SV.good, SV.goodL]) (newsOk_fact (newsOk_nil _)))) (fun _ => (by repeat (first | exact trivial | refine ⟨rfl, ?_⟩))) (fun _ h2 => ?_)
  refine go Try.tbs_ok 1000 ?_
  refine ev_if_yes rfl ?_
  refine go Try.tbs_ok 1000 ?_
  refine ev_fin ⟨trivial, (by repeat (first | exact trivial | refine ⟨rfl, ?_⟩)), _, rfl, ?_⟩
  refine go Try.tbs_ok 1000 ?_
  refine ev_fin ⟨trivial, _, rfl, (()), rfl, (by trivial), Frm.sel [0, 1] rfl (by decide)⟩
set_option maxRecDepth 100000 in
theorem readDown (p : Nat) (m s : Int) (A : Option Addr) (n c : Nat) (fv : Value) (B : Option Addr) (k d : Nat) (x : ByteArray) (hm : 0 < m) : Triple Try.prog 20 [.pointer (some ⟨p, 0, none⟩), .string x] [Pt p 53 [.int .i64 m, .int .i64 s, .bool true, .slice A n c, fv, .slice B k d]] [] (Unit) (fun _ => .tuple #[.string ByteArray.empty, .int .i64 41]) (fun _ => True) (fun _ => [Pt p 53 [.int .i64 m, .int .i64 s, .bool true, .slice A n c, fv, .slice B k d]]) := by
  have T1 := askP p m s true A n c fv B k d hm
  refine triple_intro Try.tbs_ok Try.func20 rfl [.pt 0 p 0, .va (.string x)] [.box p 53 [.va (.int .i64 m), .va (.int .i64 s), .va (.bool true), .va (.slice A n c), .va fv, .va (.slice B k d)]] ⟨rfl, trivial, trivial⟩ rfl (by simp [SV.good, SV.goodL]) ?_
  intro E
  refine go Try.tbs_ok 1000 ?_
  refine ev_new fun b0 => ?_
  refine ev_new fun b1 => ?_
  refine ev_inline Try.tbs_ok Try.func52 rfl rfl ?_
  refine go Try.tbs_ok 1000 ?_
  refine ev_call (T1 ) [0] [] (fun v0_ => [.box (p) 53 [.va (Value.int IntKind.i64 m), .va (Value.int IntKind.i64 s), .bl true, .va (Value.slice A n c), .va (fv), .va (Value.slice B k d)]]) rfl rfl (by decide) rfl (by simp) (fun _ => rfl) (fun _ => (newsOk_box (by simp [SV.good, SV.goodL]) (newsOk_nil _))) (fun _ => (by repeat (first | exact trivial | refine ⟨rfl, ?_⟩))) (fun _ h2 => ?_)
  refine go Try.tbs_ok 1000 ?_
  refine ev_if_yes rfl ?_
  refine go Try.tbs_ok 1000 ?_
  refine ev_fin ⟨trivial, (by repeat (first | exact trivial | refine ⟨rfl, ?_⟩)), _, rfl, ?_⟩
  refine go Try.tbs_ok 1000 ?_
  refine ev_fin ⟨trivial, _, rfl, (()), rfl, (by trivial), Frm.sel [0] rfl (by decide)⟩
set_option maxRecDepth 100000 in
theorem readGone (p : Nat) (m s : Int) (A : Option Addr) (n c : Nat) (fv : Value) (B : Option Addr) (k d : Nat) (L : List Fl) (hn : n = L.length) (h1 : n ≤ 1000) (x : ByteArray) (hm : 0 < m) (hs : riseF L) (hh : hasF L x = false) : Triple Try.prog 20 [.pointer (some ⟨p, 0, none⟩), .string x] [Pt p 53 [.int .i64 m, .int .i64 s, .bool false, .slice A n c, fv, .slice B k d], Row 71 3 A n c (L.flatMap encF)] [] (Unit) (fun _ => .tuple #[.string ByteArray.empty, .int .i64 4]) (fun _ => True) (fun _ => [Pt p 53 [.int .i64 m, .int .i64 s, .bool false, .slice A n c, fv, .slice B k d], Row 71 3 A n c (L.flatMap encF)]) := by
  have T1 := askP p m s false A n c fv B k d hm
  have T2 := findT p m s false A n c fv B k d L x hn h1 hs
  rw [hh] at T2
  refine triple_intro Try.tbs_ok Try.func20 rfl [.pt 0 p 0, .va (.string x)] [.box p 53 [.va (.int .i64 m), .va (.int .i64 s), .va (.bool false), .va (.slice A n c), .va fv, .va (.slice B k d)], .fact (Row 71 3 A n c (L.flatMap encF))] ⟨rfl, trivial, trivial⟩ rfl (by simp [SV.good, SV.goodL]) ?_
  intro E
  refine go Try.tbs_ok 1000 ?_
  refine ev_new fun b0 => ?_
  refine ev_new fun b1 => ?_
  refine ev_inline Try.tbs_ok Try.func52 rfl rfl ?_
  refine go Try.tbs_ok 1000 ?_
  refine ev_call (T1 ) [0] [] (fun v0_ => [.box (p) 53 [.va (Value.int IntKind.i64 m), .va (Value.int IntKind.i64 s), .bl false, .va (Value.slice A n c), .va (fv), .va (Value.slice B k d)]]) rfl rfl (by decide) rfl (by simp) (fun _ => rfl) (fun _ => (newsOk_box (by simp [SV.good, SV.goodL]) (newsOk_nil _))) (fun _ => (by repeat (first | exact trivial | refine ⟨rfl, ?_⟩))) (fun _ h2 => ?_)
  refine go Try.tbs_ok 1000 ?_
  refine ev_if_no rfl ?_
  refine go Try.tbs_ok 1000 ?_
  refine ev_call (T2 ) [0, 1] [] (fun v0_ => [.box (p) 53 [.va (Value.int IntKind.i64 m), .va (Value.int IntKind.i64 s), .bl false, .va (Value.slice A n c), .va (fv), .va (Value.slice B k d)], .fact (Row 71 3 A n c (List.flatMap encF L))]) rfl rfl (by decide) rfl (by simp) (fun _ => rfl) (fun _ => (newsOk_box (by simp [SV.good, SV.goodL]) (newsOk_fact (newsOk_nil _)))) (fun _ => (by repeat (first | exact trivial | refine ⟨rfl, ?_⟩))) (fun _ h3 => ?_)
  refine go Try.tbs_ok 1000 ?_
  refine ev_if_yes rfl ?_
  refine go Try.tbs_ok 1000 ?_
  refine ev_fin ⟨trivial, (by repeat (first | exact trivial | refine ⟨rfl, ?_⟩)), _, rfl, ?_⟩
  refine go Try.tbs_ok 1000 ?_
  refine ev_fin ⟨trivial, _, rfl, (()), rfl, (by trivial), Frm.sel [0, 1] rfl (by decide)⟩
set_option maxRecDepth 100000 in
theorem crashDown (p : Nat) (m s : Int) (A : Option Addr) (n c : Nat) (fv : Value) (B : Option Addr) (k d : Nat) (Q : Option Addr) (kq dq : Nat) (hm : 0 < m) : Triple Try.prog 30 [.pointer (some ⟨p, 0, none⟩), .slice Q kq dq] [Pt p 53 [.int .i64 m, .int .i64 s, .bool true, .slice A n c, fv, .slice B k d]] [] (Unit) (fun _ => .int .i64 41) (fun _ => True) (fun _ => [Pt p 53 [.int .i64 m, .int .i64 s, .bool true, .slice A n c, fv, .slice B k d]]) := by
  have T1 := askP p m s true A n c fv B k d hm
  refine triple_intro Try.tbs_ok Try.func30 rfl [.pt 0 p 0, .va (.slice Q kq dq)] [.box p 53 [.va (.int .i64 m), .va (.int .i64 s), .va (.bool true), .va (.slice A n c), .va fv, .va (.slice B k d)]] ⟨rfl, trivial, trivial⟩ rfl (by simp [SV.good, SV.goodL]) ?_
  intro E
  refine go Try.tbs_ok 1000 ?_
  refine ev_call (T1 ) [0] [] (fun v0_ => [.box (p) 53 [.va (Value.int IntKind.i64 m), .va (Value.int IntKind.i64 s), .bl true, .va (Value.slice A n c), .va (fv), .va (Value.slice B k d)]]) rfl rfl (by decide) rfl (by simp) (fun _ => rfl) (fun _ => (newsOk_box (by simp [SV.good, SV.goodL]) (newsOk_nil _))) (fun _ => (by repeat (first | exact trivial | refine ⟨rfl, ?_⟩))) (fun _ h0 => ?_)
  refine go Try.tbs_ok 1000 ?_
  refine ev_if_yes rfl ?_
  refine go Try.tbs_ok 1000 ?_
  refine ev_fin ⟨trivial, _, rfl, (()), rfl, (by trivial), Frm.sel [0] rfl (by decide)⟩
set_option maxRecDepth 100000 in
theorem failDown (p : Nat) (m s : Int) (A : Option Addr) (n c : Nat) (fv : Value) (B : Option Addr) (k d : Nat) (z : Int) (Q : Option Addr) (kq dq : Nat) (hm : 0 < m) : Triple Try.prog 32 [.pointer (some ⟨p, 0, none⟩), .int .i64 z, .slice Q kq dq] [Pt p 53 [.int .i64 m, .int .i64 s, .bool true, .slice A n c, fv, .slice B k d]] [] (Unit) (fun _ => .int .i64 41) (fun _ => True) (fun _ => [Pt p 53 [.int .i64 m, .int .i64 s, .bool true, .slice A n c, fv, .slice B k d]]) := by
  have T1 := askP p m s true A n c fv B k d hm
  refine triple_intro Try.tbs_ok Try.func32 rfl [.pt 0 p 0, .va (.int .i64 z), .va (.slice Q kq dq)] [.box p 53 [.va (.int .i64 m), .va (.int .i64 s), .va (.bool true), .va (.slice A n c), .va fv, .va (.slice B k d)]] ⟨rfl, trivial, trivial, trivial⟩ rfl (by simp [SV.good, SV.goodL]) ?_
  intro E
  refine go Try.tbs_ok 1000 ?_
  refine ev_new fun b0 => ?_
  refine ev_call (T1 ) [0] [] (fun v0_ => [.box (p) 53 [.va (Value.int IntKind.i64 m), .va (Value.int IntKind.i64 s), .bl true, .va (Value.slice A n c), .va (fv), .va (Value.slice B k d)]]) rfl rfl (by decide) rfl (by simp) (fun _ => rfl) (fun _ => (newsOk_box (by simp [SV.good, SV.goodL]) (newsOk_nil _))) (fun _ => (by repeat (first | exact trivial | refine ⟨rfl, ?_⟩))) (fun _ h1 => ?_)
  refine go Try.tbs_ok 1000 ?_
  refine ev_if_yes rfl ?_
  refine go Try.tbs_ok 1000 ?_
  refine ev_fin ⟨trivial, _, rfl, (()), rfl, (by trivial), Frm.sel [0] rfl (by decide)⟩
set_option maxRecDepth 100000 in
theorem truncArg (p : Nat) (m s : Int) (A : Option Addr) (n c : Nat) (fv : Value) (B : Option Addr) (k d : Nat) (L : List Fl) (hn : n = L.length) (h1 : n ≤ 1000) (x : ByteArray) (z : Int) (hm : 0 < m) (hs : riseF L) (hh : hasF L x = true) (hi' : posF L x < L.length) (hz : z < 0 ∨ (((L[posF L x]'hi').d.size : Nat) : Int) < z) : Triple Try.prog 41 [.pointer (some ⟨p, 0, none⟩), .string x, .int .i64 z] [Pt p 53 [.int .i64 m, .int .i64 s, .bool false, .slice A n c, fv, .slice B k d], Row 71 3 A n c (L.flatMap encF)] [] (Unit) (fun _ => .int .i64 2) (fun _ => True) (fun _ => [Pt p 53 [.int .i64 m, .int .i64 s, .bool false, .slice A n c, fv, .slice B k d], Row 71 3 A n c (L.flatMap encF)]) := by
  have T1 := askP p m s false A n c fv B k d hm
  have T2 := findT p m s false A n c fv B k d L x hn h1 hs
  rw [hh] at T2
  have hi : posF L x < L.length := (has_pos hs hh).1
  refine triple_intro Try.tbs_ok Try.func41 rfl [.pt 0 p 0, .va (.string x), .va (.int .i64 z)] [.box p 53 [.va (.int .i64 m), .va (.int .i64 s), .va (.bool false), .va (.slice A n c), .va fv, .va (.slice B k d)], .fact (Row 71 3 A n c (L.flatMap encF))] ⟨rfl, trivial, trivial, trivial⟩ rfl (by simp [SV.good, SV.goodL]) ?_
  intro E
  refine go Try.tbs_ok 1000 ?_
  refine ev_new fun b0 => ?_
  refine ev_new fun b1 => ?_
  refine ev_inline Try.tbs_ok Try.func52 rfl rfl ?_
  refine go Try.tbs_ok 1000 ?_
  refine ev_call (T1 ) [0] [] (fun v0_ => [.box (p) 53 [.va (Value.int IntKind.i64 m), .va (Value.int IntKind.i64 s), .bl false, .va (Value.slice A n c), .va (fv), .va (Value.slice B k d)]]) rfl rfl (by decide) rfl (by simp) (fun _ => rfl) (fun _ => (newsOk_box (by simp [SV.good, SV.goodL]) (newsOk_nil _))) (fun _ => (by repeat (first | exact trivial | refine ⟨rfl, ?_⟩))) (fun _ h2 => ?_)
  refine go Try.tbs_ok 1000 ?_
  refine ev_if_no rfl ?_
  refine go Try.tbs_ok 1000 ?_
  refine ev_call (T2 ) [0, 1] [] (fun v0_ => [.box (p) 53 [.va (Value.int IntKind.i64 m), .va (Value.int IntKind.i64 s), .bl false, .va (Value.slice A n c), .va (fv), .va (Value.slice B k d)], .fact (Row 71 3 A n c (List.flatMap encF L))]) rfl rfl (by decide) rfl (by simp) (fun _ => rfl) (fun _ => (newsOk_box (by simp [SV.good, SV.goodL]) (newsOk_fact (newsOk_nil _)))) (fun _ => (by repeat (first | exact trivial | refine ⟨rfl, ?_⟩))) (fun _ h3 => ?_)
  refine go Try.tbs_ok 1000 ?_
  refine ev_if_no rfl ?_
  refine go Try.tbs_ok 1000 ?_
  refine ev_inline Try.tbs_ok Try.func69 rfl rfl ?_
  refine go Try.tbs_ok 1000 ?_
  refine ev_stop (go_index0 (sz := 3) Try.tbs_ok (.inr 1) (posF L x) rfl rfl rfl rfl rfl rfl (by omega) rfl Row.at0 (fun g4 e5 => ?_))
  subst e5
  refine go Try.tbs_ok 1000 ?_
  refine ev_new fun b6 => ?_
  refine ev_stop (go_draw Try.tbs_ok true [0, 1, 2, 3, 4] [(0,true),(1,true),(2,true),(3,true),(4,true),(5,true),(6,true),(7,true),(8,true),(9,true),(10,true)] rfl ?_)
  refine go Try.tbs_ok 1000 ?_
  refine ev_need ⟨⟨(by repeat (first | exact trivial | refine ⟨rfl, ?_⟩)), rfl⟩, by kernel_rfl⟩ ?_
  refine ev_if_lt (fun h7 => ?_) (fun h7 => ?_)
  refine go Try.tbs_ok 1000 ?_
  refine ev_need ⟨⟨(by repeat (first | exact trivial | refine ⟨rfl, ?_⟩)), rfl⟩, by kernel_rfl⟩ ?_
  refine ev_fin ⟨trivial, (by repeat (first | exact trivial | refine ⟨rfl, ?_⟩)), _, rfl, ?_⟩
  refine go Try.tbs_ok 1000 ?_
  refine ev_fin ⟨trivial, (by repeat (first | exact trivial | refine ⟨rfl, ?_⟩)), _, rfl, ?_⟩
  refine go Try.tbs_ok 1000 ?_
  refine ev_fin ⟨trivial, _, rfl, (()), rfl, (by trivial), Frm.sel [0, 1] rfl (by decide)⟩
  refine go Try.tbs_ok 1000 ?_
  refine ev_need ⟨⟨(by repeat (first | exact trivial | refine ⟨rfl, ?_⟩)), rfl⟩, by kernel_rfl⟩ ?_
  have l8 : posF L x < (L).length := (by omega)
  refine ev_stop (tk_loadE Try.tbs_ok (.inr 1) (posF L x) 1 ⟨⟨(by repeat (first | exact trivial | refine ⟨rfl, ?_⟩)), rfl⟩, by kernel_rfl⟩ rfl rfl rfl rfl rfl (fun _ h => Row.rd h) (by omega) (fun _ => rfl) (by omega) l8 (by decide) ?_)
  refine go Try.tbs_ok 1000 ?_
  refine ev_need ⟨⟨(by repeat (first | exact trivial | refine ⟨rfl, ?_⟩)), rfl⟩, by kernel_rfl⟩ ?_
  refine ev_if_yes (decide_eq_true (show z > (↑L[posF L x].d.size : Int) from (by omega))) ?_
  refine go Try.tbs_ok 1000 ?_
  refine ev_fin ⟨trivial, (by repeat (first | exact trivial | refine ⟨rfl, ?_⟩)), _, rfl, ?_⟩
  refine go Try.tbs_ok 1000 ?_
  refine ev_fin ⟨trivial, (by repeat (first | exact trivial | refine ⟨rfl, ?_⟩)), _, rfl, ?_⟩
  refine go Try.tbs_ok 1000 ?_
  refine ev_fin ⟨trivial, _, rfl, (()), rfl, (by trivial), Frm.sel [0, 1] rfl (by decide)⟩
set_option maxRecDepth 100000 in
theorem renameArg (p : Nat) (m s : Int) (A : Option Addr) (n c : Nat) (fv : Value) (B : Option Addr) (k d : Nat) (L : List Fl) (hn : n = L.length) (h1 : n ≤ 1000) (x y : ByteArray) (hm : 0 < m) (hs : riseF L) (hh : hasF L x = true) (ho : oddS y = true) : Triple Try.prog 35 [.pointer (some ⟨p, 0, none⟩), .string x, .string y] [Pt p 53 [.int .i64 m, .int .i64 s, .bool false, .slice A n c, fv, .slice B k d], Row 71 3 A n c (L.flatMap encF)] [] (Unit) (fun _ => .int .i64 2) (fun _ => True) (fun _ => [Pt p 53 [.int .i64 m, .int .i64 s, .bool false, .slice A n c, fv, .slice B k d], Row 71 3 A n c (L.flatMap encF)]) := by
  have T1 := askP p m s false A n c fv B k d hm
  have T2 := findT p m s false A n c fv B k d L x hn h1 hs
  rw [hh] at T2
  have TO := oddT y
  rw [ho] at TO
  refine triple_intro Try.tbs_ok Try.func35 rfl [.pt 0 p 0, .va (.string x), .va (.string y)] [.box p 53 [.va (.int .i64 m), .va (.int .i64 s), .va (.bool false), .va (.slice A n c), .va fv, .va (.slice B k d)], .fact (Row 71 3 A n c (L.flatMap encF))] ⟨rfl, trivial, trivial, trivial⟩ rfl (by simp [SV.good, SV.goodL]) ?_
  intro E
  refine go Try.tbs_ok 1000 ?_
  refine ev_new fun b0 => ?_
  refine ev_new fun b1 => ?_
  refine ev_inline Try.tbs_ok Try.func52 rfl rfl ?_
  refine go Try.tbs_ok 1000 ?_
  refine ev_call (T1 ) [0] [] (fun v0_ => [.box (p) 53 [.va (Value.int IntKind.i64 m), .va (Value.int IntKind.i64 s), .bl false, .va (Value.slice A n c), .va (fv), .va (Value.slice B k d)]]) rfl rfl (by decide) rfl (by simp) (fun _ => rfl) (fun _ => (newsOk_box (by simp [SV.good, SV.goodL]) (newsOk_nil _))) (fun _ => (by repeat (first | exact trivial | refine ⟨rfl, ?_⟩))) (fun _ h2 => ?_)
  refine go Try.tbs_ok 1000 ?_
  refine ev_if_no rfl ?_
  refine go Try.tbs_ok 1000 ?_
  refine ev_call (T2 ) [0, 1] [] (fun v0_ => [.box (p) 53 [.va (Value.int IntKind.i64 m), .va (Value.int IntKind.i64 s), .bl false, .va (Value.slice A n c), .va (fv), .va (Value.slice B k d)], .fact (Row 71 3 A n c (List.flatMap encF L))]) rfl rfl (by decide) rfl (by simp) (fun _ => rfl) (fun _ => (newsOk_box (by simp [SV.good, SV.goodL]) (newsOk_fact (newsOk_nil _)))) (fun _ => (by repeat (first | exact trivial | refine ⟨rfl, ?_⟩))) (fun _ h3 => ?_)
  refine go Try.tbs_ok 1000 ?_
  refine ev_if_no rfl ?_
  refine go Try.tbs_ok 1000 ?_
  refine ev_inline Try.tbs_ok Try.func64 rfl rfl ?_
  refine go Try.tbs_ok 1000 ?_
  refine ev_new fun b4 => ?_
  refine ev_callF (TO ) [] [] rfl rfl (by decide) rfl (by simp) (fun _ => (by repeat (first | exact trivial | refine ⟨rfl, ?_⟩))) (fun _ h5 => ?_)
  refine go Try.tbs_ok 1000 ?_
  refine ev_if_yes rfl ?_
  refine go Try.tbs_ok 1000 ?_
  refine ev_fin ⟨trivial, (by repeat (first | exact trivial | refine ⟨rfl, ?_⟩)), _, rfl, ?_⟩
  refine go Try.tbs_ok 1000 ?_
  refine ev_fin ⟨trivial, (by repeat (first | exact trivial | refine ⟨rfl, ?_⟩)), _, rfl, ?_⟩
  refine go Try.tbs_ok 1000 ?_
  refine ev_fin ⟨trivial, _, rfl, (()), rfl, (by trivial), Frm.sel [0, 1] rfl (by decide)⟩
set_option maxRecDepth 100000 in
theorem readT (p : Nat) (m s : Int) (A : Option Addr) (n c : Nat) (fv : Value) (B : Option Addr) (k d : Nat) (L : List Fl) (hn : n = L.length) (h1 : n ≤ 1000) (x : ByteArray) (hm : 0 < m) (hs : riseF L) (hh : hasF L x = true) (hi' : posF L x < L.length) : Triple Try.prog 20 [.pointer (some ⟨p, 0, none⟩), .string x] [Pt p 53 [.int .i64 m, .int .i64 s, .bool false, .slice A n c, fv, .slice B k d], Row 71 3 A n c (L.flatMap encF)] [] (Unit) (fun _ => .tuple #[.string (L[posF L x]'hi').d, .int .i64 0]) (fun _ => True) (fun _ => [Pt p 53 [.int .i64 m, .int .i64 s, .bool false, .slice A n c, fv, .slice B k d], Row 71 3 A n c (L.flatMap encF)]) := by
  have T1 := askP p m s false A n c fv B k d hm
  have T2 := findT p m s false A n c fv B k d L x hn h1 hs
  rw [hh] at T2
  have hi : posF L x < L.length := (has_pos hs hh).1
  refine triple_intro Try.tbs_ok Try.func20 rfl [.pt 0 p 0, .va (.string x)] [.box p 53 [.va (.int .i64 m), .va (.int .i64 s), .va (.bool false), .va (.slice A n c), .va fv, .va (.slice B k d)], .fact (Row 71 3 A n c (L.flatMap encF))] ⟨rfl, trivial, trivial⟩ rfl (by simp [SV.good, SV.goodL]) ?_
  intro E
  refine go Try.tbs_ok 1000 ?_
  refine ev_new fun b0 => ?_
  refine ev_new fun b1 => ?_
  refine ev_inline Try.tbs_ok Try.func52 rfl rfl ?_
  refine go Try.tbs_ok 1000 ?_
  refine ev_call (T1 ) [0] [] (fun v0_ => [.box (p) 53 [.va (Value.int IntKind.i64 m), .va (Value.int IntKind.i64 s), .bl false, .va (Value.slice A n c), .va (fv), .va (Value.slice B k d)]]) rfl rfl (by decide) rfl (by simp) (fun _ => rfl) (fun _ => (newsOk_box (by simp [SV.good, SV.goodL]) (newsOk_nil _))) (fun _ => (by repeat (first | exact trivial | refine ⟨rfl, ?_⟩))) (fun _ h2 => ?_)
  refine go Try.tbs_ok 1000 ?_
  refine ev_if_no rfl ?_
  refine go Try.tbs_ok 1000 ?_
  refine ev_call (T2 ) [0, 1] [] (fun v0_ => [.box (p) 53 [.va (Value.int IntKind.i64 m), .va (Value.int IntKind.i64 s), .bl false, .va (Value.slice A n c), .va (fv), .va (Value.slice B k d)], .fact (Row 71 3 A n c (List.flatMap encF L))]) rfl rfl (by decide) rfl (by simp) (fun _ => rfl) (fun _ => (newsOk_box (by simp [SV.good, SV.goodL]) (newsOk_fact (newsOk_nil _)))) (fun _ => (by repeat (first | exact trivial | refine ⟨rfl, ?_⟩))) (fun _ h3 => ?_)
  refine go Try.tbs_ok 1000 ?_
  refine ev_if_no rfl ?_
  refine go Try.tbs_ok 1000 ?_
  refine ev_inline Try.tbs_ok Try.func53 rfl rfl ?_
  refine go Try.tbs_ok 1000 ?_
  refine ev_stop (go_index0 (sz := 3) Try.tbs_ok (.inr 1) (posF L x) rfl rfl rfl rfl rfl rfl (by omega) rfl Row.at0 (fun g4 e5 => ?_))
  subst e5
  refine go Try.tbs_ok 1000 ?_
  have l6 : posF L x < (L).length := (by omega)
  refine ev_stop (go_loadE Try.tbs_ok (.inr 1) (posF L x) 1 rfl rfl rfl rfl (fun _ h => Row.rd h) (by omega) (fun _ => rfl) (by omega) l6 (by decide) ?_)
  refine go Try.tbs_ok 1000 ?_
  refine ev_fin ⟨trivial, (by repeat (first | exact trivial | refine ⟨rfl, ?_⟩)), _, rfl, ?_⟩
  refine go Try.tbs_ok 1000 ?_
  refine ev_fin ⟨trivial, (by repeat (first | exact trivial | refine ⟨rfl, ?_⟩)), _, rfl, ?_⟩
  refine go Try.tbs_ok 1000 ?_
  refine ev_fin ⟨trivial, _, rfl, (()), rfl, (by trivial), Frm.sel [0, 1] rfl (by decide)⟩
set_option maxRecDepth 100000 in
theorem appendArg (p : Nat) (m s : Int) (A : Option Addr) (n c : Nat) (fv : Value) (B : Option Addr) (k d : Nat) (L : List Fl) (hn : n = L.length) (h1 : n ≤ 1000) (x y : ByteArray) (hm : 0 < m) (hs : riseF L) (ho : oddS x = true) : Triple Try.prog 34 [.pointer (some ⟨p, 0, none⟩), .string x, .string y] [Pt p 53 [.int .i64 m, .int .i64 s, .bool false, .slice A n c, fv, .slice B k d], Row 71 3 A n c (L.flatMap encF)] [] (Unit) (fun _ => .int .i64 2) (fun _ => True) (fun _ => [Pt p 53 [.int .i64 m, .int .i64 s, .bool false, .slice A n c, fv, .slice B k d], Row 71 3 A n c (L.flatMap encF)]) := by
  have T1 := askP p m s false A n c fv B k d hm
  have T2 := findT p m s false A n c fv B k d L x hn h1 hs
  have TO := oddT x
  rw [ho] at TO
  refine triple_intro Try.tbs_ok Try.func34 rfl [.pt 0 p 0, .va (.string x), .va (.string y)] [.box p 53 [.va (.int .i64 m), .va (.int .i64 s), .va (.bool false), .va (.slice A n c), .va fv, .va (.slice B k d)], .fact (Row 71 3 A n c (L.flatMap encF))] ⟨rfl, trivial, trivial, trivial⟩ rfl (by simp [SV.good, SV.goodL]) ?_
  intro E
  refine go Try.tbs_ok 1000 ?_
  refine ev_new fun b0 => ?_
  refine ev_new fun b1 => ?_
  refine ev_new fun b2 => ?_
  refine ev_call (T1 ) [0] [] (fun v0_ => [.box (p) 53 [.va (Value.int IntKind.i64 m), .va (Value.int IntKind.i64 s), .bl false, .va (Value.slice A n c), .va (fv), .va (Value.slice B k d)]]) rfl rfl (by decide) rfl (by simp) (fun _ => rfl) (fun _ => (newsOk_box (by simp [SV.good, SV.goodL]) (newsOk_nil _))) (fun _ => (by repeat (first | exact trivial | refine ⟨rfl, ?_⟩))) (fun _ h3 => ?_)
  refine go Try.tbs_ok 1000 ?_
  refine ev_if_no rfl ?_
  refine go Try.tbs_ok 1000 ?_
  refine ev_call (T2 ) [0, 1] [] (fun v0_ => [.box (p) 53 [.va (Value.int IntKind.i64 m), .va (Value.int IntKind.i64 s), .bl false, .va (Value.slice A n c), .va (fv), .va (Value.slice B k d)], .fact (Row 71 3 A n c (List.flatMap encF L))]) rfl rfl (by decide) rfl (by simp) (fun _ => rfl) (fun _ => (newsOk_box (by simp [SV.good, SV.goodL]) (newsOk_fact (newsOk_nil _)))) (fun _ => (by repeat (first | exact trivial | refine ⟨rfl, ?_⟩))) (fun _ h4 => ?_)
  refine go Try.tbs_ok 1000 ?_
  refine ev_new fun b5 => ?_
  refine ev_new fun b6 => ?_
  refine ev_callF (TO ) [] [] rfl rfl (by decide) rfl (by simp) (fun _ => (by repeat (first | exact trivial | refine ⟨rfl, ?_⟩))) (fun _ h7 => ?_)
  refine go Try.tbs_ok 1000 ?_
  refine ev_if_yes rfl ?_
  refine go Try.tbs_ok 1000 ?_
  refine ev_fin ⟨trivial, _, rfl, (()), rfl, (by trivial), Frm.sel [0, 1] rfl (by decide)⟩
set_option maxRecDepth 100000 in
theorem appendFull1 (p : Nat) (m s : Int) (A : Option Addr) (n c : Nat) (fv : Value) (B : Option Addr) (k d : Nat) (L : List Fl) (hn : n = L.length) (h1 : n ≤ 1000) (x y : ByteArray) (hm : 0 < m) (hs : riseF L) (ho : oddS x = false) (hh : hasF L x = false) (hn16 : n = 16) : Triple Try.prog 34 [.pointer (some ⟨p, 0, none⟩), .string x, .string y] [Pt p 53 [.int .i64 m, .int .i64 s, .bool false, .slice A n c, fv, .slice B k d], Row 71 3 A n c (L.flatMap encF)] [] (Unit) (fun _ => .int .i64 40) (fun _ => True) (fun _ => [Pt p 53 [.int .i64 m, .int .i64 s, .bool false, .slice A n c, fv, .slice B k d], Row 71 3 A n c (L.flatMap encF)]) := by
  have T1 := askP p m s false A n c fv B k d hm
  have T2 := findT p m s false A n c fv B k d L x hn h1 hs
  rw [hh] at T2
  have TO := oddT x
  rw [ho] at TO
  refine triple_intro Try.tbs_ok Try.func34 rfl [.pt 0 p 0, .va (.string x), .va (.string y)] [.box p 53 [.va (.int .i64 m), .va (.int .i64 s), .va (.bool false), .va (.slice A n c), .va fv, .va (.slice B k d)], .fact (Row 71 3 A n c (L.flatMap encF))] ⟨rfl, trivial, trivial, trivial⟩ rfl (by simp [SV.good, SV.goodL]) ?_
  intro E
  refine go Try.tbs_ok 1000 ?_
  refine ev_new fun b0 => ?_
  refine ev_new fun b1 => ?_
  refine ev_new fun b2 => ?_
  refine ev_call (T1 ) [0] [] (fun v0_ => [.box (p) 53 [.va (Value.int IntKind.i64 m), .va (Value.int IntKind.i64 s), .bl false, .va (Value.slice A n c), .va (fv), .va (Value.slice B k d)]]) rfl rfl (by decide) rfl (by simp) (fun _ => rfl) (fun _ => (newsOk_box (by simp [SV.good, SV.goodL]) (newsOk_nil _))) (fun _ => (by repeat (first | exact trivial | refine ⟨rfl, ?_⟩))) (fun _ h3 => ?_)
  refine go Try.tbs_ok 1000 ?_
  refine ev_if_no rfl ?_
  refine go Try.tbs_ok 1000 ?_
  refine ev_call (T2 ) [0, 1] [] (fun v0_ => [.box (p) 53 [.va (Value.int IntKind.i64 m), .va (Value.int IntKind.i64 s), .bl false, .va (Value.slice A n c), .va (fv), .va (Value.slice B k d)], .fact (Row 71 3 A n c (List.flatMap encF L))]) rfl rfl (by decide) rfl (by simp) (fun _ => rfl) (fun _ => (newsOk_box (by simp [SV.good, SV.goodL]) (newsOk_fact (newsOk_nil _)))) (fun _ => (by repeat (first | exact trivial | refine ⟨rfl, ?_⟩))) (fun _ h4 => ?_)
  refine go Try.tbs_ok 1000 ?_
  refine ev_new fun b5 => ?_
  refine ev_new fun b6 => ?_
  refine ev_callF (TO ) [] [] rfl rfl (by decide) rfl (by simp) (fun _ => (by repeat (first | exact trivial | refine ⟨rfl, ?_⟩))) (fun _ h7 => ?_)
  refine go Try.tbs_ok 1000 ?_
  refine ev_if_no rfl ?_
  refine go Try.tbs_ok 1000 ?_
  refine ev_if_yes rfl ?_
  refine go Try.tbs_ok 1000 ?_
  refine ev_if_yes (beq_iff_eq.2 (show (↑n : Int) = 16 from (by omega))) ?_
  refine go Try.tbs_ok 1000 ?_
  refine ev_if_yes (beq_iff_eq.2 (show (↑n : Int) = 16 from (by omega))) ?_
  refine go Try.tbs_ok 1000 ?_
  refine ev_fin ⟨trivial, _, rfl, (()), rfl, (by trivial), Frm.sel [0, 1] rfl (by decide)⟩
set_option maxRecDepth 100000 in
theorem appendFull2T (p : Nat) (m s : Int) (A : Option Addr) (n c : Nat) (fv : Value) (B : Option Addr) (k d : Nat) (L : List Fl) (hn : n = L.length) (h1 : n ≤ 1000) (x y : ByteArray) (hm : 0 < m) (hm2 : m ≤ 1048576) (hb : sumD L ≤ 1000000000) (hs : riseF L) (ho : oddS x = false) (hh : hasF L x = true) (hy : m - sumD L < (y.size : Int)) : Triple Try.prog 34 [.pointer (some ⟨p, 0, none⟩), .string x, .string y] [Pt p 53 [.int .i64 m, .int .i64 s, .bool false, .slice A n c, fv, .slice B k d], Row 71 3 A n c (L.flatMap encF)] [] (Unit) (fun _ => .int .i64 40) (fun _ => True) (fun _ => [Pt p 53 [.int .i64 m, .int .i64 s, .bool false, .slice A n c, fv, .slice B k d], Row 71 3 A n c (L.flatMap encF)]) := by
  have T1 := askP p m s false A n c fv B k d hm
  have T2 := findT p m s false A n c fv B k d L x hn h1 hs
  rw [hh] at T2
  have TO := oddT x
  rw [ho] at TO
  have TS := sizeT p m s false A n c fv B k d L hm hn h1 hb
  refine triple_intro Try.tbs_ok Try.func34 rfl [.pt 0 p 0, .va (.string x), .va (.string y)] [.box p 53 [.va (.int .i64 m), .va (.int .i64 s), .va (.bool false), .va (.slice A n c), .va fv, .va (.slice B k d)], .fact (Row 71 3 A n c (L.flatMap encF))] ⟨rfl, trivial, trivial, trivial⟩ rfl (by simp [SV.good, SV.goodL]) ?_
  intro E
  refine go Try.tbs_ok 1000 ?_
  refine ev_new fun b0 => ?_
  refine ev_new fun b1 => ?_
  refine ev_new fun b2 => ?_
  refine ev_call (T1 ) [0] [] (fun v0_ => [.box (p) 53 [.va (Value.int IntKind.i64 m), .va (Value.int IntKind.i64 s), .bl false, .va (Value.slice A n c), .va (fv), .va (Value.slice B k d)]]) rfl rfl (by decide) rfl (by simp) (fun _ => rfl) (fun _ => (newsOk_box (by simp [SV.good, SV.goodL]) (newsOk_nil _))) (fun _ => (by repeat (first | exact trivial | refine ⟨rfl, ?_⟩))) (fun _ h3 => ?_)
  refine go Try.tbs_ok 1000 ?_
  refine ev_if_no rfl ?_
  refine go Try.tbs_ok 1000 ?_
  refine ev_call (T2 ) [0, 1] [] (fun v0_ => [.box (p) 53 [.va (Value.int IntKind.i64 m), .va (Value.int IntKind.i64 s), .bl false, .va (Value.slice A n c), .va (fv), .va (Value.slice B k d)], .fact (Row 71 3 A n c (List.flatMap encF L))]) rfl rfl (by decide) rfl (by simp) (fun _ => rfl) (fun _ => (newsOk_box (by simp [SV.good, SV.goodL]) (newsOk_fact (newsOk_nil _)))) (fun _ => (by repeat (first | exact trivial | refine ⟨rfl, ?_⟩))) (fun _ h4 => ?_)
  refine go Try.tbs_ok 1000 ?_
  refine ev_new fun b5 => ?_
  refine ev_new fun b6 => ?_
  refine ev_callF (TO ) [] [] rfl rfl (by decide) rfl (by simp) (fun _ => (by repeat (first | exact trivial | refine ⟨rfl, ?_⟩))) (fun _ h7 => ?_)
  refine go Try.tbs_ok 1000 ?_
  refine ev_if_no rfl ?_
  refine go Try.tbs_ok 1000 ?_
  refine ev_if_no rfl ?_
  refine go Try.tbs_ok 1000 ?_
  refine ev_stop (go_draw Try.tbs_ok false [0, 2, 4] [(0,true),(1,true),(2,true),(3,true),(4,true),(5,true),(6,true),(7,false),(8,false),(9,false),(10,false)] rfl ?_)
  refine go Try.tbs_ok 1000 ?_
  refine ev_need ⟨⟨(by repeat (first | exact trivial | refine ⟨rfl, ?_⟩)), rfl⟩, by kernel_rfl⟩ ?_
  refine ev_call (TS ) [0, 1] [] (fun v0_ => [.box (p) 53 [.va (Value.int IntKind.i64 m), .va (Value.int IntKind.i64 s), .bl false, .va (Value.slice A n c), .va (fv), .va (Value.slice B k d)], .fact (Row 71 3 A n c (List.flatMap encF L))]) rfl rfl (by decide) rfl (by simp) (fun _ => rfl) (fun _ => (newsOk_box (by simp [SV.good, SV.goodL]) (newsOk_fact (newsOk_nil _)))) (fun _ => (by repeat (first | exact trivial | refine ⟨rfl, ?_⟩))) (fun _ h8 => ?_)
  refine go Try.tbs_ok 1000 ?_
  refine ev_need ⟨⟨(by repeat (first | exact trivial | refine ⟨rfl, ?_⟩)), rfl⟩, by kernel_rfl⟩ ?_
  refine ev_w64 (by constructor <;> omega) ?_
  refine ev_need ⟨⟨(by repeat (first | exact trivial | refine ⟨rfl, ?_⟩)), rfl⟩, by kernel_rfl⟩ ?_
  refine ev_need ⟨⟨(by repeat (first | exact trivial | refine ⟨rfl, ?_⟩)), rfl⟩, by kernel_rfl⟩ ?_
  refine ev_need (by kernel_rfl) ?_
  refine ev_if_yes (decide_eq_true (by with_reducible assumption)) ?_
  refine go Try.tbs_ok 1000 ?_
  refine ev_fin ⟨trivial, _, rfl, (()), rfl, (by trivial), Frm.sel [0, 1] rfl (by decide)⟩
set_option maxRecDepth 100000 in
theorem appendFull2F (p : Nat) (m s : Int) (A : Option Addr) (n c : Nat) (fv : Value) (B : Option Addr) (k d : Nat) (L : List Fl) (hn : n = L.length) (h1 : n ≤ 1000) (x y : ByteArray) (hm : 0 < m) (hm2 : m ≤ 1048576) (hb : sumD L ≤ 1000000000) (hs : riseF L) (ho : oddS x = false) (hh : hasF L x = false) (hn16 : n ≠ 16) (hy : m - sumD L < (y.size : Int)) : Triple Try.prog 34 [.pointer (some ⟨p, 0, none⟩), .string x, .string y] [Pt p 53 [.int .i64 m, .int .i64 s, .bool false, .slice A n c, fv, .slice B k d], Row 71 3 A n c (L.flatMap encF)] [] (Unit) (fun _ => .int .i64 40) (fun _ => True) (fun _ => [Pt p 53 [.int .i64 m, .int .i64 s, .bool false, .slice A n c, fv, .slice B k d], Row 71 3 A n c (L.flatMap encF)]) := by
  have T1 := askP p m s false A n c fv B k d hm
  have T2 := findT p m s false A n c fv B k d L x hn h1 hs
  rw [hh] at T2
  have TO := oddT x
  rw [ho] at TO
  have TS := sizeT p m s false A n c fv B k d L hm hn h1 hb
  refine triple_intro Try.tbs_ok Try.func34 rfl [.pt 0 p 0, .va (.string x), .va (.string y)] [.box p 53 [.va (.int .i64 m), .va (.int .i64 s), .va (.bool false), .va (.slice A n c), .va fv, .va (.slice B k d)], .fact (Row 71 3 A n c (L.flatMap encF))] ⟨rfl, trivial, trivial, trivial⟩ rfl (by simp [SV.good, SV.goodL]) ?_
  intro E
  refine go Try.tbs_ok 1000 ?_
  refine ev_new fun b0 => ?_
  refine ev_new fun b1 => ?_
  refine ev_new fun b2 => ?_
  refine ev_call (T1 ) [0] [] (fun v0_ => [.box (p) 53 [.va (Value.int IntKind.i64 m), .va (Value.int IntKind.i64 s), .bl false, .va (Value.slice A n c), .va (fv), .va (Value.slice B k d)]]) rfl rfl (by decide) rfl (by simp) (fun _ => rfl) (fun _ => (newsOk_box (by simp [SV.good, SV.goodL]) (newsOk_nil _))) (fun _ => (by repeat (first | exact trivial | refine ⟨rfl, ?_⟩))) (fun _ h3 => ?_)
  refine go Try.tbs_ok 1000 ?_
  refine ev_if_no rfl ?_
  refine go Try.tbs_ok 1000 ?_
  refine ev_call (T2 ) [0, 1] [] (fun v0_ => [.box (p) 53 [.va (Value.int IntKind.i64 m), .va (Value.int IntKind.i64 s), .bl false, .va (Value.slice A n c), .va (fv), .va (Value.slice B k d)], .fact (Row 71 3 A n c (List.flatMap encF L))]) rfl rfl (by decide) rfl (by simp) (fun _ => rfl) (fun _ => (newsOk_box (by simp [SV.good, SV.goodL]) (newsOk_fact (newsOk_nil _)))) (fun _ => (by repeat (first | exact trivial | refine ⟨rfl, ?_⟩))) (fun _ h4 => ?_)
  refine go Try.tbs_ok 1000 ?_
  refine ev_new fun b5 => ?_
  refine ev_new fun b6 => ?_
  refine ev_callF (TO ) [] [] rfl rfl (by decide) rfl (by simp) (fun _ => (by repeat (first | exact trivial | refine ⟨rfl, ?_⟩))) (fun _ h7 => ?_)
  refine go Try.tbs_ok 1000 ?_
  refine ev_if_no rfl ?_
  refine go Try.tbs_ok 1000 ?_
  refine ev_if_yes rfl ?_
  refine go Try.tbs_ok 1000 ?_
  refine ev_if_no (beq_eq_false_iff_ne.2 (show ¬(↑n : Int) = 16 from (by omega))) ?_
  refine go Try.tbs_ok 1000 ?_
  refine ev_stop (go_draw Try.tbs_ok false [0, 2, 4] [(0,true),(1,true),(2,true),(3,true),(4,true),(5,true),(6,true),(7,false),(8,false),(9,false),(10,false)] rfl ?_)
  refine go Try.tbs_ok 1000 ?_
  refine ev_need ⟨⟨(by repeat (first | exact trivial | refine ⟨rfl, ?_⟩)), rfl⟩, by kernel_rfl⟩ ?_
  refine ev_call (TS ) [0, 1] [] (fun v0_ => [.box (p) 53 [.va (Value.int IntKind.i64 m), .va (Value.int IntKind.i64 s), .bl false, .va (Value.slice A n c), .va (fv), .va (Value.slice B k d)], .fact (Row 71 3 A n c (List.flatMap encF L))]) rfl rfl (by decide) rfl (by simp) (fun _ => rfl) (fun _ => (newsOk_box (by simp [SV.good, SV.goodL]) (newsOk_fact (newsOk_nil _)))) (fun _ => (by repeat (first | exact trivial | refine ⟨rfl, ?_⟩))) (fun _ h8 => ?_)
  refine go Try.tbs_ok 1000 ?_
  refine ev_need ⟨⟨(by repeat (first | exact trivial | refine ⟨rfl, ?_⟩)), rfl⟩, by kernel_rfl⟩ ?_
  refine ev_w64 (by constructor <;> omega) ?_
  refine ev_need ⟨⟨(by repeat (first | exact trivial | refine ⟨rfl, ?_⟩)), rfl⟩, by kernel_rfl⟩ ?_
  refine ev_need ⟨⟨(by repeat (first | exact trivial | refine ⟨rfl, ?_⟩)), rfl⟩, by kernel_rfl⟩ ?_
  refine ev_need (by kernel_rfl) ?_
  refine ev_if_yes (decide_eq_true (by with_reducible assumption)) ?_
  refine go Try.tbs_ok 1000 ?_
  refine ev_fin ⟨trivial, _, rfl, (()), rfl, (by trivial), Frm.sel [0, 1] rfl (by decide)⟩
set_option maxRecDepth 100000 in
theorem startUp (p : Nat) (m s : Int) (A : Option Addr) (n c : Nat) (fv : Value) (B : Option Addr) (k d : Nat) (hm : 0 < m) : Triple Try.prog 28 [.pointer (some ⟨p, 0, none⟩)] [Pt p 53 [.int .i64 m, .int .i64 s, .bool false, .slice A n c, fv, .slice B k d]] [] (Unit) (fun _ => .int .i64 2) (fun _ => True) (fun _ => [Pt p 53 [.int .i64 m, .int .i64 s, .bool false, .slice A n c, fv, .slice B k d]]) := by
  have T1 := askP p m s false A n c fv B k d hm
  refine triple_intro Try.tbs_ok Try.func28 rfl [.pt 0 p 0] [.box p 53 [.va (.int .i64 m), .va (.int .i64 s), .va (.bool false), .va (.slice A n c), .va fv, .va (.slice B k d)]] ⟨rfl, trivial⟩ rfl (by simp [SV.good, SV.goodL]) ?_
  intro E
  refine go Try.tbs_ok 1000 ?_
  refine ev_call (T1 ) [0] [] (fun v0_ => [.box (p) 53 [.va (Value.int IntKind.i64 m), .va (Value.int IntKind.i64 s), .bl false, .va (Value.slice A n c), .va (fv), .va (Value.slice B k d)]]) rfl rfl (by decide) rfl (by simp) (fun _ => rfl) (fun _ => (newsOk_box (by simp [SV.good, SV.goodL]) (newsOk_nil _))) (fun _ => (by repeat (first | exact trivial | refine ⟨rfl, ?_⟩))) (fun _ h0 => ?_)
  refine go Try.tbs_ok 1000 ?_
  refine ev_if_no rfl ?_
  refine go Try.tbs_ok 1000 ?_
  refine ev_if_yes rfl ?_
  refine go Try.tbs_ok 1000 ?_
  refine ev_fin ⟨trivial, _, rfl, (()), rfl, (by trivial), Frm.sel [0] rfl (by decide)⟩
set_option maxRecDepth 100000 in
theorem startDown (p : Nat) (m s : Int) (A : Option Addr) (n c : Nat) (fv : Value) (B : Option Addr) (k d : Nat) (hm : 0 < m) (h0 : 0 ≤ s) (h1 : s ≤ 1000000000) : Triple Try.prog 28 [.pointer (some ⟨p, 0, none⟩)] [Pt p 53 [.int .i64 m, .int .i64 s, .bool true, .slice A n c, fv, .slice B k d]] [] (Unit) (fun _ => .int .i64 0) (fun _ => True) (fun _ => [Pt p 53 [.int .i64 m, .int .i64 (s + 1), .bool false, .slice A n c, fv, .slice B k d]]) := by
  have T1 := askP p m s true A n c fv B k d hm
  refine triple_intro Try.tbs_ok Try.func28 rfl [.pt 0 p 0] [.box p 53 [.va (.int .i64 m), .va (.int .i64 s), .va (.bool true), .va (.slice A n c), .va fv, .va (.slice B k d)]] ⟨rfl, trivial⟩ rfl (by simp [SV.good, SV.goodL]) ?_
  intro E
  refine go Try.tbs_ok 1000 ?_
  refine ev_call (T1 ) [0] [] (fun v0_ => [.box (p) 53 [.va (Value.int IntKind.i64 m), .va (Value.int IntKind.i64 s), .bl true, .va (Value.slice A n c), .va (fv), .va (Value.slice B k d)]]) rfl rfl (by decide) rfl (by simp) (fun _ => rfl) (fun _ => (newsOk_box (by simp [SV.good, SV.goodL]) (newsOk_nil _))) (fun _ => (by repeat (first | exact trivial | refine ⟨rfl, ?_⟩))) (fun _ h0 => ?_)
  refine go Try.tbs_ok 1000 ?_
  refine ev_if_yes rfl ?_
  refine go Try.tbs_ok 1000 ?_
  refine ev_w64 (by constructor <;> omega) ?_
  refine ev_fin ⟨trivial, _, rfl, (()), rfl, (by trivial), Frm.sel [0] rfl (by decide)⟩
set_option maxRecDepth 100000 in
theorem newErr (z : Int) (hz : z < 1 ∨ 1048576 < z) : Triple Try.prog 10 [.int .i64 z] [] [] (Unit) (fun _ => .tuple #[.pointer none, .int .i64 2]) (fun _ => True) (fun _ => []) := by
  refine triple_intro Try.tbs_ok Try.func10 rfl [.va (.int .i64 z)] [] ⟨trivial, trivial⟩ rfl (by simp []) ?_
  intro E
  refine go Try.tbs_ok 1000 ?_
  refine ev_if_lt (fun h0 => ?_) (fun h0 => ?_)
  refine go Try.tbs_ok 1000 ?_
  refine ev_fin ⟨trivial, _, rfl, (()), rfl, (by trivial), Frm.nil _⟩
  refine go Try.tbs_ok 1000 ?_
  refine ev_if_yes (decide_eq_true (show z > 1048576 from (by omega))) ?_
  refine go Try.tbs_ok 1000 ?_
  refine ev_fin ⟨trivial, _, rfl, (()), rfl, (by trivial), Frm.nil _⟩
set_option maxRecDepth 100000 in
theorem newOk (z : Int) (hz : 1 ≤ z) (hz2 : z ≤ 1048576) : Triple Try.prog 10 [.int .i64 z] [] [] (Nat) (fun p => .tuple #[.pointer (some ⟨p, 0, none⟩), .int .i64 0]) (fun _ => True) (fun p => [Pt p 53 [.int .i64 z, .int .i64 0, .bool false, .slice none 0 0, .nilFunc, .slice none 0 0]]) := by
  refine triple_intro Try.tbs_ok Try.func10 rfl [.va (.int .i64 z)] [] ⟨trivial, trivial⟩ rfl (by simp []) ?_
  intro E
  refine go Try.tbs_ok 1000 ?_
  refine ev_if_no (decide_eq_false (show ¬z < 1 from (by omega))) ?_
  refine go Try.tbs_ok 1000 ?_
  refine ev_if_no (decide_eq_false (show ¬z > 1048576 from (by omega))) ?_
  refine go Try.tbs_ok 1000 ?_
  refine ev_new fun b0 => ?_
  refine ev_fin ⟨trivial, _, rfl, (b0), rfl, (by trivial), Frm.sel [0] rfl (by decide)⟩
set_option maxRecDepth 100000 in
theorem cloneT (Q : Option Addr) (kq dq : Nat) (K : List Int) (hk : kq = K.length) (h1 : kq ≤ 100000) : Triple Try.prog 57 [.slice Q kq dq] [] [Rd 1 Q kq (K.flatMap encN)] (Option Addr × Nat) (fun (B, d) => .slice B kq d) (fun _ => True) (fun (B, d) => [Row 3 1 B kq d (K.flatMap encN)]) := by
  refine triple_intro Try.tbs_ok Try.func57 rfl [.va (.slice Q kq dq)] [] ⟨trivial, trivial⟩ rfl (by simp []) ?_
  intro E
  cases Q with
  | none =>
    refine go_know (.inl 0) (Rd 1 none kq (K.flatMap encN)) rfl (p := kq = 0) (fun h q => by
      rcases Nat.eq_zero_or_pos kq with h1 | h1
      · exact h1
      · obtain ⟨_, _, _, _, _, e, _⟩ := q.2.2 h1
        cases e) fun h0 => ?_
    obtain rfl : K = [] := List.eq_nil_of_length_eq_zero (by omega)
    subst h0
    refine go_fact (Row 3 1 none 0 0 (([] : List Int).flatMap encN)) (Row.nilE _ _) ?_
    refine go Try.tbs_ok 1000 ?_
    refine ev_if_yes rfl ?_
    refine go Try.tbs_ok 1000 ?_
    refine ev_fin ⟨trivial, _, rfl, ((none, 0)), rfl, (by trivial), Frm.sel [0] rfl (by decide)⟩
  | some g => refine go Try.tbs_ok 1000 ?_
              refine ev_if_no rfl ?_
              refine go Try.tbs_ok 1000 ?_
              refine ev_new fun b0 => ?_
              refine ev_stop (go_appendE (sz := 1) (M := [_]) (enc := encN) Try.tbs_ok [0] [some b0] (.inl 0) ([]) (K) (K) (kq) rfl rfl rfl rfl rfl rfl rfl (by decide) rfl (by decide) (fun _ p => Pt.row (starH_one.1 p) rfl (by decide)) rfl (fun _ h => h) (by first | rfl | simp) (by first | rfl | omega) (le_app (s := kq) (by omega) (by first | rfl | omega)) (le_appb (s := kq) (by omega) (by first | rfl | omega) (by decide)) (fun _ _ => (by repeat (first | exact trivial | refine ⟨rfl, ?_⟩))) (fun A1 c2 h3 => ?_))
              refine go Try.tbs_ok 1000 ?_
              refine ev_fin ⟨trivial, _, rfl, ((A1, c2)), rfl, (by trivial), Frm.sel [1] rfl (by decide)⟩
set_option maxRecDepth 100000 in
theorem failArg (p : Nat) (m s : Int) (A : Option Addr) (n c : Nat) (fv : Value) (B : Option Addr) (k d : Nat) (z : Int) (Q : Option Addr) (kq dq : Nat) (hm : 0 < m) (hz : z < 0) : Triple Try.prog 32 [.pointer (some ⟨p, 0, none⟩), .int .i64 z, .slice Q kq dq] [Pt p 53 [.int .i64 m, .int .i64 s, .bool false, .slice A n c, fv, .slice B k d]] [] (Unit) (fun _ => .int .i64 2) (fun _ => True) (fun _ => [Pt p 53 [.int .i64 m, .int .i64 s, .bool false, .slice A n c, fv, .slice B k d]]) := by
  have T1 := askP p m s false A n c fv B k d hm
  refine triple_intro Try.tbs_ok Try.func32 rfl [.pt 0 p 0, .va (.int .i64 z), .va (.slice Q kq dq)] [.box p 53 [.va (.int .i64 m), .va (.int .i64 s), .va (.bool false), .va (.slice A n c), .va fv, .va (.slice B k d)]] ⟨rfl, trivial, trivial, trivial⟩ rfl (by simp [SV.good, SV.goodL]) ?_
  intro E
  refine go Try.tbs_ok 1000 ?_
  refine ev_new fun b0 => ?_
  refine ev_call (T1 ) [0] [] (fun v0_ => [.box (p) 53 [.va (Value.int IntKind.i64 m), .va (Value.int IntKind.i64 s), .bl false, .va (Value.slice A n c), .va (fv), .va (Value.slice B k d)]]) rfl rfl (by decide) rfl (by simp) (fun _ => rfl) (fun _ => (newsOk_box (by simp [SV.good, SV.goodL]) (newsOk_nil _))) (fun _ => (by repeat (first | exact trivial | refine ⟨rfl, ?_⟩))) (fun _ h1 => ?_)
  refine go Try.tbs_ok 1000 ?_
  refine ev_if_no rfl ?_
  refine go Try.tbs_ok 1000 ?_
  refine ev_if_yes (decide_eq_true (by with_reducible assumption)) ?_
  refine go Try.tbs_ok 1000 ?_
  refine ev_fin ⟨trivial, _, rfl, (()), rfl, (by trivial), Frm.sel [0] rfl (by decide)⟩
set_option maxRecDepth 100000 in
theorem failOk (p : Nat) (m s : Int) (A : Option Addr) (n c : Nat) (fv : Value) (B : Option Addr) (k d : Nat) (z : Int) (Q : Option Addr) (kq dq : Nat) (K : List Int) (hm : 0 < m) (hz : 0 ≤ z) (hk : kq = K.length) (h1 : kq ≤ 100000) : Triple Try.prog 32 [.pointer (some ⟨p, 0, none⟩), .int .i64 z, .slice Q kq dq] [Pt p 53 [.int .i64 m, .int .i64 s, .bool false, .slice A n c, fv, .slice B k d]] [Rd 1 Q kq (K.flatMap encN)] (Nat × Option Addr × Nat) (fun _ => .int .i64 0) (fun _ => True) (fun (nb, B2, d2) => [Pt p 53 [.int .i64 m, .int .i64 s, .bool false, .slice A n c, .func (.func 58) #[] #[.pointer (some ⟨nb, 0, none⟩)], .slice B2 kq d2], Pt nb 3 [.int .i64 z], Row 3 1 B2 kq d2 (K.flatMap encN)]) := by
  have T1 := askP p m s false A n c fv B k d hm
  have TC := cloneT Q kq dq K hk h1
  refine triple_intro Try.tbs_ok Try.func32 rfl [.pt 0 p 0, .va (.int .i64 z), .va (.slice Q kq dq)] [.box p 53 [.va (.int .i64 m), .va (.int .i64 s), .va (.bool false), .va (.slice A n c), .va fv, .va (.slice B k d)]] ⟨rfl, trivial, trivial, trivial⟩ rfl (by simp [SV.good, SV.goodL]) ?_
  intro E
  refine go Try.tbs_ok 1000 ?_
  refine ev_new fun b0 => ?_
  refine ev_call (T1 ) [0] [] (fun v0_ => [.box (p) 53 [.va (Value.int IntKind.i64 m), .va (Value.int IntKind.i64 s), .bl false, .va (Value.slice A n c), .va (fv), .va (Value.slice B k d)]]) rfl rfl (by decide) rfl (by simp) (fun _ => rfl) (fun _ => (newsOk_box (by simp [SV.good, SV.goodL]) (newsOk_nil _))) (fun _ => (by repeat (first | exact trivial | refine ⟨rfl, ?_⟩))) (fun _ h1 => ?_)
  refine go Try.tbs_ok 1000 ?_
  refine ev_if_no rfl ?_
  refine go Try.tbs_ok 1000 ?_
  refine ev_if_no (decide_eq_false (show ¬z < 0 from (by omega))) ?_
  refine go Try.tbs_ok 1000 ?_
  refine ev_callF (TC ) [] [.inl 0] rfl rfl (by decide) rfl (by simp) (fun _ => (by repeat (first | exact trivial | refine ⟨rfl, ?_⟩))) (fun ⟨x2, x3⟩ h4 => ?_)
  refine go Try.tbs_ok 1000 ?_
  refine ev_fin ⟨trivial, _, rfl, ((b0, x2, x3)), rfl, (by trivial), Frm.sel [0, 1, 2] rfl (by decide)⟩
end Go.Proofs.Ythknokcgclcbmaa
