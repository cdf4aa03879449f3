/-
  What is proved: what is done with a disk that is up. Conditions: none.
-/
import Derived.Test.YthknokcgclcbmaaDF
namespace Go.Proofs.Ythknokcgclcbmaa
open Go.Sy

set_option maxRecDepth 100000 in
theorem syncN (p : Nat) (m s : Int) (A : Option Addr) (n c : Nat) (B : Option Addr) (k d : Nat) (L : List Fl) (hn : n = L.length) (h1 : n ≤ 1000) (x : ByteArray) (hh : hasF L x = true) (hi' : posF L x < L.length) (_hF : okF L) (hm : 0 < m) (hs : riseF L) : Triple Try.prog 40 [.pointer (some ⟨p, 0, none⟩), .string x] [Pt p 53 [.int .i64 m, .int .i64 s, .bool false, .slice A n c, .nilFunc, .slice B k d], Row 71 3 A n c (L.flatMap encF)] [] (Unit) (fun _ => .int .i64 0) (fun _ => True) (fun _ => [Pt p 53 [.int .i64 m, .int .i64 s, .bool false, .slice A n c, .nilFunc, .slice B k d], Row 71 3 A n c ((L.set (posF L x) ⟨(L[posF L x]'hi').n, (L[posF L x]'hi').d, ((L[posF L x]'hi').d.size : Nat)⟩).flatMap encF)]) := by
  have T1 := askP p m s false A n c (.nilFunc) B k d hm
  have T2 := findT p m s false A n c (.nilFunc) B k d L x hn h1 hs
  have hi : posF L x < L.length := (has_pos hs hh).1
  rw [hh] at T2
  have TD := fun bd ba => syncDo p m s false A n c (.nilFunc) B k d L hn h1 bd ba (posF L x) hi
  refine triple_intro Try.tbs_ok Try.func40 rfl [.pt 0 p 0, .va (.string x)] [.box p 53 [.va (.int .i64 m), .va (.int .i64 s), .va (.bool false), .va (.slice A n c), .va (.nilFunc), .va (.slice B k d)], .fact (Row 71 3 A n c (L.flatMap encF))] ⟨rfl, trivial, trivial⟩ rfl (by simp [SV.good, SV.goodL]) ?_
  intro E
  refine go Try.tbs_ok 1000 ?_
  refine ev_new fun b0 => ?_
  refine ev_inline Try.tbs_ok Try.func52 rfl rfl ?_
  refine go Try.tbs_ok 1000 ?_
  refine ev_call (T1 ) [0] [] (fun v0_ => [.box (p) 53 [.va (Value.int IntKind.i64 m), .va (Value.int IntKind.i64 s), .bl false, .va (Value.slice A n c), .va (Value.nilFunc), .va (Value.slice B k d)]]) rfl rfl (by decide) rfl (by simp) (fun _ => rfl) (fun _ => (newsOk_box (by simp [SV.good, SV.goodL]) (newsOk_nil _))) (fun _ => (by repeat (first | exact trivial | refine ⟨rfl, ?_⟩))) (fun _ h1 => ?_)
  refine go Try.tbs_ok 1000 ?_
  refine ev_if_no rfl ?_
  refine go Try.tbs_ok 1000 ?_
  refine ev_call (T2 ) [0, 1] [] (fun v0_ => [.box (p) 53 [.va (Value.int IntKind.i64 m), .va (Value.int IntKind.i64 s), .bl false, .va (Value.slice A n c), .va (Value.nilFunc), .va (Value.slice B k d)], .fact (Row 71 3 A n c (List.flatMap encF L))]) rfl rfl (by decide) rfl (by simp) (fun _ => rfl) (fun _ => (newsOk_box (by simp [SV.good, SV.goodL]) (newsOk_fact (newsOk_nil _)))) (fun _ => (by repeat (first | exact trivial | refine ⟨rfl, ?_⟩))) (fun _ h2 => ?_)
  refine go Try.tbs_ok 1000 ?_
  refine ev_if_no rfl ?_
  refine go Try.tbs_ok 1000 ?_
  refine ev_inline Try.tbs_ok Try.func67 rfl rfl ?_
  refine go Try.tbs_ok 1000 ?_
  refine ev_new fun b3 => ?_
  refine ev_inline Try.tbs_ok Try.func61 rfl rfl ?_
  refine go Try.tbs_ok 1000 ?_
  refine ev_call (TD (b0) (b3)) [0, 1, 2, 3] [] (fun v0_ => [.box (p) 53 [.va (Value.int IntKind.i64 m), .va (Value.int IntKind.i64 s), .bl false, .va (Value.slice A n c), .va (Value.nilFunc), .va (Value.slice B k d)], .fact (Row 71 3 A n c (List.flatMap encF (L.set (posF L x) { n := L[posF L x].n, d := L[posF L x].d, s := (↑L[posF L x].d.size : Int) : Fl }))), .box (b0) 25 [.va (Value.pointer (some { block := p, off := 0 : Addr }))], .box (b3) 3 [.va (Value.int IntKind.i64 (↑(posF L x) : Int))]]) rfl rfl (by decide) rfl (by simp) (fun _ => rfl) (fun _ => (newsOk_box (by simp [SV.good, SV.goodL]) (newsOk_fact (newsOk_box (by simp [SV.good, SV.goodL]) (newsOk_box (by simp [SV.good, SV.goodL]) (newsOk_nil _)))))) (fun _ => (by repeat (first | exact trivial | refine ⟨rfl, ?_⟩))) (fun _ h4 => ?_)
  refine go Try.tbs_ok 1000 ?_
  refine ev_fin ⟨trivial, (by repeat (first | exact trivial | refine ⟨rfl, ?_⟩)), _, rfl, ?_⟩
  refine go Try.tbs_ok 1000 ?_
  refine ev_fin ⟨trivial, (by repeat (first | exact trivial | refine ⟨rfl, ?_⟩)), _, rfl, ?_⟩
  refine go Try.tbs_ok 1000 ?_
  refine ev_fin ⟨trivial, (by repeat (first | exact trivial | refine ⟨rfl, ?_⟩)), _, rfl, ?_⟩
  refine go Try.tbs_ok 1000 ?_
  refine ev_fin ⟨trivial, _, rfl, (()), rfl, (by trivial), Frm.sel [0, 1] rfl (by decide)⟩
set_option maxRecDepth 100000 in
theorem syncG (p : Nat) (m s : Int) (A : Option Addr) (n c : Nat) (B : Option Addr) (k d : Nat) (L : List Fl) (hn : n = L.length) (h1 : n ≤ 1000) (x : ByteArray) (hh : hasF L x = true) (hi' : posF L x < L.length) (_hF : okF L) (hm : 0 < m) (hs : riseF L) (nb : Nat) (q : Int) (K : List Int) (hq : 0 < q) (hq2 : q ≤ 9223372036854775807) : Triple Try.prog 40 [.pointer (some ⟨p, 0, none⟩), .string x] [Pt p 53 [.int .i64 m, .int .i64 s, .bool false, .slice A n c, .func (.func 58) #[] #[.pointer (some ⟨nb, 0, none⟩)], .slice B k d], Row 71 3 A n c (L.flatMap encF), Pt nb 3 [.int .i64 q], Row 3 1 B k d (K.flatMap encN)] [] (Unit) (fun _ => .int .i64 0) (fun _ => True) (fun _ => [Pt p 53 [.int .i64 m, .int .i64 s, .bool false, .slice A n c, .func (.func 58) #[] #[.pointer (some ⟨nb, 0, none⟩)], .slice B k d], Row 71 3 A n c ((L.set (posF L x) ⟨(L[posF L x]'hi').n, (L[posF L x]'hi').d, ((L[posF L x]'hi').d.size : Nat)⟩).flatMap encF), Pt nb 3 [.int .i64 (q - 1)], Row 3 1 B k d (K.flatMap encN)]) := by
  have T1 := askP p m s false A n c (.func (.func 58) #[] #[.pointer (some ⟨nb, 0, none⟩)]) B k d hm
  have T2 := findT p m s false A n c (.func (.func 58) #[] #[.pointer (some ⟨nb, 0, none⟩)]) B k d L x hn h1 hs
  have hi : posF L x < L.length := (has_pos hs hh).1
  rw [hh] at T2
  have TD := fun bd ba => syncDo p m s false A n c (.func (.func 58) #[] #[.pointer (some ⟨nb, 0, none⟩)]) B k d L hn h1 bd ba (posF L x) hi
  have TF := failT nb q (by omega) (by omega)
  rw [decide_eq_false (show ¬ q - 1 < 0 by omega)] at TF
  refine triple_intro Try.tbs_ok Try.func40 rfl [.pt 0 p 0, .va (.string x)] [.box p 53 [.va (.int .i64 m), .va (.int .i64 s), .va (.bool false), .va (.slice A n c), .va (.func (.func 58) #[] #[.pointer (some ⟨nb, 0, none⟩)]), .va (.slice B k d)], .fact (Row 71 3 A n c (L.flatMap encF)), .box nb 3 [.va (.int .i64 q)], .fact (Row 3 1 B k d (K.flatMap encN))] ⟨rfl, trivial, trivial⟩ rfl (by simp [SV.good, SV.goodL]) ?_
  intro E
  refine go Try.tbs_ok 1000 ?_
  refine ev_new fun b0 => ?_
  refine ev_inline Try.tbs_ok Try.func52 rfl rfl ?_
  refine go Try.tbs_ok 1000 ?_
  refine ev_call (T1 ) [0] [] (fun v0_ => [.box (p) 53 [.va (Value.int IntKind.i64 m), .va (Value.int IntKind.i64 s), .bl false, .va (Value.slice A n c), .va (Value.func (Fn.func 58) #[] #[Value.pointer (some { block := nb, off := 0 : Addr })]), .va (Value.slice B k d)]]) rfl rfl (by decide) rfl (by simp) (fun _ => rfl) (fun _ => (newsOk_box (by simp [SV.good, SV.goodL]) (newsOk_nil _))) (fun _ => (by repeat (first | exact trivial | refine ⟨rfl, ?_⟩))) (fun _ h1 => ?_)
  refine go Try.tbs_ok 1000 ?_
  refine ev_if_no rfl ?_
  refine go Try.tbs_ok 1000 ?_
  refine ev_call (T2 ) [0, 1] [] (fun v0_ => [.box (p) 53 [.va (Value.int IntKind.i64 m), .va (Value.int IntKind.i64 s), .bl false, .va (Value.slice A n c), .va (Value.func (Fn.func 58) #[] #[Value.pointer (some { block := nb, off := 0 : Addr })]), .va (Value.slice B k d)], .fact (Row 71 3 A n c (List.flatMap encF L))]) rfl rfl (by decide) rfl (by simp) (fun _ => rfl) (fun _ => (newsOk_box (by simp [SV.good, SV.goodL]) (newsOk_fact (newsOk_nil _)))) (fun _ => (by repeat (first | exact trivial | refine ⟨rfl, ?_⟩))) (fun _ h2 => ?_)
  refine go Try.tbs_ok 1000 ?_
  refine ev_if_no rfl ?_
  refine go Try.tbs_ok 1000 ?_
  refine ev_inline Try.tbs_ok Try.func67 rfl rfl ?_
  refine go Try.tbs_ok 1000 ?_
  refine ev_new fun b3 => ?_
  refine ev_inline Try.tbs_ok Try.func61 rfl rfl ?_
  refine go Try.tbs_ok 1000 ?_
  refine ev_call (TF ) [2] [] (fun v0_ => [.box (nb) 3 [.va (Value.int IntKind.i64 (q - 1))]]) rfl rfl (by decide) rfl (by simp) (fun _ => rfl) (fun _ => (newsOk_box (by simp [SV.good, SV.goodL]) (newsOk_nil _))) (fun _ => (by repeat (first | exact trivial | refine ⟨rfl, ?_⟩))) (fun _ h4 => ?_)
  refine go Try.tbs_ok 1000 ?_
  refine ev_if_yes rfl ?_
  refine go Try.tbs_ok 1000 ?_
  refine ev_call (TD (b0) (b3)) [0, 1, 4, 5] [] (fun v0_ => [.box (p) 53 [.va (Value.int IntKind.i64 m), .va (Value.int IntKind.i64 s), .bl false, .va (Value.slice A n c), .va (Value.func (Fn.func 58) #[] #[Value.pointer (some { block := nb, off := 0 : Addr })]), .va (Value.slice B k d)], .fact (Row 71 3 A n c (List.flatMap encF (L.set (posF L x) { n := L[posF L x].n, d := L[posF L x].d, s := (↑L[posF L x].d.size : Int) : Fl }))), .box (b0) 25 [.va (Value.pointer (some { block := p, off := 0 : Addr }))], .box (b3) 3 [.va (Value.int IntKind.i64 (↑(posF L x) : Int))]]) rfl rfl (by decide) rfl (by simp) (fun _ => rfl) (fun _ => (newsOk_box (by simp [SV.good, SV.goodL]) (newsOk_fact (newsOk_box (by simp [SV.good, SV.goodL]) (newsOk_box (by simp [SV.good, SV.goodL]) (newsOk_nil _)))))) (fun _ => (by repeat (first | exact trivial | refine ⟨rfl, ?_⟩))) (fun _ h5 => ?_)
  refine go Try.tbs_ok 1000 ?_
  refine ev_if_no rfl ?_
  refine go Try.tbs_ok 1000 ?_
  refine ev_fin ⟨trivial, (by repeat (first | exact trivial | refine ⟨rfl, ?_⟩)), _, rfl, ?_⟩
  refine go Try.tbs_ok 1000 ?_
  refine ev_fin ⟨trivial, (by repeat (first | exact trivial | refine ⟨rfl, ?_⟩)), _, rfl, ?_⟩
  refine go Try.tbs_ok 1000 ?_
  refine ev_fin ⟨trivial, (by repeat (first | exact trivial | refine ⟨rfl, ?_⟩)), _, rfl, ?_⟩
  refine go Try.tbs_ok 1000 ?_
  refine ev_fin ⟨trivial, _, rfl, (()), rfl, (by trivial), Frm.sel [0, 1, 2, 3] rfl (by decide)⟩
set_option maxRecDepth 100000 in
theorem syncS (p : Nat) (m s : Int) (A : Option Addr) (n c : Nat) (B : Option Addr) (k d : Nat) (L : List Fl) (hn : n = L.length) (h1 : n ≤ 1000) (x : ByteArray) (hh : hasF L x = true) (_hi' : posF L x < L.length) (hF : okF L) (hm : 0 < m) (hs : riseF L) (nb : Nat) (q : Int) (K : List Int) (hq : q = 0) (hk : k = K.length) : Triple Try.prog 40 [.pointer (some ⟨p, 0, none⟩), .string x] [Pt p 53 [.int .i64 m, .int .i64 s, .bool false, .slice A n c, .func (.func 58) #[] #[.pointer (some ⟨nb, 0, none⟩)], .slice B k d], Row 71 3 A n c (L.flatMap encF), Pt nb 3 [.int .i64 q], Row 3 1 B k d (K.flatMap encN)] [] (Unit) (fun _ => .int .i64 41) (fun _ => True) (fun _ => [Pt p 53 [.int .i64 m, .int .i64 s, .bool true, .slice A n c, .nilFunc, .slice B k d], Row 71 3 A n c ((crashF L K).flatMap encF), Pt nb 3 [.int .i64 (q - 1)], Row 3 1 B k d (K.flatMap encN)]) := by
  have T1 := askP p m s false A n c (.func (.func 58) #[] #[.pointer (some ⟨nb, 0, none⟩)]) B k d hm
  have T2 := findT p m s false A n c (.func (.func 58) #[] #[.pointer (some ⟨nb, 0, none⟩)]) B k d L x hn h1 hs
  have hi : posF L x < L.length := (has_pos hs hh).1
  rw [hh] at T2
  have TD := fun bd ba => syncDo p m s false A n c (.func (.func 58) #[] #[.pointer (some ⟨nb, 0, none⟩)]) B k d L hn h1 bd ba (posF L x) hi
  have TC := (crashT p m s A n c (.func (.func 58) #[] #[.pointer (some ⟨nb, 0, none⟩)]) B k d L B k d K hm hn h1 hk hF).reads (N' := [Row 3 1 B k d (K.flatMap encN)]) (fun X hX => ⟨_, List.mem_cons_self, fun _ q => by rw [List.mem_singleton.1 hX]; exact Row.rd q⟩)
  have TF := failT nb q (by omega) (by omega)
  rw [decide_eq_true (show q - 1 < 0 by omega)] at TF
  refine triple_intro Try.tbs_ok Try.func40 rfl [.pt 0 p 0, .va (.string x)] [.box p 53 [.va (.int .i64 m), .va (.int .i64 s), .va (.bool false), .va (.slice A n c), .va (.func (.func 58) #[] #[.pointer (some ⟨nb, 0, none⟩)]), .va (.slice B k d)], .fact (Row 71 3 A n c (L.flatMap encF)), .box nb 3 [.va (.int .i64 q)], .fact (Row 3 1 B k d (K.flatMap encN))] ⟨rfl, trivial, trivial⟩ rfl (by simp [SV.good, SV.goodL]) ?_
  intro E
  refine go Try.tbs_ok 1000 ?_
  refine ev_new fun b0 => ?_
  refine ev_inline Try.tbs_ok Try.func52 rfl rfl ?_
  refine go Try.tbs_ok 1000 ?_
  refine ev_call (T1 ) [0] [] (fun v0_ => [.box (p) 53 [.va (Value.int IntKind.i64 m), .va (Value.int IntKind.i64 s), .bl false, .va (Value.slice A n c), .va (Value.func (Fn.func 58) #[] #[Value.pointer (some { block := nb, off := 0 : Addr })]), .va (Value.slice B k d)]]) rfl rfl (by decide) rfl (by simp) (fun _ => rfl) (fun _ => (newsOk_box (by simp [SV.good, SV.goodL]) (newsOk_nil _))) (fun _ => (by repeat (first | exact trivial | refine ⟨rfl, ?_⟩))) (fun _ h1 => ?_)
  refine go Try.tbs_ok 1000 ?_
  refine ev_if_no rfl ?_
  refine go Try.tbs_ok 1000 ?_
  refine ev_call (T2 ) [0, 1] [] (fun v0_ => [.box (p) 53 [.va (Value.int IntKind.i64 m), .va (Value.int IntKind.i64 s), .bl false, .va (Value.slice A n c), .va (Value.func (Fn.func 58) #[] #[Value.pointer (some { block := nb, off := 0 : Addr })]), .va (Value.slice B k d)], .fact (Row 71 3 A n c (List.flatMap encF L))]) rfl rfl (by decide) rfl (by simp) (fun _ => rfl) (fun _ => (newsOk_box (by simp [SV.good, SV.goodL]) (newsOk_fact (newsOk_nil _)))) (fun _ => (by repeat (first | exact trivial | refine ⟨rfl, ?_⟩))) (fun _ h2 => ?_)
  refine go Try.tbs_ok 1000 ?_
  refine ev_if_no rfl ?_
  refine go Try.tbs_ok 1000 ?_
  refine ev_inline Try.tbs_ok Try.func67 rfl rfl ?_
  refine go Try.tbs_ok 1000 ?_
  refine ev_new fun b3 => ?_
  refine ev_inline Try.tbs_ok Try.func61 rfl rfl ?_
  refine go Try.tbs_ok 1000 ?_
  refine ev_call (TF ) [2] [] (fun v0_ => [.box (nb) 3 [.va (Value.int IntKind.i64 (q - 1))]]) rfl rfl (by decide) rfl (by simp) (fun _ => rfl) (fun _ => (newsOk_box (by simp [SV.good, SV.goodL]) (newsOk_nil _))) (fun _ => (by repeat (first | exact trivial | refine ⟨rfl, ?_⟩))) (fun _ h4 => ?_)
  refine go Try.tbs_ok 1000 ?_
  refine ev_if_no rfl ?_
  refine go Try.tbs_ok 1000 ?_
  refine ev_if_yes rfl ?_
  refine go Try.tbs_ok 1000 ?_
  refine ev_call (TC ) [0, 1] [.inr 3] (fun v0_ => [.box (p) 53 [.va (Value.int IntKind.i64 m), .va (Value.int IntKind.i64 s), .bl true, .va (Value.slice A n c), .va (Value.nilFunc), .va (Value.slice B k d)], .fact (Row 71 3 A n c (List.flatMap encF (crashF L K)))]) rfl rfl (by decide) rfl (by simp) (fun _ => rfl) (fun _ => (newsOk_box (by simp [SV.good, SV.goodL]) (newsOk_fact (newsOk_nil _)))) (fun _ => (by repeat (first | exact trivial | refine ⟨rfl, ?_⟩))) (fun _ h5 => ?_)
  refine go Try.tbs_ok 1000 ?_
  refine ev_fin ⟨trivial, (by repeat (first | exact trivial | refine ⟨rfl, ?_⟩)), _, rfl, ?_⟩
  refine go Try.tbs_ok 1000 ?_
  refine ev_fin ⟨trivial, (by repeat (first | exact trivial | refine ⟨rfl, ?_⟩)), _, rfl, ?_⟩
  refine go Try.tbs_ok 1000 ?_
  refine ev_fin ⟨trivial, (by repeat (first | exact trivial | refine ⟨rfl, ?_⟩)), _, rfl, ?_⟩
  refine go Try.tbs_ok 1000 ?_
  refine ev_fin ⟨trivial, _, rfl, (()), rfl, (by trivial), Frm.sel [0, 1, 2, 3] rfl (by decide)⟩
set_option maxRecDepth 100000 in
theorem truncN (p : Nat) (m s : Int) (A : Option Addr) (n c : Nat) (B : Option Addr) (k d : Nat) (L : List Fl) (hn : n = L.length) (h1 : n ≤ 1000) (x : ByteArray) (z : Int) (hh : hasF L x = true) (hi' : posF L x < L.length) (_hF : okF L) (hz1 : 0 ≤ z) (hz2 : z ≤ (L[posF L x]'hi').d.size) (hm : 0 < m) (hs : riseF L) : Triple Try.prog 41 [.pointer (some ⟨p, 0, none⟩), .string x, .int .i64 z] [Pt p 53 [.int .i64 m, .int .i64 s, .bool false, .slice A n c, .nilFunc, .slice B k d], Row 71 3 A n c (L.flatMap encF)] [] (Unit) (fun _ => .int .i64 0) (fun _ => True) (fun _ => [Pt p 53 [.int .i64 m, .int .i64 s, .bool false, .slice A n c, .nilFunc, .slice B k d], Row 71 3 A n c ((L.set (posF L x) ⟨(L[posF L x]'hi').n, (L[posF L x]'hi').d.extract 0 z.toNat, min (L[posF L x]'hi').s z⟩).flatMap encF)]) := by
  have T1 := askP p m s false A n c (.nilFunc) B k d hm
  have T2 := findT p m s false A n c (.nilFunc) B k d L x hn h1 hs
  have hi : posF L x < L.length := (has_pos hs hh).1
  rw [hh] at T2
  have TD := fun g bf bn => truncDo n c g L hn h1 bf bn (posF L x) z hi hz1 hz2
  refine triple_intro Try.tbs_ok Try.func41 rfl [.pt 0 p 0, .va (.string x), .va (.int .i64 z)] [.box p 53 [.va (.int .i64 m), .va (.int .i64 s), .va (.bool false), .va (.slice A n c), .va (.nilFunc), .va (.slice B k d)], .fact (Row 71 3 A n c (L.flatMap encF))] ⟨rfl, trivial, trivial, trivial⟩ rfl (by simp [SV.good, SV.goodL]) ?_
  intro E
  refine go Try.tbs_ok 1000 ?_
  refine ev_new fun b0 => ?_
  refine ev_new fun b1 => ?_
  refine ev_inline Try.tbs_ok Try.func52 rfl rfl ?_
  refine go Try.tbs_ok 1000 ?_
  refine ev_call (T1 ) [0] [] (fun v0_ => [.box (p) 53 [.va (Value.int IntKind.i64 m), .va (Value.int IntKind.i64 s), .bl false, .va (Value.slice A n c), .va (Value.nilFunc), .va (Value.slice B k d)]]) rfl rfl (by decide) rfl (by simp) (fun _ => rfl) (fun _ => (newsOk_box (by simp [SV.good, SV.goodL]) (newsOk_nil _))) (fun _ => (by repeat (first | exact trivial | refine ⟨rfl, ?_⟩))) (fun _ h2 => ?_)
  refine go Try.tbs_ok 1000 ?_
  refine ev_if_no rfl ?_
  refine go Try.tbs_ok 1000 ?_
  refine ev_call (T2 ) [0, 1] [] (fun v0_ => [.box (p) 53 [.va (Value.int IntKind.i64 m), .va (Value.int IntKind.i64 s), .bl false, .va (Value.slice A n c), .va (Value.nilFunc), .va (Value.slice B k d)], .fact (Row 71 3 A n c (List.flatMap encF L))]) rfl rfl (by decide) rfl (by simp) (fun _ => rfl) (fun _ => (newsOk_box (by simp [SV.good, SV.goodL]) (newsOk_fact (newsOk_nil _)))) (fun _ => (by repeat (first | exact trivial | refine ⟨rfl, ?_⟩))) (fun _ h3 => ?_)
  refine go Try.tbs_ok 1000 ?_
  refine ev_if_no rfl ?_
  refine go Try.tbs_ok 1000 ?_
  refine ev_inline Try.tbs_ok Try.func69 rfl rfl ?_
  refine go Try.tbs_ok 1000 ?_
  refine ev_stop (go_index0 (sz := 3) Try.tbs_ok (.inr 1) (posF L x) rfl rfl rfl rfl rfl rfl (by omega) rfl Row.at0 (fun g4 e5 => ?_))
  subst e5
  refine go Try.tbs_ok 1000 ?_
  refine ev_new fun b6 => ?_
  refine ev_stop (go_draw Try.tbs_ok true [0, 1, 2, 3, 4] [(0,true),(1,true),(2,true),(3,true),(4,true),(5,true),(6,true),(7,true),(8,true),(9,true),(10,true)] rfl ?_)
  refine go Try.tbs_ok 1000 ?_
  refine ev_need ⟨⟨(by repeat (first | exact trivial | refine ⟨rfl, ?_⟩)), rfl⟩, by kernel_rfl⟩ ?_
  refine ev_if_no (decide_eq_false (show ¬z < 0 from (by omega))) ?_
  refine go Try.tbs_ok 1000 ?_
  refine ev_need ⟨⟨(by repeat (first | exact trivial | refine ⟨rfl, ?_⟩)), rfl⟩, by kernel_rfl⟩ ?_
  have l7 : posF L x < (L).length := (by omega)
  refine ev_stop (tk_loadE Try.tbs_ok (.inr 1) (posF L x) 1 ⟨⟨(by repeat (first | exact trivial | refine ⟨rfl, ?_⟩)), rfl⟩, by kernel_rfl⟩ rfl rfl rfl rfl rfl (fun _ h => Row.rd h) (by omega) (fun _ => rfl) (by omega) l7 (by decide) ?_)
  refine go Try.tbs_ok 1000 ?_
  refine ev_need ⟨⟨(by repeat (first | exact trivial | refine ⟨rfl, ?_⟩)), rfl⟩, by kernel_rfl⟩ ?_
  refine ev_if_no (decide_eq_false (show ¬z > (↑L[posF L x].d.size : Int) from (by omega))) ?_
  refine go Try.tbs_ok 1000 ?_
  refine ev_inline Try.tbs_ok Try.func61 rfl rfl ?_
  refine go Try.tbs_ok 1000 ?_
  refine ev_call (TD (g4) (b6) (b1)) [1, 4, 3] [] (fun v0_ => [.fact (Row 71 3 (some { block := g4, off := 0 : Addr }) n c (List.flatMap encF (L.set (posF L x) { n := L[posF L x].n, d := L[posF L x].d.extract 0 z.toNat, s := min L[posF L x].s z : Fl }))), .box (b6) 83 [.va (Value.pointer (some { block := g4, off := 0 + posF L x * 3 : Addr }))], .box (b1) 3 [.va (Value.int IntKind.i64 z)]]) rfl rfl (by decide) rfl (by simp) (fun _ => rfl) (fun _ => (newsOk_fact (newsOk_box (by simp [SV.good, SV.goodL]) (newsOk_box (by simp [SV.good, SV.goodL]) (newsOk_nil _))))) (fun _ => (by repeat (first | exact trivial | refine ⟨rfl, ?_⟩))) (fun _ h8 => ?_)
  refine go Try.tbs_ok 1000 ?_
  refine ev_fin ⟨trivial, (by repeat (first | exact trivial | refine ⟨rfl, ?_⟩)), _, rfl, ?_⟩
  refine go Try.tbs_ok 1000 ?_
  refine ev_fin ⟨trivial, (by repeat (first | exact trivial | refine ⟨rfl, ?_⟩)), _, rfl, ?_⟩
  refine go Try.tbs_ok 1000 ?_
  refine ev_fin ⟨trivial, (by repeat (first | exact trivial | refine ⟨rfl, ?_⟩)), _, rfl, ?_⟩
  refine go Try.tbs_ok 1000 ?_
  refine ev_fin ⟨trivial, _, rfl, (()), rfl, (by trivial), Frm.sel [0, 1] rfl (by decide)⟩
set_option maxRecDepth 100000 in
theorem truncG (p : Nat) (m s : Int) (A : Option Addr) (n c : Nat) (B : Option Addr) (k d : Nat) (L : List Fl) (hn : n = L.length) (h1 : n ≤ 1000) (x : ByteArray) (z : Int) (hh : hasF L x = true) (hi' : posF L x < L.length) (_hF : okF L) (hz1 : 0 ≤ z) (hz2 : z ≤ (L[posF L x]'hi').d.size) (hm : 0 < m) (hs : riseF L) (nb : Nat) (q : Int) (K : List Int) (hq : 0 < q) (hq2 : q ≤ 9223372036854775807) : Triple Try.prog 41 [.pointer (some ⟨p, 0, none⟩), .string x, .int .i64 z] [Pt p 53 [.int .i64 m, .int .i64 s, .bool false, .slice A n c, .func (.func 58) #[] #[.pointer (some ⟨nb, 0, none⟩)], .slice B k d], Row 71 3 A n c (L.flatMap encF), Pt nb 3 [.int .i64 q], Row 3 1 B k d (K.flatMap encN)] [] (Unit) (fun _ => .int .i64 0) (fun _ => True) (fun _ => [Pt p 53 [.int .i64 m, .int .i64 s, .bool false, .slice A n c, .func (.func 58) #[] #[.pointer (some ⟨nb, 0, none⟩)], .slice B k d], Row 71 3 A n c ((L.set (posF L x) ⟨(L[posF L x]'hi').n, (L[posF L x]'hi').d.extract 0 z.toNat, min (L[posF L x]'hi').s z⟩).flatMap encF), Pt nb 3 [.int .i64 (q - 1)], Row 3 1 B k d (K.flatMap encN)]) := by
  have T1 := askP p m s false A n c (.func (.func 58) #[] #[.pointer (some ⟨nb, 0, none⟩)]) B k d hm
  have T2 := findT p m s false A n c (.func (.func 58) #[] #[.pointer (some ⟨nb, 0, none⟩)]) B k d L x hn h1 hs
  have hi : posF L x < L.length := (has_pos hs hh).1
  rw [hh] at T2
  have TD := fun g bf bn => truncDo n c g L hn h1 bf bn (posF L x) z hi hz1 hz2
  have TF := failT nb q (by omega) (by omega)
  rw [decide_eq_false (show ¬ q - 1 < 0 by omega)] at TF
  refine triple_intro Try.tbs_ok Try.func41 rfl [.pt 0 p 0, .va (.string x), .va (.int .i64 z)] [.box p 53 [.va (.int .i64 m), .va (.int .i64 s), .va (.bool false), .va (.slice A n c), .va (.func (.func 58) #[] #[.pointer (some ⟨nb, 0, none⟩)]), .va (.slice B k d)], .fact (Row 71 3 A n c (L.flatMap encF)), .box nb 3 [.va (.int .i64 q)], .fact (Row 3 1 B k d (K.flatMap encN))] ⟨rfl, trivial, trivial, trivial⟩ rfl (by simp [SV.good, SV.goodL]) ?_
  intro E
  refine go Try.tbs_ok 1000 ?_
  refine ev_new fun b0 => ?_
  refine ev_new fun b1 => ?_
  refine ev_inline Try.tbs_ok Try.func52 rfl rfl ?_
  refine go Try.tbs_ok 1000 ?_
  refine ev_call (T1 ) [0] [] (fun v0_ => [.box (p) 53 [.va (Value.int IntKind.i64 m), .va (Value.int IntKind.i64 s), .bl false, .va (Value.slice A n c), .va (Value.func (Fn.func 58) #[] #[Value.pointer (some { block := nb, off := 0 : Addr })]), .va (Value.slice B k d)]]) rfl rfl (by decide) rfl (by simp) (fun _ => rfl) (fun _ => (newsOk_box (by simp [SV.good, SV.goodL]) (newsOk_nil _))) (fun _ => (by repeat (first | exact trivial | refine ⟨rfl, ?_⟩))) (fun _ h2 => ?_)
  refine go Try.tbs_ok 1000 ?_
  refine ev_if_no rfl ?_
  refine go Try.tbs_ok 1000 ?_
  refine ev_call (T2 ) [0, 1] [] (fun v0_ => [.box (p) 53 [.va (Value.int IntKind.i64 m), .va (Value.int IntKind.i64 s), .bl false, .va (Value.slice A n c), .va (Value.func (Fn.func 58) #[] #[Value.pointer (some { block := nb, off := 0 : Addr })]), .va (Value.slice B k d)], .fact (Row 71 3 A n c (List.flatMap encF L))]) rfl rfl (by decide) rfl (by simp) (fun _ => rfl) (fun _ => (newsOk_box (by simp [SV.good, SV.goodL]) (newsOk_fact (newsOk_nil _)))) (fun _ => (by repeat (first | exact trivial | refine ⟨rfl, ?_⟩))) (fun _ h3 => ?_)
  refine go Try.tbs_ok 1000 ?_
  refine ev_if_no rfl ?_
  refine go Try.tbs_ok 1000 ?_
  refine ev_inline Try.tbs_ok Try.func69 rfl rfl ?_
  refine go Try.tbs_ok 1000 ?_
  refine ev_stop (go_index0 (sz := 3) Try.tbs_ok (.inr 1) (posF L x) rfl rfl rfl rfl rfl rfl (by omega) rfl Row.at0 (fun g4 e5 => ?_))
  subst e5
  refine go Try.tbs_ok 1000 ?_
  refine ev_new fun b6 => ?_
  refine ev_stop (go_draw Try.tbs_ok true [0, 1, 2, 3, 4, 5, 6] [(0,true),(1,true),(2,true),(3,true),(4,true),(5,true),(6,true),(7,true),(8,true),(9,true),(10,true)] rfl ?_)
  refine go Try.tbs_ok 1000 ?_
  refine ev_need ⟨⟨(by repeat (first | exact trivial | refine ⟨rfl, ?_⟩)), rfl⟩, by kernel_rfl⟩ ?_
  refine ev_if_no (decide_eq_false (show ¬z < 0 from (by omega))) ?_
  refine go Try.tbs_ok 1000 ?_
  refine ev_need ⟨⟨(by repeat (first | exact trivial | refine ⟨rfl, ?_⟩)), rfl⟩, by kernel_rfl⟩ ?_
  have l7 : posF L x < (L).length := (by omega)
  refine ev_stop (tk_loadE Try.tbs_ok (.inr 1) (posF L x) 1 ⟨⟨(by repeat (first | exact trivial | refine ⟨rfl, ?_⟩)), rfl⟩, by kernel_rfl⟩ rfl rfl rfl rfl rfl (fun _ h => Row.rd h) (by omega) (fun _ => rfl) (by omega) l7 (by decide) ?_)
  refine go Try.tbs_ok 1000 ?_
  refine ev_need ⟨⟨(by repeat (first | exact trivial | refine ⟨rfl, ?_⟩)), rfl⟩, by kernel_rfl⟩ ?_
  refine ev_if_no (decide_eq_false (show ¬z > (↑L[posF L x].d.size : Int) from (by omega))) ?_
  refine go Try.tbs_ok 1000 ?_
  refine ev_inline Try.tbs_ok Try.func61 rfl rfl ?_
  refine go Try.tbs_ok 1000 ?_
  refine ev_call (TF ) [2] [] (fun v0_ => [.box (nb) 3 [.va (Value.int IntKind.i64 (q - 1))]]) rfl rfl (by decide) rfl (by simp) (fun _ => rfl) (fun _ => (newsOk_box (by simp [SV.good, SV.goodL]) (newsOk_nil _))) (fun _ => (by repeat (first | exact trivial | refine ⟨rfl, ?_⟩))) (fun _ h8 => ?_)
  refine go Try.tbs_ok 1000 ?_
  refine ev_if_yes rfl ?_
  refine go Try.tbs_ok 1000 ?_
  refine ev_call (TD (g4) (b6) (b1)) [1, 6, 5] [] (fun v0_ => [.fact (Row 71 3 (some { block := g4, off := 0 : Addr }) n c (List.flatMap encF (L.set (posF L x) { n := L[posF L x].n, d := L[posF L x].d.extract 0 z.toNat, s := min L[posF L x].s z : Fl }))), .box (b6) 83 [.va (Value.pointer (some { block := g4, off := 0 + posF L x * 3 : Addr }))], .box (b1) 3 [.va (Value.int IntKind.i64 z)]]) rfl rfl (by decide) rfl (by simp) (fun _ => rfl) (fun _ => (newsOk_fact (newsOk_box (by simp [SV.good, SV.goodL]) (newsOk_box (by simp [SV.good, SV.goodL]) (newsOk_nil _))))) (fun _ => (by repeat (first | exact trivial | refine ⟨rfl, ?_⟩))) (fun _ h9 => ?_)
  refine go Try.tbs_ok 1000 ?_
  refine ev_if_no rfl ?_
  refine go Try.tbs_ok 1000 ?_
  refine ev_fin ⟨trivial, (by repeat (first | exact trivial | refine ⟨rfl, ?_⟩)), _, rfl, ?_⟩
  refine go Try.tbs_ok 1000 ?_
  refine ev_fin ⟨trivial, (by repeat (first | exact trivial | refine ⟨rfl, ?_⟩)), _, rfl, ?_⟩
  refine go Try.tbs_ok 1000 ?_
  refine ev_fin ⟨trivial, (by repeat (first | exact trivial | refine ⟨rfl, ?_⟩)), _, rfl, ?_⟩
  refine go Try.tbs_ok 1000 ?_
  refine ev_fin ⟨trivial, _, rfl, (()), rfl, (by trivial), Frm.sel [0, 1, 2, 3] rfl (by decide)⟩
set_option maxRecDepth 100000 in
theorem truncS (p : Nat) (m s : Int) (A : Option Addr) (n c : Nat) (B : Option Addr) (k d : Nat) (L : List Fl) (hn : n = L.length) (h1 : n ≤ 1000) (x : ByteArray) (z : Int) (hh : hasF L x = true) (hi' : posF L x < L.length) (hF : okF L) (hz1 : 0 ≤ z) (hz2 : z ≤ (L[posF L x]'hi').d.size) (hm : 0 < m) (hs : riseF L) (nb : Nat) (q : Int) (K : List Int) (hq : q = 0) (hk : k = K.length) : Triple Try.prog 41 [.pointer (some ⟨p, 0, none⟩), .string x, .int .i64 z] [Pt p 53 [.int .i64 m, .int .i64 s, .bool false, .slice A n c, .func (.func 58) #[] #[.pointer (some ⟨nb, 0, none⟩)], .slice B k d], Row 71 3 A n c (L.flatMap encF), Pt nb 3 [.int .i64 q], Row 3 1 B k d (K.flatMap encN)] [] (Unit) (fun _ => .int .i64 41) (fun _ => True) (fun _ => [Pt p 53 [.int .i64 m, .int .i64 s, .bool true, .slice A n c, .nilFunc, .slice B k d], Row 71 3 A n c ((crashF L K).flatMap encF), Pt nb 3 [.int .i64 (q - 1)], Row 3 1 B k d (K.flatMap encN)]) := by
  have T1 := askP p m s false A n c (.func (.func 58) #[] #[.pointer (some ⟨nb, 0, none⟩)]) B k d hm
  have T2 := findT p m s false A n c (.func (.func 58) #[] #[.pointer (some ⟨nb, 0, none⟩)]) B k d L x hn h1 hs
  have hi : posF L x < L.length := (has_pos hs hh).1
  rw [hh] at T2
  have TD := fun g bf bn => truncDo n c g L hn h1 bf bn (posF L x) z hi hz1 hz2
  have TC := (crashT p m s A (n) c (.func (.func 58) #[] #[.pointer (some ⟨nb, 0, none⟩)]) B k d (L) B k d K hm hn h1 hk hF).reads (N' := [Row 3 1 B k d (K.flatMap encN)]) (fun X hX => ⟨_, List.mem_cons_self, fun _ q => by rw [List.mem_singleton.1 hX]; exact Row.rd q⟩)
  have TF := failT nb q (by omega) (by omega)
  rw [decide_eq_true (show q - 1 < 0 by omega)] at TF
  refine triple_intro Try.tbs_ok Try.func41 rfl [.pt 0 p 0, .va (.string x), .va (.int .i64 z)] [.box p 53 [.va (.int .i64 m), .va (.int .i64 s), .va (.bool false), .va (.slice A n c), .va (.func (.func 58) #[] #[.pointer (some ⟨nb, 0, none⟩)]), .va (.slice B k d)], .fact (Row 71 3 A n c (L.flatMap encF)), .box nb 3 [.va (.int .i64 q)], .fact (Row 3 1 B k d (K.flatMap encN))] ⟨rfl, trivial, trivial, trivial⟩ rfl (by simp [SV.good, SV.goodL]) ?_
  intro E
  refine go Try.tbs_ok 1000 ?_
  refine ev_new fun b0 => ?_
  refine ev_new fun b1 => ?_
  refine ev_inline Try.tbs_ok Try.func52 rfl rfl ?_
  refine go Try.tbs_ok 1000 ?_
  refine ev_call (T1 ) [0] [] (fun v0_ => [.box (p) 53 [.va (Value.int IntKind.i64 m), .va (Value.int IntKind.i64 s), .bl false, .va (Value.slice A n c), .va (Value.func (Fn.func 58) #[] #[Value.pointer (some { block := nb, off := 0 : Addr })]), .va (Value.slice B k d)]]) rfl rfl (by decide) rfl (by simp) (fun _ => rfl) (fun _ => (newsOk_box (by simp [SV.good, SV.goodL]) (newsOk_nil _))) (fun _ => (by repeat (first | exact trivial | refine ⟨rfl, ?_⟩))) (fun _ h2 => ?_)
  refine go Try.tbs_ok 1000 ?_
  refine ev_if_no rfl ?_
  refine go Try.tbs_ok 1000 ?_
  refine ev_call (T2 ) [0, 1] [] (fun v0_ => [.box (p) 53 [.va (Value.int IntKind.i64 m), .va (Value.int IntKind.i64 s), .bl false, .va (Value.slice A n c), .va (Value.func (Fn.func 58) #[] #[Value.pointer (some { block := nb, off := 0 : Addr })]), .va (Value.slice B k d)], .fact (Row 71 3 A n c (List.flatMap encF L))]) rfl rfl (by decide) rfl (by simp) (fun _ => rfl) (fun _ => (newsOk_box (by simp [SV.good, SV.goodL]) (newsOk_fact (newsOk_nil _)))) (fun _ => (by repeat (first | exact trivial | refine ⟨rfl, ?_⟩))) (fun _ h3 => ?_)
  refine go Try.tbs_ok 1000 ?_
  refine ev_if_no rfl ?_
  refine go Try.tbs_ok 1000 ?_
  refine ev_inline Try.tbs_ok Try.func69 rfl rfl ?_
  refine go Try.tbs_ok 1000 ?_
  refine ev_stop (go_index0 (sz := 3) Try.tbs_ok (.inr 1) (posF L x) rfl rfl rfl rfl rfl rfl (by omega) rfl Row.at0 (fun g4 e5 => ?_))
  subst e5
  refine go Try.tbs_ok 1000 ?_
  refine ev_new fun b6 => ?_
  refine ev_stop (go_draw Try.tbs_ok true [0, 1, 2, 3, 4, 5, 6] [(0,true),(1,true),(2,true),(3,true),(4,true),(5,true),(6,true),(7,true),(8,true),(9,true),(10,true)] rfl ?_)
  refine go Try.tbs_ok 1000 ?_
  refine ev_need ⟨⟨(by repeat (first | exact trivial | refine ⟨rfl, ?_⟩)), rfl⟩, by kernel_rfl⟩ ?_
  refine ev_if_no (decide_eq_false (show ¬z < 0 from (by omega))) ?_
  refine go Try.tbs_ok 1000 ?_
  refine ev_need ⟨⟨(by repeat (first | exact trivial | refine ⟨rfl, ?_⟩)), rfl⟩, by kernel_rfl⟩ ?_
  have l7 : posF L x < (L).length := (by omega)
  refine ev_stop (tk_loadE Try.tbs_ok (.inr 1) (posF L x) 1 ⟨⟨(by repeat (first | exact trivial | refine ⟨rfl, ?_⟩)), rfl⟩, by kernel_rfl⟩ rfl rfl rfl rfl rfl (fun _ h => Row.rd h) (by omega) (fun _ => rfl) (by omega) l7 (by decide) ?_)
  refine go Try.tbs_ok 1000 ?_
  refine ev_need ⟨⟨(by repeat (first | exact trivial | refine ⟨rfl, ?_⟩)), rfl⟩, by kernel_rfl⟩ ?_
  refine ev_if_no (decide_eq_false (show ¬z > (↑L[posF L x].d.size : Int) from (by omega))) ?_
  refine go Try.tbs_ok 1000 ?_
  refine ev_inline Try.tbs_ok Try.func61 rfl rfl ?_
  refine go Try.tbs_ok 1000 ?_
  refine ev_call (TF ) [2] [] (fun v0_ => [.box (nb) 3 [.va (Value.int IntKind.i64 (q - 1))]]) rfl rfl (by decide) rfl (by simp) (fun _ => rfl) (fun _ => (newsOk_box (by simp [SV.good, SV.goodL]) (newsOk_nil _))) (fun _ => (by repeat (first | exact trivial | refine ⟨rfl, ?_⟩))) (fun _ h8 => ?_)
  refine go Try.tbs_ok 1000 ?_
  refine ev_if_no rfl ?_
  refine go Try.tbs_ok 1000 ?_
  refine ev_if_yes rfl ?_
  refine go Try.tbs_ok 1000 ?_
  refine ev_call (TC ) [0, 1] [.inr 3] (fun v0_ => [.box (p) 53 [.va (Value.int IntKind.i64 m), .va (Value.int IntKind.i64 s), .bl true, .va (Value.slice (some { block := g4, off := 0 : Addr }) n c), .va (Value.nilFunc), .va (Value.slice B k d)], .fact (Row 71 3 (some { block := g4, off := 0 : Addr }) n c (List.flatMap encF (crashF L K)))]) rfl rfl (by decide) rfl (by simp) (fun _ => rfl) (fun _ => (newsOk_box (by simp [SV.good, SV.goodL]) (newsOk_fact (newsOk_nil _)))) (fun _ => (by repeat (first | exact trivial | refine ⟨rfl, ?_⟩))) (fun _ h9 => ?_)
  refine go Try.tbs_ok 1000 ?_
  refine ev_fin ⟨trivial, (by repeat (first | exact trivial | refine ⟨rfl, ?_⟩)), _, rfl, ?_⟩
  refine go Try.tbs_ok 1000 ?_
  refine ev_fin ⟨trivial, (by repeat (first | exact trivial | refine ⟨rfl, ?_⟩)), _, rfl, ?_⟩
  refine go Try.tbs_ok 1000 ?_
  refine ev_fin ⟨trivial, (by repeat (first | exact trivial | refine ⟨rfl, ?_⟩)), _, rfl, ?_⟩
  refine go Try.tbs_ok 1000 ?_
  refine ev_fin ⟨trivial, _, rfl, (()), rfl, (by trivial), Frm.sel [0, 1, 2, 3] rfl (by decide)⟩
set_option maxRecDepth 100000 in
theorem removeN (p : Nat) (m s : Int) (A : Option Addr) (n c : Nat) (B : Option Addr) (k d : Nat) (L : List Fl) (hn : n = L.length) (h1 : n ≤ 1000) (x : ByteArray) (hh : hasF L x = true) (hi' : posF L x < L.length) (_hF : okF L) (hm : 0 < m) (hs : riseF L) : Triple Try.prog 42 [.pointer (some ⟨p, 0, none⟩), .string x] [Pt p 53 [.int .i64 m, .int .i64 s, .bool false, .slice A n c, .nilFunc, .slice B k d], Row 71 3 A n c (L.flatMap encF)] [] (Unit) (fun _ => .int .i64 0) (fun _ => True) (fun _ => [Pt p 53 [.int .i64 m, .int .i64 s, .bool false, .slice A (n - 1) c, .nilFunc, .slice B k d], Row 71 3 A (n - 1) c ((L.eraseIdx (posF L x)).flatMap encF)]) := by
  have T1 := askP p m s false A n c (.nilFunc) B k d hm
  have T2 := findT p m s false A n c (.nilFunc) B k d L x hn h1 hs
  have hi : posF L x < L.length := (has_pos hs hh).1
  rw [hh] at T2
  have TD := fun bd ba => removeDo p m s false A n c (.nilFunc) B k d L hn h1 bd ba (posF L x) (by omega)
  refine triple_intro Try.tbs_ok Try.func42 rfl [.pt 0 p 0, .va (.string x)] [.box p 53 [.va (.int .i64 m), .va (.int .i64 s), .va (.bool false), .va (.slice A n c), .va (.nilFunc), .va (.slice B k d)], .fact (Row 71 3 A n c (L.flatMap encF))] ⟨rfl, trivial, trivial⟩ rfl (by simp [SV.good, SV.goodL]) ?_
  intro E
  refine go Try.tbs_ok 1000 ?_
  refine ev_new fun b0 => ?_
  refine ev_inline Try.tbs_ok Try.func52 rfl rfl ?_
  refine go Try.tbs_ok 1000 ?_
  refine ev_call (T1 ) [0] [] (fun v0_ => [.box (p) 53 [.va (Value.int IntKind.i64 m), .va (Value.int IntKind.i64 s), .bl false, .va (Value.slice A n c), .va (Value.nilFunc), .va (Value.slice B k d)]]) rfl rfl (by decide) rfl (by simp) (fun _ => rfl) (fun _ => (newsOk_box (by simp [SV.good, SV.goodL]) (newsOk_nil _))) (fun _ => (by repeat (first | exact trivial | refine ⟨rfl, ?_⟩))) (fun _ h1 => ?_)
  refine go Try.tbs_ok 1000 ?_
  refine ev_if_no rfl ?_
  refine go Try.tbs_ok 1000 ?_
  refine ev_call (T2 ) [0, 1] [] (fun v0_ => [.box (p) 53 [.va (Value.int IntKind.i64 m), .va (Value.int IntKind.i64 s), .bl false, .va (Value.slice A n c), .va (Value.nilFunc), .va (Value.slice B k d)], .fact (Row 71 3 A n c (List.flatMap encF L))]) rfl rfl (by decide) rfl (by simp) (fun _ => rfl) (fun _ => (newsOk_box (by simp [SV.good, SV.goodL]) (newsOk_fact (newsOk_nil _)))) (fun _ => (by repeat (first | exact trivial | refine ⟨rfl, ?_⟩))) (fun _ h2 => ?_)
  refine go Try.tbs_ok 1000 ?_
  refine ev_if_no rfl ?_
  refine go Try.tbs_ok 1000 ?_
  refine ev_inline Try.tbs_ok Try.func71 rfl rfl ?_
  refine go Try.tbs_ok 1000 ?_
  refine ev_new fun b3 => ?_
  refine ev_inline Try.tbs_ok Try.func61 rfl rfl ?_
  refine go Try.tbs_ok 1000 ?_
  refine ev_call (TD (b0) (b3)) [0, 1, 2, 3] [] (fun v0_ => [.box (p) 53 [.va (Value.int IntKind.i64 m), .va (Value.int IntKind.i64 s), .bl false, .va (Value.slice A (n - 1) c), .va (Value.nilFunc), .va (Value.slice B k d)], .fact (Row 71 3 A (n - 1) c (List.flatMap encF (L.eraseIdx (posF L x)))), .box (b0) 25 [.va (Value.pointer (some { block := p, off := 0 : Addr }))], .box (b3) 3 [.va (Value.int IntKind.i64 (↑(posF L x) : Int))]]) rfl rfl (by decide) rfl (by simp) (fun _ => rfl) (fun _ => (newsOk_box (by simp [SV.good, SV.goodL]) (newsOk_fact (newsOk_box (by simp [SV.good, SV.goodL]) (newsOk_box (by simp [SV.good, SV.goodL]) (newsOk_nil _)))))) (fun _ => (by repeat (first | exact trivial | refine ⟨rfl, ?_⟩))) (fun _ h4 => ?_)
  refine go Try.tbs_ok 1000 ?_
  refine ev_fin ⟨trivial, (by repeat (first | exact trivial | refine ⟨rfl, ?_⟩)), _, rfl, ?_⟩
  refine go Try.tbs_ok 1000 ?_
  refine ev_fin ⟨trivial, (by repeat (first | exact trivial | refine ⟨rfl, ?_⟩)), _, rfl, ?_⟩
  refine go Try.tbs_ok 1000 ?_
  refine ev_fin ⟨trivial, (by repeat (first | exact trivial | refine ⟨rfl, ?_⟩)), _, rfl, ?_⟩
  refine go Try.tbs_ok 1000 ?_
  refine ev_fin ⟨trivial, _, rfl, (()), rfl, (by trivial), Frm.sel [0, 1] rfl (by decide)⟩
set_option maxRecDepth 100000 in
theorem removeG (p : Nat) (m s : Int) (A : Option Addr) (n c : Nat) (B : Option Addr) (k d : Nat) (L : List Fl) (hn : n = L.length) (h1 : n ≤ 1000) (x : ByteArray) (hh : hasF L x = true) (hi' : posF L x < L.length) (_hF : okF L) (hm : 0 < m) (hs : riseF L) (nb : Nat) (q : Int) (K : List Int) (hq : 0 < q) (hq2 : q ≤ 9223372036854775807) : Triple Try.prog 42 [.pointer (some ⟨p, 0, none⟩), .string x] [Pt p 53 [.int .i64 m, .int .i64 s, .bool false, .slice A n c, .func (.func 58) #[] #[.pointer (some ⟨nb, 0, none⟩)], .slice B k d], Row 71 3 A n c (L.flatMap encF), Pt nb 3 [.int .i64 q], Row 3 1 B k d (K.flatMap encN)] [] (Unit) (fun _ => .int .i64 0) (fun _ => True) (fun _ => [Pt p 53 [.int .i64 m, .int .i64 s, .bool false, .slice A (n - 1) c, .func (.func 58) #[] #[.pointer (some ⟨nb, 0, none⟩)], .slice B k d], Row 71 3 A (n - 1) c ((L.eraseIdx (posF L x)).flatMap encF), Pt nb 3 [.int .i64 (q - 1)], Row 3 1 B k d (K.flatMap encN)]) := by
  have T1 := askP p m s false A n c (.func (.func 58) #[] #[.pointer (some ⟨nb, 0, none⟩)]) B k d hm
  have T2 := findT p m s false A n c (.func (.func 58) #[] #[.pointer (some ⟨nb, 0, none⟩)]) B k d L x hn h1 hs
  have hi : posF L x < L.length := (has_pos hs hh).1
  rw [hh] at T2
  have TD := fun bd ba => removeDo p m s false A n c (.func (.func 58) #[] #[.pointer (some ⟨nb, 0, none⟩)]) B k d L hn h1 bd ba (posF L x) (by omega)
  have TF := failT nb q (by omega) (by omega)
  rw [decide_eq_false (show ¬ q - 1 < 0 by omega)] at TF
  refine triple_intro Try.tbs_ok Try.func42 rfl [.pt 0 p 0, .va (.string x)] [.box p 53 [.va (.int .i64 m), .va (.int .i64 s), .va (.bool false), .va (.slice A n c), .va (.func (.func 58) #[] #[.pointer (some ⟨nb, 0, none⟩)]), .va (.slice B k d)], .fact (Row 71 3 A n c (L.flatMap encF)), .box nb 3 [.va (.int .i64 q)], .fact (Row 3 1 B k d (K.flatMap encN))] ⟨rfl, trivial, trivial⟩ rfl (by simp [SV.good, SV.goodL]) ?_
  intro E
  refine go Try.tbs_ok 1000 ?_
  refine ev_new fun b0 => ?_
  refine ev_inline Try.tbs_ok Try.func52 rfl rfl ?_
  refine go Try.tbs_ok 1000 ?_
  refine ev_call (T1 ) [0] [] (fun v0_ => [.box (p) 53 [.va (Value.int IntKind.i64 m), .va (Value.int IntKind.i64 s), .bl false, .va (Value.slice A n c), .va (Value.func (Fn.func 58) #[] #[Value.pointer (some { block := nb, off := 0 : Addr })]), .va (Value.slice B k d)]]) rfl rfl (by decide) rfl (by simp) (fun _ => rfl) (fun _ => (newsOk_box (by simp [SV.good, SV.goodL]) (newsOk_nil _))) (fun _ => (by repeat (first | exact trivial | refine ⟨rfl, ?_⟩))) (fun _ h1 => ?_)
  refine go Try.tbs_ok 1000 ?_
  refine ev_if_no rfl ?_
  refine go Try.tbs_ok 1000 ?_
  refine ev_call (T2 ) [0, 1] [] (fun v0_ => [.box (p) 53 [.va (Value.int IntKind.i64 m), .va (Value.int IntKind.i64 s), .bl false, .va (Value.slice A n c), .va (Value.func (Fn.func 58) #[] #[Value.pointer (some { block := nb, off := 0 : Addr })]), .va (Value.slice B k d)], .fact (Row 71 3 A n c (List.flatMap encF L))]) rfl rfl (by decide) rfl (by simp) (fun _ => rfl) (fun _ => (newsOk_box (by simp [SV.good, SV.goodL]) (newsOk_fact (newsOk_nil _)))) (fun _ => (by repeat (first | exact trivial | refine ⟨rfl, ?_⟩))) (fun _ h2 => ?_)
  refine go Try.tbs_ok 1000 ?_
  refine ev_if_no rfl ?_
  refine go Try.tbs_ok 1000 ?_
  refine ev_inline Try.tbs_ok Try.func71 rfl rfl ?_
  refine go Try.tbs_ok 1000 ?_
  refine ev_new fun b3 => ?_
  refine ev_inline Try.tbs_ok Try.func61 rfl rfl ?_
  refine go Try.tbs_ok 1000 ?_
  refine ev_call (TF ) [2] [] (fun v0_ => [.box (nb) 3 [.va (Value.int IntKind.i64 (q - 1))]]) rfl rfl (by decide) rfl (by simp) (fun _ => rfl) (fun _ => (newsOk_box (by simp [SV.good, SV.goodL]) (newsOk_nil _))) (fun _ => (by repeat (first | exact trivial | refine ⟨rfl, ?_⟩))) (fun _ h4 => ?_)
  refine go Try.tbs_ok 1000 ?_
  refine ev_if_yes rfl ?_
  refine go Try.tbs_ok 1000 ?_
  refine ev_call (TD (b0) (b3)) [0, 1, 4, 5] [] (fun v0_ => [.box (p) 53 [.va (Value.int IntKind.i64 m), .va (Value.int IntKind.i64 s), .bl false, .va (Value.slice A (n - 1) c), .va (Value.func (Fn.func 58) #[] #[Value.pointer (some { block := nb, off := 0 : Addr })]), .va (Value.slice B k d)], .fact (Row 71 3 A (n - 1) c (List.flatMap encF (L.eraseIdx (posF L x)))), .box (b0) 25 [.va (Value.pointer (some { block := p, off := 0 : Addr }))], .box (b3) 3 [.va (Value.int IntKind.i64 (↑(posF L x) : Int))]]) rfl rfl (by decide) rfl (by simp) (fun _ => rfl) (fun _ => (newsOk_box (by simp [SV.good, SV.goodL]) (newsOk_fact (newsOk_box (by simp [SV.good, SV.goodL]) (newsOk_box (by simp [SV.good, SV.goodL]) (newsOk_nil _)))))) (fun _ => (by repeat (first | exact trivial | refine ⟨rfl, ?_⟩))) (fun _ h5 => ?_)
  refine go Try.tbs_ok 1000 ?_
  refine ev_if_no rfl ?_
  refine go Try.tbs_ok 1000 ?_
  refine ev_fin ⟨trivial, (by repeat (first | exact trivial | refine ⟨rfl, ?_⟩)), _, rfl, ?_⟩
  refine go Try.tbs_ok 1000 ?_
  refine ev_fin ⟨trivial, (by repeat (first | exact trivial | refine ⟨rfl, ?_⟩)), _, rfl, ?_⟩
  refine go Try.tbs_ok 1000 ?_
  refine ev_fin ⟨trivial, (by repeat (first | exact trivial | refine ⟨rfl, ?_⟩)), _, rfl, ?_⟩
  refine go Try.tbs_ok 1000 ?_
  refine ev_fin ⟨trivial, _, rfl, (()), rfl, (by trivial), Frm.sel [0, 1, 2, 3] rfl (by decide)⟩
set_option maxRecDepth 100000 in
theorem removeS (p : Nat) (m s : Int) (A : Option Addr) (n c : Nat) (B : Option Addr) (k d : Nat) (L : List Fl) (hn : n = L.length) (h1 : n ≤ 1000) (x : ByteArray) (hh : hasF L x = true) (hi' : posF L x < L.length) (hF : okF L) (hm : 0 < m) (hs : riseF L) (nb : Nat) (q : Int) (K : List Int) (hq : q = 0) (hk : k = K.length) : Triple Try.prog 42 [.pointer (some ⟨p, 0, none⟩), .string x] [Pt p 53 [.int .i64 m, .int .i64 s, .bool false, .slice A n c, .func (.func 58) #[] #[.pointer (some ⟨nb, 0, none⟩)], .slice B k d], Row 71 3 A n c (L.flatMap encF), Pt nb 3 [.int .i64 q], Row 3 1 B k d (K.flatMap encN)] [] (Unit) (fun _ => .int .i64 41) (fun _ => True) (fun _ => [Pt p 53 [.int .i64 m, .int .i64 s, .bool true, .slice A n c, .nilFunc, .slice B k d], Row 71 3 A n c ((crashF L K).flatMap encF), Pt nb 3 [.int .i64 (q - 1)], Row 3 1 B k d (K.flatMap encN)]) := by
  have T1 := askP p m s false A n c (.func (.func 58) #[] #[.pointer (some ⟨nb, 0, none⟩)]) B k d hm
  have T2 := findT p m s false A n c (.func (.func 58) #[] #[.pointer (some ⟨nb, 0, none⟩)]) B k d L x hn h1 hs
  have hi : posF L x < L.length := (has_pos hs hh).1
  rw [hh] at T2
  have TD := fun bd ba => removeDo p m s false A n c (.func (.func 58) #[] #[.pointer (some ⟨nb, 0, none⟩)]) B k d L hn h1 bd ba (posF L x) (by omega)
  have TC := (crashT p m s A (n) c (.func (.func 58) #[] #[.pointer (some ⟨nb, 0, none⟩)]) B k d (L) B k d K hm hn h1 hk hF).reads (N' := [Row 3 1 B k d (K.flatMap encN)]) (fun X hX => ⟨_, List.mem_cons_self, fun _ q => by rw [List.mem_singleton.1 hX]; exact Row.rd q⟩)
  have TF := failT nb q (by omega) (by omega)
  rw [decide_eq_true (show q - 1 < 0 by omega)] at TF
  refine triple_intro Try.tbs_ok Try.func42 rfl [.pt 0 p 0, .va (.string x)] [.box p 53 [.va (.int .i64 m), .va (.int .i64 s), .va (.bool false), .va (.slice A n c), .va (.func (.func 58) #[] #[.pointer (some ⟨nb, 0, none⟩)]), .va (.slice B k d)], .fact (Row 71 3 A n c (L.flatMap encF)), .box nb 3 [.va (.int .i64 q)], .fact (Row 3 1 B k d (K.flatMap encN))] ⟨rfl, trivial, trivial⟩ rfl (by simp [SV.good, SV.goodL]) ?_
  intro E
  refine go Try.tbs_ok 1000 ?_
  refine ev_new fun b0 => ?_
  refine ev_inline Try.tbs_ok Try.func52 rfl rfl ?_
  refine go Try.tbs_ok 1000 ?_
  refine ev_call (T1 ) [0] [] (fun v0_ => [.box (p) 53 [.va (Value.int IntKind.i64 m), .va (Value.int IntKind.i64 s), .bl false, .va (Value.slice A n c), .va (Value.func (Fn.func 58) #[] #[Value.pointer (some { block := nb, off := 0 : Addr })]), .va (Value.slice B k d)]]) rfl rfl (by decide) rfl (by simp) (fun _ => rfl) (fun _ => (newsOk_box (by simp [SV.good, SV.goodL]) (newsOk_nil _))) (fun _ => (by repeat (first | exact trivial | refine ⟨rfl, ?_⟩))) (fun _ h1 => ?_)
  refine go Try.tbs_ok 1000 ?_
  refine ev_if_no rfl ?_
  refine go Try.tbs_ok 1000 ?_
  refine ev_call (T2 ) [0, 1] [] (fun v0_ => [.box (p) 53 [.va (Value.int IntKind.i64 m), .va (Value.int IntKind.i64 s), .bl false, .va (Value.slice A n c), .va (Value.func (Fn.func 58) #[] #[Value.pointer (some { block := nb, off := 0 : Addr })]), .va (Value.slice B k d)], .fact (Row 71 3 A n c (List.flatMap encF L))]) rfl rfl (by decide) rfl (by simp) (fun _ => rfl) (fun _ => (newsOk_box (by simp [SV.good, SV.goodL]) (newsOk_fact (newsOk_nil _)))) (fun _ => (by repeat (first | exact trivial | refine ⟨rfl, ?_⟩))) (fun _ h2 => ?_)
  refine go Try.tbs_ok 1000 ?_
  refine ev_if_no rfl ?_
  refine go Try.tbs_ok 1000 ?_
  refine ev_inline Try.tbs_ok Try.func71 rfl rfl ?_
  refine go Try.tbs_ok 1000 ?_
  refine ev_new fun b3 => ?_
  refine ev_inline Try.tbs_ok Try.func61 rfl rfl ?_
  refine go Try.tbs_ok 1000 ?_
  refine ev_call (TF ) [2] [] (fun v0_ => [.box (nb) 3 [.va (Value.int IntKind.i64 (q - 1))]]) rfl rfl (by decide) rfl (by simp) (fun _ => rfl) (fun _ => (newsOk_box (by simp [SV.good, SV.goodL]) (newsOk_nil _))) (fun _ => (by repeat (first | exact trivial | refine ⟨rfl, ?_⟩))) (fun _ h4 => ?_)
  refine go Try.tbs_ok 1000 ?_
  refine ev_if_no rfl ?_
  refine go Try.tbs_ok 1000 ?_
  refine ev_if_yes rfl ?_
  refine go Try.tbs_ok 1000 ?_
  refine ev_call (TC ) [0, 1] [.inr 3] (fun v0_ => [.box (p) 53 [.va (Value.int IntKind.i64 m), .va (Value.int IntKind.i64 s), .bl true, .va (Value.slice A n c), .va (Value.nilFunc), .va (Value.slice B k d)], .fact (Row 71 3 A n c (List.flatMap encF (crashF L K)))]) rfl rfl (by decide) rfl (by simp) (fun _ => rfl) (fun _ => (newsOk_box (by simp [SV.good, SV.goodL]) (newsOk_fact (newsOk_nil _)))) (fun _ => (by repeat (first | exact trivial | refine ⟨rfl, ?_⟩))) (fun _ h5 => ?_)
  refine go Try.tbs_ok 1000 ?_
  refine ev_fin ⟨trivial, (by repeat (first | exact trivial | refine ⟨rfl, ?_⟩)), _, rfl, ?_⟩
  refine go Try.tbs_ok 1000 ?_
  refine ev_fin ⟨trivial, (by repeat (first | exact trivial | refine ⟨rfl, ?_⟩)), _, rfl, ?_⟩
  refine go Try.tbs_ok 1000 ?_
  refine ev_fin ⟨trivial, (by repeat (first | exact trivial | refine ⟨rfl, ?_⟩)), _, rfl, ?_⟩
  refine go Try.tbs_ok 1000 ?_
  refine ev_fin ⟨trivial, _, rfl, (()), rfl, (by trivial), Frm.sel [0, 1, 2, 3] rfl (by decide)⟩
end Go.Proofs.Ythknokcgclcbmaa
