/-
  What is proved: a disk's files are renamed, bytes are appended. Conditions: none.
-/
import Derived.Test.YthknokcgclcbmaaDG
namespace Go.Proofs.Ythknokcgclcbmaa
open Go.Sy

set_option maxRecDepth 100000 in
theorem renameTN (p : Nat) (m s : Int) (A : Option Addr) (n c : Nat) (B : Option Addr) (k d : Nat) (L : List Fl) (hn : n = L.length) (h1 : n ≤ 1000) (x y : ByteArray) (hh : hasF L x = true) (hi' : posF L x < L.length) (_hF : okF L) (ho : oddS y = false) (hh2 : hasF (L.eraseIdx (posF L x)) y = true) (hm : 0 < m) (hs : riseF L) : Triple Try.prog 35 [.pointer (some ⟨p, 0, none⟩), .string x, .string y] [Pt p 53 [.int .i64 m, .int .i64 s, .bool false, .slice A n c, .nilFunc, .slice B k d], Row 71 3 A n c (L.flatMap encF)] [] (Unit) (fun _ => .int .i64 0) (fun _ => True) (fun _ => [Pt p 53 [.int .i64 m, .int .i64 s, .bool false, .slice A (n - 1) c, .nilFunc, .slice B k d], Row 71 3 A (n - 1) c (((L.eraseIdx (posF L x)).set (posF (L.eraseIdx (posF L x)) y) ⟨y, (L[posF L x]'hi').d, (L[posF L x]'hi').s⟩).flatMap encF)]) := by
  have T1 := askP p m s false A n c (.nilFunc) B k d hm
  have T2 := findT p m s false A n c (.nilFunc) B k d L x hn h1 hs
  have hi : posF L x < L.length := (has_pos hs hh).1
  rw [hh] at T2
  have TO := oddT y
  rw [ho] at TO
  have TD := fun bd ba bt => renameDoT p m s false A n c (.nilFunc) B k d L hn h1 hs bd ba bt (posF L x) y hi hh2
  refine triple_intro Try.tbs_ok Try.func35 rfl [.pt 0 p 0, .va (.string x), .va (.string y)] [.box p 53 [.va (.int .i64 m), .va (.int .i64 s), .va (.bool false), .va (.slice A n c), .va (.nilFunc), .va (.slice B k d)], .fact (Row 71 3 A n c (L.flatMap encF))] ⟨rfl, trivial, trivial, trivial⟩ rfl (by simp [SV.good, SV.goodL]) ?_
  intro E
  refine go Try.tbs_ok 1000 ?_
  refine ev_new fun b0 => ?_
  refine ev_new fun b1 => ?_
  refine ev_inline Try.tbs_ok Try.func52 rfl rfl ?_
  refine go Try.tbs_ok 1000 ?_
  refine ev_call (T1 ) [0] [] (fun v0_ => [.box (p) 53 [.va (Value.int IntKind.i64 m), .va (Value.int IntKind.i64 s), .bl false, .va (Value.slice A n c), .va (Value.nilFunc), .va (Value.slice B k d)]]) rfl rfl (by decide) rfl (by simp) (fun _ => rfl) (fun _ => (newsOk_box (by simp [SV.good, SV.goodL]) (newsOk_nil _))) (fun _ => (by repeat (first | exact trivial | refine ⟨rfl, ?_⟩))) (fun _ h2 => ?_)
  refine go Try.tbs_ok 1000 ?_
  refine ev_if_no rfl ?_
  refine go Try.tbs_ok 1000 ?_
  refine ev_call (T2 ) [0, 1] [] (fun v0_ => [.box (p) 53 [.va (Value.int IntKind.i64 m), .va (Value.int IntKind.i64 s), .bl false, .va (Value.slice A n c), .va (Value.nilFunc), .va (Value.slice B k d)], .fact (Row 71 3 A n c (List.flatMap encF L))]) rfl rfl (by decide) rfl (by simp) (fun _ => rfl) (fun _ => (newsOk_box (by simp [SV.good, SV.goodL]) (newsOk_fact (newsOk_nil _)))) (fun _ => (by repeat (first | exact trivial | refine ⟨rfl, ?_⟩))) (fun _ h3 => ?_)
  refine go Try.tbs_ok 1000 ?_
  refine ev_if_no rfl ?_
  refine go Try.tbs_ok 1000 ?_
  refine ev_inline Try.tbs_ok Try.func64 rfl rfl ?_
  refine go Try.tbs_ok 1000 ?_
  refine ev_new fun b4 => ?_
  refine ev_callF (TO ) [] [] rfl rfl (by decide) rfl (by simp) (fun _ => (by repeat (first | exact trivial | refine ⟨rfl, ?_⟩))) (fun _ h5 => ?_)
  refine go Try.tbs_ok 1000 ?_
  refine ev_if_no rfl ?_
  refine go Try.tbs_ok 1000 ?_
  refine ev_inline Try.tbs_ok Try.func61 rfl rfl ?_
  refine go Try.tbs_ok 1000 ?_
  refine ev_call (TD (b0) (b4) (b1)) [0, 1, 2, 4, 3] [] (fun v0_ => [.box (p) 53 [.va (Value.int IntKind.i64 m), .va (Value.int IntKind.i64 s), .bl false, .va (Value.slice A (n - 1) c), .va (Value.nilFunc), .va (Value.slice B k d)], .fact (Row 71 3 A (n - 1) c (List.flatMap encF ((L.eraseIdx (posF L x)).set (posF (L.eraseIdx (posF L x)) y) { n := y, d := L[posF L x].d, s := L[posF L x].s : Fl }))), .box (b0) 25 [.va (Value.pointer (some { block := p, off := 0 : Addr }))], .box (b4) 3 [.va (Value.int IntKind.i64 (↑(posF L x) : Int))], .box (b1) 9 [.va (Value.string y)]]) rfl rfl (by decide) rfl (by simp) (fun _ => rfl) (fun _ => (newsOk_box (by simp [SV.good, SV.goodL]) (newsOk_fact (newsOk_box (by simp [SV.good, SV.goodL]) (newsOk_box (by simp [SV.good, SV.goodL]) (newsOk_box (by simp [SV.good, SV.goodL]) (newsOk_nil _))))))) (fun _ => (by repeat (first | exact trivial | refine ⟨rfl, ?_⟩))) (fun _ h6 => ?_)
  refine go Try.tbs_ok 1000 ?_
  refine ev_fin ⟨trivial, (by repeat (first | exact trivial | refine ⟨rfl, ?_⟩)), _, rfl, ?_⟩
  refine go Try.tbs_ok 1000 ?_
  refine ev_fin ⟨trivial, (by repeat (first | exact trivial | refine ⟨rfl, ?_⟩)), _, rfl, ?_⟩
  refine go Try.tbs_ok 1000 ?_
  refine ev_fin ⟨trivial, (by repeat (first | exact trivial | refine ⟨rfl, ?_⟩)), _, rfl, ?_⟩
  refine go Try.tbs_ok 1000 ?_
  refine ev_fin ⟨trivial, _, rfl, (()), rfl, (by trivial), Frm.sel [0, 1] rfl (by decide)⟩
set_option maxRecDepth 100000 in
theorem renameTG (p : Nat) (m s : Int) (A : Option Addr) (n c : Nat) (B : Option Addr) (k d : Nat) (L : List Fl) (hn : n = L.length) (h1 : n ≤ 1000) (x y : ByteArray) (hh : hasF L x = true) (hi' : posF L x < L.length) (_hF : okF L) (ho : oddS y = false) (hh2 : hasF (L.eraseIdx (posF L x)) y = true) (hm : 0 < m) (hs : riseF L) (nb : Nat) (q : Int) (K : List Int) (hq : 0 < q) (hq2 : q ≤ 9223372036854775807) : Triple Try.prog 35 [.pointer (some ⟨p, 0, none⟩), .string x, .string y] [Pt p 53 [.int .i64 m, .int .i64 s, .bool false, .slice A n c, .func (.func 58) #[] #[.pointer (some ⟨nb, 0, none⟩)], .slice B k d], Row 71 3 A n c (L.flatMap encF), Pt nb 3 [.int .i64 q], Row 3 1 B k d (K.flatMap encN)] [] (Unit) (fun _ => .int .i64 0) (fun _ => True) (fun _ => [Pt p 53 [.int .i64 m, .int .i64 s, .bool false, .slice A (n - 1) c, .func (.func 58) #[] #[.pointer (some ⟨nb, 0, none⟩)], .slice B k d], Row 71 3 A (n - 1) c (((L.eraseIdx (posF L x)).set (posF (L.eraseIdx (posF L x)) y) ⟨y, (L[posF L x]'hi').d, (L[posF L x]'hi').s⟩).flatMap encF), Pt nb 3 [.int .i64 (q - 1)], Row 3 1 B k d (K.flatMap encN)]) := by
  have T1 := askP p m s false A n c (.func (.func 58) #[] #[.pointer (some ⟨nb, 0, none⟩)]) B k d hm
  have T2 := findT p m s false A n c (.func (.func 58) #[] #[.pointer (some ⟨nb, 0, none⟩)]) B k d L x hn h1 hs
  have hi : posF L x < L.length := (has_pos hs hh).1
  rw [hh] at T2
  have TO := oddT y
  rw [ho] at TO
  have TD := fun bd ba bt => renameDoT p m s false A n c (.func (.func 58) #[] #[.pointer (some ⟨nb, 0, none⟩)]) B k d L hn h1 hs bd ba bt (posF L x) y hi hh2
  have TF := failT nb q (by omega) (by omega)
  rw [decide_eq_false (show ¬ q - 1 < 0 by omega)] at TF
  refine triple_intro Try.tbs_ok Try.func35 rfl [.pt 0 p 0, .va (.string x), .va (.string y)] [.box p 53 [.va (.int .i64 m), .va (.int .i64 s), .va (.bool false), .va (.slice A n c), .va (.func (.func 58) #[] #[.pointer (some ⟨nb, 0, none⟩)]), .va (.slice B k d)], .fact (Row 71 3 A n c (L.flatMap encF)), .box nb 3 [.va (.int .i64 q)], .fact (Row 3 1 B k d (K.flatMap encN))] ⟨rfl, trivial, trivial, trivial⟩ rfl (by simp [SV.good, SV.goodL]) ?_
  intro E
  refine go Try.tbs_ok 1000 ?_
  refine ev_new fun b0 => ?_
  refine ev_new fun b1 => ?_
  refine ev_inline Try.tbs_ok Try.func52 rfl rfl ?_
  refine go Try.tbs_ok 1000 ?_
  refine ev_call (T1 ) [0] [] (fun v0_ => [.box (p) 53 [.va (Value.int IntKind.i64 m), .va (Value.int IntKind.i64 s), .bl false, .va (Value.slice A n c), .va (Value.func (Fn.func 58) #[] #[Value.pointer (some { block := nb, off := 0 : Addr })]), .va (Value.slice B k d)]]) rfl rfl (by decide) rfl (by simp) (fun _ => rfl) (fun _ => (newsOk_box (by simp [SV.good, SV.goodL]) (newsOk_nil _))) (fun _ => (by repeat (first | exact trivial | refine ⟨rfl, ?_⟩))) (fun _ h2 => ?_)
  refine go Try.tbs_ok 1000 ?_
  refine ev_if_no rfl ?_
  refine go Try.tbs_ok 1000 ?_
  refine ev_call (T2 ) [0, 1] [] (fun v0_ => [.box (p) 53 [.va (Value.int IntKind.i64 m), .va (Value.int IntKind.i64 s), .bl false, .va (Value.slice A n c), .va (Value.func (Fn.func 58) #[] #[Value.pointer (some { block := nb, off := 0 : Addr })]), .va (Value.slice B k d)], .fact (Row 71 3 A n c (List.flatMap encF L))]) rfl rfl (by decide) rfl (by simp) (fun _ => rfl) (fun _ => (newsOk_box (by simp [SV.good, SV.goodL]) (newsOk_fact (newsOk_nil _)))) (fun _ => (by repeat (first | exact trivial | refine ⟨rfl, ?_⟩))) (fun _ h3 => ?_)
  refine go Try.tbs_ok 1000 ?_
  refine ev_if_no rfl ?_
  refine go Try.tbs_ok 1000 ?_
  refine ev_inline Try.tbs_ok Try.func64 rfl rfl ?_
  refine go Try.tbs_ok 1000 ?_
  refine ev_new fun b4 => ?_
  refine ev_callF (TO ) [] [] rfl rfl (by decide) rfl (by simp) (fun _ => (by repeat (first | exact trivial | refine ⟨rfl, ?_⟩))) (fun _ h5 => ?_)
  refine go Try.tbs_ok 1000 ?_
  refine ev_if_no rfl ?_
  refine go Try.tbs_ok 1000 ?_
  refine ev_inline Try.tbs_ok Try.func61 rfl rfl ?_
  refine go Try.tbs_ok 1000 ?_
  refine ev_call (TF ) [2] [] (fun v0_ => [.box (nb) 3 [.va (Value.int IntKind.i64 (q - 1))]]) rfl rfl (by decide) rfl (by simp) (fun _ => rfl) (fun _ => (newsOk_box (by simp [SV.good, SV.goodL]) (newsOk_nil _))) (fun _ => (by repeat (first | exact trivial | refine ⟨rfl, ?_⟩))) (fun _ h6 => ?_)
  refine go Try.tbs_ok 1000 ?_
  refine ev_if_yes rfl ?_
  refine go Try.tbs_ok 1000 ?_
  refine ev_call (TD (b0) (b4) (b1)) [0, 1, 4, 6, 5] [] (fun v0_ => [.box (p) 53 [.va (Value.int IntKind.i64 m), .va (Value.int IntKind.i64 s), .bl false, .va (Value.slice A (n - 1) c), .va (Value.func (Fn.func 58) #[] #[Value.pointer (some { block := nb, off := 0 : Addr })]), .va (Value.slice B k d)], .fact (Row 71 3 A (n - 1) c (List.flatMap encF ((L.eraseIdx (posF L x)).set (posF (L.eraseIdx (posF L x)) y) { n := y, d := L[posF L x].d, s := L[posF L x].s : Fl }))), .box (b0) 25 [.va (Value.pointer (some { block := p, off := 0 : Addr }))], .box (b4) 3 [.va (Value.int IntKind.i64 (↑(posF L x) : Int))], .box (b1) 9 [.va (Value.string y)]]) rfl rfl (by decide) rfl (by simp) (fun _ => rfl) (fun _ => (newsOk_box (by simp [SV.good, SV.goodL]) (newsOk_fact (newsOk_box (by simp [SV.good, SV.goodL]) (newsOk_box (by simp [SV.good, SV.goodL]) (newsOk_box (by simp [SV.good, SV.goodL]) (newsOk_nil _))))))) (fun _ => (by repeat (first | exact trivial | refine ⟨rfl, ?_⟩))) (fun _ h7 => ?_)
  refine go Try.tbs_ok 1000 ?_
  refine ev_if_no rfl ?_
  refine go Try.tbs_ok 1000 ?_
  refine ev_fin ⟨trivial, (by repeat (first | exact trivial | refine ⟨rfl, ?_⟩)), _, rfl, ?_⟩
  refine go Try.tbs_ok 1000 ?_
  refine ev_fin ⟨trivial, (by repeat (first | exact trivial | refine ⟨rfl, ?_⟩)), _, rfl, ?_⟩
  refine go Try.tbs_ok 1000 ?_
  refine ev_fin ⟨trivial, (by repeat (first | exact trivial | refine ⟨rfl, ?_⟩)), _, rfl, ?_⟩
  refine go Try.tbs_ok 1000 ?_
  refine ev_fin ⟨trivial, _, rfl, (()), rfl, (by trivial), Frm.sel [0, 1, 2, 3] rfl (by decide)⟩
set_option maxRecDepth 100000 in
theorem renameTS (p : Nat) (m s : Int) (A : Option Addr) (n c : Nat) (B : Option Addr) (k d : Nat) (L : List Fl) (hn : n = L.length) (h1 : n ≤ 1000) (x y : ByteArray) (hh : hasF L x = true) (_hi' : posF L x < L.length) (hF : okF L) (ho : oddS y = false) (hh2 : hasF (L.eraseIdx (posF L x)) y = true) (hm : 0 < m) (hs : riseF L) (nb : Nat) (q : Int) (K : List Int) (hq : q = 0) (hk : k = K.length) : Triple Try.prog 35 [.pointer (some ⟨p, 0, none⟩), .string x, .string y] [Pt p 53 [.int .i64 m, .int .i64 s, .bool false, .slice A n c, .func (.func 58) #[] #[.pointer (some ⟨nb, 0, none⟩)], .slice B k d], Row 71 3 A n c (L.flatMap encF), Pt nb 3 [.int .i64 q], Row 3 1 B k d (K.flatMap encN)] [] (Unit) (fun _ => .int .i64 41) (fun _ => True) (fun _ => [Pt p 53 [.int .i64 m, .int .i64 s, .bool true, .slice A n c, .nilFunc, .slice B k d], Row 71 3 A n c ((crashF L K).flatMap encF), Pt nb 3 [.int .i64 (q - 1)], Row 3 1 B k d (K.flatMap encN)]) := by
  have T1 := askP p m s false A n c (.func (.func 58) #[] #[.pointer (some ⟨nb, 0, none⟩)]) B k d hm
  have T2 := findT p m s false A n c (.func (.func 58) #[] #[.pointer (some ⟨nb, 0, none⟩)]) B k d L x hn h1 hs
  have hi : posF L x < L.length := (has_pos hs hh).1
  rw [hh] at T2
  have TO := oddT y
  rw [ho] at TO
  have TD := fun bd ba bt => renameDoT p m s false A n c (.func (.func 58) #[] #[.pointer (some ⟨nb, 0, none⟩)]) B k d L hn h1 hs bd ba bt (posF L x) y hi hh2
  have TC := (crashT p m s A (n) c (.func (.func 58) #[] #[.pointer (some ⟨nb, 0, none⟩)]) B k d (L) B k d K hm hn h1 hk hF).reads (N' := [Row 3 1 B k d (K.flatMap encN)]) (fun X hX => ⟨_, List.mem_cons_self, fun _ q => by rw [List.mem_singleton.1 hX]; exact Row.rd q⟩)
  have TF := failT nb q (by omega) (by omega)
  rw [decide_eq_true (show q - 1 < 0 by omega)] at TF
  refine triple_intro Try.tbs_ok Try.func35 rfl [.pt 0 p 0, .va (.string x), .va (.string y)] [.box p 53 [.va (.int .i64 m), .va (.int .i64 s), .va (.bool false), .va (.slice A n c), .va (.func (.func 58) #[] #[.pointer (some ⟨nb, 0, none⟩)]), .va (.slice B k d)], .fact (Row 71 3 A n c (L.flatMap encF)), .box nb 3 [.va (.int .i64 q)], .fact (Row 3 1 B k d (K.flatMap encN))] ⟨rfl, trivial, trivial, trivial⟩ rfl (by simp [SV.good, SV.goodL]) ?_
  intro E
  refine go Try.tbs_ok 1000 ?_
  refine ev_new fun b0 => ?_
  refine ev_new fun b1 => ?_
  refine ev_inline Try.tbs_ok Try.func52 rfl rfl ?_
  refine go Try.tbs_ok 1000 ?_
  refine ev_call (T1 ) [0] [] (fun v0_ => [.box (p) 53 [.va (Value.int IntKind.i64 m), .va (Value.int IntKind.i64 s), .bl false, .va (Value.slice A n c), .va (Value.func (Fn.func 58) #[] #[Value.pointer (some { block := nb, off := 0 : Addr })]), .va (Value.slice B k d)]]) rfl rfl (by decide) rfl (by simp) (fun _ => rfl) (fun _ => (newsOk_box (by simp [SV.good, SV.goodL]) (newsOk_nil _))) (fun _ => (by repeat (first | exact trivial | refine ⟨rfl, ?_⟩))) (fun _ h2 => ?_)
  refine go Try.tbs_ok 1000 ?_
  refine ev_if_no rfl ?_
  refine go Try.tbs_ok 1000 ?_
  refine ev_call (T2 ) [0, 1] [] (fun v0_ => [.box (p) 53 [.va (Value.int IntKind.i64 m), .va (Value.int IntKind.i64 s), .bl false, .va (Value.slice A n c), .va (Value.func (Fn.func 58) #[] #[Value.pointer (some { block := nb, off := 0 : Addr })]), .va (Value.slice B k d)], .fact (Row 71 3 A n c (List.flatMap encF L))]) rfl rfl (by decide) rfl (by simp) (fun _ => rfl) (fun _ => (newsOk_box (by simp [SV.good, SV.goodL]) (newsOk_fact (newsOk_nil _)))) (fun _ => (by repeat (first | exact trivial | refine ⟨rfl, ?_⟩))) (fun _ h3 => ?_)
  refine go Try.tbs_ok 1000 ?_
  refine ev_if_no rfl ?_
  refine go Try.tbs_ok 1000 ?_
  refine ev_inline Try.tbs_ok Try.func64 rfl rfl ?_
  refine go Try.tbs_ok 1000 ?_
  refine ev_new fun b4 => ?_
  refine ev_callF (TO ) [] [] rfl rfl (by decide) rfl (by simp) (fun _ => (by repeat (first | exact trivial | refine ⟨rfl, ?_⟩))) (fun _ h5 => ?_)
  refine go Try.tbs_ok 1000 ?_
  refine ev_if_no rfl ?_
  refine go Try.tbs_ok 1000 ?_
  refine ev_inline Try.tbs_ok Try.func61 rfl rfl ?_
  refine go Try.tbs_ok 1000 ?_
  refine ev_call (TF ) [2] [] (fun v0_ => [.box (nb) 3 [.va (Value.int IntKind.i64 (q - 1))]]) rfl rfl (by decide) rfl (by simp) (fun _ => rfl) (fun _ => (newsOk_box (by simp [SV.good, SV.goodL]) (newsOk_nil _))) (fun _ => (by repeat (first | exact trivial | refine ⟨rfl, ?_⟩))) (fun _ h6 => ?_)
  refine go Try.tbs_ok 1000 ?_
  refine ev_if_no rfl ?_
  refine go Try.tbs_ok 1000 ?_
  refine ev_if_yes rfl ?_
  refine go Try.tbs_ok 1000 ?_
  refine ev_call (TC ) [0, 1] [.inr 3] (fun v0_ => [.box (p) 53 [.va (Value.int IntKind.i64 m), .va (Value.int IntKind.i64 s), .bl true, .va (Value.slice A n c), .va (Value.nilFunc), .va (Value.slice B k d)], .fact (Row 71 3 A n c (List.flatMap encF (crashF L K)))]) rfl rfl (by decide) rfl (by simp) (fun _ => rfl) (fun _ => (newsOk_box (by simp [SV.good, SV.goodL]) (newsOk_fact (newsOk_nil _)))) (fun _ => (by repeat (first | exact trivial | refine ⟨rfl, ?_⟩))) (fun _ h7 => ?_)
  refine go Try.tbs_ok 1000 ?_
  refine ev_fin ⟨trivial, (by repeat (first | exact trivial | refine ⟨rfl, ?_⟩)), _, rfl, ?_⟩
  refine go Try.tbs_ok 1000 ?_
  refine ev_fin ⟨trivial, (by repeat (first | exact trivial | refine ⟨rfl, ?_⟩)), _, rfl, ?_⟩
  refine go Try.tbs_ok 1000 ?_
  refine ev_fin ⟨trivial, (by repeat (first | exact trivial | refine ⟨rfl, ?_⟩)), _, rfl, ?_⟩
  refine go Try.tbs_ok 1000 ?_
  refine ev_fin ⟨trivial, _, rfl, (()), rfl, (by trivial), Frm.sel [0, 1, 2, 3] rfl (by decide)⟩
set_option maxRecDepth 100000 in
theorem renameFN (p : Nat) (m s : Int) (A : Option Addr) (n c : Nat) (B : Option Addr) (k d : Nat) (L : List Fl) (hn : n = L.length) (h1 : n ≤ 1000) (x y : ByteArray) (hh : hasF L x = true) (hi' : posF L x < L.length) (_hF : okF L) (ho : oddS y = false) (hh2 : hasF (L.eraseIdx (posF L x)) y = false) (hm : 0 < m) (hs : riseF L) : Triple Try.prog 35 [.pointer (some ⟨p, 0, none⟩), .string x, .string y] [Pt p 53 [.int .i64 m, .int .i64 s, .bool false, .slice A n c, .nilFunc, .slice B k d], Row 71 3 A n c (L.flatMap encF)] [] (Option Addr × Nat) (fun _ => .int .i64 0) (fun _ => True) (fun (A2, c2) => [Pt p 53 [.int .i64 m, .int .i64 s, .bool false, .slice A2 (n - 1 + 1) c2, .nilFunc, .slice B k d], Row 71 3 A2 (n - 1 + 1) c2 (((L.eraseIdx (posF L x)).take (posF (L.eraseIdx (posF L x)) y) ++ ⟨y, (L[posF L x]'hi').d, (L[posF L x]'hi').s⟩ :: (L.eraseIdx (posF L x)).drop (posF (L.eraseIdx (posF L x)) y)).flatMap encF)]) := by
  have T1 := askP p m s false A n c (.nilFunc) B k d hm
  have T2 := findT p m s false A n c (.nilFunc) B k d L x hn h1 hs
  have hi : posF L x < L.length := (has_pos hs hh).1
  rw [hh] at T2
  have TO := oddT y
  rw [ho] at TO
  have TD := fun bd ba bt => renameDoF p m s false A n c (.nilFunc) B k d L hn h1 hs bd ba bt (posF L x) y hi hh2
  refine triple_intro Try.tbs_ok Try.func35 rfl [.pt 0 p 0, .va (.string x), .va (.string y)] [.box p 53 [.va (.int .i64 m), .va (.int .i64 s), .va (.bool false), .va (.slice A n c), .va (.nilFunc), .va (.slice B k d)], .fact (Row 71 3 A n c (L.flatMap encF))] ⟨rfl, trivial, trivial, trivial⟩ rfl (by simp [SV.good, SV.goodL]) ?_
  intro E
  refine go Try.tbs_ok 1000 ?_
  refine ev_new fun b0 => ?_
  refine ev_new fun b1 => ?_
  refine ev_inline Try.tbs_ok Try.func52 rfl rfl ?_
  refine go Try.tbs_ok 1000 ?_
  refine ev_call (T1 ) [0] [] (fun v0_ => [.box (p) 53 [.va (Value.int IntKind.i64 m), .va (Value.int IntKind.i64 s), .bl false, .va (Value.slice A n c), .va (Value.nilFunc), .va (Value.slice B k d)]]) rfl rfl (by decide) rfl (by simp) (fun _ => rfl) (fun _ => (newsOk_box (by simp [SV.good, SV.goodL]) (newsOk_nil _))) (fun _ => (by repeat (first | exact trivial | refine ⟨rfl, ?_⟩))) (fun _ h2 => ?_)
  refine go Try.tbs_ok 1000 ?_
  refine ev_if_no rfl ?_
  refine go Try.tbs_ok 1000 ?_
  refine ev_call (T2 ) [0, 1] [] (fun v0_ => [.box (p) 53 [.va (Value.int IntKind.i64 m), .va (Value.int IntKind.i64 s), .bl false, .va (Value.slice A n c), .va (Value.nilFunc), .va (Value.slice B k d)], .fact (Row 71 3 A n c (List.flatMap encF L))]) rfl rfl (by decide) rfl (by simp) (fun _ => rfl) (fun _ => (newsOk_box (by simp [SV.good, SV.goodL]) (newsOk_fact (newsOk_nil _)))) (fun _ => (by repeat (first | exact trivial | refine ⟨rfl, ?_⟩))) (fun _ h3 => ?_)
  refine go Try.tbs_ok 1000 ?_
  refine ev_if_no rfl ?_
  refine go Try.tbs_ok 1000 ?_
  refine ev_inline Try.tbs_ok Try.func64 rfl rfl ?_
  refine go Try.tbs_ok 1000 ?_
  refine ev_new fun b4 => ?_
  refine ev_callF (TO ) [] [] rfl rfl (by decide) rfl (by simp) (fun _ => (by repeat (first | exact trivial | refine ⟨rfl, ?_⟩))) (fun _ h5 => ?_)
  refine go Try.tbs_ok 1000 ?_
  refine ev_if_no rfl ?_
  refine go Try.tbs_ok 1000 ?_
  refine ev_inline Try.tbs_ok Try.func61 rfl rfl ?_
  refine go Try.tbs_ok 1000 ?_
  refine ev_call (TD (b0) (b4) (b1)) [0, 1, 2, 4, 3] [] (fun (v0_, v1_) => [.box (p) 53 [.va (Value.int IntKind.i64 m), .va (Value.int IntKind.i64 s), .bl false, .va (Value.slice v0_ (n - 1 + 1) v1_), .va (Value.nilFunc), .va (Value.slice B k d)], .fact (Row 71 3 v0_ (n - 1 + 1) v1_ (List.flatMap encF (List.take (posF (L.eraseIdx (posF L x)) y) (L.eraseIdx (posF L x)) ++ { n := y, d := L[posF L x].d, s := L[posF L x].s : Fl } :: List.drop (posF (L.eraseIdx (posF L x)) y) (L.eraseIdx (posF L x))))), .box (b0) 25 [.va (Value.pointer (some { block := p, off := 0 : Addr }))], .box (b4) 3 [.va (Value.int IntKind.i64 (↑(posF L x) : Int))], .box (b1) 9 [.va (Value.string y)]]) rfl rfl (by decide) rfl (by simp) (fun _ => rfl) (fun _ => (newsOk_box (by simp [SV.good, SV.goodL]) (newsOk_fact (newsOk_box (by simp [SV.good, SV.goodL]) (newsOk_box (by simp [SV.good, SV.goodL]) (newsOk_box (by simp [SV.good, SV.goodL]) (newsOk_nil _))))))) (fun _ => (by repeat (first | exact trivial | refine ⟨rfl, ?_⟩))) (fun ⟨x6, x7⟩ h8 => ?_)
  refine go Try.tbs_ok 1000 ?_
  refine ev_fin ⟨trivial, (by repeat (first | exact trivial | refine ⟨rfl, ?_⟩)), _, rfl, ?_⟩
  refine go Try.tbs_ok 1000 ?_
  refine ev_fin ⟨trivial, (by repeat (first | exact trivial | refine ⟨rfl, ?_⟩)), _, rfl, ?_⟩
  refine go Try.tbs_ok 1000 ?_
  refine ev_fin ⟨trivial, (by repeat (first | exact trivial | refine ⟨rfl, ?_⟩)), _, rfl, ?_⟩
  refine go Try.tbs_ok 1000 ?_
  refine ev_fin ⟨trivial, _, rfl, ((x6, x7)), rfl, (by trivial), Frm.sel [0, 1] rfl (by decide)⟩
set_option maxRecDepth 100000 in
theorem renameFG (p : Nat) (m s : Int) (A : Option Addr) (n c : Nat) (B : Option Addr) (k d : Nat) (L : List Fl) (hn : n = L.length) (h1 : n ≤ 1000) (x y : ByteArray) (hh : hasF L x = true) (hi' : posF L x < L.length) (_hF : okF L) (ho : oddS y = false) (hh2 : hasF (L.eraseIdx (posF L x)) y = false) (hm : 0 < m) (hs : riseF L) (nb : Nat) (q : Int) (K : List Int) (hq : 0 < q) (hq2 : q ≤ 9223372036854775807) : Triple Try.prog 35 [.pointer (some ⟨p, 0, none⟩), .string x, .string y] [Pt p 53 [.int .i64 m, .int .i64 s, .bool false, .slice A n c, .func (.func 58) #[] #[.pointer (some ⟨nb, 0, none⟩)], .slice B k d], Row 71 3 A n c (L.flatMap encF), Pt nb 3 [.int .i64 q], Row 3 1 B k d (K.flatMap encN)] [] (Option Addr × Nat) (fun _ => .int .i64 0) (fun _ => True) (fun (A2, c2) => [Pt p 53 [.int .i64 m, .int .i64 s, .bool false, .slice A2 (n - 1 + 1) c2, .func (.func 58) #[] #[.pointer (some ⟨nb, 0, none⟩)], .slice B k d], Row 71 3 A2 (n - 1 + 1) c2 (((L.eraseIdx (posF L x)).take (posF (L.eraseIdx (posF L x)) y) ++ ⟨y, (L[posF L x]'hi').d, (L[posF L x]'hi').s⟩ :: (L.eraseIdx (posF L x)).drop (posF (L.eraseIdx (posF L x)) y)).flatMap encF), Pt nb 3 [.int .i64 (q - 1)], Row 3 1 B k d (K.flatMap encN)]) := by
  have T1 := askP p m s false A n c (.func (.func 58) #[] #[.pointer (some ⟨nb, 0, none⟩)]) B k d hm
  have T2 := findT p m s false A n c (.func (.func 58) #[] #[.pointer (some ⟨nb, 0, none⟩)]) B k d L x hn h1 hs
  have hi : posF L x < L.length := (has_pos hs hh).1
  rw [hh] at T2
  have TO := oddT y
  rw [ho] at TO
  have TD := fun bd ba bt => renameDoF p m s false A n c (.func (.func 58) #[] #[.pointer (some ⟨nb, 0, none⟩)]) B k d L hn h1 hs bd ba bt (posF L x) y hi hh2
  have TF := failT nb q (by omega) (by omega)
  rw [decide_eq_false (show ¬ q - 1 < 0 by omega)] at TF
  refine triple_intro Try.tbs_ok Try.func35 rfl [.pt 0 p 0, .va (.string x), .va (.string y)] [.box p 53 [.va (.int .i64 m), .va (.int .i64 s), .va (.bool false), .va (.slice A n c), .va (.func (.func 58) #[] #[.pointer (some ⟨nb, 0, none⟩)]), .va (.slice B k d)], .fact (Row 71 3 A n c (L.flatMap encF)), .box nb 3 [.va (.int .i64 q)], .fact (Row 3 1 B k d (K.flatMap encN))] ⟨rfl, trivial, trivial, trivial⟩ rfl (by simp [SV.good, SV.goodL]) ?_
  intro E
  refine go Try.tbs_ok 1000 ?_
  refine ev_new fun b0 => ?_
  refine ev_new fun b1 => ?_
  refine ev_inline Try.tbs_ok Try.func52 rfl rfl ?_
  refine go Try.tbs_ok 1000 ?_
  refine ev_call (T1 ) [0] [] (fun v0_ => [.box (p) 53 [.va (Value.int IntKind.i64 m), .va (Value.int IntKind.i64 s), .bl false, .va (Value.slice A n c), .va (Value.func (Fn.func 58) #[] #[Value.pointer (some { block := nb, off := 0 : Addr })]), .va (Value.slice B k d)]]) rfl rfl (by decide) rfl (by simp) (fun _ => rfl) (fun _ => (newsOk_box (by simp [SV.good, SV.goodL]) (newsOk_nil _))) (fun _ => (by repeat (first | exact trivial | refine ⟨rfl, ?_⟩))) (fun _ h2 => ?_)
  refine go Try.tbs_ok 1000 ?_
  refine ev_if_no rfl ?_
  refine go Try.tbs_ok 1000 ?_
  refine ev_call (T2 ) [0, 1] [] (fun v0_ => [.box (p) 53 [.va (Value.int IntKind.i64 m), .va (Value.int IntKind.i64 s), .bl false, .va (Value.slice A n c), .va (Value.func (Fn.func 58) #[] #[Value.pointer (some { block := nb, off := 0 : Addr })]), .va (Value.slice B k d)], .fact (Row 71 3 A n c (List.flatMap encF L))]) rfl rfl (by decide) rfl (by simp) (fun _ => rfl) (fun _ => (newsOk_box (by simp [SV.good, SV.goodL]) (newsOk_fact (newsOk_nil _)))) (fun _ => (by repeat (first | exact trivial | refine ⟨rfl, ?_⟩))) (fun _ h3 => ?_)
  refine go Try.tbs_ok 1000 ?_
  refine ev_if_no rfl ?_
  refine go Try.tbs_ok 1000 ?_
  refine ev_inline Try.tbs_ok Try.func64 rfl rfl ?_
  refine go Try.tbs_ok 1000 ?_
  refine ev_new fun b4 => ?_
  refine ev_callF (TO ) [] [] rfl rfl (by decide) rfl (by simp) (fun _ => (by repeat (first | exact trivial | refine ⟨rfl, ?_⟩))) (fun _ h5 => ?_)
  refine go Try.tbs_ok 1000 ?_
  refine ev_if_no rfl ?_
  refine go Try.tbs_ok 1000 ?_
  refine ev_inline Try.tbs_ok Try.func61 rfl rfl ?_
  refine go Try.tbs_ok 1000 ?_
  refine ev_call (TF ) [2] [] (fun v0_ => [.box (nb) 3 [.va (Value.int IntKind.i64 (q - 1))]]) rfl rfl (by decide) rfl (by simp) (fun _ => rfl) (fun _ => (newsOk_box (by simp [SV.good, SV.goodL]) (newsOk_nil _))) (fun _ => (by repeat (first | exact trivial | refine ⟨rfl, ?_⟩))) (fun _ h6 => ?_)
  refine go Try.tbs_ok 1000 ?_
  refine ev_if_yes rfl ?_
  refine go Try.tbs_ok 1000 ?_
  refine ev_call (TD (b0) (b4) (b1)) [0, 1, 4, 6, 5] [] (fun (v0_, v1_) => [.box (p) 53 [.va (Value.int IntKind.i64 m), .va (Value.int IntKind.i64 s), .bl false, .va (Value.slice v0_ (n - 1 + 1) v1_), .va (Value.func (Fn.func 58) #[] #[Value.pointer (some { block := nb, off := 0 : Addr })]), .va (Value.slice B k d)], .fact (Row 71 3 v0_ (n - 1 + 1) v1_ (List.flatMap encF (List.take (posF (L.eraseIdx (posF L x)) y) (L.eraseIdx (posF L x)) ++ { n := y, d := L[posF L x].d, s := L[posF L x].s : Fl } :: List.drop (posF (L.eraseIdx (posF L x)) y) (L.eraseIdx (posF L x))))), .box (b0) 25 [.va (Value.pointer (some { block := p, off := 0 : Addr }))], .box (b4) 3 [.va (Value.int IntKind.i64 (↑(posF L x) : Int))], .box (b1) 9 [.va (Value.string y)]]) rfl rfl (by decide) rfl (by simp) (fun _ => rfl) (fun _ => (newsOk_box (by simp [SV.good, SV.goodL]) (newsOk_fact (newsOk_box (by simp [SV.good, SV.goodL]) (newsOk_box (by simp [SV.good, SV.goodL]) (newsOk_box (by simp [SV.good, SV.goodL]) (newsOk_nil _))))))) (fun _ => (by repeat (first | exact trivial | refine ⟨rfl, ?_⟩))) (fun ⟨x7, x8⟩ h9 => ?_)
  refine go Try.tbs_ok 1000 ?_
  refine ev_if_no rfl ?_
  refine go Try.tbs_ok 1000 ?_
  refine ev_fin ⟨trivial, (by repeat (first | exact trivial | refine ⟨rfl, ?_⟩)), _, rfl, ?_⟩
  refine go Try.tbs_ok 1000 ?_
  refine ev_fin ⟨trivial, (by repeat (first | exact trivial | refine ⟨rfl, ?_⟩)), _, rfl, ?_⟩
  refine go Try.tbs_ok 1000 ?_
  refine ev_fin ⟨trivial, (by repeat (first | exact trivial | refine ⟨rfl, ?_⟩)), _, rfl, ?_⟩
  refine go Try.tbs_ok 1000 ?_
  refine ev_fin ⟨trivial, _, rfl, ((x7, x8)), rfl, (by trivial), Frm.sel [0, 1, 2, 3] rfl (by decide)⟩
set_option maxRecDepth 100000 in
theorem renameFS (p : Nat) (m s : Int) (A : Option Addr) (n c : Nat) (B : Option Addr) (k d : Nat) (L : List Fl) (hn : n = L.length) (h1 : n ≤ 1000) (x y : ByteArray) (hh : hasF L x = true) (_hi' : posF L x < L.length) (hF : okF L) (ho : oddS y = false) (hh2 : hasF (L.eraseIdx (posF L x)) y = false) (hm : 0 < m) (hs : riseF L) (nb : Nat) (q : Int) (K : List Int) (hq : q = 0) (hk : k = K.length) : Triple Try.prog 35 [.pointer (some ⟨p, 0, none⟩), .string x, .string y] [Pt p 53 [.int .i64 m, .int .i64 s, .bool false, .slice A n c, .func (.func 58) #[] #[.pointer (some ⟨nb, 0, none⟩)], .slice B k d], Row 71 3 A n c (L.flatMap encF), Pt nb 3 [.int .i64 q], Row 3 1 B k d (K.flatMap encN)] [] (Unit) (fun _ => .int .i64 41) (fun _ => True) (fun _ => [Pt p 53 [.int .i64 m, .int .i64 s, .bool true, .slice A n c, .nilFunc, .slice B k d], Row 71 3 A n c ((crashF L K).flatMap encF), Pt nb 3 [.int .i64 (q - 1)], Row 3 1 B k d (K.flatMap encN)]) := by
  have T1 := askP p m s false A n c (.func (.func 58) #[] #[.pointer (some ⟨nb, 0, none⟩)]) B k d hm
  have T2 := findT p m s false A n c (.func (.func 58) #[] #[.pointer (some ⟨nb, 0, none⟩)]) B k d L x hn h1 hs
  have hi : posF L x < L.length := (has_pos hs hh).1
  rw [hh] at T2
  have TO := oddT y
  rw [ho] at TO
  have TD := fun bd ba bt => renameDoF p m s false A n c (.func (.func 58) #[] #[.pointer (some ⟨nb, 0, none⟩)]) B k d L hn h1 hs bd ba bt (posF L x) y hi hh2
  have TC := (crashT p m s A (n) c (.func (.func 58) #[] #[.pointer (some ⟨nb, 0, none⟩)]) B k d (L) B k d K hm hn h1 hk hF).reads (N' := [Row 3 1 B k d (K.flatMap encN)]) (fun X hX => ⟨_, List.mem_cons_self, fun _ q => by rw [List.mem_singleton.1 hX]; exact Row.rd q⟩)
  have TF := failT nb q (by omega) (by omega)
  rw [decide_eq_true (show q - 1 < 0 by omega)] at TF
  refine triple_intro Try.tbs_ok Try.func35 rfl [.pt 0 p 0, .va (.string x), .va (.string y)] [.box p 53 [.va (.int .i64 m), .va (.int .i64 s), .va (.bool false), .va (.slice A n c), .va (.func (.func 58) #[] #[.pointer (some ⟨nb, 0, none⟩)]), .va (.slice B k d)], .fact (Row 71 3 A n c (L.flatMap encF)), .box nb 3 [.va (.int .i64 q)], .fact (Row 3 1 B k d (K.flatMap encN))] ⟨rfl, trivial, trivial, trivial⟩ rfl (by simp [SV.good, SV.goodL]) ?_
  intro E
  refine go Try.tbs_ok 1000 ?_
  refine ev_new fun b0 => ?_
  refine ev_new fun b1 => ?_
  refine ev_inline Try.tbs_ok Try.func52 rfl rfl ?_
  refine go Try.tbs_ok 1000 ?_
  refine ev_call (T1 ) [0] [] (fun v0_ => [.box (p) 53 [.va (Value.int IntKind.i64 m), .va (Value.int IntKind.i64 s), .bl false, .va (Value.slice A n c), .va (Value.func (Fn.func 58) #[] #[Value.pointer (some { block := nb, off := 0 : Addr })]), .va (Value.slice B k d)]]) rfl rfl (by decide) rfl (by simp) (fun _ => rfl) (fun _ => (newsOk_box (by simp [SV.good, SV.goodL]) (newsOk_nil _))) (fun _ => (by repeat (first | exact trivial | refine ⟨rfl, ?_⟩))) (fun _ h2 => ?_)
  refine go Try.tbs_ok 1000 ?_
  refine ev_if_no rfl ?_
  refine go Try.tbs_ok 1000 ?_
  refine ev_call (T2 ) [0, 1] [] (fun v0_ => [.box (p) 53 [.va (Value.int IntKind.i64 m), .va (Value.int IntKind.i64 s), .bl false, .va (Value.slice A n c), .va (Value.func (Fn.func 58) #[] #[Value.pointer (some { block := nb, off := 0 : Addr })]), .va (Value.slice B k d)], .fact (Row 71 3 A n c (List.flatMap encF L))]) rfl rfl (by decide) rfl (by simp) (fun _ => rfl) (fun _ => (newsOk_box (by simp [SV.good, SV.goodL]) (newsOk_fact (newsOk_nil _)))) (fun _ => (by repeat (first | exact trivial | refine ⟨rfl, ?_⟩))) (fun _ h3 => ?_)
  refine go Try.tbs_ok 1000 ?_
  refine ev_if_no rfl ?_
  refine go Try.tbs_ok 1000 ?_
  refine ev_inline Try.tbs_ok Try.func64 rfl rfl ?_
  refine go Try.tbs_ok 1000 ?_
  refine ev_new fun b4 => ?_
  refine ev_callF (TO ) [] [] rfl rfl (by decide) rfl (by simp) (fun _ => (by repeat (first | exact trivial | refine ⟨rfl, ?_⟩))) (fun _ h5 => ?_)
  refine go Try.tbs_ok 1000 ?_
  refine ev_if_no rfl ?_
  refine go Try.tbs_ok 1000 ?_
  refine ev_inline Try.tbs_ok Try.func61 rfl rfl ?_
  refine go Try.tbs_ok 1000 ?_
  refine ev_call (TF ) [2] [] (fun v0_ => [.box (nb) 3 [.va (Value.int IntKind.i64 (q - 1))]]) rfl rfl (by decide) rfl (by simp) (fun _ => rfl) (fun _ => (newsOk_box (by simp [SV.good, SV.goodL]) (newsOk_nil _))) (fun _ => (by repeat (first | exact trivial | refine ⟨rfl, ?_⟩))) (fun _ h6 => ?_)
  refine go Try.tbs_ok 1000 ?_
  refine ev_if_no rfl ?_
  refine go Try.tbs_ok 1000 ?_
  refine ev_if_yes rfl ?_
  refine go Try.tbs_ok 1000 ?_
  refine ev_call (TC ) [0, 1] [.inr 3] (fun v0_ => [.box (p) 53 [.va (Value.int IntKind.i64 m), .va (Value.int IntKind.i64 s), .bl true, .va (Value.slice A n c), .va (Value.nilFunc), .va (Value.slice B k d)], .fact (Row 71 3 A n c (List.flatMap encF (crashF L K)))]) rfl rfl (by decide) rfl (by simp) (fun _ => rfl) (fun _ => (newsOk_box (by simp [SV.good, SV.goodL]) (newsOk_fact (newsOk_nil _)))) (fun _ => (by repeat (first | exact trivial | refine ⟨rfl, ?_⟩))) (fun _ h7 => ?_)
  refine go Try.tbs_ok 1000 ?_
  refine ev_fin ⟨trivial, (by repeat (first | exact trivial | refine ⟨rfl, ?_⟩)), _, rfl, ?_⟩
  refine go Try.tbs_ok 1000 ?_
  refine ev_fin ⟨trivial, (by repeat (first | exact trivial | refine ⟨rfl, ?_⟩)), _, rfl, ?_⟩
  refine go Try.tbs_ok 1000 ?_
  refine ev_fin ⟨trivial, (by repeat (first | exact trivial | refine ⟨rfl, ?_⟩)), _, rfl, ?_⟩
  refine go Try.tbs_ok 1000 ?_
  refine ev_fin ⟨trivial, _, rfl, (()), rfl, (by trivial), Frm.sel [0, 1, 2, 3] rfl (by decide)⟩
set_option maxRecDepth 100000 in
theorem appendTN (p : Nat) (m s : Int) (A : Option Addr) (n c : Nat) (B : Option Addr) (k d : Nat) (L : List Fl) (hn : n = L.length) (h1 : n ≤ 1000) (x y : ByteArray) (hh : hasF L x = true) (ho : oddS x = false) (hb : sumD L ≤ 1000000000) (hm2 : m ≤ 1048576) (hy : (y.size : Int) ≤ m - sumD L) (hi' : posF L x < L.length) (hz : (L[posF L x]'hi').d.size + y.size ≤ 1000000000) (_hF2 : okF (L.set (posF L x) ⟨(L[posF L x]'hi').n, (L[posF L x]'hi').d ++ y, (L[posF L x]'hi').s⟩)) (hm : 0 < m) (hs : riseF L) : Triple Try.prog 34 [.pointer (some ⟨p, 0, none⟩), .string x, .string y] [Pt p 53 [.int .i64 m, .int .i64 s, .bool false, .slice A n c, .nilFunc, .slice B k d], Row 71 3 A n c (L.flatMap encF)] [] (Unit) (fun _ => .int .i64 0) (fun _ => True) (fun _ => [Pt p 53 [.int .i64 m, .int .i64 s, .bool false, .slice A n c, .nilFunc, .slice B k d], Row 71 3 A n c ((L.set (posF L x) ⟨(L[posF L x]'hi').n, (L[posF L x]'hi').d ++ y, (L[posF L x]'hi').s⟩).flatMap encF)]) := by
  have T1 := askP p m s false A n c (.nilFunc) B k d hm
  have T2 := findT p m s false A n c (.nilFunc) B k d L x hn h1 hs
  rw [hh] at T2
  have TO := oddT x
  rw [ho] at TO
  have TS := sizeT p m s false A n c (.nilFunc) B k d L hm hn h1 hb
  have hi : posF L x < L.length := (has_pos hs hh).1
  have TD := fun bk bd ba bx bs => appendDoT p m s false A n c (.nilFunc) B k d L hn h1 bk bd ba bx bs (posF L x) x y hi hz
  refine triple_intro Try.tbs_ok Try.func34 rfl [.pt 0 p 0, .va (.string x), .va (.string y)] [.box p 53 [.va (.int .i64 m), .va (.int .i64 s), .va (.bool false), .va (.slice A n c), .va (.nilFunc), .va (.slice B k d)], .fact (Row 71 3 A n c (L.flatMap encF))] ⟨rfl, trivial, trivial, trivial⟩ rfl (by simp [SV.good, SV.goodL]) ?_
  intro E
  refine go Try.tbs_ok 1000 ?_
  refine ev_new fun b0 => ?_
  refine ev_new fun b1 => ?_
  refine ev_new fun b2 => ?_
  refine ev_call (T1 ) [0] [] (fun v0_ => [.box (p) 53 [.va (Value.int IntKind.i64 m), .va (Value.int IntKind.i64 s), .bl false, .va (Value.slice A n c), .va (Value.nilFunc), .va (Value.slice B k d)]]) rfl rfl (by decide) rfl (by simp) (fun _ => rfl) (fun _ => (newsOk_box (by simp [SV.good, SV.goodL]) (newsOk_nil _))) (fun _ => (by repeat (first | exact trivial | refine ⟨rfl, ?_⟩))) (fun _ h3 => ?_)
  refine go Try.tbs_ok 1000 ?_
  refine ev_if_no rfl ?_
  refine go Try.tbs_ok 1000 ?_
  refine ev_call (T2 ) [0, 1] [] (fun v0_ => [.box (p) 53 [.va (Value.int IntKind.i64 m), .va (Value.int IntKind.i64 s), .bl false, .va (Value.slice A n c), .va (Value.nilFunc), .va (Value.slice B k d)], .fact (Row 71 3 A n c (List.flatMap encF L))]) rfl rfl (by decide) rfl (by simp) (fun _ => rfl) (fun _ => (newsOk_box (by simp [SV.good, SV.goodL]) (newsOk_fact (newsOk_nil _)))) (fun _ => (by repeat (first | exact trivial | refine ⟨rfl, ?_⟩))) (fun _ h4 => ?_)
  refine go Try.tbs_ok 1000 ?_
  refine ev_new fun b5 => ?_
  refine ev_new fun b6 => ?_
  refine ev_callF (TO ) [] [] rfl rfl (by decide) rfl (by simp) (fun _ => (by repeat (first | exact trivial | refine ⟨rfl, ?_⟩))) (fun _ h7 => ?_)
  refine go Try.tbs_ok 1000 ?_
  refine ev_if_no rfl ?_
  refine go Try.tbs_ok 1000 ?_
  refine ev_if_no rfl ?_
  refine go Try.tbs_ok 1000 ?_
  refine ev_stop (go_draw Try.tbs_ok false [0, 2, 4] [(0,true),(1,true),(2,true),(3,true),(4,true),(5,true),(6,true),(7,false),(8,false),(9,false),(10,false)] rfl ?_)
  refine go Try.tbs_ok 1000 ?_
  refine ev_need ⟨⟨(by repeat (first | exact trivial | refine ⟨rfl, ?_⟩)), rfl⟩, by kernel_rfl⟩ ?_
  refine ev_call (TS ) [0, 1] [] (fun v0_ => [.box (p) 53 [.va (Value.int IntKind.i64 m), .va (Value.int IntKind.i64 s), .bl false, .va (Value.slice A n c), .va (Value.nilFunc), .va (Value.slice B k d)], .fact (Row 71 3 A n c (List.flatMap encF L))]) rfl rfl (by decide) rfl (by simp) (fun _ => rfl) (fun _ => (newsOk_box (by simp [SV.good, SV.goodL]) (newsOk_fact (newsOk_nil _)))) (fun _ => (by repeat (first | exact trivial | refine ⟨rfl, ?_⟩))) (fun _ h8 => ?_)
  refine go Try.tbs_ok 1000 ?_
  refine ev_need ⟨⟨(by repeat (first | exact trivial | refine ⟨rfl, ?_⟩)), rfl⟩, by kernel_rfl⟩ ?_
  refine ev_w64 (by constructor <;> omega) ?_
  refine ev_need ⟨⟨(by repeat (first | exact trivial | refine ⟨rfl, ?_⟩)), rfl⟩, by kernel_rfl⟩ ?_
  refine ev_need ⟨⟨(by repeat (first | exact trivial | refine ⟨rfl, ?_⟩)), rfl⟩, by kernel_rfl⟩ ?_
  refine ev_need (by kernel_rfl) ?_
  refine ev_if_no (decide_eq_false (show ¬(↑y.size : Int) > m - (↑(sumD L) : Int) from (by omega))) ?_
  refine go Try.tbs_ok 1000 ?_
  refine ev_inline Try.tbs_ok Try.func61 rfl rfl ?_
  refine go Try.tbs_ok 1000 ?_
  refine ev_call (TD (b6) (b0) (b5) (b1) (b2)) [0, 1, 6, 2, 5, 3, 4] [] (fun v0_ => [.box (p) 53 [.va (Value.int IntKind.i64 m), .va (Value.int IntKind.i64 s), .bl false, .va (Value.slice A n c), .va (Value.nilFunc), .va (Value.slice B k d)], .fact (Row 71 3 A n c (List.flatMap encF (L.set (posF L x) { n := L[posF L x].n, d := L[posF L x].d ++ y, s := L[posF L x].s : Fl }))), .box (b6) 4 [.bl true], .box (b0) 25 [.va (Value.pointer (some { block := p, off := 0 : Addr }))], .box (b5) 3 [.va (Value.int IntKind.i64 (↑(posF L x) : Int))], .box (b1) 9 [.va (Value.string x)], .box (b2) 9 [.va (Value.string y)]]) rfl rfl (by decide) rfl (by simp) (fun _ => rfl) (fun _ => (newsOk_box (by simp [SV.good, SV.goodL]) (newsOk_fact (newsOk_box (by simp [SV.good, SV.goodL]) (newsOk_box (by simp [SV.good, SV.goodL]) (newsOk_box (by simp [SV.good, SV.goodL]) (newsOk_box (by simp [SV.good, SV.goodL]) (newsOk_box (by simp [SV.good, SV.goodL]) (newsOk_nil _))))))))) (fun _ => (by repeat (first | exact trivial | refine ⟨rfl, ?_⟩))) (fun _ h9 => ?_)
  refine go Try.tbs_ok 1000 ?_
  refine ev_fin ⟨trivial, (by repeat (first | exact trivial | refine ⟨rfl, ?_⟩)), _, rfl, ?_⟩
  refine go Try.tbs_ok 1000 ?_
  refine ev_fin ⟨trivial, _, rfl, (()), rfl, (by trivial), Frm.sel [0, 1] rfl (by decide)⟩
set_option maxRecDepth 100000 in
theorem appendTG (p : Nat) (m s : Int) (A : Option Addr) (n c : Nat) (B : Option Addr) (k d : Nat) (L : List Fl) (hn : n = L.length) (h1 : n ≤ 1000) (x y : ByteArray) (hh : hasF L x = true) (ho : oddS x = false) (hb : sumD L ≤ 1000000000) (hm2 : m ≤ 1048576) (hy : (y.size : Int) ≤ m - sumD L) (hi' : posF L x < L.length) (hz : (L[posF L x]'hi').d.size + y.size ≤ 1000000000) (_hF2 : okF (L.set (posF L x) ⟨(L[posF L x]'hi').n, (L[posF L x]'hi').d ++ y, (L[posF L x]'hi').s⟩)) (hm : 0 < m) (hs : riseF L) (nb : Nat) (q : Int) (K : List Int) (hq : 0 < q) (hq2 : q ≤ 9223372036854775807) : Triple Try.prog 34 [.pointer (some ⟨p, 0, none⟩), .string x, .string y] [Pt p 53 [.int .i64 m, .int .i64 s, .bool false, .slice A n c, .func (.func 58) #[] #[.pointer (some ⟨nb, 0, none⟩)], .slice B k d], Row 71 3 A n c (L.flatMap encF), Pt nb 3 [.int .i64 q], Row 3 1 B k d (K.flatMap encN)] [] (Unit) (fun _ => .int .i64 0) (fun _ => True) (fun _ => [Pt p 53 [.int .i64 m, .int .i64 s, .bool false, .slice A n c, .func (.func 58) #[] #[.pointer (some ⟨nb, 0, none⟩)], .slice B k d], Row 71 3 A n c ((L.set (posF L x) ⟨(L[posF L x]'hi').n, (L[posF L x]'hi').d ++ y, (L[posF L x]'hi').s⟩).flatMap encF), Pt nb 3 [.int .i64 (q - 1)], Row 3 1 B k d (K.flatMap encN)]) := by
  have T1 := askP p m s false A n c (.func (.func 58) #[] #[.pointer (some ⟨nb, 0, none⟩)]) B k d hm
  have T2 := findT p m s false A n c (.func (.func 58) #[] #[.pointer (some ⟨nb, 0, none⟩)]) B k d L x hn h1 hs
  rw [hh] at T2
  have TO := oddT x
  rw [ho] at TO
  have TS := sizeT p m s false A n c (.func (.func 58) #[] #[.pointer (some ⟨nb, 0, none⟩)]) B k d L hm hn h1 hb
  have hi : posF L x < L.length := (has_pos hs hh).1
  have TD := fun bk bd ba bx bs => appendDoT p m s false A n c (.func (.func 58) #[] #[.pointer (some ⟨nb, 0, none⟩)]) B k d L hn h1 bk bd ba bx bs (posF L x) x y hi hz
  have TF := failT nb q (by omega) (by omega)
  rw [decide_eq_false (show ¬ q - 1 < 0 by omega)] at TF
  refine triple_intro Try.tbs_ok Try.func34 rfl [.pt 0 p 0, .va (.string x), .va (.string y)] [.box p 53 [.va (.int .i64 m), .va (.int .i64 s), .va (.bool false), .va (.slice A n c), .va (.func (.func 58) #[] #[.pointer (some ⟨nb, 0, none⟩)]), .va (.slice B k d)], .fact (Row 71 3 A n c (L.flatMap encF)), .box nb 3 [.va (.int .i64 q)], .fact (Row 3 1 B k d (K.flatMap encN))] ⟨rfl, trivial, trivial, trivial⟩ rfl (by simp [SV.good, SV.goodL]) ?_
  intro E
  refine go Try.tbs_ok 1000 ?_
  refine ev_new fun b0 => ?_
  refine ev_new fun b1 => ?_
  refine ev_new fun b2 => ?_
  refine ev_call (T1 ) [0] [] (fun v0_ => [.box (p) 53 [.va (Value.int IntKind.i64 m), .va (Value.int IntKind.i64 s), .bl false, .va (Value.slice A n c), .va (Value.func (Fn.func 58) #[] #[Value.pointer (some { block := nb, off := 0 : Addr })]), .va (Value.slice B k d)]]) rfl rfl (by decide) rfl (by simp) (fun _ => rfl) (fun _ => (newsOk_box (by simp [SV.good, SV.goodL]) (newsOk_nil _))) (fun _ => (by repeat (first | exact trivial | refine ⟨rfl, ?_⟩))) (fun _ h3 => ?_)
  refine go Try.tbs_ok 1000 ?_
  refine ev_if_no rfl ?_
  refine go Try.tbs_ok 1000 ?_
  refine ev_call (T2 ) [0, 1] [] (fun v0_ => [.box (p) 53 [.va (Value.int IntKind.i64 m), .va (Value.int IntKind.i64 s), .bl false, .va (Value.slice A n c), .va (Value.func (Fn.func 58) #[] #[Value.pointer (some { block := nb, off := 0 : Addr })]), .va (Value.slice B k d)], .fact (Row 71 3 A n c (List.flatMap encF L))]) rfl rfl (by decide) rfl (by simp) (fun _ => rfl) (fun _ => (newsOk_box (by simp [SV.good, SV.goodL]) (newsOk_fact (newsOk_nil _)))) (fun _ => (by repeat (first | exact trivial | refine ⟨rfl, ?_⟩))) (fun _ h4 => ?_)
  refine go Try.tbs_ok 1000 ?_
  refine ev_new fun b5 => ?_
  refine ev_new fun b6 => ?_
  refine ev_callF (TO ) [] [] rfl rfl (by decide) rfl (by simp) (fun _ => (by repeat (first | exact trivial | refine ⟨rfl, ?_⟩))) (fun _ h7 => ?_)
  refine go Try.tbs_ok 1000 ?_
  refine ev_if_no rfl ?_
  refine go Try.tbs_ok 1000 ?_
  refine ev_if_no rfl ?_
  refine go Try.tbs_ok 1000 ?_
  refine ev_stop (go_draw Try.tbs_ok false [0, 4, 6] [(0,true),(1,true),(2,true),(3,true),(4,true),(5,true),(6,true),(7,false),(8,false),(9,false),(10,false)] rfl ?_)
  refine go Try.tbs_ok 1000 ?_
  refine ev_need ⟨⟨(by repeat (first | exact trivial | refine ⟨rfl, ?_⟩)), rfl⟩, by kernel_rfl⟩ ?_
  refine ev_call (TS ) [0, 1] [] (fun v0_ => [.box (p) 53 [.va (Value.int IntKind.i64 m), .va (Value.int IntKind.i64 s), .bl false, .va (Value.slice A n c), .va (Value.func (Fn.func 58) #[] #[Value.pointer (some { block := nb, off := 0 : Addr })]), .va (Value.slice B k d)], .fact (Row 71 3 A n c (List.flatMap encF L))]) rfl rfl (by decide) rfl (by simp) (fun _ => rfl) (fun _ => (newsOk_box (by simp [SV.good, SV.goodL]) (newsOk_fact (newsOk_nil _)))) (fun _ => (by repeat (first | exact trivial | refine ⟨rfl, ?_⟩))) (fun _ h8 => ?_)
  refine go Try.tbs_ok 1000 ?_
  refine ev_need ⟨⟨(by repeat (first | exact trivial | refine ⟨rfl, ?_⟩)), rfl⟩, by kernel_rfl⟩ ?_
  refine ev_w64 (by constructor <;> omega) ?_
  refine ev_need ⟨⟨(by repeat (first | exact trivial | refine ⟨rfl, ?_⟩)), rfl⟩, by kernel_rfl⟩ ?_
  refine ev_need ⟨⟨(by repeat (first | exact trivial | refine ⟨rfl, ?_⟩)), rfl⟩, by kernel_rfl⟩ ?_
  refine ev_need (by kernel_rfl) ?_
  refine ev_if_no (decide_eq_false (show ¬(↑y.size : Int) > m - (↑(sumD L) : Int) from (by omega))) ?_
  refine go Try.tbs_ok 1000 ?_
  refine ev_inline Try.tbs_ok Try.func61 rfl rfl ?_
  refine go Try.tbs_ok 1000 ?_
  refine ev_call (TF ) [2] [] (fun v0_ => [.box (nb) 3 [.va (Value.int IntKind.i64 (q - 1))]]) rfl rfl (by decide) rfl (by simp) (fun _ => rfl) (fun _ => (newsOk_box (by simp [SV.good, SV.goodL]) (newsOk_nil _))) (fun _ => (by repeat (first | exact trivial | refine ⟨rfl, ?_⟩))) (fun _ h9 => ?_)
  refine go Try.tbs_ok 1000 ?_
  refine ev_if_yes rfl ?_
  refine go Try.tbs_ok 1000 ?_
  refine ev_call (TD (b6) (b0) (b5) (b1) (b2)) [0, 1, 8, 4, 7, 5, 6] [] (fun v0_ => [.box (p) 53 [.va (Value.int IntKind.i64 m), .va (Value.int IntKind.i64 s), .bl false, .va (Value.slice A n c), .va (Value.func (Fn.func 58) #[] #[Value.pointer (some { block := nb, off := 0 : Addr })]), .va (Value.slice B k d)], .fact (Row 71 3 A n c (List.flatMap encF (L.set (posF L x) { n := L[posF L x].n, d := L[posF L x].d ++ y, s := L[posF L x].s : Fl }))), .box (b6) 4 [.bl true], .box (b0) 25 [.va (Value.pointer (some { block := p, off := 0 : Addr }))], .box (b5) 3 [.va (Value.int IntKind.i64 (↑(posF L x) : Int))], .box (b1) 9 [.va (Value.string x)], .box (b2) 9 [.va (Value.string y)]]) rfl rfl (by decide) rfl (by simp) (fun _ => rfl) (fun _ => (newsOk_box (by simp [SV.good, SV.goodL]) (newsOk_fact (newsOk_box (by simp [SV.good, SV.goodL]) (newsOk_box (by simp [SV.good, SV.goodL]) (newsOk_box (by simp [SV.good, SV.goodL]) (newsOk_box (by simp [SV.good, SV.goodL]) (newsOk_box (by simp [SV.good, SV.goodL]) (newsOk_nil _))))))))) (fun _ => (by repeat (first | exact trivial | refine ⟨rfl, ?_⟩))) (fun _ h10 => ?_)
  refine go Try.tbs_ok 1000 ?_
  refine ev_if_no rfl ?_
  refine go Try.tbs_ok 1000 ?_
  refine ev_fin ⟨trivial, (by repeat (first | exact trivial | refine ⟨rfl, ?_⟩)), _, rfl, ?_⟩
  refine go Try.tbs_ok 1000 ?_
  refine ev_fin ⟨trivial, _, rfl, (()), rfl, (by trivial), Frm.sel [0, 1, 2, 3] rfl (by decide)⟩
set_option maxRecDepth 100000 in
theorem appendTS (p : Nat) (m s : Int) (A : Option Addr) (n c : Nat) (B : Option Addr) (k d : Nat) (L : List Fl) (hn : n = L.length) (h1 : n ≤ 1000) (x y : ByteArray) (hh : hasF L x = true) (ho : oddS x = false) (hb : sumD L ≤ 1000000000) (hm2 : m ≤ 1048576) (hy : (y.size : Int) ≤ m - sumD L) (hi' : posF L x < L.length) (hz : (L[posF L x]'hi').d.size + y.size ≤ 1000000000) (hF2 : okF (L.set (posF L x) ⟨(L[posF L x]'hi').n, (L[posF L x]'hi').d ++ y, (L[posF L x]'hi').s⟩)) (hm : 0 < m) (hs : riseF L) (nb : Nat) (q : Int) (K : List Int) (hq : q = 0) (hk : k = K.length) : Triple Try.prog 34 [.pointer (some ⟨p, 0, none⟩), .string x, .string y] [Pt p 53 [.int .i64 m, .int .i64 s, .bool false, .slice A n c, .func (.func 58) #[] #[.pointer (some ⟨nb, 0, none⟩)], .slice B k d], Row 71 3 A n c (L.flatMap encF), Pt nb 3 [.int .i64 q], Row 3 1 B k d (K.flatMap encN)] [] (Unit) (fun _ => .int .i64 41) (fun _ => True) (fun _ => [Pt p 53 [.int .i64 m, .int .i64 s, .bool true, .slice A n c, .nilFunc, .slice B k d], Row 71 3 A n c ((crashF (L.set (posF L x) ⟨(L[posF L x]'hi').n, (L[posF L x]'hi').d ++ y, (L[posF L x]'hi').s⟩) K).flatMap encF), Pt nb 3 [.int .i64 (q - 1)], Row 3 1 B k d (K.flatMap encN)]) := by
  have T1 := askP p m s false A n c (.func (.func 58) #[] #[.pointer (some ⟨nb, 0, none⟩)]) B k d hm
  have T2 := findT p m s false A n c (.func (.func 58) #[] #[.pointer (some ⟨nb, 0, none⟩)]) B k d L x hn h1 hs
  rw [hh] at T2
  have TO := oddT x
  rw [ho] at TO
  have TS := sizeT p m s false A n c (.func (.func 58) #[] #[.pointer (some ⟨nb, 0, none⟩)]) B k d L hm hn h1 hb
  have hi : posF L x < L.length := (has_pos hs hh).1
  have TD := fun bk bd ba bx bs => appendDoT p m s false A n c (.func (.func 58) #[] #[.pointer (some ⟨nb, 0, none⟩)]) B k d L hn h1 bk bd ba bx bs (posF L x) x y hi hz
  have TC := (crashT p m s A (n) c (.func (.func 58) #[] #[.pointer (some ⟨nb, 0, none⟩)]) B k d (L.set (posF L x) ⟨(L[posF L x]'hi').n, (L[posF L x]'hi').d ++ y, (L[posF L x]'hi').s⟩) B k d K hm (by rw [List.length_set]; exact hn) h1 hk hF2).reads (N' := [Row 3 1 B k d (K.flatMap encN)]) (fun X hX => ⟨_, List.mem_cons_self, fun _ q => by rw [List.mem_singleton.1 hX]; exact Row.rd q⟩)
  have TF := failT nb q (by omega) (by omega)
  rw [decide_eq_true (show q - 1 < 0 by omega)] at TF
  refine triple_intro Try.tbs_ok Try.func34 rfl [.pt 0 p 0, .va (.string x), .va (.string y)] [.box p 53 [.va (.int .i64 m), .va (.int .i64 s), .va (.bool false), .va (.slice A n c), .va (.func (.func 58) #[] #[.pointer (some ⟨nb, 0, none⟩)]), .va (.slice B k d)], .fact (Row 71 3 A n c (L.flatMap encF)), .box nb 3 [.va (.int .i64 q)], .fact (Row 3 1 B k d (K.flatMap encN))] ⟨rfl, trivial, trivial, trivial⟩ rfl (by simp [SV.good, SV.goodL]) ?_
  intro E
  refine go Try.tbs_ok 1000 ?_
  refine ev_new fun b0 => ?_
  refine ev_new fun b1 => ?_
  refine ev_new fun b2 => ?_
  refine ev_call (T1 ) [0] [] (fun v0_ => [.box (p) 53 [.va (Value.int IntKind.i64 m), .va (Value.int IntKind.i64 s), .bl false, .va (Value.slice A n c), .va (Value.func (Fn.func 58) #[] #[Value.pointer (some { block := nb, off := 0 : Addr })]), .va (Value.slice B k d)]]) rfl rfl (by decide) rfl (by simp) (fun _ => rfl) (fun _ => (newsOk_box (by simp [SV.good, SV.goodL]) (newsOk_nil _))) (fun _ => (by repeat (first | exact trivial | refine ⟨rfl, ?_⟩))) (fun _ h3 => ?_)
  refine go Try.tbs_ok 1000 ?_
  refine ev_if_no rfl ?_
  refine go Try.tbs_ok 1000 ?_
  refine ev_call (T2 ) [0, 1] [] (fun v0_ => [.box (p) 53 [.va (Value.int IntKind.i64 m), .va (Value.int IntKind.i64 s), .bl false, .va (Value.slice A n c), .va (Value.func (Fn.func 58) #[] #[Value.pointer (some { block := nb, off := 0 : Addr })]), .va (Value.slice B k d)], .fact (Row 71 3 A n c (List.flatMap encF L))]) rfl rfl (by decide) rfl (by simp) (fun _ => rfl) (fun _ => (newsOk_box (by simp [SV.good, SV.goodL]) (newsOk_fact (newsOk_nil _)))) (fun _ => (by repeat (first | exact trivial | refine ⟨rfl, ?_⟩))) (fun _ h4 => ?_)
  refine go Try.tbs_ok 1000 ?_
  refine ev_new fun b5 => ?_
  refine ev_new fun b6 => ?_
  refine ev_callF (TO ) [] [] rfl rfl (by decide) rfl (by simp) (fun _ => (by repeat (first | exact trivial | refine ⟨rfl, ?_⟩))) (fun _ h7 => ?_)
  refine go Try.tbs_ok 1000 ?_
  refine ev_if_no rfl ?_
  refine go Try.tbs_ok 1000 ?_
  refine ev_if_no rfl ?_
  refine go Try.tbs_ok 1000 ?_
  refine ev_stop (go_draw Try.tbs_ok false [0, 4, 6] [(0,true),(1,true),(2,true),(3,true),(4,true),(5,true),(6,true),(7,false),(8,false),(9,false),(10,false)] rfl ?_)
  refine go Try.tbs_ok 1000 ?_
  refine ev_need ⟨⟨(by repeat (first | exact trivial | refine ⟨rfl, ?_⟩)), rfl⟩, by kernel_rfl⟩ ?_
  refine ev_call (TS ) [0, 1] [] (fun v0_ => [.box (p) 53 [.va (Value.int IntKind.i64 m), .va (Value.int IntKind.i64 s), .bl false, .va (Value.slice A n c), .va (Value.func (Fn.func 58) #[] #[Value.pointer (some { block := nb, off := 0 : Addr })]), .va (Value.slice B k d)], .fact (Row 71 3 A n c (List.flatMap encF L))]) rfl rfl (by decide) rfl (by simp) (fun _ => rfl) (fun _ => (newsOk_box (by simp [SV.good, SV.goodL]) (newsOk_fact (newsOk_nil _)))) (fun _ => (by repeat (first | exact trivial | refine ⟨rfl, ?_⟩))) (fun _ h8 => ?_)
  refine go Try.tbs_ok 1000 ?_
  refine ev_need ⟨⟨(by repeat (first | exact trivial | refine ⟨rfl, ?_⟩)), rfl⟩, by kernel_rfl⟩ ?_
  refine ev_w64 (by constructor <;> omega) ?_
  refine ev_need ⟨⟨(by repeat (first | exact trivial | refine ⟨rfl, ?_⟩)), rfl⟩, by kernel_rfl⟩ ?_
  refine ev_need ⟨⟨(by repeat (first | exact trivial | refine ⟨rfl, ?_⟩)), rfl⟩, by kernel_rfl⟩ ?_
  refine ev_need (by kernel_rfl) ?_
  refine ev_if_no (decide_eq_false (show ¬(↑y.size : Int) > m - (↑(sumD L) : Int) from (by omega))) ?_
  refine go Try.tbs_ok 1000 ?_
  refine ev_inline Try.tbs_ok Try.func61 rfl rfl ?_
  refine go Try.tbs_ok 1000 ?_
  refine ev_call (TF ) [2] [] (fun v0_ => [.box (nb) 3 [.va (Value.int IntKind.i64 (q - 1))]]) rfl rfl (by decide) rfl (by simp) (fun _ => rfl) (fun _ => (newsOk_box (by simp [SV.good, SV.goodL]) (newsOk_nil _))) (fun _ => (by repeat (first | exact trivial | refine ⟨rfl, ?_⟩))) (fun _ h9 => ?_)
  refine go Try.tbs_ok 1000 ?_
  refine ev_if_no rfl ?_
  refine go Try.tbs_ok 1000 ?_
  refine ev_call (TD (b6) (b0) (b5) (b1) (b2)) [0, 1, 8, 4, 7, 5, 6] [] (fun v0_ => [.box (p) 53 [.va (Value.int IntKind.i64 m), .va (Value.int IntKind.i64 s), .bl false, .va (Value.slice A n c), .va (Value.func (Fn.func 58) #[] #[Value.pointer (some { block := nb, off := 0 : Addr })]), .va (Value.slice B k d)], .fact (Row 71 3 A n c (List.flatMap encF (L.set (posF L x) { n := L[posF L x].n, d := L[posF L x].d ++ y, s := L[posF L x].s : Fl }))), .box (b6) 4 [.bl true], .box (b0) 25 [.va (Value.pointer (some { block := p, off := 0 : Addr }))], .box (b5) 3 [.va (Value.int IntKind.i64 (↑(posF L x) : Int))], .box (b1) 9 [.va (Value.string x)], .box (b2) 9 [.va (Value.string y)]]) rfl rfl (by decide) rfl (by simp) (fun _ => rfl) (fun _ => (newsOk_box (by simp [SV.good, SV.goodL]) (newsOk_fact (newsOk_box (by simp [SV.good, SV.goodL]) (newsOk_box (by simp [SV.good, SV.goodL]) (newsOk_box (by simp [SV.good, SV.goodL]) (newsOk_box (by simp [SV.good, SV.goodL]) (newsOk_box (by simp [SV.good, SV.goodL]) (newsOk_nil _))))))))) (fun _ => (by repeat (first | exact trivial | refine ⟨rfl, ?_⟩))) (fun _ h10 => ?_)
  refine go Try.tbs_ok 1000 ?_
  refine ev_if_yes rfl ?_
  refine go Try.tbs_ok 1000 ?_
  refine ev_call (TC ) [0, 1] [.inr 3] (fun v0_ => [.box (p) 53 [.va (Value.int IntKind.i64 m), .va (Value.int IntKind.i64 s), .bl true, .va (Value.slice A n c), .va (Value.nilFunc), .va (Value.slice B k d)], .fact (Row 71 3 A n c (List.flatMap encF (crashF (L.set (posF L x) { n := L[posF L x].n, d := L[posF L x].d ++ y, s := L[posF L x].s : Fl }) K)))]) rfl rfl (by decide) rfl (by simp) (fun _ => rfl) (fun _ => (newsOk_box (by simp [SV.good, SV.goodL]) (newsOk_fact (newsOk_nil _)))) (fun _ => (by repeat (first | exact trivial | refine ⟨rfl, ?_⟩))) (fun _ h11 => ?_)
  refine go Try.tbs_ok 1000 ?_
  refine ev_fin ⟨trivial, (by repeat (first | exact trivial | refine ⟨rfl, ?_⟩)), _, rfl, ?_⟩
  refine go Try.tbs_ok 1000 ?_
  refine ev_fin ⟨trivial, _, rfl, (()), rfl, (by trivial), Frm.sel [0, 1, 2, 3] rfl (by decide)⟩
set_option maxRecDepth 100000 in
theorem appendFN (p : Nat) (m s : Int) (A : Option Addr) (n c : Nat) (B : Option Addr) (k d : Nat) (L : List Fl) (hn : n = L.length) (h1 : n ≤ 1000) (x y : ByteArray) (hh : hasF L x = false) (ho : oddS x = false) (hb : sumD L ≤ 1000000000) (hm2 : m ≤ 1048576) (hy : (y.size : Int) ≤ m - sumD L) (hn16 : n ≠ 16) (_h999 : n ≤ 999) (_hF2 : okF (L.take (posF L x) ++ ⟨x, y, 0⟩ :: L.drop (posF L x))) (hm : 0 < m) (hs : riseF L) : Triple Try.prog 34 [.pointer (some ⟨p, 0, none⟩), .string x, .string y] [Pt p 53 [.int .i64 m, .int .i64 s, .bool false, .slice A n c, .nilFunc, .slice B k d], Row 71 3 A n c (L.flatMap encF)] [] (Option Addr × Nat) (fun _ => .int .i64 0) (fun _ => True) (fun (A2, c2) => [Pt p 53 [.int .i64 m, .int .i64 s, .bool false, .slice A2 (n + 1) c2, .nilFunc, .slice B k d], Row 71 3 A2 (n + 1) c2 ((L.take (posF L x) ++ ⟨x, y, 0⟩ :: L.drop (posF L x)).flatMap encF)]) := by
  have T1 := askP p m s false A n c (.nilFunc) B k d hm
  have T2 := findT p m s false A n c (.nilFunc) B k d L x hn h1 hs
  rw [hh] at T2
  have TO := oddT x
  rw [ho] at TO
  have TS := sizeT p m s false A n c (.nilFunc) B k d L hm hn h1 hb
  have hp := posF_le L x
  have TD := fun bk bd ba bx bs => appendDoF p m s false A n c (.nilFunc) B k d L hn h1 bk bd ba bx bs (posF L x) x y (by omega) (by omega)
  refine triple_intro Try.tbs_ok Try.func34 rfl [.pt 0 p 0, .va (.string x), .va (.string y)] [.box p 53 [.va (.int .i64 m), .va (.int .i64 s), .va (.bool false), .va (.slice A n c), .va (.nilFunc), .va (.slice B k d)], .fact (Row 71 3 A n c (L.flatMap encF))] ⟨rfl, trivial, trivial, trivial⟩ rfl (by simp [SV.good, SV.goodL]) ?_
  intro E
  refine go Try.tbs_ok 1000 ?_
  refine ev_new fun b0 => ?_
  refine ev_new fun b1 => ?_
  refine ev_new fun b2 => ?_
  refine ev_call (T1 ) [0] [] (fun v0_ => [.box (p) 53 [.va (Value.int IntKind.i64 m), .va (Value.int IntKind.i64 s), .bl false, .va (Value.slice A n c), .va (Value.nilFunc), .va (Value.slice B k d)]]) rfl rfl (by decide) rfl (by simp) (fun _ => rfl) (fun _ => (newsOk_box (by simp [SV.good, SV.goodL]) (newsOk_nil _))) (fun _ => (by repeat (first | exact trivial | refine ⟨rfl, ?_⟩))) (fun _ h3 => ?_)
  refine go Try.tbs_ok 1000 ?_
  refine ev_if_no rfl ?_
  refine go Try.tbs_ok 1000 ?_
  refine ev_call (T2 ) [0, 1] [] (fun v0_ => [.box (p) 53 [.va (Value.int IntKind.i64 m), .va (Value.int IntKind.i64 s), .bl false, .va (Value.slice A n c), .va (Value.nilFunc), .va (Value.slice B k d)], .fact (Row 71 3 A n c (List.flatMap encF L))]) rfl rfl (by decide) rfl (by simp) (fun _ => rfl) (fun _ => (newsOk_box (by simp [SV.good, SV.goodL]) (newsOk_fact (newsOk_nil _)))) (fun _ => (by repeat (first | exact trivial | refine ⟨rfl, ?_⟩))) (fun _ h4 => ?_)
  refine go Try.tbs_ok 1000 ?_
  refine ev_new fun b5 => ?_
  refine ev_new fun b6 => ?_
  refine ev_callF (TO ) [] [] rfl rfl (by decide) rfl (by simp) (fun _ => (by repeat (first | exact trivial | refine ⟨rfl, ?_⟩))) (fun _ h7 => ?_)
  refine go Try.tbs_ok 1000 ?_
  refine ev_if_no rfl ?_
  refine go Try.tbs_ok 1000 ?_
  refine ev_if_yes rfl ?_
  refine go Try.tbs_ok 1000 ?_
  refine ev_if_no (beq_eq_false_iff_ne.2 (show ¬(↑n : Int) = 16 from (by omega))) ?_
  refine go Try.tbs_ok 1000 ?_
  refine ev_stop (go_draw Try.tbs_ok false [0, 2, 4] [(0,true),(1,true),(2,true),(3,true),(4,true),(5,true),(6,true),(7,false),(8,false),(9,false),(10,false)] rfl ?_)
  refine go Try.tbs_ok 1000 ?_
  refine ev_need ⟨⟨(by repeat (first | exact trivial | refine ⟨rfl, ?_⟩)), rfl⟩, by kernel_rfl⟩ ?_
  refine ev_call (TS ) [0, 1] [] (fun v0_ => [.box (p) 53 [.va (Value.int IntKind.i64 m), .va (Value.int IntKind.i64 s), .bl false, .va (Value.slice A n c), .va (Value.nilFunc), .va (Value.slice B k d)], .fact (Row 71 3 A n c (List.flatMap encF L))]) rfl rfl (by decide) rfl (by simp) (fun _ => rfl) (fun _ => (newsOk_box (by simp [SV.good, SV.goodL]) (newsOk_fact (newsOk_nil _)))) (fun _ => (by repeat (first | exact trivial | refine ⟨rfl, ?_⟩))) (fun _ h8 => ?_)
  refine go Try.tbs_ok 1000 ?_
  refine ev_need ⟨⟨(by repeat (first | exact trivial | refine ⟨rfl, ?_⟩)), rfl⟩, by kernel_rfl⟩ ?_
  refine ev_w64 (by constructor <;> omega) ?_
  refine ev_need ⟨⟨(by repeat (first | exact trivial | refine ⟨rfl, ?_⟩)), rfl⟩, by kernel_rfl⟩ ?_
  refine ev_need ⟨⟨(by repeat (first | exact trivial | refine ⟨rfl, ?_⟩)), rfl⟩, by kernel_rfl⟩ ?_
  refine ev_need (by kernel_rfl) ?_
  refine ev_if_no (decide_eq_false (show ¬(↑y.size : Int) > m - (↑(sumD L) : Int) from (by omega))) ?_
  refine go Try.tbs_ok 1000 ?_
  refine ev_inline Try.tbs_ok Try.func61 rfl rfl ?_
  refine go Try.tbs_ok 1000 ?_
  refine ev_call (TD (b6) (b0) (b5) (b1) (b2)) [0, 1, 6, 2, 5, 3, 4] [] (fun (v0_, v1_) => [.box (p) 53 [.va (Value.int IntKind.i64 m), .va (Value.int IntKind.i64 s), .bl false, .va (Value.slice v0_ (n + 1) v1_), .va (Value.nilFunc), .va (Value.slice B k d)], .fact (Row 71 3 v0_ (n + 1) v1_ (List.flatMap encF (List.take (posF L x) L ++ { n := x, d := y, s := 0 : Fl } :: List.drop (posF L x) L))), .box (b6) 4 [.bl false], .box (b0) 25 [.va (Value.pointer (some { block := p, off := 0 : Addr }))], .box (b5) 3 [.va (Value.int IntKind.i64 (↑(posF L x) : Int))], .box (b1) 9 [.va (Value.string x)], .box (b2) 9 [.va (Value.string y)]]) rfl rfl (by decide) rfl (by simp) (fun _ => rfl) (fun _ => (newsOk_box (by simp [SV.good, SV.goodL]) (newsOk_fact (newsOk_box (by simp [SV.good, SV.goodL]) (newsOk_box (by simp [SV.good, SV.goodL]) (newsOk_box (by simp [SV.good, SV.goodL]) (newsOk_box (by simp [SV.good, SV.goodL]) (newsOk_box (by simp [SV.good, SV.goodL]) (newsOk_nil _))))))))) (fun _ => (by repeat (first | exact trivial | refine ⟨rfl, ?_⟩))) (fun ⟨x9, x10⟩ h11 => ?_)
  refine go Try.tbs_ok 1000 ?_
  refine ev_fin ⟨trivial, (by repeat (first | exact trivial | refine ⟨rfl, ?_⟩)), _, rfl, ?_⟩
  refine go Try.tbs_ok 1000 ?_
  refine ev_fin ⟨trivial, _, rfl, ((x9, x10)), rfl, (by trivial), Frm.sel [0, 1] rfl (by decide)⟩
set_option maxRecDepth 100000 in
theorem appendFG (p : Nat) (m s : Int) (A : Option Addr) (n c : Nat) (B : Option Addr) (k d : Nat) (L : List Fl) (hn : n = L.length) (h1 : n ≤ 1000) (x y : ByteArray) (hh : hasF L x = false) (ho : oddS x = false) (hb : sumD L ≤ 1000000000) (hm2 : m ≤ 1048576) (hy : (y.size : Int) ≤ m - sumD L) (hn16 : n ≠ 16) (_h999 : n ≤ 999) (_hF2 : okF (L.take (posF L x) ++ ⟨x, y, 0⟩ :: L.drop (posF L x))) (hm : 0 < m) (hs : riseF L) (nb : Nat) (q : Int) (K : List Int) (hq : 0 < q) (hq2 : q ≤ 9223372036854775807) : Triple Try.prog 34 [.pointer (some ⟨p, 0, none⟩), .string x, .string y] [Pt p 53 [.int .i64 m, .int .i64 s, .bool false, .slice A n c, .func (.func 58) #[] #[.pointer (some ⟨nb, 0, none⟩)], .slice B k d], Row 71 3 A n c (L.flatMap encF), Pt nb 3 [.int .i64 q], Row 3 1 B k d (K.flatMap encN)] [] (Option Addr × Nat) (fun _ => .int .i64 0) (fun _ => True) (fun (A2, c2) => [Pt p 53 [.int .i64 m, .int .i64 s, .bool false, .slice A2 (n + 1) c2, .func (.func 58) #[] #[.pointer (some ⟨nb, 0, none⟩)], .slice B k d], Row 71 3 A2 (n + 1) c2 ((L.take (posF L x) ++ ⟨x, y, 0⟩ :: L.drop (posF L x)).flatMap encF), Pt nb 3 [.int .i64 (q - 1)], Row 3 1 B k d (K.flatMap encN)]) := by
  have T1 := askP p m s false A n c (.func (.func 58) #[] #[.pointer (some ⟨nb, 0, none⟩)]) B k d hm
  have T2 := findT p m s false A n c (.func (.func 58) #[] #[.pointer (some ⟨nb, 0, none⟩)]) B k d L x hn h1 hs
  rw [hh] at T2
  have TO := oddT x
  rw [ho] at TO
  have TS := sizeT p m s false A n c (.func (.func 58) #[] #[.pointer (some ⟨nb, 0, none⟩)]) B k d L hm hn h1 hb
  have hp := posF_le L x
  have TD := fun bk bd ba bx bs => appendDoF p m s false A n c (.func (.func 58) #[] #[.pointer (some ⟨nb, 0, none⟩)]) B k d L hn h1 bk bd ba bx bs (posF L x) x y (by omega) (by omega)
  have TF := failT nb q (by omega) (by omega)
  rw [decide_eq_false (show ¬ q - 1 < 0 by omega)] at TF
  refine triple_intro Try.tbs_ok Try.func34 rfl [.pt 0 p 0, .va (.string x), .va (.string y)] [.box p 53 [.va (.int .i64 m), .va (.int .i64 s), .va (.bool false), .va (.slice A n c), .va (.func (.func 58) #[] #[.pointer (some ⟨nb, 0, none⟩)]), .va (.slice B k d)], .fact (Row 71 3 A n c (L.flatMap encF)), .box nb 3 [.va (.int .i64 q)], .fact (Row 3 1 B k d (K.flatMap encN))] ⟨rfl, trivial, trivial, trivial⟩ rfl (by simp [SV.good, SV.goodL]) ?_
  intro E
  refine go Try.tbs_ok 1000 ?_
  refine ev_new fun b0 => ?_
  refine ev_new fun b1 => ?_
  refine ev_new fun b2 => ?_
  refine ev_call (T1 ) [0] [] (fun v0_ => [.box (p) 53 [.va (Value.int IntKind.i64 m), .va (Value.int IntKind.i64 s), .bl false, .va (Value.slice A n c), .va (Value.func (Fn.func 58) #[] #[Value.pointer (some { block := nb, off := 0 : Addr })]), .va (Value.slice B k d)]]) rfl rfl (by decide) rfl (by simp) (fun _ => rfl) (fun _ => (newsOk_box (by simp [SV.good, SV.goodL]) (newsOk_nil _))) (fun _ => (by repeat (first | exact trivial | refine ⟨rfl, ?_⟩))) (fun _ h3 => ?_)
  refine go Try.tbs_ok 1000 ?_
  refine ev_if_no rfl ?_
  refine go Try.tbs_ok 1000 ?_
  refine ev_call (T2 ) [0, 1] [] (fun v0_ => [.box (p) 53 [.va (Value.int IntKind.i64 m), .va (Value.int IntKind.i64 s), .bl false, .va (Value.slice A n c), .va (Value.func (Fn.func 58) #[] #[Value.pointer (some { block := nb, off := 0 : Addr })]), .va (Value.slice B k d)], .fact (Row 71 3 A n c (List.flatMap encF L))]) rfl rfl (by decide) rfl (by simp) (fun _ => rfl) (fun _ => (newsOk_box (by simp [SV.good, SV.goodL]) (newsOk_fact (newsOk_nil _)))) (fun _ => (by repeat (first | exact trivial | refine ⟨rfl, ?_⟩))) (fun _ h4 => ?_)
  refine go Try.tbs_ok 1000 ?_
  refine ev_new fun b5 => ?_
  refine ev_new fun b6 => ?_
  refine ev_callF (TO ) [] [] rfl rfl (by decide) rfl (by simp) (fun _ => (by repeat (first | exact trivial | refine ⟨rfl, ?_⟩))) (fun _ h7 => ?_)
  refine go Try.tbs_ok 1000 ?_
  refine ev_if_no rfl ?_
  refine go Try.tbs_ok 1000 ?_
  refine ev_if_yes rfl ?_
  refine go Try.tbs_ok 1000 ?_
  refine ev_if_no (beq_eq_false_iff_ne.2 (show ¬(↑n : Int) = 16 from (by omega))) ?_
  refine go Try.tbs_ok 1000 ?_
  refine ev_stop (go_draw Try.tbs_ok false [0, 4, 6] [(0,true),(1,true),(2,true),(3,true),(4,true),(5,true),(6,true),(7,false),(8,false),(9,false),(10,false)] rfl ?_)
  refine go Try.tbs_ok 1000 ?_
  refine ev_need ⟨⟨(by repeat (first | exact trivial | refine ⟨rfl, ?_⟩)), rfl⟩, by kernel_rfl⟩ ?_
  refine ev_call (TS ) [0, 1] [] (fun v0_ => [.box (p) 53 [.va (Value.int IntKind.i64 m), .va (Value.int IntKind.i64 s), .bl false, .va (Value.slice A n c), .va (Value.func (Fn.func 58) #[] #[Value.pointer (some { block := nb, off := 0 : Addr })]), .va (Value.slice B k d)], .fact (Row 71 3 A n c (List.flatMap encF L))]) rfl rfl (by decide) rfl (by simp) (fun _ => rfl) (fun _ => (newsOk_box (by simp [SV.good, SV.goodL]) (newsOk_fact (newsOk_nil _)))) (fun _ => (by repeat (first | exact trivial | refine ⟨rfl, ?_⟩))) (fun _ h8 => ?_)
  refine go Try.tbs_ok 1000 ?_
  refine ev_need ⟨⟨(by repeat (first | exact trivial | refine ⟨rfl, ?_⟩)), rfl⟩, by kernel_rfl⟩ ?_
  refine ev_w64 (by constructor <;> omega) ?_
  refine ev_need ⟨⟨(by repeat (first | exact trivial | refine ⟨rfl, ?_⟩)), rfl⟩, by kernel_rfl⟩ ?_
  refine ev_need ⟨⟨(by repeat (first | exact trivial | refine ⟨rfl, ?_⟩)), rfl⟩, by kernel_rfl⟩ ?_
  refine ev_need (by kernel_rfl) ?_
  refine ev_if_no (decide_eq_false (show ¬(↑y.size : Int) > m - (↑(sumD L) : Int) from (by omega))) ?_
  refine go Try.tbs_ok 1000 ?_
  refine ev_inline Try.tbs_ok Try.func61 rfl rfl ?_
  refine go Try.tbs_ok 1000 ?_
  refine ev_call (TF ) [2] [] (fun v0_ => [.box (nb) 3 [.va (Value.int IntKind.i64 (q - 1))]]) rfl rfl (by decide) rfl (by simp) (fun _ => rfl) (fun _ => (newsOk_box (by simp [SV.good, SV.goodL]) (newsOk_nil _))) (fun _ => (by repeat (first | exact trivial | refine ⟨rfl, ?_⟩))) (fun _ h9 => ?_)
  refine go Try.tbs_ok 1000 ?_
  refine ev_if_yes rfl ?_
  refine go Try.tbs_ok 1000 ?_
  refine ev_call (TD (b6) (b0) (b5) (b1) (b2)) [0, 1, 8, 4, 7, 5, 6] [] (fun (v0_, v1_) => [.box (p) 53 [.va (Value.int IntKind.i64 m), .va (Value.int IntKind.i64 s), .bl false, .va (Value.slice v0_ (n + 1) v1_), .va (Value.func (Fn.func 58) #[] #[Value.pointer (some { block := nb, off := 0 : Addr })]), .va (Value.slice B k d)], .fact (Row 71 3 v0_ (n + 1) v1_ (List.flatMap encF (List.take (posF L x) L ++ { n := x, d := y, s := 0 : Fl } :: List.drop (posF L x) L))), .box (b6) 4 [.bl false], .box (b0) 25 [.va (Value.pointer (some { block := p, off := 0 : Addr }))], .box (b5) 3 [.va (Value.int IntKind.i64 (↑(posF L x) : Int))], .box (b1) 9 [.va (Value.string x)], .box (b2) 9 [.va (Value.string y)]]) rfl rfl (by decide) rfl (by simp) (fun _ => rfl) (fun _ => (newsOk_box (by simp [SV.good, SV.goodL]) (newsOk_fact (newsOk_box (by simp [SV.good, SV.goodL]) (newsOk_box (by simp [SV.good, SV.goodL]) (newsOk_box (by simp [SV.good, SV.goodL]) (newsOk_box (by simp [SV.good, SV.goodL]) (newsOk_box (by simp [SV.good, SV.goodL]) (newsOk_nil _))))))))) (fun _ => (by repeat (first | exact trivial | refine ⟨rfl, ?_⟩))) (fun ⟨x10, x11⟩ h12 => ?_)
  refine go Try.tbs_ok 1000 ?_
  refine ev_if_no rfl ?_
  refine go Try.tbs_ok 1000 ?_
  refine ev_fin ⟨trivial, (by repeat (first | exact trivial | refine ⟨rfl, ?_⟩)), _, rfl, ?_⟩
  refine go Try.tbs_ok 1000 ?_
  refine ev_fin ⟨trivial, _, rfl, ((x10, x11)), rfl, (by trivial), Frm.sel [0, 1, 2, 3] rfl (by decide)⟩
set_option maxRecDepth 100000 in
theorem appendFS (p : Nat) (m s : Int) (A : Option Addr) (n c : Nat) (B : Option Addr) (k d : Nat) (L : List Fl) (hn : n = L.length) (h1 : n ≤ 1000) (x y : ByteArray) (hh : hasF L x = false) (ho : oddS x = false) (hb : sumD L ≤ 1000000000) (hm2 : m ≤ 1048576) (hy : (y.size : Int) ≤ m - sumD L) (hn16 : n ≠ 16) (h999 : n ≤ 999) (hF2 : okF (L.take (posF L x) ++ ⟨x, y, 0⟩ :: L.drop (posF L x))) (hm : 0 < m) (hs : riseF L) (nb : Nat) (q : Int) (K : List Int) (hq : q = 0) (hk : k = K.length) : Triple Try.prog 34 [.pointer (some ⟨p, 0, none⟩), .string x, .string y] [Pt p 53 [.int .i64 m, .int .i64 s, .bool false, .slice A n c, .func (.func 58) #[] #[.pointer (some ⟨nb, 0, none⟩)], .slice B k d], Row 71 3 A n c (L.flatMap encF), Pt nb 3 [.int .i64 q], Row 3 1 B k d (K.flatMap encN)] [] (Option Addr × Nat) (fun _ => .int .i64 41) (fun _ => True) (fun (A2, c2) => [Pt p 53 [.int .i64 m, .int .i64 s, .bool true, .slice A2 (n + 1) c2, .nilFunc, .slice B k d], Row 71 3 A2 (n + 1) c2 ((crashF (L.take (posF L x) ++ ⟨x, y, 0⟩ :: L.drop (posF L x)) K).flatMap encF), Pt nb 3 [.int .i64 (q - 1)], Row 3 1 B k d (K.flatMap encN)]) := by
  have T1 := askP p m s false A n c (.func (.func 58) #[] #[.pointer (some ⟨nb, 0, none⟩)]) B k d hm
  have T2 := findT p m s false A n c (.func (.func 58) #[] #[.pointer (some ⟨nb, 0, none⟩)]) B k d L x hn h1 hs
  rw [hh] at T2
  have TO := oddT x
  rw [ho] at TO
  have TS := sizeT p m s false A n c (.func (.func 58) #[] #[.pointer (some ⟨nb, 0, none⟩)]) B k d L hm hn h1 hb
  have hp := posF_le L x
  have TD := fun bk bd ba bx bs => appendDoF p m s false A n c (.func (.func 58) #[] #[.pointer (some ⟨nb, 0, none⟩)]) B k d L hn h1 bk bd ba bx bs (posF L x) x y (by omega) (by omega)
  have TC := fun A2 c2 => (crashT p m s A2 (n + 1) c2 (.func (.func 58) #[] #[.pointer (some ⟨nb, 0, none⟩)]) B k d (L.take (posF L x) ++ ⟨x, y, 0⟩ :: L.drop (posF L x)) B k d K hm (by rw [List.length_append, List.length_take, List.length_cons, List.length_drop]; omega) (by omega) hk hF2).reads (N' := [Row 3 1 B k d (K.flatMap encN)]) (fun X hX => ⟨_, List.mem_cons_self, fun _ q => by rw [List.mem_singleton.1 hX]; exact Row.rd q⟩)
  have TF := failT nb q (by omega) (by omega)
  rw [decide_eq_true (show q - 1 < 0 by omega)] at TF
  refine triple_intro Try.tbs_ok Try.func34 rfl [.pt 0 p 0, .va (.string x), .va (.string y)] [.box p 53 [.va (.int .i64 m), .va (.int .i64 s), .va (.bool false), .va (.slice A n c), .va (.func (.func 58) #[] #[.pointer (some ⟨nb, 0, none⟩)]), .va (.slice B k d)], .fact (Row 71 3 A n c (L.flatMap encF)), .box nb 3 [.va (.int .i64 q)], .fact (Row 3 1 B k d (K.flatMap encN))] ⟨rfl, trivial, trivial, trivial⟩ rfl (by simp [SV.good, SV.goodL]) ?_
  intro E
  refine go Try.tbs_ok 1000 ?_
  refine ev_new fun b0 => ?_
  refine ev_new fun b1 => ?_
  refine ev_new fun b2 => ?_
  refine ev_call (T1 ) [0] [] (fun v0_ => [.box (p) 53 [.va (Value.int IntKind.i64 m), .va (Value.int IntKind.i64 s), .bl false, .va (Value.slice A n c), .va (Value.func (Fn.func 58) #[] #[Value.pointer (some { block := nb, off := 0 : Addr })]), .va (Value.slice B k d)]]) rfl rfl (by decide) rfl (by simp) (fun _ => rfl) (fun _ => (newsOk_box (by simp [SV.good, SV.goodL]) (newsOk_nil _))) (fun _ => (by repeat (first | exact trivial | refine ⟨rfl, ?_⟩))) (fun _ h3 => ?_)
  refine go Try.tbs_ok 1000 ?_
  refine ev_if_no rfl ?_
  refine go Try.tbs_ok 1000 ?_
  refine ev_call (T2 ) [0, 1] [] (fun v0_ => [.box (p) 53 [.va (Value.int IntKind.i64 m), .va (Value.int IntKind.i64 s), .bl false, .va (Value.slice A n c), .va (Value.func (Fn.func 58) #[] #[Value.pointer (some { block := nb, off := 0 : Addr })]), .va (Value.slice B k d)], .fact (Row 71 3 A n c (List.flatMap encF L))]) rfl rfl (by decide) rfl (by simp) (fun _ => rfl) (fun _ => (newsOk_box (by simp [SV.good, SV.goodL]) (newsOk_fact (newsOk_nil _)))) (fun _ => (by repeat (first | exact trivial | refine ⟨rfl, ?_⟩))) (fun _ h4 => ?_)
  refine go Try.tbs_ok 1000 ?_
  refine ev_new fun b5 => ?_
  refine ev_new fun b6 => ?_
  refine ev_callF (TO ) [] [] rfl rfl (by decide) rfl (by simp) (fun _ => (by repeat (first | exact trivial | refine ⟨rfl, ?_⟩))) (fun _ h7 => ?_)
  refine go Try.tbs_ok 1000 ?_
  refine ev_if_no rfl ?_
  refine go Try.tbs_ok 1000 ?_
  refine ev_if_yes rfl ?_
  refine go Try.tbs_ok 1000 ?_
  refine ev_if_no (beq_eq_false_iff_ne.2 (show ¬(↑n : Int) = 16 from (by omega))) ?_
  refine go Try.tbs_ok 1000 ?_
  refine ev_stop (go_draw Try.tbs_ok false [0, 4, 6] [(0,true),(1,true),(2,true),(3,true),(4,true),(5,true),(6,true),(7,false),(8,false),(9,false),(10,false)] rfl ?_)
  refine go Try.tbs_ok 1000 ?_
  refine ev_need ⟨⟨(by repeat (first | exact trivial | refine ⟨rfl, ?_⟩)), rfl⟩, by kernel_rfl⟩ ?_
  refine ev_call (TS ) [0, 1] [] (fun v0_ => [.box (p) 53 [.va (Value.int IntKind.i64 m), .va (Value.int IntKind.i64 s), .bl false, .va (Value.slice A n c), .va (Value.func (Fn.func 58) #[] #[Value.pointer (some { block := nb, off := 0 : Addr })]), .va (Value.slice B k d)], .fact (Row 71 3 A n c (List.flatMap encF L))]) rfl rfl (by decide) rfl (by simp) (fun _ => rfl) (fun _ => (newsOk_box (by simp [SV.good, SV.goodL]) (newsOk_fact (newsOk_nil _)))) (fun _ => (by repeat (first | exact trivial | refine ⟨rfl, ?_⟩))) (fun _ h8 => ?_)
  refine go Try.tbs_ok 1000 ?_
  refine ev_need ⟨⟨(by repeat (first | exact trivial | refine ⟨rfl, ?_⟩)), rfl⟩, by kernel_rfl⟩ ?_
  refine ev_w64 (by constructor <;> omega) ?_
  refine ev_need ⟨⟨(by repeat (first | exact trivial | refine ⟨rfl, ?_⟩)), rfl⟩, by kernel_rfl⟩ ?_
  refine ev_need ⟨⟨(by repeat (first | exact trivial | refine ⟨rfl, ?_⟩)), rfl⟩, by kernel_rfl⟩ ?_
  refine ev_need (by kernel_rfl) ?_
  refine ev_if_no (decide_eq_false (show ¬(↑y.size : Int) > m - (↑(sumD L) : Int) from (by omega))) ?_
  refine go Try.tbs_ok 1000 ?_
  refine ev_inline Try.tbs_ok Try.func61 rfl rfl ?_
  refine go Try.tbs_ok 1000 ?_
  refine ev_call (TF ) [2] [] (fun v0_ => [.box (nb) 3 [.va (Value.int IntKind.i64 (q - 1))]]) rfl rfl (by decide) rfl (by simp) (fun _ => rfl) (fun _ => (newsOk_box (by simp [SV.good, SV.goodL]) (newsOk_nil _))) (fun _ => (by repeat (first | exact trivial | refine ⟨rfl, ?_⟩))) (fun _ h9 => ?_)
  refine go Try.tbs_ok 1000 ?_
  refine ev_if_no rfl ?_
  refine go Try.tbs_ok 1000 ?_
  refine ev_call (TD (b6) (b0) (b5) (b1) (b2)) [0, 1, 8, 4, 7, 5, 6] [] (fun (v0_, v1_) => [.box (p) 53 [.va (Value.int IntKind.i64 m), .va (Value.int IntKind.i64 s), .bl false, .va (Value.slice v0_ (n + 1) v1_), .va (Value.func (Fn.func 58) #[] #[Value.pointer (some { block := nb, off := 0 : Addr })]), .va (Value.slice B k d)], .fact (Row 71 3 v0_ (n + 1) v1_ (List.flatMap encF (List.take (posF L x) L ++ { n := x, d := y, s := 0 : Fl } :: List.drop (posF L x) L))), .box (b6) 4 [.bl false], .box (b0) 25 [.va (Value.pointer (some { block := p, off := 0 : Addr }))], .box (b5) 3 [.va (Value.int IntKind.i64 (↑(posF L x) : Int))], .box (b1) 9 [.va (Value.string x)], .box (b2) 9 [.va (Value.string y)]]) rfl rfl (by decide) rfl (by simp) (fun _ => rfl) (fun _ => (newsOk_box (by simp [SV.good, SV.goodL]) (newsOk_fact (newsOk_box (by simp [SV.good, SV.goodL]) (newsOk_box (by simp [SV.good, SV.goodL]) (newsOk_box (by simp [SV.good, SV.goodL]) (newsOk_box (by simp [SV.good, SV.goodL]) (newsOk_box (by simp [SV.good, SV.goodL]) (newsOk_nil _))))))))) (fun _ => (by repeat (first | exact trivial | refine ⟨rfl, ?_⟩))) (fun ⟨x10, x11⟩ h12 => ?_)
  refine go Try.tbs_ok 1000 ?_
  refine ev_if_yes rfl ?_
  refine go Try.tbs_ok 1000 ?_
  refine ev_call (TC (x10) (x11)) [0, 1] [.inr 3] (fun v0_ => [.box (p) 53 [.va (Value.int IntKind.i64 m), .va (Value.int IntKind.i64 s), .bl true, .va (Value.slice x10 (n + 1) x11), .va (Value.nilFunc), .va (Value.slice B k d)], .fact (Row 71 3 x10 (n + 1) x11 (List.flatMap encF (crashF (List.take (posF L x) L ++ { n := x, d := y, s := 0 : Fl } :: List.drop (posF L x) L) K)))]) rfl rfl (by decide) rfl (by simp) (fun _ => rfl) (fun _ => (newsOk_box (by simp [SV.good, SV.goodL]) (newsOk_fact (newsOk_nil _)))) (fun _ => (by repeat (first | exact trivial | refine ⟨rfl, ?_⟩))) (fun _ h13 => ?_)
  refine go Try.tbs_ok 1000 ?_
  refine ev_fin ⟨trivial, (by repeat (first | exact trivial | refine ⟨rfl, ?_⟩)), _, rfl, ?_⟩
  refine go Try.tbs_ok 1000 ?_
  refine ev_fin ⟨trivial, _, rfl, ((x10, x11)), rfl, (by trivial), Frm.sel [0, 1, 2, 3] rfl (by decide)⟩
end Go.Proofs.Ythknokcgclcbmaa
