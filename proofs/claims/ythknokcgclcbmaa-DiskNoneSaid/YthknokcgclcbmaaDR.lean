/-
  What is proved: a disk that is none: DiskNone's walk. Conditions: none.
-/
import Derived.Test.YthknokcgclcbmaaDP
namespace Go.Proofs.Ythknokcgclcbmaa
open Go.Sy

/-- a disk that New did not make -/
def NoD (p : Nat) : Asn := Pt p 53 [.int .i64 0, .int .i64 0, .bool false, .slice none 0 0, .nilFunc, .slice none 0 0]
set_option maxRecDepth 100000 in
theorem noApp0 (x y : ByteArray) : Triple Try.prog 34 [.pointer none, .string x, .string y] [] [] Unit (fun _ => .int .i64 1) (fun _ => True) (fun _ => []) := by
  refine triple_intro Try.tbs_ok Try.func34 rfl [.va (.pointer none), .va (.string x), .va (.string y)] [] ⟨trivial, trivial, trivial, trivial⟩ rfl (by simp) ?_
  intro E
  refine go Try.tbs_ok 1000 ?_
  refine ev_new fun b0 => ?_
  refine ev_new fun b1 => ?_
  refine ev_new fun b2 => ?_
  refine ev_callF (ask0 ) [] [] rfl rfl (by decide) rfl (by simp) (fun _ => (by repeat (first | exact trivial | refine ⟨rfl, ?_⟩))) (fun _ h3 => ?_)
  refine go Try.tbs_ok 1000 ?_
  refine ev_if_yes rfl ?_
  refine go Try.tbs_ok 1000 ?_
  refine ev_fin ⟨trivial, _, rfl, (()), rfl, (by trivial), Frm.nil _⟩
set_option maxRecDepth 100000 in
theorem noSync0 (x : ByteArray) : Triple Try.prog 40 [.pointer none, .string x] [] [] Unit (fun _ => .int .i64 1) (fun _ => True) (fun _ => []) := by
  refine triple_intro Try.tbs_ok Try.func40 rfl [.va (.pointer none), .va (.string x)] [] ⟨trivial, trivial, trivial⟩ rfl (by simp) ?_
  intro E
  refine go Try.tbs_ok 1000 ?_
  refine ev_new fun b0 => ?_
  refine ev_inline Try.tbs_ok Try.func52 rfl rfl ?_
  refine go Try.tbs_ok 1000 ?_
  refine ev_callF (ask0 ) [] [] rfl rfl (by decide) rfl (by simp) (fun _ => (by repeat (first | exact trivial | refine ⟨rfl, ?_⟩))) (fun _ h1 => ?_)
  refine go Try.tbs_ok 1000 ?_
  refine ev_if_yes rfl ?_
  refine go Try.tbs_ok 1000 ?_
  refine ev_fin ⟨trivial, (by repeat (first | exact trivial | refine ⟨rfl, ?_⟩)), _, rfl, ?_⟩
  refine go Try.tbs_ok 1000 ?_
  refine ev_fin ⟨trivial, _, rfl, (()), rfl, (by trivial), Frm.nil _⟩
set_option maxRecDepth 100000 in
theorem noTrunc0 (x : ByteArray) (z : Int) : Triple Try.prog 41 [.pointer none, .string x, .int .i64 z] [] [] Unit (fun _ => .int .i64 1) (fun _ => True) (fun _ => []) := by
  refine triple_intro Try.tbs_ok Try.func41 rfl [.va (.pointer none), .va (.string x), .va (.int .i64 z)] [] ⟨trivial, trivial, trivial, trivial⟩ rfl (by simp) ?_
  intro E
  refine go Try.tbs_ok 1000 ?_
  refine ev_new fun b0 => ?_
  refine ev_new fun b1 => ?_
  refine ev_inline Try.tbs_ok Try.func52 rfl rfl ?_
  refine go Try.tbs_ok 1000 ?_
  refine ev_callF (ask0 ) [] [] rfl rfl (by decide) rfl (by simp) (fun _ => (by repeat (first | exact trivial | refine ⟨rfl, ?_⟩))) (fun _ h2 => ?_)
  refine go Try.tbs_ok 1000 ?_
  refine ev_if_yes rfl ?_
  refine go Try.tbs_ok 1000 ?_
  refine ev_fin ⟨trivial, (by repeat (first | exact trivial | refine ⟨rfl, ?_⟩)), _, rfl, ?_⟩
  refine go Try.tbs_ok 1000 ?_
  refine ev_fin ⟨trivial, _, rfl, (()), rfl, (by trivial), Frm.nil _⟩
set_option maxRecDepth 100000 in
theorem noRen0 (x y : ByteArray) : Triple Try.prog 35 [.pointer none, .string x, .string y] [] [] Unit (fun _ => .int .i64 1) (fun _ => True) (fun _ => []) := by
  refine triple_intro Try.tbs_ok Try.func35 rfl [.va (.pointer none), .va (.string x), .va (.string y)] [] ⟨trivial, trivial, trivial, trivial⟩ rfl (by simp) ?_
  intro E
  refine go Try.tbs_ok 1000 ?_
  refine ev_new fun b0 => ?_
  refine ev_new fun b1 => ?_
  refine ev_inline Try.tbs_ok Try.func52 rfl rfl ?_
  refine go Try.tbs_ok 1000 ?_
  refine ev_callF (ask0 ) [] [] rfl rfl (by decide) rfl (by simp) (fun _ => (by repeat (first | exact trivial | refine ⟨rfl, ?_⟩))) (fun _ h2 => ?_)
  refine go Try.tbs_ok 1000 ?_
  refine ev_if_yes rfl ?_
  refine go Try.tbs_ok 1000 ?_
  refine ev_fin ⟨trivial, (by repeat (first | exact trivial | refine ⟨rfl, ?_⟩)), _, rfl, ?_⟩
  refine go Try.tbs_ok 1000 ?_
  refine ev_fin ⟨trivial, _, rfl, (()), rfl, (by trivial), Frm.nil _⟩
set_option maxRecDepth 100000 in
theorem noRem0 (x : ByteArray) : Triple Try.prog 42 [.pointer none, .string x] [] [] Unit (fun _ => .int .i64 1) (fun _ => True) (fun _ => []) := by
  refine triple_intro Try.tbs_ok Try.func42 rfl [.va (.pointer none), .va (.string x)] [] ⟨trivial, trivial, trivial⟩ rfl (by simp) ?_
  intro E
  refine go Try.tbs_ok 1000 ?_
  refine ev_new fun b0 => ?_
  refine ev_inline Try.tbs_ok Try.func52 rfl rfl ?_
  refine go Try.tbs_ok 1000 ?_
  refine ev_callF (ask0 ) [] [] rfl rfl (by decide) rfl (by simp) (fun _ => (by repeat (first | exact trivial | refine ⟨rfl, ?_⟩))) (fun _ h1 => ?_)
  refine go Try.tbs_ok 1000 ?_
  refine ev_if_yes rfl ?_
  refine go Try.tbs_ok 1000 ?_
  refine ev_fin ⟨trivial, (by repeat (first | exact trivial | refine ⟨rfl, ?_⟩)), _, rfl, ?_⟩
  refine go Try.tbs_ok 1000 ?_
  refine ev_fin ⟨trivial, _, rfl, (()), rfl, (by trivial), Frm.nil _⟩
set_option maxRecDepth 100000 in
theorem noCrash0 (Q : Option Addr) (kq dq : Nat) : Triple Try.prog 30 [.pointer none, .slice Q kq dq] [] [] Unit (fun _ => .int .i64 1) (fun _ => True) (fun _ => []) := by
  refine triple_intro Try.tbs_ok Try.func30 rfl [.va (.pointer none), .va (.slice Q kq dq)] [] ⟨trivial, trivial, trivial⟩ rfl (by simp) ?_
  intro E
  refine go Try.tbs_ok 1000 ?_
  refine ev_callF (ask0 ) [] [] rfl rfl (by decide) rfl (by simp) (fun _ => (by repeat (first | exact trivial | refine ⟨rfl, ?_⟩))) (fun _ h0 => ?_)
  refine go Try.tbs_ok 1000 ?_
  refine ev_if_yes rfl ?_
  refine go Try.tbs_ok 1000 ?_
  refine ev_fin ⟨trivial, _, rfl, (()), rfl, (by trivial), Frm.nil _⟩
set_option maxRecDepth 100000 in
theorem noStart0  : Triple Try.prog 28 [.pointer none] [] [] Unit (fun _ => .int .i64 1) (fun _ => True) (fun _ => []) := by
  refine triple_intro Try.tbs_ok Try.func28 rfl [.va (.pointer none)] [] ⟨trivial, trivial⟩ rfl (by simp) ?_
  intro E
  refine go Try.tbs_ok 1000 ?_
  refine ev_callF (ask0 ) [] [] rfl rfl (by decide) rfl (by simp) (fun _ => (by repeat (first | exact trivial | refine ⟨rfl, ?_⟩))) (fun _ h0 => ?_)
  refine go Try.tbs_ok 1000 ?_
  refine ev_if_no rfl ?_
  refine go Try.tbs_ok 1000 ?_
  refine ev_if_no rfl ?_
  refine go Try.tbs_ok 1000 ?_
  refine ev_fin ⟨trivial, _, rfl, (()), rfl, (by trivial), Frm.nil _⟩
set_option maxRecDepth 100000 in
theorem noFail0 (z : Int) (Q : Option Addr) (kq dq : Nat) : Triple Try.prog 32 [.pointer none, .int .i64 z, .slice Q kq dq] [] [] Unit (fun _ => .int .i64 1) (fun _ => True) (fun _ => []) := by
  refine triple_intro Try.tbs_ok Try.func32 rfl [.va (.pointer none), .va (.int .i64 z), .va (.slice Q kq dq)] [] ⟨trivial, trivial, trivial, trivial⟩ rfl (by simp) ?_
  intro E
  refine go Try.tbs_ok 1000 ?_
  refine ev_new fun b0 => ?_
  refine ev_callF (ask0 ) [] [] rfl rfl (by decide) rfl (by simp) (fun _ => (by repeat (first | exact trivial | refine ⟨rfl, ?_⟩))) (fun _ h1 => ?_)
  refine go Try.tbs_ok 1000 ?_
  refine ev_if_yes rfl ?_
  refine go Try.tbs_ok 1000 ?_
  refine ev_fin ⟨trivial, _, rfl, (()), rfl, (by trivial), Frm.nil _⟩
set_option maxRecDepth 100000 in
theorem noRead0 (x : ByteArray) : Triple Try.prog 20 [.pointer none, .string x] [] [] Unit (fun _ => .tuple #[.string ⟨#[]⟩, .int .i64 1]) (fun _ => True) (fun _ => []) := by
  refine triple_intro Try.tbs_ok Try.func20 rfl [.va (.pointer none), .va (.string x)] [] ⟨trivial, trivial, trivial⟩ rfl (by simp) ?_
  intro E
  refine go Try.tbs_ok 1000 ?_
  refine ev_new fun b0 => ?_
  refine ev_new fun b1 => ?_
  refine ev_inline Try.tbs_ok Try.func52 rfl rfl ?_
  refine go Try.tbs_ok 1000 ?_
  refine ev_callF (ask0 ) [] [] rfl rfl (by decide) rfl (by simp) (fun _ => (by repeat (first | exact trivial | refine ⟨rfl, ?_⟩))) (fun _ h2 => ?_)
  refine go Try.tbs_ok 1000 ?_
  refine ev_if_yes rfl ?_
  refine go Try.tbs_ok 1000 ?_
  refine ev_fin ⟨trivial, (by repeat (first | exact trivial | refine ⟨rfl, ?_⟩)), _, rfl, ?_⟩
  refine go Try.tbs_ok 1000 ?_
  refine ev_fin ⟨trivial, _, rfl, (()), rfl, (by trivial), Frm.nil _⟩
set_option maxRecDepth 100000 in
theorem noNames0  : Triple Try.prog 12 [.pointer none] [] [] Unit (fun _ => .slice none 0 0) (fun _ => True) (fun _ => []) := by
  refine triple_intro Try.tbs_ok Try.func12 rfl [.va (.pointer none)] [] ⟨trivial, trivial⟩ rfl (by simp) ?_
  intro E
  refine go Try.tbs_ok 1000 ?_
  refine ev_inline Try.tbs_ok Try.func38 rfl rfl ?_
  refine go Try.tbs_ok 1000 ?_
  refine ev_callF (there0 ) [] [] rfl rfl (by decide) rfl (by simp) (fun _ => (by repeat (first | exact trivial | refine ⟨rfl, ?_⟩))) (fun _ h0 => ?_)
  refine go Try.tbs_ok 1000 ?_
  refine ev_if_yes rfl ?_
  refine go Try.tbs_ok 1000 ?_
  refine ev_fin ⟨trivial, (by repeat (first | exact trivial | refine ⟨rfl, ?_⟩)), _, rfl, ?_⟩
  refine go Try.tbs_ok 1000 ?_
  refine ev_fin ⟨trivial, _, rfl, (()), rfl, (by trivial), Frm.nil _⟩
set_option maxRecDepth 100000 in
theorem noLeft0  : Triple Try.prog 15 [.pointer none] [] [] Unit (fun _ => .slice none 0 0) (fun _ => True) (fun _ => []) := by
  refine triple_intro Try.tbs_ok Try.func15 rfl [.va (.pointer none)] [] ⟨trivial, trivial⟩ rfl (by simp) ?_
  intro E
  refine go Try.tbs_ok 1000 ?_
  refine ev_inline Try.tbs_ok Try.func36 rfl rfl ?_
  refine go Try.tbs_ok 1000 ?_
  refine ev_callF (there0 ) [] [] rfl rfl (by decide) rfl (by simp) (fun _ => (by repeat (first | exact trivial | refine ⟨rfl, ?_⟩))) (fun _ h0 => ?_)
  refine go Try.tbs_ok 1000 ?_
  refine ev_if_yes rfl ?_
  refine go Try.tbs_ok 1000 ?_
  refine ev_fin ⟨trivial, (by repeat (first | exact trivial | refine ⟨rfl, ?_⟩)), _, rfl, ?_⟩
  refine go Try.tbs_ok 1000 ?_
  refine ev_fin ⟨trivial, _, rfl, (()), rfl, (by trivial), Frm.nil _⟩
set_option maxRecDepth 100000 in
theorem noSize0  : Triple Try.prog 11 [.pointer none] [] [] Unit (fun _ => .int .i64 0) (fun _ => True) (fun _ => []) := by
  refine triple_intro Try.tbs_ok Try.func11 rfl [.va (.pointer none)] [] ⟨trivial, trivial⟩ rfl (by simp) ?_
  intro E
  refine go Try.tbs_ok 1000 ?_
  refine ev_inline Try.tbs_ok Try.func36 rfl rfl ?_
  refine go Try.tbs_ok 1000 ?_
  refine ev_callF (there0 ) [] [] rfl rfl (by decide) rfl (by simp) (fun _ => (by repeat (first | exact trivial | refine ⟨rfl, ?_⟩))) (fun _ h0 => ?_)
  refine go Try.tbs_ok 1000 ?_
  refine ev_if_yes rfl ?_
  refine go Try.tbs_ok 1000 ?_
  refine ev_fin ⟨trivial, (by repeat (first | exact trivial | refine ⟨rfl, ?_⟩)), _, rfl, ?_⟩
  refine go Try.tbs_ok 1000 ?_
  refine ev_stop (go_loopR [3, 5, 9, 10, 11, 12, 13, 14, 15, 16] (fun i => [(3, .va (.int .i64 0)), (9, .va (.int .i64 (i : Nat)))]) (fun _ => []) (fun i => i = 0) (fun _ => 1) (0 : Nat) rfl ⟨⟨by kernel_rfl, by kernel_rfl⟩, ⟨_, rfl⟩, ⟨_, rfl⟩, by kernel_rfl, by kernel_rfl⟩ (fun i hi => ?_))
  subst hi
  refine go Try.tbs_ok 1000 ?_
  refine ev_if_no rfl ?_
  refine go Try.tbs_ok 1000 ?_
  refine ev_fin (go Try.tbs_ok 1000 ?_)
  refine ev_fin ⟨trivial, _, rfl, (()), rfl, (by trivial), Frm.nil _⟩
set_option maxRecDepth 100000 in
theorem noUp0  : Triple Try.prog 25 [.pointer none] [] [] Unit (fun _ => .bool false) (fun _ => True) (fun _ => []) := by
  refine triple_intro Try.tbs_ok Try.func25 rfl [.va (.pointer none)] [] ⟨trivial, trivial⟩ rfl (by simp) ?_
  intro E
  refine go Try.tbs_ok 1000 ?_
  refine ev_callF (there0 ) [] [] rfl rfl (by decide) rfl (by simp) (fun _ => (by repeat (first | exact trivial | refine ⟨rfl, ?_⟩))) (fun _ h0 => ?_)
  refine go Try.tbs_ok 1000 ?_
  refine ev_if_no rfl ?_
  refine go Try.tbs_ok 1000 ?_
  refine ev_fin ⟨trivial, _, rfl, (()), rfl, (by trivial), Frm.nil _⟩
set_option maxRecDepth 100000 in
theorem noStarts0  : Triple Try.prog 26 [.pointer none] [] [] Unit (fun _ => .int .i64 0) (fun _ => True) (fun _ => []) := by
  refine triple_intro Try.tbs_ok Try.func26 rfl [.va (.pointer none)] [] ⟨trivial, trivial⟩ rfl (by simp) ?_
  intro E
  refine go Try.tbs_ok 1000 ?_
  refine ev_callF (there0 ) [] [] rfl rfl (by decide) rfl (by simp) (fun _ => (by repeat (first | exact trivial | refine ⟨rfl, ?_⟩))) (fun _ h0 => ?_)
  refine go Try.tbs_ok 1000 ?_
  refine ev_if_yes rfl ?_
  refine go Try.tbs_ok 1000 ?_
  refine ev_fin ⟨trivial, _, rfl, (()), rfl, (by trivial), Frm.nil _⟩
set_option maxRecDepth 100000 in
theorem noDoes0 (x : ActD) (hk : 0 ≤ x.k) : Triple Try.prog 13 [.pointer none, .agg #[.int .u8 x.k, .string x.n, .string x.o, .string x.d, .int .i64 x.z, .slice x.A x.K.length x.c]] [] [] Unit (fun _ => .int .i64 1) (fun _ => True) (fun _ => []) := by
  have h12 : x.k.tmod 12 = x.k % 12 := Int.tmod_eq_emod_of_nonneg hk
  refine triple_intro Try.tbs_ok Try.func13 rfl [.va (.pointer none), .ag [.va (.int .u8 x.k), .va (.string x.n), .va (.string x.o), .va (.string x.d), .va (.int .i64 x.z), .va (.slice x.A x.K.length x.c)]] [] ⟨trivial, by simp [SV.good, SV.goodL], trivial⟩ rfl (by simp) ?_
  intro E
  refine go Try.tbs_ok 1000 ?_
  refine ev_new fun b0 => ?_
  refine ev_if_eq (fun h1 => ?_) (fun h1 => ?_)
  refine go Try.tbs_ok 1000 ?_
  refine ev_callF (noSync0 (x.n)) [] [] rfl rfl (by decide) rfl (by simp) (fun _ => (by repeat (first | exact trivial | refine ⟨rfl, ?_⟩))) (fun _ h2 => ?_)
  refine go Try.tbs_ok 1000 ?_
  refine ev_fin ⟨trivial, _, rfl, (()), rfl, (by trivial), Frm.nil _⟩
  refine go Try.tbs_ok 1000 ?_
  refine ev_if_eq (fun h3 => ?_) (fun h3 => ?_)
  refine go Try.tbs_ok 1000 ?_
  refine ev_callF (noTrunc0 (x.n) (x.z)) [] [] rfl rfl (by decide) rfl (by simp) (fun _ => (by repeat (first | exact trivial | refine ⟨rfl, ?_⟩))) (fun _ h4 => ?_)
  refine go Try.tbs_ok 1000 ?_
  refine ev_fin ⟨trivial, _, rfl, (()), rfl, (by trivial), Frm.nil _⟩
  refine go Try.tbs_ok 1000 ?_
  refine ev_if_eq (fun h5 => ?_) (fun h5 => ?_)
  refine go Try.tbs_ok 1000 ?_
  refine ev_callF (noRen0 (x.n) (x.o)) [] [] rfl rfl (by decide) rfl (by simp) (fun _ => (by repeat (first | exact trivial | refine ⟨rfl, ?_⟩))) (fun _ h6 => ?_)
  refine go Try.tbs_ok 1000 ?_
  refine ev_fin ⟨trivial, _, rfl, (()), rfl, (by trivial), Frm.nil _⟩
  refine go Try.tbs_ok 1000 ?_
  refine ev_if_eq (fun h7 => ?_) (fun h7 => ?_)
  refine go Try.tbs_ok 1000 ?_
  refine ev_callF (noRem0 (x.n)) [] [] rfl rfl (by decide) rfl (by simp) (fun _ => (by repeat (first | exact trivial | refine ⟨rfl, ?_⟩))) (fun _ h8 => ?_)
  refine go Try.tbs_ok 1000 ?_
  refine ev_fin ⟨trivial, _, rfl, (()), rfl, (by trivial), Frm.nil _⟩
  refine go Try.tbs_ok 1000 ?_
  refine ev_if_eq (fun h9 => ?_) (fun h9 => ?_)
  refine go Try.tbs_ok 1000 ?_
  refine ev_callF (noCrash0 (x.A) (x.K.length) (x.c)) [] [] rfl rfl (by decide) rfl (by simp) (fun _ => (by repeat (first | exact trivial | refine ⟨rfl, ?_⟩))) (fun _ h10 => ?_)
  refine go Try.tbs_ok 1000 ?_
  refine ev_fin ⟨trivial, _, rfl, (()), rfl, (by trivial), Frm.nil _⟩
  refine go Try.tbs_ok 1000 ?_
  refine ev_if_eq (fun h11 => ?_) (fun h11 => ?_)
  refine go Try.tbs_ok 1000 ?_
  refine ev_if_yes (beq_iff_eq.2 (by with_reducible assumption)) ?_
  refine go Try.tbs_ok 1000 ?_
  refine ev_callF (noStart0 ) [] [] rfl rfl (by decide) rfl (by simp) (fun _ => (by repeat (first | exact trivial | refine ⟨rfl, ?_⟩))) (fun _ h12 => ?_)
  refine go Try.tbs_ok 1000 ?_
  refine ev_fin ⟨trivial, _, rfl, (()), rfl, (by trivial), Frm.nil _⟩
  refine go Try.tbs_ok 1000 ?_
  refine ev_if_eq (fun h13 => ?_) (fun h13 => ?_)
  refine go Try.tbs_ok 1000 ?_
  refine ev_callF (noStart0 ) [] [] rfl rfl (by decide) rfl (by simp) (fun _ => (by repeat (first | exact trivial | refine ⟨rfl, ?_⟩))) (fun _ h14 => ?_)
  refine go Try.tbs_ok 1000 ?_
  refine ev_fin ⟨trivial, _, rfl, (()), rfl, (by trivial), Frm.nil _⟩
  refine go Try.tbs_ok 1000 ?_
  refine ev_if_eq (fun h15 => ?_) (fun h15 => ?_)
  refine go Try.tbs_ok 1000 ?_
  refine ev_callF (noFail0 (x.z) (x.A) (x.K.length) (x.c)) [] [] rfl rfl (by decide) rfl (by simp) (fun _ => (by repeat (first | exact trivial | refine ⟨rfl, ?_⟩))) (fun _ h16 => ?_)
  refine go Try.tbs_ok 1000 ?_
  refine ev_fin ⟨trivial, _, rfl, (()), rfl, (by trivial), Frm.nil _⟩
  refine go Try.tbs_ok 1000 ?_
  refine ev_callF (noApp0 (x.n) (x.d)) [] [] rfl rfl (by decide) rfl (by simp) (fun _ => (by repeat (first | exact trivial | refine ⟨rfl, ?_⟩))) (fun _ h17 => ?_)
  refine go Try.tbs_ok 1000 ?_
  refine ev_fin ⟨trivial, _, rfl, (()), rfl, (by trivial), Frm.nil _⟩
set_option maxRecDepth 100000 in
theorem noAppZ (p : Nat) (x y : ByteArray) : Triple Try.prog 34 [.pointer (some ⟨p, 0, none⟩), .string x, .string y] [NoD p] [] Unit (fun _ => .int .i64 1) (fun _ => True) (fun _ => [NoD p]) := by
  unfold NoD
  have T1 := askN p 0 0 false none 0 0 .nilFunc none 0 0 rfl
  have T2 := thereF p 0 0 false none 0 0 .nilFunc none 0 0 rfl
  refine triple_intro Try.tbs_ok Try.func34 rfl [.pt 0 p 0, .va (.string x), .va (.string y)] [.box p 53 [.va (.int .i64 0), .va (.int .i64 0), .bl false, .va (.slice none 0 0), .va .nilFunc, .va (.slice none 0 0)]] ⟨rfl, trivial, trivial, trivial⟩ rfl (by simp [SV.good, SV.goodL]) ?_
  intro E
  refine go Try.tbs_ok 1000 ?_
  refine ev_new fun b0 => ?_
  refine ev_new fun b1 => ?_
  refine ev_new fun b2 => ?_
  refine ev_call (T1 ) [0] [] (fun v0_ => [.box (p) 53 [.va (Value.int IntKind.i64 0), .va (Value.int IntKind.i64 0), .bl false, .va (Value.slice none 0 0), .va (Value.nilFunc), .va (Value.slice none 0 0)]]) rfl rfl (by decide) rfl (by simp) (fun _ => rfl) (fun _ => (newsOk_box (by simp [SV.good, SV.goodL]) (newsOk_nil _))) (fun _ => (by repeat (first | exact trivial | refine ⟨rfl, ?_⟩))) (fun _ h3 => ?_)
  refine go Try.tbs_ok 1000 ?_
  refine ev_if_yes rfl ?_
  refine go Try.tbs_ok 1000 ?_
  refine ev_fin ⟨trivial, _, rfl, (()), rfl, (by trivial), Frm.sel [0] rfl (by decide)⟩
set_option maxRecDepth 100000 in
theorem noSyncZ (p : Nat) (x : ByteArray) : Triple Try.prog 40 [.pointer (some ⟨p, 0, none⟩), .string x] [NoD p] [] Unit (fun _ => .int .i64 1) (fun _ => True) (fun _ => [NoD p]) := by
  unfold NoD
  have T1 := askN p 0 0 false none 0 0 .nilFunc none 0 0 rfl
  have T2 := thereF p 0 0 false none 0 0 .nilFunc none 0 0 rfl
  refine triple_intro Try.tbs_ok Try.func40 rfl [.pt 0 p 0, .va (.string x)] [.box p 53 [.va (.int .i64 0), .va (.int .i64 0), .bl false, .va (.slice none 0 0), .va .nilFunc, .va (.slice none 0 0)]] ⟨rfl, trivial, trivial⟩ rfl (by simp [SV.good, SV.goodL]) ?_
  intro E
  refine go Try.tbs_ok 1000 ?_
  refine ev_new fun b0 => ?_
  refine ev_inline Try.tbs_ok Try.func52 rfl rfl ?_
  refine go Try.tbs_ok 1000 ?_
  refine ev_call (T1 ) [0] [] (fun v0_ => [.box (p) 53 [.va (Value.int IntKind.i64 0), .va (Value.int IntKind.i64 0), .bl false, .va (Value.slice none 0 0), .va (Value.nilFunc), .va (Value.slice none 0 0)]]) rfl rfl (by decide) rfl (by simp) (fun _ => rfl) (fun _ => (newsOk_box (by simp [SV.good, SV.goodL]) (newsOk_nil _))) (fun _ => (by repeat (first | exact trivial | refine ⟨rfl, ?_⟩))) (fun _ h1 => ?_)
  refine go Try.tbs_ok 1000 ?_
  refine ev_if_yes rfl ?_
  refine go Try.tbs_ok 1000 ?_
  refine ev_fin ⟨trivial, (by repeat (first | exact trivial | refine ⟨rfl, ?_⟩)), _, rfl, ?_⟩
  refine go Try.tbs_ok 1000 ?_
  refine ev_fin ⟨trivial, _, rfl, (()), rfl, (by trivial), Frm.sel [0] rfl (by decide)⟩
set_option maxRecDepth 100000 in
theorem noTruncZ (p : Nat) (x : ByteArray) (z : Int) : Triple Try.prog 41 [.pointer (some ⟨p, 0, none⟩), .string x, .int .i64 z] [NoD p] [] Unit (fun _ => .int .i64 1) (fun _ => True) (fun _ => [NoD p]) := by
  unfold NoD
  have T1 := askN p 0 0 false none 0 0 .nilFunc none 0 0 rfl
  have T2 := thereF p 0 0 false none 0 0 .nilFunc none 0 0 rfl
  refine triple_intro Try.tbs_ok Try.func41 rfl [.pt 0 p 0, .va (.string x), .va (.int .i64 z)] [.box p 53 [.va (.int .i64 0), .va (.int .i64 0), .bl false, .va (.slice none 0 0), .va .nilFunc, .va (.slice none 0 0)]] ⟨rfl, trivial, trivial, trivial⟩ rfl (by simp [SV.good, SV.goodL]) ?_
  intro E
  refine go Try.tbs_ok 1000 ?_
  refine ev_new fun b0 => ?_
  refine ev_new fun b1 => ?_
  refine ev_inline Try.tbs_ok Try.func52 rfl rfl ?_
  refine go Try.tbs_ok 1000 ?_
  refine ev_call (T1 ) [0] [] (fun v0_ => [.box (p) 53 [.va (Value.int IntKind.i64 0), .va (Value.int IntKind.i64 0), .bl false, .va (Value.slice none 0 0), .va (Value.nilFunc), .va (Value.slice none 0 0)]]) rfl rfl (by decide) rfl (by simp) (fun _ => rfl) (fun _ => (newsOk_box (by simp [SV.good, SV.goodL]) (newsOk_nil _))) (fun _ => (by repeat (first | exact trivial | refine ⟨rfl, ?_⟩))) (fun _ h2 => ?_)
  refine go Try.tbs_ok 1000 ?_
  refine ev_if_yes rfl ?_
  refine go Try.tbs_ok 1000 ?_
  refine ev_fin ⟨trivial, (by repeat (first | exact trivial | refine ⟨rfl, ?_⟩)), _, rfl, ?_⟩
  refine go Try.tbs_ok 1000 ?_
  refine ev_fin ⟨trivial, _, rfl, (()), rfl, (by trivial), Frm.sel [0] rfl (by decide)⟩
set_option maxRecDepth 100000 in
theorem noRenZ (p : Nat) (x y : ByteArray) : Triple Try.prog 35 [.pointer (some ⟨p, 0, none⟩), .string x, .string y] [NoD p] [] Unit (fun _ => .int .i64 1) (fun _ => True) (fun _ => [NoD p]) := by
  unfold NoD
  have T1 := askN p 0 0 false none 0 0 .nilFunc none 0 0 rfl
  have T2 := thereF p 0 0 false none 0 0 .nilFunc none 0 0 rfl
  refine triple_intro Try.tbs_ok Try.func35 rfl [.pt 0 p 0, .va (.string x), .va (.string y)] [.box p 53 [.va (.int .i64 0), .va (.int .i64 0), .bl false, .va (.slice none 0 0), .va .nilFunc, .va (.slice none 0 0)]] ⟨rfl, trivial, trivial, trivial⟩ rfl (by simp [SV.good, SV.goodL]) ?_
  intro E
  refine go Try.tbs_ok 1000 ?_
  refine ev_new fun b0 => ?_
  refine ev_new fun b1 => ?_
  refine ev_inline Try.tbs_ok Try.func52 rfl rfl ?_
  refine go Try.tbs_ok 1000 ?_
  refine ev_call (T1 ) [0] [] (fun v0_ => [.box (p) 53 [.va (Value.int IntKind.i64 0), .va (Value.int IntKind.i64 0), .bl false, .va (Value.slice none 0 0), .va (Value.nilFunc), .va (Value.slice none 0 0)]]) rfl rfl (by decide) rfl (by simp) (fun _ => rfl) (fun _ => (newsOk_box (by simp [SV.good, SV.goodL]) (newsOk_nil _))) (fun _ => (by repeat (first | exact trivial | refine ⟨rfl, ?_⟩))) (fun _ h2 => ?_)
  refine go Try.tbs_ok 1000 ?_
  refine ev_if_yes rfl ?_
  refine go Try.tbs_ok 1000 ?_
  refine ev_fin ⟨trivial, (by repeat (first | exact trivial | refine ⟨rfl, ?_⟩)), _, rfl, ?_⟩
  refine go Try.tbs_ok 1000 ?_
  refine ev_fin ⟨trivial, _, rfl, (()), rfl, (by trivial), Frm.sel [0] rfl (by decide)⟩
set_option maxRecDepth 100000 in
theorem noRemZ (p : Nat) (x : ByteArray) : Triple Try.prog 42 [.pointer (some ⟨p, 0, none⟩), .string x] [NoD p] [] Unit (fun _ => .int .i64 1) (fun _ => True) (fun _ => [NoD p]) := by
  unfold NoD
  have T1 := askN p 0 0 false none 0 0 .nilFunc none 0 0 rfl
  have T2 := thereF p 0 0 false none 0 0 .nilFunc none 0 0 rfl
  refine triple_intro Try.tbs_ok Try.func42 rfl [.pt 0 p 0, .va (.string x)] [.box p 53 [.va (.int .i64 0), .va (.int .i64 0), .bl false, .va (.slice none 0 0), .va .nilFunc, .va (.slice none 0 0)]] ⟨rfl, trivial, trivial⟩ rfl (by simp [SV.good, SV.goodL]) ?_
  intro E
  refine go Try.tbs_ok 1000 ?_
  refine ev_new fun b0 => ?_
  refine ev_inline Try.tbs_ok Try.func52 rfl rfl ?_
  refine go Try.tbs_ok 1000 ?_
  refine ev_call (T1 ) [0] [] (fun v0_ => [.box (p) 53 [.va (Value.int IntKind.i64 0), .va (Value.int IntKind.i64 0), .bl false, .va (Value.slice none 0 0), .va (Value.nilFunc), .va (Value.slice none 0 0)]]) rfl rfl (by decide) rfl (by simp) (fun _ => rfl) (fun _ => (newsOk_box (by simp [SV.good, SV.goodL]) (newsOk_nil _))) (fun _ => (by repeat (first | exact trivial | refine ⟨rfl, ?_⟩))) (fun _ h1 => ?_)
  refine go Try.tbs_ok 1000 ?_
  refine ev_if_yes rfl ?_
  refine go Try.tbs_ok 1000 ?_
  refine ev_fin ⟨trivial, (by repeat (first | exact trivial | refine ⟨rfl, ?_⟩)), _, rfl, ?_⟩
  refine go Try.tbs_ok 1000 ?_
  refine ev_fin ⟨trivial, _, rfl, (()), rfl, (by trivial), Frm.sel [0] rfl (by decide)⟩
set_option maxRecDepth 100000 in
theorem noCrashZ (p : Nat) (Q : Option Addr) (kq dq : Nat) : Triple Try.prog 30 [.pointer (some ⟨p, 0, none⟩), .slice Q kq dq] [NoD p] [] Unit (fun _ => .int .i64 1) (fun _ => True) (fun _ => [NoD p]) := by
  unfold NoD
  have T1 := askN p 0 0 false none 0 0 .nilFunc none 0 0 rfl
  have T2 := thereF p 0 0 false none 0 0 .nilFunc none 0 0 rfl
  refine triple_intro Try.tbs_ok Try.func30 rfl [.pt 0 p 0, .va (.slice Q kq dq)] [.box p 53 [.va (.int .i64 0), .va (.int .i64 0), .bl false, .va (.slice none 0 0), .va .nilFunc, .va (.slice none 0 0)]] ⟨rfl, trivial, trivial⟩ rfl (by simp [SV.good, SV.goodL]) ?_
  intro E
  refine go Try.tbs_ok 1000 ?_
  refine ev_call (T1 ) [0] [] (fun v0_ => [.box (p) 53 [.va (Value.int IntKind.i64 0), .va (Value.int IntKind.i64 0), .bl false, .va (Value.slice none 0 0), .va (Value.nilFunc), .va (Value.slice none 0 0)]]) rfl rfl (by decide) rfl (by simp) (fun _ => rfl) (fun _ => (newsOk_box (by simp [SV.good, SV.goodL]) (newsOk_nil _))) (fun _ => (by repeat (first | exact trivial | refine ⟨rfl, ?_⟩))) (fun _ h0 => ?_)
  refine go Try.tbs_ok 1000 ?_
  refine ev_if_yes rfl ?_
  refine go Try.tbs_ok 1000 ?_
  refine ev_fin ⟨trivial, _, rfl, (()), rfl, (by trivial), Frm.sel [0] rfl (by decide)⟩
set_option maxRecDepth 100000 in
theorem noStartZ (p : Nat)  : Triple Try.prog 28 [.pointer (some ⟨p, 0, none⟩)] [NoD p] [] Unit (fun _ => .int .i64 1) (fun _ => True) (fun _ => [NoD p]) := by
  unfold NoD
  have T1 := askN p 0 0 false none 0 0 .nilFunc none 0 0 rfl
  have T2 := thereF p 0 0 false none 0 0 .nilFunc none 0 0 rfl
  refine triple_intro Try.tbs_ok Try.func28 rfl [.pt 0 p 0] [.box p 53 [.va (.int .i64 0), .va (.int .i64 0), .bl false, .va (.slice none 0 0), .va .nilFunc, .va (.slice none 0 0)]] ⟨rfl, trivial⟩ rfl (by simp [SV.good, SV.goodL]) ?_
  intro E
  refine go Try.tbs_ok 1000 ?_
  refine ev_call (T1 ) [0] [] (fun v0_ => [.box (p) 53 [.va (Value.int IntKind.i64 0), .va (Value.int IntKind.i64 0), .bl false, .va (Value.slice none 0 0), .va (Value.nilFunc), .va (Value.slice none 0 0)]]) rfl rfl (by decide) rfl (by simp) (fun _ => rfl) (fun _ => (newsOk_box (by simp [SV.good, SV.goodL]) (newsOk_nil _))) (fun _ => (by repeat (first | exact trivial | refine ⟨rfl, ?_⟩))) (fun _ h0 => ?_)
  refine go Try.tbs_ok 1000 ?_
  refine ev_if_no rfl ?_
  refine go Try.tbs_ok 1000 ?_
  refine ev_if_no rfl ?_
  refine go Try.tbs_ok 1000 ?_
  refine ev_fin ⟨trivial, _, rfl, (()), rfl, (by trivial), Frm.sel [0] rfl (by decide)⟩
set_option maxRecDepth 100000 in
theorem noFailZ (p : Nat) (z : Int) (Q : Option Addr) (kq dq : Nat) : Triple Try.prog 32 [.pointer (some ⟨p, 0, none⟩), .int .i64 z, .slice Q kq dq] [NoD p] [] Unit (fun _ => .int .i64 1) (fun _ => True) (fun _ => [NoD p]) := by
  unfold NoD
  have T1 := askN p 0 0 false none 0 0 .nilFunc none 0 0 rfl
  have T2 := thereF p 0 0 false none 0 0 .nilFunc none 0 0 rfl
  refine triple_intro Try.tbs_ok Try.func32 rfl [.pt 0 p 0, .va (.int .i64 z), .va (.slice Q kq dq)] [.box p 53 [.va (.int .i64 0), .va (.int .i64 0), .bl false, .va (.slice none 0 0), .va .nilFunc, .va (.slice none 0 0)]] ⟨rfl, trivial, trivial, trivial⟩ rfl (by simp [SV.good, SV.goodL]) ?_
  intro E
  refine go Try.tbs_ok 1000 ?_
  refine ev_new fun b0 => ?_
  refine ev_call (T1 ) [0] [] (fun v0_ => [.box (p) 53 [.va (Value.int IntKind.i64 0), .va (Value.int IntKind.i64 0), .bl false, .va (Value.slice none 0 0), .va (Value.nilFunc), .va (Value.slice none 0 0)]]) rfl rfl (by decide) rfl (by simp) (fun _ => rfl) (fun _ => (newsOk_box (by simp [SV.good, SV.goodL]) (newsOk_nil _))) (fun _ => (by repeat (first | exact trivial | refine ⟨rfl, ?_⟩))) (fun _ h1 => ?_)
  refine go Try.tbs_ok 1000 ?_
  refine ev_if_yes rfl ?_
  refine go Try.tbs_ok 1000 ?_
  refine ev_fin ⟨trivial, _, rfl, (()), rfl, (by trivial), Frm.sel [0] rfl (by decide)⟩
set_option maxRecDepth 100000 in
theorem noReadZ (p : Nat) (x : ByteArray) : Triple Try.prog 20 [.pointer (some ⟨p, 0, none⟩), .string x] [NoD p] [] Unit (fun _ => .tuple #[.string ⟨#[]⟩, .int .i64 1]) (fun _ => True) (fun _ => [NoD p]) := by
  unfold NoD
  have T1 := askN p 0 0 false none 0 0 .nilFunc none 0 0 rfl
  have T2 := thereF p 0 0 false none 0 0 .nilFunc none 0 0 rfl
  refine triple_intro Try.tbs_ok Try.func20 rfl [.pt 0 p 0, .va (.string x)] [.box p 53 [.va (.int .i64 0), .va (.int .i64 0), .bl false, .va (.slice none 0 0), .va .nilFunc, .va (.slice none 0 0)]] ⟨rfl, trivial, trivial⟩ rfl (by simp [SV.good, SV.goodL]) ?_
  intro E
  refine go Try.tbs_ok 1000 ?_
  refine ev_new fun b0 => ?_
  refine ev_new fun b1 => ?_
  refine ev_inline Try.tbs_ok Try.func52 rfl rfl ?_
  refine go Try.tbs_ok 1000 ?_
  refine ev_call (T1 ) [0] [] (fun v0_ => [.box (p) 53 [.va (Value.int IntKind.i64 0), .va (Value.int IntKind.i64 0), .bl false, .va (Value.slice none 0 0), .va (Value.nilFunc), .va (Value.slice none 0 0)]]) rfl rfl (by decide) rfl (by simp) (fun _ => rfl) (fun _ => (newsOk_box (by simp [SV.good, SV.goodL]) (newsOk_nil _))) (fun _ => (by repeat (first | exact trivial | refine ⟨rfl, ?_⟩))) (fun _ h2 => ?_)
  refine go Try.tbs_ok 1000 ?_
  refine ev_if_yes rfl ?_
  refine go Try.tbs_ok 1000 ?_
  refine ev_fin ⟨trivial, (by repeat (first | exact trivial | refine ⟨rfl, ?_⟩)), _, rfl, ?_⟩
  refine go Try.tbs_ok 1000 ?_
  refine ev_fin ⟨trivial, _, rfl, (()), rfl, (by trivial), Frm.sel [0] rfl (by decide)⟩
set_option maxRecDepth 100000 in
theorem noNamesZ (p : Nat)  : Triple Try.prog 12 [.pointer (some ⟨p, 0, none⟩)] [NoD p] [] Unit (fun _ => .slice none 0 0) (fun _ => True) (fun _ => [NoD p]) := by
  unfold NoD
  have T1 := askN p 0 0 false none 0 0 .nilFunc none 0 0 rfl
  have T2 := thereF p 0 0 false none 0 0 .nilFunc none 0 0 rfl
  refine triple_intro Try.tbs_ok Try.func12 rfl [.pt 0 p 0] [.box p 53 [.va (.int .i64 0), .va (.int .i64 0), .bl false, .va (.slice none 0 0), .va .nilFunc, .va (.slice none 0 0)]] ⟨rfl, trivial⟩ rfl (by simp [SV.good, SV.goodL]) ?_
  intro E
  refine go Try.tbs_ok 1000 ?_
  refine ev_inline Try.tbs_ok Try.func38 rfl rfl ?_
  refine go Try.tbs_ok 1000 ?_
  refine ev_call (T2 ) [0] [] (fun v0_ => [.box (p) 53 [.va (Value.int IntKind.i64 0), .va (Value.int IntKind.i64 0), .bl false, .va (Value.slice none 0 0), .va (Value.nilFunc), .va (Value.slice none 0 0)]]) rfl rfl (by decide) rfl (by simp) (fun _ => rfl) (fun _ => (newsOk_box (by simp [SV.good, SV.goodL]) (newsOk_nil _))) (fun _ => (by repeat (first | exact trivial | refine ⟨rfl, ?_⟩))) (fun _ h0 => ?_)
  refine go Try.tbs_ok 1000 ?_
  refine ev_if_yes rfl ?_
  refine go Try.tbs_ok 1000 ?_
  refine ev_fin ⟨trivial, (by repeat (first | exact trivial | refine ⟨rfl, ?_⟩)), _, rfl, ?_⟩
  refine go Try.tbs_ok 1000 ?_
  refine ev_fin ⟨trivial, _, rfl, (()), rfl, (by trivial), Frm.sel [0] rfl (by decide)⟩
set_option maxRecDepth 100000 in
theorem noLeftZ (p : Nat)  : Triple Try.prog 15 [.pointer (some ⟨p, 0, none⟩)] [NoD p] [] Unit (fun _ => .slice none 0 0) (fun _ => True) (fun _ => [NoD p]) := by
  unfold NoD
  have T1 := askN p 0 0 false none 0 0 .nilFunc none 0 0 rfl
  have T2 := thereF p 0 0 false none 0 0 .nilFunc none 0 0 rfl
  refine triple_intro Try.tbs_ok Try.func15 rfl [.pt 0 p 0] [.box p 53 [.va (.int .i64 0), .va (.int .i64 0), .bl false, .va (.slice none 0 0), .va .nilFunc, .va (.slice none 0 0)]] ⟨rfl, trivial⟩ rfl (by simp [SV.good, SV.goodL]) ?_
  intro E
  refine go Try.tbs_ok 1000 ?_
  refine ev_inline Try.tbs_ok Try.func36 rfl rfl ?_
  refine go Try.tbs_ok 1000 ?_
  refine ev_call (T2 ) [0] [] (fun v0_ => [.box (p) 53 [.va (Value.int IntKind.i64 0), .va (Value.int IntKind.i64 0), .bl false, .va (Value.slice none 0 0), .va (Value.nilFunc), .va (Value.slice none 0 0)]]) rfl rfl (by decide) rfl (by simp) (fun _ => rfl) (fun _ => (newsOk_box (by simp [SV.good, SV.goodL]) (newsOk_nil _))) (fun _ => (by repeat (first | exact trivial | refine ⟨rfl, ?_⟩))) (fun _ h0 => ?_)
  refine go Try.tbs_ok 1000 ?_
  refine ev_if_yes rfl ?_
  refine go Try.tbs_ok 1000 ?_
  refine ev_fin ⟨trivial, (by repeat (first | exact trivial | refine ⟨rfl, ?_⟩)), _, rfl, ?_⟩
  refine go Try.tbs_ok 1000 ?_
  refine ev_fin ⟨trivial, _, rfl, (()), rfl, (by trivial), Frm.sel [0] rfl (by decide)⟩
set_option maxRecDepth 100000 in
theorem noSizeZ (p : Nat)  : Triple Try.prog 11 [.pointer (some ⟨p, 0, none⟩)] [NoD p] [] Unit (fun _ => .int .i64 0) (fun _ => True) (fun _ => [NoD p]) := by
  unfold NoD
  have T1 := askN p 0 0 false none 0 0 .nilFunc none 0 0 rfl
  have T2 := thereF p 0 0 false none 0 0 .nilFunc none 0 0 rfl
  refine triple_intro Try.tbs_ok Try.func11 rfl [.pt 0 p 0] [.box p 53 [.va (.int .i64 0), .va (.int .i64 0), .bl false, .va (.slice none 0 0), .va .nilFunc, .va (.slice none 0 0)]] ⟨rfl, trivial⟩ rfl (by simp [SV.good, SV.goodL]) ?_
  intro E
  refine go Try.tbs_ok 1000 ?_
  refine ev_inline Try.tbs_ok Try.func36 rfl rfl ?_
  refine go Try.tbs_ok 1000 ?_
  refine ev_call (T2 ) [0] [] (fun v0_ => [.box (p) 53 [.va (Value.int IntKind.i64 0), .va (Value.int IntKind.i64 0), .bl false, .va (Value.slice none 0 0), .va (Value.nilFunc), .va (Value.slice none 0 0)]]) rfl rfl (by decide) rfl (by simp) (fun _ => rfl) (fun _ => (newsOk_box (by simp [SV.good, SV.goodL]) (newsOk_nil _))) (fun _ => (by repeat (first | exact trivial | refine ⟨rfl, ?_⟩))) (fun _ h0 => ?_)
  refine go Try.tbs_ok 1000 ?_
  refine ev_if_yes rfl ?_
  refine go Try.tbs_ok 1000 ?_
  refine ev_fin ⟨trivial, (by repeat (first | exact trivial | refine ⟨rfl, ?_⟩)), _, rfl, ?_⟩
  refine go Try.tbs_ok 1000 ?_
  refine ev_stop (go_loopR [3, 5, 9, 10, 11, 12, 13, 14, 15, 16] (fun i => [(3, .va (.int .i64 0)), (9, .va (.int .i64 (i : Nat)))]) (fun _ => []) (fun i => i = 0) (fun _ => 1) (0 : Nat) rfl ⟨⟨by kernel_rfl, by kernel_rfl⟩, ⟨_, rfl⟩, ⟨_, rfl⟩, by kernel_rfl, by kernel_rfl⟩ (fun i hi => ?_))
  subst hi
  refine go Try.tbs_ok 1000 ?_
  refine ev_if_no rfl ?_
  refine go Try.tbs_ok 1000 ?_
  refine ev_fin (go Try.tbs_ok 1000 ?_)
  refine ev_fin ⟨trivial, _, rfl, (()), rfl, (by trivial), Frm.sel [0] rfl (by decide)⟩
set_option maxRecDepth 100000 in
theorem noUpZ (p : Nat)  : Triple Try.prog 25 [.pointer (some ⟨p, 0, none⟩)] [NoD p] [] Unit (fun _ => .bool false) (fun _ => True) (fun _ => [NoD p]) := by
  unfold NoD
  have T1 := askN p 0 0 false none 0 0 .nilFunc none 0 0 rfl
  have T2 := thereF p 0 0 false none 0 0 .nilFunc none 0 0 rfl
  refine triple_intro Try.tbs_ok Try.func25 rfl [.pt 0 p 0] [.box p 53 [.va (.int .i64 0), .va (.int .i64 0), .bl false, .va (.slice none 0 0), .va .nilFunc, .va (.slice none 0 0)]] ⟨rfl, trivial⟩ rfl (by simp [SV.good, SV.goodL]) ?_
  intro E
  refine go Try.tbs_ok 1000 ?_
  refine ev_call (T2 ) [0] [] (fun v0_ => [.box (p) 53 [.va (Value.int IntKind.i64 0), .va (Value.int IntKind.i64 0), .bl false, .va (Value.slice none 0 0), .va (Value.nilFunc), .va (Value.slice none 0 0)]]) rfl rfl (by decide) rfl (by simp) (fun _ => rfl) (fun _ => (newsOk_box (by simp [SV.good, SV.goodL]) (newsOk_nil _))) (fun _ => (by repeat (first | exact trivial | refine ⟨rfl, ?_⟩))) (fun _ h0 => ?_)
  refine go Try.tbs_ok 1000 ?_
  refine ev_if_no rfl ?_
  refine go Try.tbs_ok 1000 ?_
  refine ev_fin ⟨trivial, _, rfl, (()), rfl, (by trivial), Frm.sel [0] rfl (by decide)⟩
set_option maxRecDepth 100000 in
theorem noStartsZ (p : Nat)  : Triple Try.prog 26 [.pointer (some ⟨p, 0, none⟩)] [NoD p] [] Unit (fun _ => .int .i64 0) (fun _ => True) (fun _ => [NoD p]) := by
  unfold NoD
  have T1 := askN p 0 0 false none 0 0 .nilFunc none 0 0 rfl
  have T2 := thereF p 0 0 false none 0 0 .nilFunc none 0 0 rfl
  refine triple_intro Try.tbs_ok Try.func26 rfl [.pt 0 p 0] [.box p 53 [.va (.int .i64 0), .va (.int .i64 0), .bl false, .va (.slice none 0 0), .va .nilFunc, .va (.slice none 0 0)]] ⟨rfl, trivial⟩ rfl (by simp [SV.good, SV.goodL]) ?_
  intro E
  refine go Try.tbs_ok 1000 ?_
  refine ev_call (T2 ) [0] [] (fun v0_ => [.box (p) 53 [.va (Value.int IntKind.i64 0), .va (Value.int IntKind.i64 0), .bl false, .va (Value.slice none 0 0), .va (Value.nilFunc), .va (Value.slice none 0 0)]]) rfl rfl (by decide) rfl (by simp) (fun _ => rfl) (fun _ => (newsOk_box (by simp [SV.good, SV.goodL]) (newsOk_nil _))) (fun _ => (by repeat (first | exact trivial | refine ⟨rfl, ?_⟩))) (fun _ h0 => ?_)
  refine go Try.tbs_ok 1000 ?_
  refine ev_if_yes rfl ?_
  refine go Try.tbs_ok 1000 ?_
  refine ev_fin ⟨trivial, _, rfl, (()), rfl, (by trivial), Frm.sel [0] rfl (by decide)⟩
set_option maxRecDepth 100000 in
theorem noDoesZ (p : Nat) (x : ActD) (hk : 0 ≤ x.k) : Triple Try.prog 13 [.pointer (some ⟨p, 0, none⟩), .agg #[.int .u8 x.k, .string x.n, .string x.o, .string x.d, .int .i64 x.z, .slice x.A x.K.length x.c]] [NoD p] [] Unit (fun _ => .int .i64 1) (fun _ => True) (fun _ => [NoD p]) := by
  have h12 : x.k.tmod 12 = x.k % 12 := Int.tmod_eq_emod_of_nonneg hk
  refine triple_intro Try.tbs_ok Try.func13 rfl [.va (.pointer (some ⟨p, 0, none⟩)), .ag [.va (.int .u8 x.k), .va (.string x.n), .va (.string x.o), .va (.string x.d), .va (.int .i64 x.z), .va (.slice x.A x.K.length x.c)]] [.fact (NoD p)] ⟨trivial, by simp [SV.good, SV.goodL], trivial⟩ rfl (by simp) ?_
  intro E
  refine go Try.tbs_ok 1000 ?_
  refine ev_new fun b0 => ?_
  refine ev_if_eq (fun h1 => ?_) (fun h1 => ?_)
  refine go Try.tbs_ok 1000 ?_
  refine ev_callF (noSyncZ (p) (x.n)) [0] [] rfl rfl (by decide) rfl (by simp) (fun _ => (by repeat (first | exact trivial | refine ⟨rfl, ?_⟩))) (fun _ h2 => ?_)
  refine go Try.tbs_ok 1000 ?_
  refine ev_fin ⟨trivial, _, rfl, (()), rfl, (by trivial), Frm.sel [0] rfl (by decide)⟩
  refine go Try.tbs_ok 1000 ?_
  refine ev_if_eq (fun h3 => ?_) (fun h3 => ?_)
  refine go Try.tbs_ok 1000 ?_
  refine ev_callF (noTruncZ (p) (x.n) (x.z)) [0] [] rfl rfl (by decide) rfl (by simp) (fun _ => (by repeat (first | exact trivial | refine ⟨rfl, ?_⟩))) (fun _ h4 => ?_)
  refine go Try.tbs_ok 1000 ?_
  refine ev_fin ⟨trivial, _, rfl, (()), rfl, (by trivial), Frm.sel [0] rfl (by decide)⟩
  refine go Try.tbs_ok 1000 ?_
  refine ev_if_eq (fun h5 => ?_) (fun h5 => ?_)
  refine go Try.tbs_ok 1000 ?_
  refine ev_callF (noRenZ (p) (x.n) (x.o)) [0] [] rfl rfl (by decide) rfl (by simp) (fun _ => (by repeat (first | exact trivial | refine ⟨rfl, ?_⟩))) (fun _ h6 => ?_)
  refine go Try.tbs_ok 1000 ?_
  refine ev_fin ⟨trivial, _, rfl, (()), rfl, (by trivial), Frm.sel [0] rfl (by decide)⟩
  refine go Try.tbs_ok 1000 ?_
  refine ev_if_eq (fun h7 => ?_) (fun h7 => ?_)
  refine go Try.tbs_ok 1000 ?_
  refine ev_callF (noRemZ (p) (x.n)) [0] [] rfl rfl (by decide) rfl (by simp) (fun _ => (by repeat (first | exact trivial | refine ⟨rfl, ?_⟩))) (fun _ h8 => ?_)
  refine go Try.tbs_ok 1000 ?_
  refine ev_fin ⟨trivial, _, rfl, (()), rfl, (by trivial), Frm.sel [0] rfl (by decide)⟩
  refine go Try.tbs_ok 1000 ?_
  refine ev_if_eq (fun h9 => ?_) (fun h9 => ?_)
  refine go Try.tbs_ok 1000 ?_
  refine ev_callF (noCrashZ (p) (x.A) (x.K.length) (x.c)) [0] [] rfl rfl (by decide) rfl (by simp) (fun _ => (by repeat (first | exact trivial | refine ⟨rfl, ?_⟩))) (fun _ h10 => ?_)
  refine go Try.tbs_ok 1000 ?_
  refine ev_fin ⟨trivial, _, rfl, (()), rfl, (by trivial), Frm.sel [0] rfl (by decide)⟩
  refine go Try.tbs_ok 1000 ?_
  refine ev_if_eq (fun h11 => ?_) (fun h11 => ?_)
  refine go Try.tbs_ok 1000 ?_
  refine ev_if_yes (beq_iff_eq.2 (by with_reducible assumption)) ?_
  refine go Try.tbs_ok 1000 ?_
  refine ev_callF (noStartZ (p)) [0] [] rfl rfl (by decide) rfl (by simp) (fun _ => (by repeat (first | exact trivial | refine ⟨rfl, ?_⟩))) (fun _ h12 => ?_)
  refine go Try.tbs_ok 1000 ?_
  refine ev_fin ⟨trivial, _, rfl, (()), rfl, (by trivial), Frm.sel [0] rfl (by decide)⟩
  refine go Try.tbs_ok 1000 ?_
  refine ev_if_eq (fun h13 => ?_) (fun h13 => ?_)
  refine go Try.tbs_ok 1000 ?_
  refine ev_callF (noStartZ (p)) [0] [] rfl rfl (by decide) rfl (by simp) (fun _ => (by repeat (first | exact trivial | refine ⟨rfl, ?_⟩))) (fun _ h14 => ?_)
  refine go Try.tbs_ok 1000 ?_
  refine ev_fin ⟨trivial, _, rfl, (()), rfl, (by trivial), Frm.sel [0] rfl (by decide)⟩
  refine go Try.tbs_ok 1000 ?_
  refine ev_if_eq (fun h15 => ?_) (fun h15 => ?_)
  refine go Try.tbs_ok 1000 ?_
  refine ev_callF (noFailZ (p) (x.z) (x.A) (x.K.length) (x.c)) [0] [] rfl rfl (by decide) rfl (by simp) (fun _ => (by repeat (first | exact trivial | refine ⟨rfl, ?_⟩))) (fun _ h16 => ?_)
  refine go Try.tbs_ok 1000 ?_
  refine ev_fin ⟨trivial, _, rfl, (()), rfl, (by trivial), Frm.sel [0] rfl (by decide)⟩
  refine go Try.tbs_ok 1000 ?_
  refine ev_callF (noAppZ (p) (x.n) (x.d)) [0] [] rfl rfl (by decide) rfl (by simp) (fun _ => (by repeat (first | exact trivial | refine ⟨rfl, ?_⟩))) (fun _ h17 => ?_)
  refine go Try.tbs_ok 1000 ?_
  refine ev_fin ⟨trivial, _, rfl, (()), rfl, (by trivial), Frm.sel [0] rfl (by decide)⟩
theorem greatL (b : Nat) (x : ActD) : Triple Try.prog 9 [.slice (some ⟨b, 0, none⟩) 1 1] [] [Pt b 35 [.int .u8 x.k, .string x.n, .string x.o, .string x.d, .int .i64 x.z, .slice x.A x.K.length x.c]] Bool (fun b => .bool b) (fun _ => True) (fun _ => []) :=
  ((greatT (some ⟨b, 0, none⟩) [x] 1 1 rfl (by decide)).imp fun b _ => ⟨b, rfl, trivial, fun _ q => q⟩).reads fun X hX => ⟨_, List.mem_cons_self, fun _ q => by rw [List.mem_singleton.1 hX]; exact Pt.rd q rfl⟩
set_option maxHeartbeats 4000000 in
set_option maxRecDepth 100000 in
theorem diskNone (x : ActD) : Triple Try.prog 5 [.agg #[.int .u8 x.k, .string x.n, .string x.o, .string x.d, .int .i64 x.z, .slice x.A x.K.length x.c]] [] [Rd 1 x.A x.K.length (x.K.flatMap encN)] Unit (fun _ => .bool true) (fun _ => True) (fun _ => []) := by
  have T0 := fun b => greatL b x
  refine triple_intro Try.tbs_ok Try.func5 rfl [.ag [.va (.int .u8 x.k), .va (.string x.n), .va (.string x.o), .va (.string x.d), .va (.int .i64 x.z), .va (.slice x.A x.K.length x.c)]] [] ⟨by simp [SV.good, SV.goodL], trivial⟩ rfl (by simp) ?_
  intro E
  refine go Try.tbs_ok 1000 ?_
  refine ev_new fun b0 => ?_
  refine ev_new fun b1 => ?_
  refine ev_callF (T0 (b1)) [] [.inr 1] rfl rfl (by decide) rfl (by simp) (fun _ => (by repeat (first | exact trivial | refine ⟨rfl, ?_⟩))) (fun x2 h3 => ?_)
  refine go Try.tbs_ok 1000 ?_
  refine ev_if (fun h4 => ?_) (fun h4 => ?_)
  refine go Try.tbs_ok 1000 ?_
  refine ev_fin ⟨trivial, _, rfl, (()), rfl, (by trivial), Frm.nil _⟩
  refine go Try.tbs_ok 1000 ?_
  refine ev_stop (go_loopR [0, 2, 3, 4, 5, 6, 7, 8, 11, 12, 13, 14, 15, 16, 17, 18, 19, 20, 21, 22, 23, 24, 25, 26, 27, 28, 29, 30, 31, 32, 33, 34, 35, 36, 37, 38, 39, 40, 41, 42, 43, 44, 45, 46, 47, 48, 49, 50, 51, 52, 53, 54, 55, 56, 57, 58, 59, 60, 61, 62, 63, 64, 65, 66, 67, 68] (fun (i, _) => [(3, .va (.int .i64 (i : Nat)))]) (fun (_, q) => [(0, .box b0 35 [.va (.int .u8 q), .va (.string x.n), .va (.string x.o), .va (.string x.d), .va (.int .i64 x.z), .va (.slice x.A x.K.length x.c)])]) (fun (i, _) => i ≤ 2) (fun (i, _) => 2 - i) ((0, x.k) : Nat × Int) (Nat.zero_le _) ⟨⟨by kernel_rfl, by kernel_rfl⟩, ⟨_, rfl⟩, ⟨_, rfl⟩, by kernel_rfl, by kernel_rfl⟩ (fun x_ hi => ?_))
  obtain ⟨i, q⟩ := x_
  refine go Try.tbs_ok 1000 ?_
  refine ev_if_lt (fun h20 => ?_) (fun h20 => ?_)
  refine go Try.tbs_ok 1000 ?_
  refine ev_if_eq (fun h21 => ?_) (fun h21 => ?_)
  refine go Try.tbs_ok 1000 ?_
  refine ev_new fun b22 => ?_
  rotate_left
  refine go Try.tbs_ok 1000 ?_
  rotate_left
  refine go Try.tbs_ok 1000 ?_
  refine ev_fin (go Try.tbs_ok 1000 ?_)
  refine ev_callF (works ) [] [] rfl rfl (by decide) rfl (by simp) (fun _ => (by repeat (first | exact trivial | refine ⟨rfl, ?_⟩))) (fun _ h23 => ?_)
  refine go Try.tbs_ok 1000 ?_
  refine ev_fin ⟨trivial, _, rfl, (()), rfl, (by trivial), Frm.nil _⟩
  · refine ev_stop (go_boxfact 2 (NoD b22) rfl (fun _ p => by exact p) (by repeat (first | exact trivial | refine ⟨rfl, ?_⟩)) ?_)
    refine go Try.tbs_ok 1000 ?_
    refine ev_stop (go_loopR [2, 5, 17, 19, 20, 21, 22, 23, 24, 25, 26, 27, 28, 29] (fun (j, _) => [(5, .va (.int .i64 (j : Nat)))]) (fun (_, q) => [(0, .box b0 35 [.va (.int .u8 q), .va (.string x.n), .va (.string x.o), .va (.string x.d), .va (.int .i64 x.z), .va (.slice x.A x.K.length x.c)]), (3, .fact (NoD b22))]) (fun (j, _) => j ≤ 12) (fun (j, _) => 12 - j) ((0, q) : Nat × Int) (Nat.zero_le _) ⟨⟨by kernel_rfl, by kernel_rfl⟩, ⟨_, rfl⟩, ⟨_, rfl⟩, by kernel_rfl, by kernel_rfl⟩ (fun x_ hj => ?_))
    obtain ⟨j, q2⟩ := x_
    refine go Try.tbs_ok 1000 ?_
    refine ev_if_lt (fun hlt => ?_) (fun hge => ?_)
    · have hj2 : j < 12 := by
        have : (j : Int) < 12 := hlt
        omega
      have T1 := noDoesZ b22 ⟨(j : Int), x.n, x.o, x.d, x.z, x.K, x.A, x.c⟩ (Int.natCast_nonneg _)
      refine go Try.tbs_ok 1000 ?_
      refine ev_wu8 (show 0 ≤ (↑j : Int) ∧ (↑j : Int) < 256 from (by constructor <;> omega)) ?_
      refine ev_callF (T1 ) [3] [] rfl rfl (by decide) rfl (by simp) (fun _ => (by repeat (first | exact trivial | refine ⟨rfl, ?_⟩))) (fun _ h100 => ?_)
      refine go Try.tbs_ok 1000 ?_
      refine ev_if_no rfl ?_
      refine go Try.tbs_ok 1000 ?_
      refine ev_wrapN (j + 1) (by constructor <;> omega) (by rfl) ?_
      refine ev_fin (round_next ((j + 1, (↑j : Int))) (show j + 1 ≤ 12 from (by assumption)) (show 12 - (j + 1) < 12 - j from (by omega)) ⟨⟨by kernel_rfl, by kernel_rfl⟩, ⟨_, rfl⟩, ⟨_, rfl⟩, by kernel_rfl, by kernel_rfl⟩)
    · refine go Try.tbs_ok 1000 ?_
      refine ev_fin (go Try.tbs_ok 1000 ?_)
      refine ev_callF (noReadZ (b22) (x.n)) [3] [] rfl rfl (by decide) rfl (by simp) (fun _ => (by repeat (first | exact trivial | refine ⟨rfl, ?_⟩))) (fun _ h200 => ?_)
      refine go Try.tbs_ok 1000 ?_
      refine ev_if_no rfl ?_
      refine go Try.tbs_ok 1000 ?_
      refine ev_if_no rfl ?_
      refine go Try.tbs_ok 1000 ?_
      refine ev_callF (noNamesZ (b22)) [3] [] rfl rfl (by decide) rfl (by simp) (fun _ => (by repeat (first | exact trivial | refine ⟨rfl, ?_⟩))) (fun _ h201 => ?_)
      refine go Try.tbs_ok 1000 ?_
      refine ev_if_no rfl ?_
      refine go Try.tbs_ok 1000 ?_
      refine ev_callF (noLeftZ (b22)) [3] [] rfl rfl (by decide) rfl (by simp) (fun _ => (by repeat (first | exact trivial | refine ⟨rfl, ?_⟩))) (fun _ h202 => ?_)
      refine go Try.tbs_ok 1000 ?_
      refine ev_if_no rfl ?_
      refine go Try.tbs_ok 1000 ?_
      refine ev_callF (noSizeZ (b22)) [3] [] rfl rfl (by decide) rfl (by simp) (fun _ => (by repeat (first | exact trivial | refine ⟨rfl, ?_⟩))) (fun _ h203 => ?_)
      refine go Try.tbs_ok 1000 ?_
      refine ev_if_no rfl ?_
      refine go Try.tbs_ok 1000 ?_
      refine ev_callF (noUpZ (b22)) [3] [] rfl rfl (by decide) rfl (by simp) (fun _ => (by repeat (first | exact trivial | refine ⟨rfl, ?_⟩))) (fun _ h204 => ?_)
      refine go Try.tbs_ok 1000 ?_
      refine ev_if_no rfl ?_
      refine go Try.tbs_ok 1000 ?_
      refine ev_callF (noStartsZ (b22)) [3] [] rfl rfl (by decide) rfl (by simp) (fun _ => (by repeat (first | exact trivial | refine ⟨rfl, ?_⟩))) (fun _ h205 => ?_)
      refine go Try.tbs_ok 1000 ?_
      refine ev_if_no rfl ?_
      refine go Try.tbs_ok 1000 ?_
      refine ev_wrapN (i + 1) (by constructor <;> omega) (by rfl) ?_
      refine ev_fin (round_next ((i + 1, q2)) (show i + 1 ≤ 2 from (by omega)) (show 2 - (i + 1) < 2 - i from (by omega)) ⟨⟨by kernel_rfl, by kernel_rfl⟩, ⟨_, rfl⟩, ⟨_, rfl⟩, by kernel_rfl, by kernel_rfl⟩)
  · refine ev_stop (go_loopR [2, 5, 19, 20, 21, 22, 23, 24, 25, 26, 27, 28, 29] (fun (j, _) => [(5, .va (.int .i64 (j : Nat)))]) (fun (_, q) => [(0, .box b0 35 [.va (.int .u8 q), .va (.string x.n), .va (.string x.o), .va (.string x.d), .va (.int .i64 x.z), .va (.slice x.A x.K.length x.c)])]) (fun (j, _) => j ≤ 12) (fun (j, _) => 12 - j) ((0, q) : Nat × Int) (Nat.zero_le _) ⟨⟨by kernel_rfl, by kernel_rfl⟩, ⟨_, rfl⟩, ⟨_, rfl⟩, by kernel_rfl, by kernel_rfl⟩ (fun x_ hj => ?_))
    obtain ⟨j, q2⟩ := x_
    refine go Try.tbs_ok 1000 ?_
    refine ev_if_lt (fun hlt => ?_) (fun hge => ?_)
    · have hj2 : j < 12 := by
        have : (j : Int) < 12 := hlt
        omega
      have T1 := noDoes0 ⟨(j : Int), x.n, x.o, x.d, x.z, x.K, x.A, x.c⟩ (Int.natCast_nonneg _)
      refine go Try.tbs_ok 1000 ?_
      refine ev_wu8 (show 0 ≤ (↑j : Int) ∧ (↑j : Int) < 256 from (by constructor <;> omega)) ?_
      refine ev_callF (T1 ) [] [] rfl rfl (by decide) rfl (by simp) (fun _ => (by repeat (first | exact trivial | refine ⟨rfl, ?_⟩))) (fun _ h300 => ?_)
      refine go Try.tbs_ok 1000 ?_
      refine ev_if_no rfl ?_
      refine go Try.tbs_ok 1000 ?_
      refine ev_wrapN (j + 1) (by constructor <;> omega) (by rfl) ?_
      refine ev_fin (round_next ((j + 1, (↑j : Int))) (show j + 1 ≤ 12 from (by assumption)) (show 12 - (j + 1) < 12 - j from (by omega)) ⟨⟨by kernel_rfl, by kernel_rfl⟩, ⟨_, rfl⟩, ⟨_, rfl⟩, by kernel_rfl, by kernel_rfl⟩)
    · refine go Try.tbs_ok 1000 ?_
      refine ev_fin (go Try.tbs_ok 1000 ?_)
      refine ev_callF (noRead0 (x.n)) [] [] rfl rfl (by decide) rfl (by simp) (fun _ => (by repeat (first | exact trivial | refine ⟨rfl, ?_⟩))) (fun _ h400 => ?_)
      refine go Try.tbs_ok 1000 ?_
      refine ev_if_no rfl ?_
      refine go Try.tbs_ok 1000 ?_
      refine ev_if_no rfl ?_
      refine go Try.tbs_ok 1000 ?_
      refine ev_callF (noNames0 ) [] [] rfl rfl (by decide) rfl (by simp) (fun _ => (by repeat (first | exact trivial | refine ⟨rfl, ?_⟩))) (fun _ h401 => ?_)
      refine go Try.tbs_ok 1000 ?_
      refine ev_if_no rfl ?_
      refine go Try.tbs_ok 1000 ?_
      refine ev_callF (noLeft0 ) [] [] rfl rfl (by decide) rfl (by simp) (fun _ => (by repeat (first | exact trivial | refine ⟨rfl, ?_⟩))) (fun _ h402 => ?_)
      refine go Try.tbs_ok 1000 ?_
      refine ev_if_no rfl ?_
      refine go Try.tbs_ok 1000 ?_
      refine ev_callF (noSize0 ) [] [] rfl rfl (by decide) rfl (by simp) (fun _ => (by repeat (first | exact trivial | refine ⟨rfl, ?_⟩))) (fun _ h403 => ?_)
      refine go Try.tbs_ok 1000 ?_
      refine ev_if_no rfl ?_
      refine go Try.tbs_ok 1000 ?_
      refine ev_callF (noUp0 ) [] [] rfl rfl (by decide) rfl (by simp) (fun _ => (by repeat (first | exact trivial | refine ⟨rfl, ?_⟩))) (fun _ h404 => ?_)
      refine go Try.tbs_ok 1000 ?_
      refine ev_if_no rfl ?_
      refine go Try.tbs_ok 1000 ?_
      refine ev_callF (noStarts0 ) [] [] rfl rfl (by decide) rfl (by simp) (fun _ => (by repeat (first | exact trivial | refine ⟨rfl, ?_⟩))) (fun _ h405 => ?_)
      refine go Try.tbs_ok 1000 ?_
      refine ev_if_no rfl ?_
      refine go Try.tbs_ok 1000 ?_
      refine ev_wrapN (i + 1) (by constructor <;> omega) (by rfl) ?_
      refine ev_fin (round_next ((i + 1, q2)) (show i + 1 ≤ 2 from (by omega)) (show 2 - (i + 1) < 2 - i from (by omega)) ⟨⟨by kernel_rfl, by kernel_rfl⟩, ⟨_, rfl⟩, ⟨_, rfl⟩, by kernel_rfl, by kernel_rfl⟩)
end Go.Proofs.Ythknokcgclcbmaa
