/-
  What is proved: walNone_card. Conditions: none.
-/
import Derived.Test.YtjlfdfmkofbccaaGreatDoorCards
import Derived.Test.YtjlfdfmkofbccaaGreatDoorTie
import Derived.SevenTiedAt
import Derived.LaidLaws
import Derived.LaidMore
import Derived.Lib.LaidTab
import Derived.Stop.LaidErr
import Derived.OpenShut
import Derived.ChangeMaps5
import Derived.Test.YtjlfdfmkofbccaaGreatDoorWb6
namespace Go.Proofs.YtjlfdfmkofbccaaGreatDoor
open Go.Sy
set_option maxRecDepth 100000 in
theorem nilOpen : Triple Tryz.prog 12 [.pointer none] [] [] Unit (fun _ => .tuple #[.pointer none, .slice none 0 0, .int .i64 1]) (fun _ => True) (fun _ => []) := by
 refine triple_intro Tryz.tbs_ok Tryz.func12 rfl [.va (.pointer none)] [] ⟨trivial, trivial⟩ rfl (by simp) ?_
 intro E
 refine go Tryz.tbs_ok 1000 ?_
 refine ev_inline Tryz.tbs_ok Tryz.func35 rfl rfl ?_
 refine go Tryz.tbs_ok 1000 ?_
 refine ev_inline Tryz.tbs_ok Tryz.func45 rfl rfl ?_
 refine go Tryz.tbs_ok 1000 ?_
 refine ev_fin ⟨trivial, (by repeat (first | exact trivial | refine ⟨rfl, ?_⟩)), _, rfl, ?_⟩
 refine go Tryz.tbs_ok 1000 ?_
 refine ev_fin ⟨trivial, (by repeat (first | exact trivial | refine ⟨rfl, ?_⟩)), _, rfl, ?_⟩
 refine go Tryz.tbs_ok 1000 ?_
 refine ev_new fun b0 => ?_
 refine ev_inline Tryz.tbs_ok Tryz.func17 rfl rfl ?_
 refine go Tryz.tbs_ok 1000 ?_
 refine ev_inline Tryz.tbs_ok Tryz.func45 rfl rfl ?_
 refine go Tryz.tbs_ok 1000 ?_
 refine ev_fin ⟨trivial, (by repeat (first | exact trivial | refine ⟨rfl, ?_⟩)), _, rfl, ?_⟩
 refine go Tryz.tbs_ok 1000 ?_
 refine ev_fin ⟨trivial, (by repeat (first | exact trivial | refine ⟨rfl, ?_⟩)), _, rfl, ?_⟩
 refine go Tryz.tbs_ok 1000 ?_
 refine ev_inline Tryz.tbs_ok Tryz.func25 rfl rfl ?_
 refine go Tryz.tbs_ok 1000 ?_
 refine ev_new fun b1 => ?_
 refine ev_inline Tryz.tbs_ok Tryz.func43 rfl rfl ?_
 refine go Tryz.tbs_ok 1000 ?_
 refine ev_inline Tryz.tbs_ok Tryz.func45 rfl rfl ?_
 refine go Tryz.tbs_ok 1000 ?_
 refine ev_fin ⟨trivial, (by repeat (first | exact trivial | refine ⟨rfl, ?_⟩)), _, rfl, ?_⟩
 refine go Tryz.tbs_ok 1000 ?_
 refine ev_fin ⟨trivial, (by repeat (first | exact trivial | refine ⟨rfl, ?_⟩)), _, rfl, ?_⟩
 refine go Tryz.tbs_ok 1000 ?_
 refine ev_if_yes rfl ?_
 refine go Tryz.tbs_ok 1000 ?_
 refine ev_fin ⟨trivial, (by repeat (first | exact trivial | refine ⟨rfl, ?_⟩)), _, rfl, ?_⟩
 refine go Tryz.tbs_ok 1000 ?_
 refine ev_fin ⟨trivial, _, rfl, (()), rfl, (by trivial), Frm.nil _⟩
set_option maxRecDepth 100000 in
theorem zeroOpen (q : Nat) : Triple Tryz.prog 12 [.pointer (some ⟨q, 0, none⟩)] [Pt q 52 [.int .i64 0, .int .i64 0, .bool false, .slice none 0 0, .nilFunc, .slice none 0 0]] [] Unit (fun _ => .tuple #[.pointer none, .slice none 0 0, .int .i64 1]) (fun _ => True) (fun _ => [Pt q 52 [.int .i64 0, .int .i64 0, .bool false, .slice none 0 0, .nilFunc, .slice none 0 0]]) := by
 refine triple_intro Tryz.tbs_ok Tryz.func12 rfl [.pt 0 q 0] [.box q 52 [.va (.int .i64 0), .va (.int .i64 0), .va (.bool false), .va (.slice none 0 0), .va .nilFunc, .va (.slice none 0 0)]] ⟨rfl, trivial⟩ rfl (by simp [SV.good, SV.goodL]) ?_
 intro E
 refine go Tryz.tbs_ok 1000 ?_
 refine ev_inline Tryz.tbs_ok Tryz.func35 rfl rfl ?_
 refine go Tryz.tbs_ok 1000 ?_
 refine ev_inline Tryz.tbs_ok Tryz.func45 rfl rfl ?_
 refine go Tryz.tbs_ok 1000 ?_
 refine ev_fin ⟨trivial, (by repeat (first | exact trivial | refine ⟨rfl, ?_⟩)), _, rfl, ?_⟩
 refine go Tryz.tbs_ok 1000 ?_
 refine ev_if_yes rfl ?_
 refine go Tryz.tbs_ok 1000 ?_
 refine ev_fin ⟨trivial, (by repeat (first | exact trivial | refine ⟨rfl, ?_⟩)), _, rfl, ?_⟩
 refine go Tryz.tbs_ok 1000 ?_
 refine ev_new fun b0 => ?_
 refine ev_inline Tryz.tbs_ok Tryz.func17 rfl rfl ?_
 refine go Tryz.tbs_ok 1000 ?_
 refine ev_inline Tryz.tbs_ok Tryz.func45 rfl rfl ?_
 refine go Tryz.tbs_ok 1000 ?_
 refine ev_fin ⟨trivial, (by repeat (first | exact trivial | refine ⟨rfl, ?_⟩)), _, rfl, ?_⟩
 refine go Tryz.tbs_ok 1000 ?_
 refine ev_if_no rfl ?_
 refine go Tryz.tbs_ok 1000 ?_
 refine ev_fin ⟨trivial, (by repeat (first | exact trivial | refine ⟨rfl, ?_⟩)), _, rfl, ?_⟩
 refine go Tryz.tbs_ok 1000 ?_
 refine ev_inline Tryz.tbs_ok Tryz.func25 rfl rfl ?_
 refine go Tryz.tbs_ok 1000 ?_
 refine ev_new fun b1 => ?_
 refine ev_inline Tryz.tbs_ok Tryz.func43 rfl rfl ?_
 refine go Tryz.tbs_ok 1000 ?_
 refine ev_inline Tryz.tbs_ok Tryz.func45 rfl rfl ?_
 refine go Tryz.tbs_ok 1000 ?_
 refine ev_fin ⟨trivial, (by repeat (first | exact trivial | refine ⟨rfl, ?_⟩)), _, rfl, ?_⟩
 refine go Tryz.tbs_ok 1000 ?_
 refine ev_if_yes rfl ?_
 refine go Tryz.tbs_ok 1000 ?_
 refine ev_fin ⟨trivial, (by repeat (first | exact trivial | refine ⟨rfl, ?_⟩)), _, rfl, ?_⟩
 refine go Tryz.tbs_ok 1000 ?_
 refine ev_if_yes rfl ?_
 refine go Tryz.tbs_ok 1000 ?_
 refine ev_fin ⟨trivial, (by repeat (first | exact trivial | refine ⟨rfl, ?_⟩)), _, rfl, ?_⟩
 refine go Tryz.tbs_ok 1000 ?_
 refine ev_fin ⟨trivial, _, rfl, (()), rfl, (by trivial), Frm.sel [0] rfl (by decide)⟩
set_option maxRecDepth 100000 in
theorem nilApp (A : Option Addr) (n c : Nat) : Triple Tryz.prog 19 [.pointer none, .slice A n c] [] [] Unit (fun _ => .int .i64 1) (fun _ => True) (fun _ => []) := by
 refine triple_intro Tryz.tbs_ok Tryz.func19 rfl [.va (.pointer none), .va (.slice A n c)] [] ⟨trivial, trivial, trivial⟩ rfl (by simp) ?_
 intro E
 refine go Tryz.tbs_ok 1000 ?_
 refine ev_inline Tryz.tbs_ok Tryz.func46 rfl rfl ?_
 refine go Tryz.tbs_ok 1000 ?_
 refine ev_fin ⟨trivial, (by repeat (first | exact trivial | refine ⟨rfl, ?_⟩)), _, rfl, ?_⟩
 refine go Tryz.tbs_ok 1000 ?_
 refine ev_if_yes rfl ?_
 refine go Tryz.tbs_ok 1000 ?_
 refine ev_fin ⟨trivial, _, rfl, (()), rfl, (by trivial), Frm.nil _⟩
set_option maxRecDepth 100000 in
theorem zeroApp (p : Nat) (A : Option Addr) (n c : Nat) : Triple Tryz.prog 19 [.pointer (some ⟨p, 0, none⟩), .slice A n c] [Pt p 49 [.pointer none, .int .i64 0, .bool false, .int .i64 0, .int .i64 0]] [] Unit (fun _ => .int .i64 1) (fun _ => True) (fun _ => [Pt p 49 [.pointer none, .int .i64 0, .bool false, .int .i64 0, .int .i64 0]]) := by
 refine triple_intro Tryz.tbs_ok Tryz.func19 rfl [.pt 0 p 0, .va (.slice A n c)] [.box p 49 [.va (.pointer none), .va (.int .i64 0), .va (.bool false), .va (.int .i64 0), .va (.int .i64 0)]] ⟨rfl, trivial, trivial⟩ rfl (by simp [SV.good, SV.goodL]) ?_
 intro E
 refine go Tryz.tbs_ok 1000 ?_
 refine ev_inline Tryz.tbs_ok Tryz.func46 rfl rfl ?_
 refine go Tryz.tbs_ok 1000 ?_
 refine ev_fin ⟨trivial, (by repeat (first | exact trivial | refine ⟨rfl, ?_⟩)), _, rfl, ?_⟩
 refine go Tryz.tbs_ok 1000 ?_
 refine ev_if_yes rfl ?_
 refine go Tryz.tbs_ok 1000 ?_
 refine ev_fin ⟨trivial, _, rfl, (()), rfl, (by trivial), Frm.sel [0] rfl (by decide)⟩
set_option maxRecDepth 100000 in
theorem nilCk (A : Option Addr) (n c : Nat) : Triple Tryz.prog 21 [.pointer none, .slice A n c] [] [] Unit (fun _ => .int .i64 1) (fun _ => True) (fun _ => []) := by
 refine triple_intro Tryz.tbs_ok Tryz.func21 rfl [.va (.pointer none), .va (.slice A n c)] [] ⟨trivial, trivial, trivial⟩ rfl (by simp) ?_
 intro E
 refine go Tryz.tbs_ok 1000 ?_
 refine ev_new fun b0 => ?_
 refine ev_inline Tryz.tbs_ok Tryz.func46 rfl rfl ?_
 refine go Tryz.tbs_ok 1000 ?_
 refine ev_fin ⟨trivial, (by repeat (first | exact trivial | refine ⟨rfl, ?_⟩)), _, rfl, ?_⟩
 refine go Tryz.tbs_ok 1000 ?_
 refine ev_if_yes rfl ?_
 refine go Tryz.tbs_ok 1000 ?_
 refine ev_fin ⟨trivial, _, rfl, (()), rfl, (by trivial), Frm.nil _⟩
set_option maxRecDepth 100000 in
theorem zeroCk (p : Nat) (A : Option Addr) (n c : Nat) : Triple Tryz.prog 21 [.pointer (some ⟨p, 0, none⟩), .slice A n c] [Pt p 49 [.pointer none, .int .i64 0, .bool false, .int .i64 0, .int .i64 0]] [] Unit (fun _ => .int .i64 1) (fun _ => True) (fun _ => [Pt p 49 [.pointer none, .int .i64 0, .bool false, .int .i64 0, .int .i64 0]]) := by
 refine triple_intro Tryz.tbs_ok Tryz.func21 rfl [.pt 0 p 0, .va (.slice A n c)] [.box p 49 [.va (.pointer none), .va (.int .i64 0), .va (.bool false), .va (.int .i64 0), .va (.int .i64 0)]] ⟨rfl, trivial, trivial⟩ rfl (by simp [SV.good, SV.goodL]) ?_
 intro E
 refine go Tryz.tbs_ok 1000 ?_
 refine ev_new fun b0 => ?_
 refine ev_inline Tryz.tbs_ok Tryz.func46 rfl rfl ?_
 refine go Tryz.tbs_ok 1000 ?_
 refine ev_fin ⟨trivial, (by repeat (first | exact trivial | refine ⟨rfl, ?_⟩)), _, rfl, ?_⟩
 refine go Tryz.tbs_ok 1000 ?_
 refine ev_if_yes rfl ?_
 refine go Tryz.tbs_ok 1000 ?_
 refine ev_fin ⟨trivial, _, rfl, (()), rfl, (by trivial), Frm.sel [0] rfl (by decide)⟩
set_option maxRecDepth 100000 in
theorem nilSync : Triple Tryz.prog 20 [.pointer none] [] [] Unit (fun _ => .int .i64 1) (fun _ => True) (fun _ => []) := by
 refine triple_intro Tryz.tbs_ok Tryz.func20 rfl [.va (.pointer none)] [] ⟨trivial, trivial⟩ rfl (by simp) ?_
 intro E
 refine go Tryz.tbs_ok 1000 ?_
 refine ev_inline Tryz.tbs_ok Tryz.func46 rfl rfl ?_
 refine go Tryz.tbs_ok 1000 ?_
 refine ev_fin ⟨trivial, (by repeat (first | exact trivial | refine ⟨rfl, ?_⟩)), _, rfl, ?_⟩
 refine go Tryz.tbs_ok 1000 ?_
 refine ev_if_yes rfl ?_
 refine go Tryz.tbs_ok 1000 ?_
 refine ev_fin ⟨trivial, _, rfl, (()), rfl, (by trivial), Frm.nil _⟩
set_option maxRecDepth 100000 in
theorem zeroSync (p : Nat) : Triple Tryz.prog 20 [.pointer (some ⟨p, 0, none⟩)] [Pt p 49 [.pointer none, .int .i64 0, .bool false, .int .i64 0, .int .i64 0]] [] Unit (fun _ => .int .i64 1) (fun _ => True) (fun _ => [Pt p 49 [.pointer none, .int .i64 0, .bool false, .int .i64 0, .int .i64 0]]) := by
 refine triple_intro Tryz.tbs_ok Tryz.func20 rfl [.pt 0 p 0] [.box p 49 [.va (.pointer none), .va (.int .i64 0), .va (.bool false), .va (.int .i64 0), .va (.int .i64 0)]] ⟨rfl, trivial⟩ rfl (by simp [SV.good, SV.goodL]) ?_
 intro E
 refine go Tryz.tbs_ok 1000 ?_
 refine ev_inline Tryz.tbs_ok Tryz.func46 rfl rfl ?_
 refine go Tryz.tbs_ok 1000 ?_
 refine ev_fin ⟨trivial, (by repeat (first | exact trivial | refine ⟨rfl, ?_⟩)), _, rfl, ?_⟩
 refine go Tryz.tbs_ok 1000 ?_
 refine ev_if_yes rfl ?_
 refine go Tryz.tbs_ok 1000 ?_
 refine ev_fin ⟨trivial, _, rfl, (()), rfl, (by trivial), Frm.sel [0] rfl (by decide)⟩
set_option maxRecDepth 100000 in
theorem nilSegs : Triple Tryz.prog 22 [.pointer none] [] [] Unit (fun _ => .int .i64 0) (fun _ => True) (fun _ => []) := by
 refine triple_intro Tryz.tbs_ok Tryz.func22 rfl [.va (.pointer none)] [] ⟨trivial, trivial⟩ rfl (by simp) ?_
 intro E
 refine go Tryz.tbs_ok 1000 ?_
 refine ev_inline Tryz.tbs_ok Tryz.func46 rfl rfl ?_
 refine go Tryz.tbs_ok 1000 ?_
 refine ev_fin ⟨trivial, (by repeat (first | exact trivial | refine ⟨rfl, ?_⟩)), _, rfl, ?_⟩
 refine go Tryz.tbs_ok 1000 ?_
 refine ev_if_yes rfl ?_
 refine go Tryz.tbs_ok 1000 ?_
 refine ev_fin ⟨trivial, _, rfl, (()), rfl, (by trivial), Frm.nil _⟩
set_option maxRecDepth 100000 in
theorem zeroSegs (p : Nat) : Triple Tryz.prog 22 [.pointer (some ⟨p, 0, none⟩)] [Pt p 49 [.pointer none, .int .i64 0, .bool false, .int .i64 0, .int .i64 0]] [] Unit (fun _ => .int .i64 0) (fun _ => True) (fun _ => [Pt p 49 [.pointer none, .int .i64 0, .bool false, .int .i64 0, .int .i64 0]]) := by
 refine triple_intro Tryz.tbs_ok Tryz.func22 rfl [.pt 0 p 0] [.box p 49 [.va (.pointer none), .va (.int .i64 0), .va (.bool false), .va (.int .i64 0), .va (.int .i64 0)]] ⟨rfl, trivial⟩ rfl (by simp [SV.good, SV.goodL]) ?_
 intro E
 refine go Tryz.tbs_ok 1000 ?_
 refine ev_inline Tryz.tbs_ok Tryz.func46 rfl rfl ?_
 refine go Tryz.tbs_ok 1000 ?_
 refine ev_fin ⟨trivial, (by repeat (first | exact trivial | refine ⟨rfl, ?_⟩)), _, rfl, ?_⟩
 refine go Tryz.tbs_ok 1000 ?_
 refine ev_if_yes rfl ?_
 refine go Tryz.tbs_ok 1000 ?_
 refine ev_fin ⟨trivial, _, rfl, (()), rfl, (by trivial), Frm.sel [0] rfl (by decide)⟩
set_option maxRecDepth 100000 in
theorem nilSize : Triple Tryz.prog 23 [.pointer none] [] [] Unit (fun _ => .int .i64 0) (fun _ => True) (fun _ => []) := by
 refine triple_intro Tryz.tbs_ok Tryz.func23 rfl [.va (.pointer none)] [] ⟨trivial, trivial⟩ rfl (by simp) ?_
 intro E
 refine go Tryz.tbs_ok 1000 ?_
 refine ev_inline Tryz.tbs_ok Tryz.func46 rfl rfl ?_
 refine go Tryz.tbs_ok 1000 ?_
 refine ev_fin ⟨trivial, (by repeat (first | exact trivial | refine ⟨rfl, ?_⟩)), _, rfl, ?_⟩
 refine go Tryz.tbs_ok 1000 ?_
 refine ev_if_yes rfl ?_
 refine go Tryz.tbs_ok 1000 ?_
 refine ev_fin ⟨trivial, _, rfl, (()), rfl, (by trivial), Frm.nil _⟩
set_option maxRecDepth 100000 in
theorem zeroSize (p : Nat) : Triple Tryz.prog 23 [.pointer (some ⟨p, 0, none⟩)] [Pt p 49 [.pointer none, .int .i64 0, .bool false, .int .i64 0, .int .i64 0]] [] Unit (fun _ => .int .i64 0) (fun _ => True) (fun _ => [Pt p 49 [.pointer none, .int .i64 0, .bool false, .int .i64 0, .int .i64 0]]) := by
 refine triple_intro Tryz.tbs_ok Tryz.func23 rfl [.pt 0 p 0] [.box p 49 [.va (.pointer none), .va (.int .i64 0), .va (.bool false), .va (.int .i64 0), .va (.int .i64 0)]] ⟨rfl, trivial⟩ rfl (by simp [SV.good, SV.goodL]) ?_
 intro E
 refine go Tryz.tbs_ok 1000 ?_
 refine ev_inline Tryz.tbs_ok Tryz.func46 rfl rfl ?_
 refine go Tryz.tbs_ok 1000 ?_
 refine ev_fin ⟨trivial, (by repeat (first | exact trivial | refine ⟨rfl, ?_⟩)), _, rfl, ?_⟩
 refine go Tryz.tbs_ok 1000 ?_
 refine ev_if_yes rfl ?_
 refine go Tryz.tbs_ok 1000 ?_
 refine ev_fin ⟨trivial, _, rfl, (()), rfl, (by trivial), Frm.sel [0] rfl (by decide)⟩
theorem greatOne (k : Int) (A : Option Addr) (l : List ByteArray) (n c bx : Nat) (hn : n = l.length) : Triple Tryz.prog 10 [.slice (some ⟨bx, 0, none⟩) 1 1] [] [Pt bx 38 [.int .u8 k, .slice A n c, .int .i64 0, .slice none 0 0], Rd 1 A n (l.flatMap encS)] Bool (fun b => .bool b) (fun b => b = false → n ≤ 50 ∧ ∀ p ∈ l, p.size ≤ 60000) (fun _ => []) := by
 subst hn
 refine ((greatW (some ⟨bx, 0, none⟩) [⟨k, l, A, c, 0, [], none, 0⟩] 1 1 rfl (by decide)).reads (N' := [Pt bx 38 [.int .u8 k, .slice A l.length c, .int .i64 0, .slice none 0 0], Rd 1 A l.length (l.flatMap encS)]) (fun X hX => by
  simp only [List.mem_cons, List.not_mem_nil, or_false] at hX
  rcases hX with rfl | rfl
  · exact ⟨_, List.mem_cons_self, fun _ q => Pt.rd q rfl⟩
  · refine ⟨_, List.mem_cons_of_mem _ List.mem_cons_self, fun h q x hx => ?_⟩
    rw [List.mem_singleton.1 hx]
    exact ⟨q, Rd.nil _ _ h⟩)).imp fun b hb => ⟨b, rfl, fun h => ?_, fun _ q => q⟩
 have := (hb h).2 _ List.mem_cons_self
 exact ⟨this.L, this.p⟩
set_option maxHeartbeats 8000000 in
set_option maxRecDepth 100000 in
theorem walNone (A : Option Addr) (l : List ByteArray) (n c : Nat) (hn : n = l.length) : Triple Tryz.prog 4 [.slice A n c] [] [TabA, Rd 1 A n (l.flatMap encS)] Unit (fun _ => .bool true) (fun _ => True) (fun _ => []) := by
 have TG := fun bx => greatOne 0 A l n c bx hn
 have TN : Triple Tryz.prog 11 [.int .i64 100] [] [] Nat (fun p => .tuple #[.pointer (some ⟨p, 0, none⟩), .int .i64 0]) (fun _ => True) (fun p => [DiskM p ⟨100, 0, false, [], none, []⟩]) := newM 100 (by decide) (by decide)
 have hD : okD ⟨100, 0, false, [], none, []⟩ := new_ok (by decide) (by decide)
 obtain ⟨D0, hD0⟩ : ∃ D0 : DK, D0 = ⟨100, 0, false, [], none, []⟩ := ⟨_, rfl⟩
 rw [← hD0] at TN hD
 have hc : (crashD D0 []).2 = 0 := by rw [hD0]; rfl
 have hcd : (crashD D0 []).1.down = true := by rw [hD0]; rfl
 have TC := fun q => crashM q D0 none 0 0 [] hD rfl
 have hD1 := crash_ok hD []
 rw [hc] at TC
 obtain ⟨D1, hD1e⟩ : ∃ D1, D1 = (crashD D0 []).1 := ⟨_, rfl⟩
 rw [← hD1e] at TC hD1 hcd
 have TO := fun q => openDown q D1 hD1 hcd
 have TW := worksT
 refine triple_intro Tryz.tbs_ok Tryz.func4 rfl [.va (.slice A n c)] [] ⟨trivial, trivial⟩ rfl (by simp) ?_
 intro E
 refine go_fact (Rd 1 none 0 (([] : List Int).flatMap encN)) (fun h => Rd.nil _ _ h) ?_
 refine go Tryz.tbs_ok 1000 ?_
 refine ev_new fun b0 => ?_
 refine ev_callF (TG (b0)) [] [.inr 1, .inl 1] rfl rfl (by decide) rfl (by simp) (fun _ => (by repeat (first | exact trivial | refine ⟨rfl, ?_⟩))) (fun x1 h2 => ?_)
 refine go Tryz.tbs_ok 1000 ?_
 refine ev_if (fun h3 => ?_) (fun h3 => ?_)
 refine go Tryz.tbs_ok 1000 ?_
 refine ev_fin ⟨trivial, _, rfl, (()), rfl, (by trivial), Frm.nil _⟩
 refine go Tryz.tbs_ok 1000 ?_
 refine ev_stop (go_rounds 3 ?_)
 refine go Tryz.tbs_ok 1000 ?_
 refine ev_if_yes rfl ?_
 refine go Tryz.tbs_ok 1000 ?_
 refine ev_if_no rfl ?_
 refine go Tryz.tbs_ok 1000 ?_
 refine ev_callF (nilOpen ) [] [] rfl rfl (by decide) rfl (by simp) (fun _ => (by repeat (first | exact trivial | refine ⟨rfl, ?_⟩))) (fun _ h20 => ?_)
 refine go Tryz.tbs_ok 1000 ?_
 refine ev_callF (nilApp (A) (n) (c)) [] [] rfl rfl (by decide) rfl (by simp) (fun _ => (by repeat (first | exact trivial | refine ⟨rfl, ?_⟩))) (fun _ h21 => ?_)
 refine go Tryz.tbs_ok 1000 ?_
 refine ev_if_no rfl ?_
 refine go Tryz.tbs_ok 1000 ?_
 refine ev_callF (nilSync ) [] [] rfl rfl (by decide) rfl (by simp) (fun _ => (by repeat (first | exact trivial | refine ⟨rfl, ?_⟩))) (fun _ h22 => ?_)
 refine go Tryz.tbs_ok 1000 ?_
 refine ev_if_no rfl ?_
 refine go Tryz.tbs_ok 1000 ?_
 refine ev_callF (nilCk (A) (n) (c)) [] [] rfl rfl (by decide) rfl (by simp) (fun _ => (by repeat (first | exact trivial | refine ⟨rfl, ?_⟩))) (fun _ h23 => ?_)
 refine go Tryz.tbs_ok 1000 ?_
 refine ev_if_no rfl ?_
 refine go Tryz.tbs_ok 1000 ?_
 refine ev_callF (nilSegs ) [] [] rfl rfl (by decide) rfl (by simp) (fun _ => (by repeat (first | exact trivial | refine ⟨rfl, ?_⟩))) (fun _ h24 => ?_)
 refine go Tryz.tbs_ok 1000 ?_
 refine ev_if_no rfl ?_
 refine go Tryz.tbs_ok 1000 ?_
 refine ev_callF (nilSize ) [] [] rfl rfl (by decide) rfl (by simp) (fun _ => (by repeat (first | exact trivial | refine ⟨rfl, ?_⟩))) (fun _ h25 => ?_)
 refine go Tryz.tbs_ok 1000 ?_
 refine ev_if_no rfl ?_
 refine go Tryz.tbs_ok 1000 ?_
 refine ev_if_no rfl ?_
 refine go Tryz.tbs_ok 1000 ?_
 refine ev_if_no rfl ?_
 refine go Tryz.tbs_ok 1000 ?_
 refine ev_wrapN (0 + 1) (by constructor <;> omega) (by rfl) ?_
 refine ev_fin (go Tryz.tbs_ok 1000 ?_)
 refine ev_if_yes rfl ?_
 refine go Tryz.tbs_ok 1000 ?_
 refine ev_if_yes rfl ?_
 refine go Tryz.tbs_ok 1000 ?_
 refine ev_new fun b26 => ?_
 refine ev_new fun b27 => ?_
 refine ev_call (zeroOpen (b27)) [3] [] (fun v0_ => [.box (b27) 52 [.va (Value.int IntKind.i64 0), .va (Value.int IntKind.i64 0), .bl false, .va (Value.slice none 0 0), .va (Value.nilFunc), .va (Value.slice none 0 0)]]) rfl rfl (by decide) rfl (by simp) (fun _ => rfl) (fun _ => (newsOk_box (by simp [SV.good, SV.goodL]) (newsOk_nil _))) (fun _ => (by repeat (first | exact trivial | refine ⟨rfl, ?_⟩))) (fun _ h28 => ?_)
 refine go Tryz.tbs_ok 1000 ?_
 refine ev_call (zeroApp (b26) (A) (n) (c)) [2] [] (fun v0_ => [.box (b26) 49 [.va (Value.pointer none), .va (Value.int IntKind.i64 0), .bl false, .va (Value.int IntKind.i64 0), .va (Value.int IntKind.i64 0)]]) rfl rfl (by decide) rfl (by simp) (fun _ => rfl) (fun _ => (newsOk_box (by simp [SV.good, SV.goodL]) (newsOk_nil _))) (fun _ => (by repeat (first | exact trivial | refine ⟨rfl, ?_⟩))) (fun _ h29 => ?_)
 refine go Tryz.tbs_ok 1000 ?_
 refine ev_if_no rfl ?_
 refine go Tryz.tbs_ok 1000 ?_
 refine ev_call (zeroSync (b26)) [2] [] (fun v0_ => [.box (b26) 49 [.va (Value.pointer none), .va (Value.int IntKind.i64 0), .bl false, .va (Value.int IntKind.i64 0), .va (Value.int IntKind.i64 0)]]) rfl rfl (by decide) rfl (by simp) (fun _ => rfl) (fun _ => (newsOk_box (by simp [SV.good, SV.goodL]) (newsOk_nil _))) (fun _ => (by repeat (first | exact trivial | refine ⟨rfl, ?_⟩))) (fun _ h30 => ?_)
 refine go Tryz.tbs_ok 1000 ?_
 refine ev_if_no rfl ?_
 refine go Tryz.tbs_ok 1000 ?_
 refine ev_call (zeroCk (b26) (A) (n) (c)) [2] [] (fun v0_ => [.box (b26) 49 [.va (Value.pointer none), .va (Value.int IntKind.i64 0), .bl false, .va (Value.int IntKind.i64 0), .va (Value.int IntKind.i64 0)]]) rfl rfl (by decide) rfl (by simp) (fun _ => rfl) (fun _ => (newsOk_box (by simp [SV.good, SV.goodL]) (newsOk_nil _))) (fun _ => (by repeat (first | exact trivial | refine ⟨rfl, ?_⟩))) (fun _ h31 => ?_)
 refine go Tryz.tbs_ok 1000 ?_
 refine ev_if_no rfl ?_
 refine go Tryz.tbs_ok 1000 ?_
 refine ev_call (zeroSegs (b26)) [2] [] (fun v0_ => [.box (b26) 49 [.va (Value.pointer none), .va (Value.int IntKind.i64 0), .bl false, .va (Value.int IntKind.i64 0), .va (Value.int IntKind.i64 0)]]) rfl rfl (by decide) rfl (by simp) (fun _ => rfl) (fun _ => (newsOk_box (by simp [SV.good, SV.goodL]) (newsOk_nil _))) (fun _ => (by repeat (first | exact trivial | refine ⟨rfl, ?_⟩))) (fun _ h32 => ?_)
 refine go Tryz.tbs_ok 1000 ?_
 refine ev_if_no rfl ?_
 refine go Tryz.tbs_ok 1000 ?_
 refine ev_call (zeroSize (b26)) [2] [] (fun v0_ => [.box (b26) 49 [.va (Value.pointer none), .va (Value.int IntKind.i64 0), .bl false, .va (Value.int IntKind.i64 0), .va (Value.int IntKind.i64 0)]]) rfl rfl (by decide) rfl (by simp) (fun _ => rfl) (fun _ => (newsOk_box (by simp [SV.good, SV.goodL]) (newsOk_nil _))) (fun _ => (by repeat (first | exact trivial | refine ⟨rfl, ?_⟩))) (fun _ h33 => ?_)
 refine go Tryz.tbs_ok 1000 ?_
 refine ev_if_no rfl ?_
 refine go Tryz.tbs_ok 1000 ?_
 refine ev_if_no rfl ?_
 refine go Tryz.tbs_ok 1000 ?_
 refine ev_if_no rfl ?_
 refine go Tryz.tbs_ok 1000 ?_
 refine ev_wrapN (0 + 1 + 1) (by constructor <;> omega) (by rfl) ?_
 refine ev_fin (go Tryz.tbs_ok 1000 ?_)
 refine ev_if_no rfl ?_
 refine go Tryz.tbs_ok 1000 ?_
 refine ev_fin (go Tryz.tbs_ok 1000 ?_)
 refine ev_callF (TN ) [] [] rfl rfl (by decide) rfl (by simp) (fun _ => (by repeat (first | exact trivial | refine ⟨rfl, ?_⟩))) (fun x34 h35 => ?_)
 refine go Tryz.tbs_ok 1000 ?_
 refine ev_if_no rfl ?_
 refine go Tryz.tbs_ok 1000 ?_
 refine ev_callF (TC (x34)) [4] [.inr 0] rfl rfl (by decide) rfl (by simp) (fun _ => (by repeat (first | exact trivial | refine ⟨rfl, ?_⟩))) (fun _ h36 => ?_)
 refine go Tryz.tbs_ok 1000 ?_
 refine ev_if_no rfl ?_
 refine go Tryz.tbs_ok 1000 ?_
 refine ev_callF (TO (x34)) [4] [.inl 0] rfl rfl (by decide) rfl (by simp) (fun _ => (by repeat (first | exact trivial | refine ⟨rfl, ?_⟩))) (fun _ h37 => ?_)
 refine go Tryz.tbs_ok 1000 ?_
 refine ev_if_yes rfl ?_
 refine go Tryz.tbs_ok 1000 ?_
 refine ev_if_yes rfl ?_
 refine go Tryz.tbs_ok 1000 ?_
 refine ev_callF (TW ) [] [.inl 0] rfl rfl (by decide) rfl (by simp) (fun _ => (by repeat (first | exact trivial | refine ⟨rfl, ?_⟩))) (fun _ h38 => ?_)
 refine go Tryz.tbs_ok 1000 ?_
 refine ev_fin ⟨trivial, _, rfl, (()), rfl, (by trivial), Frm.nil _⟩
end Go.Proofs.YtjlfdfmkofbccaaGreatDoor
namespace Go.Proofs.YtjlfdfmkofbccaaGreatDoor
open Go.Sy Go.RowKit Go.ChangeShapes Go.WideShapes
set_option maxRecDepth 100000 in
theorem walNone_lifted (os : Os) (started : os.Started) (H : Type) (enc : TypeId × Value → H) :
 ReturnsInHanded {} Tryz.checked os 4 .any (fun w args => (Rows.walNoneSpec.pre enc Tryz.prog Tryz.f4 Rows.walNoneRow.domain Rows.walNoneRow.apart w args ∧ laidMetH Tryz.prog Rows.walNoneRow.laid w) ∧ sizedMet enc Tryz.prog Tryz.f4 (OpenSpec.ofChange Rows.walNoneSpec) Rows.walNoneRow.apart w args) (Rows.walNoneSpec.post enc Tryz.prog Tryz.f4 Rows.walNoneRow.apart Rows.walNoneRow.fresh Rows.walNoneRow.handsOn Rows.walNoneRow.again) := by
 refine returnsInHanded_of_change_and (C := Tryz.checked) (X := fun w _ => laidMetH Tryz.prog Rows.walNoneRow.laid w) (fun _ _ _ hh h => h.of_heap hh) Tryz.own started (by kernel_rfl) Tryz.func4
  (ChangeSpec.witness_shaped (enc := enc) (C := Tryz.checked) (os := os) (X := fun w _ => laidMetH Tryz.prog Rows.walNoneRow.laid w) false (World.doorLaid Tryz.prog 400 os) #[.slice none 0 0] 8 rfl (World.shaped_of_RefB (by kernel_rfl) (by kernel_rfl)) (by kernel_rfl) (by kernel_rfl) (by kernel_rfl) (door_met os _)) ?_
 intro W base args ds gs before hval0 hW hcnd _ hL _
 have htab := tab_of hL
 have hval : ∀ (j : Nat) t v, Tryz.f4.params[j]? = some t → args[j]? = some v → Value.okWide Tryz.prog W .any base t v := hval0
 obtain ⟨p, q, hA0, hV, _, _, _⟩ := id hW
 have hA : DataW.TrodAll enc Tryz.prog W 0 (fun _ => true) true Tryz.f4.params.toList args.toList ds p := hA0
 clear hval0 hA0
 obtain ⟨rfl, _⟩ := trodVars_none hV
 have hpar : Tryz.f4.params = #[30] := by kernel_rfl
 rw [hpar] at hA hval
 obtain ⟨v0, d0, rfl, rfl, fuel0, hf0⟩ := trodAll_one hA
 obtain ⟨A0, n0, c0, rfl⟩ := okWide_slice (P := Tryz.prog) (t := 30) (e := 9) (by kernel_rfl) (hval 0 _ _ rfl rfl)
 obtain ⟨A0', n0', c0', l0, hl0, hln0, hc0, hm0, hr0, hg0⟩ := list_of_sees (F := 0 + 1) (t := 30) (el := 9) (enc := encS) (G := fun x => x.size ≤ maxLen) rfl rfl (by decide) encS_len (fun _ => rfl) (fun vs hl h => str_dec hl h) (sees_of_trod Tryz.tbs_ok.tab 2 fuel0 _ _ _ hf0)
 cases hl0
 refine (walNone A0 l0 n0 c0 hln0.symm W Hp.emp (hp W) (Hp.emp_le _) (Hp.le_refl _) (Hp.emp_dis _) trivial (fun X hX => ?_)).mono fun e W' ⟨_, _, he, _, _, _, hext, _⟩ => ?_
 · simp only [List.mem_cons, List.not_mem_nil, or_false] at hX
   rcases hX with rfl | rfl
   · exact htab
   · exact hr0
 · exact ⟨.bool true, he, post_true Tryz.laidOut (by kernel_rfl) rfl (rt := 4) (by kernel_rfl) (by kernel_rfl) hW hext.below rfl rfl rfl⟩
theorem walNone_holds : Rows.WalNoneSaid :=
 OpenClaim.holds_of_wide 4 Tryz.f4 rfl rfl rfl rfl rfl rfl rfl ⟨rfl, rfl, rfl, rfl, rfl⟩ rfl rfl rfl rfl rfl (by kernel_rfl) Tryz.func4 (by kernel_rfl)
  (of_decide_eq_true (by kernel_rfl)) (by unfold Func.isWrapper; rw [if_neg (by decide +kernel)]; exact ⟨rfl, rfl⟩)
  (fun os started H enc _ => walNone_lifted os started H enc)
set_option maxRecDepth 100000 in
theorem walNone_card : Rows.WalNoneCardSaid :=
 Claim7.holds_tied_plain_at .later [] [.data, .data, .data] true Rows.walNoneCard.stood.harness false
  walNone_holds (fun _ h => by cases h) (by kernel_rfl) (fun _ h => by cases h) walNone_row_tie rfl ⟨rfl, rfl⟩ (by kernel_rfl) rfl
  (fun f fn hf hfn => by
   obtain rfl : f = 4 := (Option.some.inj ((show Tryz.prog.funcNamed Rows.walNoneRow.func = some 4 by kernel_rfl).symm.trans hf)).symm
   obtain rfl : fn = Tryz.f4 := (Option.some.inj (Tryz.func4.symm.trans hfn)).symm
   refine ⟨by kernel_rfl, fun j t ht => ?_⟩
   have hpar : Tryz.f4.params = #[30] := by kernel_rfl
   rw [hpar] at ht
   have hm : t ∈ [30] := by
    rw [show (#[30] : Array TypeId)[j]? = ([30] : List TypeId)[j]? from by simp] at ht
    exact List.mem_of_getElem? ht
   simp only [List.mem_cons, List.not_mem_nil, or_false] at hm
   rcases hm with rfl
   exact (show Tryz.prog.wantsStandIn 30 = false by kernel_rfl))
  (by kernel_rfl)
end Go.Proofs.YtjlfdfmkofbccaaGreatDoor
