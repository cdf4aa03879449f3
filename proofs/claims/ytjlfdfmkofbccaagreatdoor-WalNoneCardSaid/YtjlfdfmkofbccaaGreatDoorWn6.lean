/-
  What is proved: the texts of this claim, part 6 of 6, each text behind the other. Conditions: none.
-/
import Derived.Carry
import Derived.ChangeSame
import Derived.JoinedOf
import Derived.JoinedAt
import Derived.ChangeArms
import Derived.WideKeyArr2
import Derived.Test.YtjlfdfmkofbccaaGreatDoorCards
import Derived.Test.YtjlfdfmkofbccaaGreatDoorTie
import Derived.SevenTiedAt
import Derived.LaidLaws
import Derived.LaidMore
import Derived.Lib.LaidTab
import Derived.Stop.LaidErr
import Derived.OpenShut
import Derived.ChangeMaps5
import Derived.Test.YtjlfdfmkofbccaaGreatDoorWn5
namespace Go.Proofs.YtjlfdfmkofbccaaGreatDoor
open Go.Sy
theorem appLit (p q : Nat) {W W' : WK} {D D' : DK} {e : Int} (ps : List ByteArray) (bx n : Nat) (vs : List Value) (hvs : vs = ps.flatMap encS) (hn : n = ps.length) (h1 : n ≤ 10000) (h2 : ∀ p ∈ ps, p.size ≤ 900000000) (hD : okD D) (hW : okW W) (h : appW W D ps = (W', D', e)) :
    Triple Tryz.prog 19 [.pointer (some ⟨p, 0, none⟩), .slice (some ⟨bx, 0, none⟩) n n] [WalM p q W, DiskM q D] [TabA, Pt bx 9 vs] Unit (fun _ => .int .i64 e) (fun _ => True) (fun _ => [WalM p q W', DiskM q D']) := by
  have := (appWT p q W D (some ⟨bx, 0, none⟩) ps n n hn h1 h2 hD hW).reads (N' := [TabA, Pt bx 9 vs]) (fun X hX => by
    simp only [List.mem_cons, List.not_mem_nil, or_false] at hX
    rcases hX with rfl | rfl
    · exact ⟨_, List.mem_cons_self, fun _ q => q⟩
    · exact ⟨_, List.mem_cons_of_mem _ List.mem_cons_self, fun _ q => by rw [← hvs]; exact Pt.rd q (by rw [hvs, flat_len encS_len, hn])⟩)
  rw [h] at this
  exact this
theorem ckLit (p q : Nat) {W W' : WK} {D D' : DK} {e : Int} (ps : List ByteArray) (bx n : Nat) (vs : List Value) (hvs : vs = ps.flatMap encS) (hn : n = ps.length) (h1 : n ≤ 10000) (h2 : ∀ p ∈ ps, p.size ≤ 900000000) (hD : okD D) (hW : okW W) (h : ckW W D ps = (W', D', e)) :
    Triple Tryz.prog 21 [.pointer (some ⟨p, 0, none⟩), .slice (some ⟨bx, 0, none⟩) n n] [WalM p q W, DiskM q D] [TabA, Pt bx 9 vs] Unit (fun _ => .int .i64 e) (fun _ => True) (fun _ => [WalM p q W', DiskM q D']) := by
  have := (ckWT p q W D (some ⟨bx, 0, none⟩) ps n n hn h1 h2 hD hW).reads (N' := [TabA, Pt bx 9 vs]) (fun X hX => by
    simp only [List.mem_cons, List.not_mem_nil, or_false] at hX
    rcases hX with rfl | rfl
    · exact ⟨_, List.mem_cons_self, fun _ q => q⟩
    · exact ⟨_, List.mem_cons_of_mem _ List.mem_cons_self, fun _ q => by rw [← hvs]; exact Pt.rd q (by rw [hvs, flat_len encS_len, hn])⟩)
  rw [h] at this
  exact this
theorem openLit (q : Nat) {D D' : DK} {W : WK} {l : List ByteArray} (hD : okD D) (h : openD D = (D', 0, W, l)) :
    Triple Tryz.prog 12 [.pointer (some ⟨q, 0, none⟩)] [DiskM q D] [TabA] (Nat × Option Addr × Nat) (fun (p, C, c) => .tuple #[.pointer (some ⟨p, 0, none⟩), .slice C l.length c, .int .i64 0]) (fun _ => True) (fun (p, C, c) => [WalM p q W, DiskM q D', Row 9 1 C l.length c (l.flatMap encS)]) := by
  have := openOk q D hD (by rw [h])
  rw [h] at this
  exact this
theorem sameLit (A : Option Addr) (L M : List ByteArray) (m c n bx : Nat) (vs : List Value) (hvs : vs = M.flatMap encS) (hm : m = L.length) (hn : n = M.length) (h1 : m ≤ 1000000) (b : Bool) (hb : b = decide (L = M)) :
    Triple Tryz.prog 24 [.slice A m c, .slice (some ⟨bx, 0, none⟩) n n] [] [Row 9 1 A m c (L.flatMap encS), Pt bx 9 vs] Unit (fun _ => .bool b) (fun _ => True) (fun _ => []) := by
  rw [hb]
  exact (sameTexts A (some ⟨bx, 0, none⟩) L M m c n n hm hn h1).reads (fun X hX => by
    simp only [List.mem_cons, List.not_mem_nil, or_false] at hX
    rcases hX with rfl | rfl
    · exact ⟨_, List.mem_cons_self, fun _ q => Row.rd q⟩
    · exact ⟨_, List.mem_cons_of_mem _ List.mem_cons_self, fun _ q => by rw [← hvs]; exact Pt.rd q (by rw [hvs, flat_len encS_len, hn])⟩)
theorem tiny_le {ps : List ByteArray} (h : ps.all (fun p => decide (p.size ≤ 8192)) = true) : ∀ p ∈ ps, p.size ≤ 900000000 := fun p hp => Nat.le_trans (small_of h p hp) (by decide)
set_option maxHeartbeats 8000000 in
set_option maxRecDepth 100000 in
theorem worksT : Triple Tryz.prog 18 [] [] [TabA] Unit (fun _ => .bool true) (fun _ => True) (fun _ => []) := by
  obtain ⟨D1, D2, D3, D4, D5, D6, D7, D8, D9, D10, ⟨o0, o1, o2, o3, o4, o5, o6, o7, o8, o9, o10⟩, e0, e1, e2, e3, e4, e5, s4, e6, e7, e8, e9, e10, e11, e12, e13, e14⟩ := works_chain
  have T0 : Triple Tryz.prog 11 [.int .i64 50000] [] [] Nat (fun p => .tuple #[.pointer (some ⟨p, 0, none⟩), .int .i64 0]) (fun _ => True) (fun p => [DiskM p D0_]) := newM 50000 (by decide) (by decide)
  have T1 := fun q => openLit q o0 e0
  have T2 : ∀ p q bx, Triple Tryz.prog 19 [.pointer (some ⟨p, 0, none⟩), .slice (some ⟨bx, 0, none⟩) 2 2] [WalM p q W0_, DiskM q D0_] [TabA, Pt bx 9 [.string ⟨#[97]⟩, .string ⟨#[98]⟩]] Unit (fun _ => .int .i64 0) (fun _ => True) (fun _ => [WalM p q W1_, DiskM q D1]) := fun p q bx => appLit p q [ch 97, ch 98] bx 2 _ rfl rfl (by decide) (tiny_le (by decide)) o0 (by unfold okW; decide) e1
  have T3 : ∀ p q, Triple Tryz.prog 20 [.pointer (some ⟨p, 0, none⟩)] [WalM p q W1_, DiskM q D1] [TabA] Unit (fun _ => .int .i64 0) (fun _ => True) (fun _ => [WalM p q W1_, DiskM q D2]) := fun p q => by
    have := syncWT p q W1_ D1 o1 (by unfold okW; decide)
    rw [e2] at this
    exact this
  have T4 : ∀ p q bx, Triple Tryz.prog 19 [.pointer (some ⟨p, 0, none⟩), .slice (some ⟨bx, 0, none⟩) 1 1] [WalM p q W1_, DiskM q D2] [TabA, Pt bx 9 [.string ⟨#[99]⟩]] Unit (fun _ => .int .i64 0) (fun _ => True) (fun _ => [WalM p q W1_, DiskM q D3]) := fun p q bx => appLit p q [ch 99] bx 1 _ rfl rfl (by decide) (tiny_le (by decide)) o2 (by unfold okW; decide) e3
  have T5 : ∀ q bx, Triple Tryz.prog 13 [.pointer (some ⟨q, 0, none⟩), .slice (some ⟨bx, 0, none⟩) 1 1] [DiskM q D3] [Pt bx 3 [.int .i64 3]] Unit (fun _ => .int .i64 0) (fun _ => True) (fun _ => [DiskM q D4]) := fun q bx => by
    have := (crashM q D3 (some ⟨bx, 0, none⟩) 1 1 [3] o3 rfl).reads (N' := [Pt bx 3 [.int .i64 3]]) (fun X hX => ⟨_, List.mem_cons_self, fun _ q => by rw [List.mem_singleton.1 hX]; exact Pt.rd q rfl⟩)
    rw [e4] at this
    exact this
  have T6 : ∀ q, Triple Tryz.prog 14 [.pointer (some ⟨q, 0, none⟩)] [DiskM q D4] [] Unit (fun _ => .int .i64 0) (fun _ => True) (fun _ => [DiskM q D5]) := fun q => by
    have := startM q D4 o4 (by rw [s4]; decide) (by rw [s4]; decide)
    rw [e5] at this
    exact this
  have T7 : ∀ p q bx, Triple Tryz.prog 19 [.pointer (some ⟨p, 0, none⟩), .slice (some ⟨bx, 0, none⟩) 1 1] [WalM p q W1_, DiskM q D5] [TabA, Pt bx 9 [.string ⟨#[100]⟩]] Unit (fun _ => .int .i64 41) (fun _ => True) (fun _ => [WalM p q W1_, DiskM q D5]) := fun p q bx => appLit p q [ch 100] bx 1 _ rfl rfl (by decide) (tiny_le (by decide)) o5 (by unfold okW; decide) e6
  have T8 := fun q => openLit q o5 e7
  have T9 : ∀ A c bx, Triple Tryz.prog 24 [.slice A 2 c, .slice (some ⟨bx, 0, none⟩) 2 2] [] [Row 9 1 A 2 c ([ch 97, ch 98].flatMap encS), Pt bx 9 [.string ⟨#[97]⟩, .string ⟨#[98]⟩]] Unit (fun _ => .bool true) (fun _ => True) (fun _ => []) := fun A c bx => sameLit A [ch 97, ch 98] [ch 97, ch 98] 2 c 2 bx _ rfl rfl rfl (by decide) true (decide_eq_true rfl).symm
  have T10 : ∀ p q bx, Triple Tryz.prog 19 [.pointer (some ⟨p, 0, none⟩), .slice (some ⟨bx, 0, none⟩) 2 2] [WalM p q W6_, DiskM q D6] [TabA, Pt bx 9 [.string z8, .string z8]] Unit (fun _ => .int .i64 0) (fun _ => True) (fun _ => [WalM p q W6_, DiskM q D7]) := fun p q bx => appLit p q [z8, z8] bx 2 _ rfl rfl (by decide) (fun p hp => by
    simp only [List.mem_cons, List.not_mem_nil, or_false, or_self] at hp
    rw [hp, z8_size]
    decide) o6 (by unfold okW; decide) e8
  have T11 : ∀ p q bx, Triple Tryz.prog 19 [.pointer (some ⟨p, 0, none⟩), .slice (some ⟨bx, 0, none⟩) 1 1] [WalM p q W6_, DiskM q D7] [TabA, Pt bx 9 [.string ⟨#[101]⟩]] Unit (fun _ => .int .i64 0) (fun _ => True) (fun _ => [WalM p q W8_, DiskM q D8]) := fun p q bx => appLit p q [ch 101] bx 1 _ rfl rfl (by decide) (tiny_le (by decide)) o7 (by unfold okW; decide) e9
  have T12 : ∀ p q, Triple Tryz.prog 22 [.pointer (some ⟨p, 0, none⟩)] [WalM p q W8_, DiskM q D8] [TabA] Unit (fun _ => .int .i64 2) (fun _ => True) (fun _ => [WalM p q W8_, DiskM q D8]) := fun p q => by
    have := segsWT p q W8_ D8 o8 (by unfold okW; decide)
    rw [e10] at this
    exact this
  have T13 : ∀ p q bx, Triple Tryz.prog 21 [.pointer (some ⟨p, 0, none⟩), .slice (some ⟨bx, 0, none⟩) 1 1] [WalM p q W8_, DiskM q D8] [TabA, Pt bx 9 [.string ⟨#[120]⟩]] Unit (fun _ => .int .i64 0) (fun _ => True) (fun _ => [WalM p q W9_, DiskM q D9]) := fun p q bx => ckLit p q [ch 120] bx 1 _ rfl rfl (by decide) (tiny_le (by decide)) o8 (by unfold okW; decide) e11
  have T14 : ∀ p q bx, Triple Tryz.prog 19 [.pointer (some ⟨p, 0, none⟩), .slice (some ⟨bx, 0, none⟩) 1 1] [WalM p q W9_, DiskM q D9] [TabA, Pt bx 9 [.string ⟨#[121]⟩]] Unit (fun _ => .int .i64 0) (fun _ => True) (fun _ => [WalM p q W10_, DiskM q D10]) := fun p q bx => appLit p q [ch 121] bx 1 _ rfl rfl (by decide) (tiny_le (by decide)) o9 (by unfold okW; decide) e12
  have T15 := fun q => openLit q o10 e13
  have T16 : ∀ q, Triple Tryz.prog 26 [.pointer (some ⟨q, 0, none⟩)] [DiskM q D10] [] (Option Addr × Nat) (fun (C, e) => .slice C 2 e) (fun _ => True) (fun (C, e) => [DiskM q D10, Row 9 1 C 2 e ([⟨#[99, 51]⟩, ⟨#[115, 52]⟩].flatMap encS)]) := fun q => by
    have := namesM q D10 o10
    have hl : D10.files.length = 2 := by
      have h2 := congrArg List.length e14
      unfold namesD at h2
      rwa [List.length_map] at h2
    unfold namesD at e14
    rw [e14, hl] at this
    exact this
  have T17 : ∀ A c bx, Triple Tryz.prog 24 [.slice A 2 c, .slice (some ⟨bx, 0, none⟩) 2 2] [] [Row 9 1 A 2 c (([⟨#[99, 51]⟩, ⟨#[115, 52]⟩] : List ByteArray).flatMap encS), Pt bx 9 [.string ⟨#[99, 51]⟩, .string ⟨#[115, 52]⟩]] Unit (fun _ => .bool true) (fun _ => True) (fun _ => []) := fun A c bx => sameLit A [⟨#[99, 51]⟩, ⟨#[115, 52]⟩] [⟨#[99, 51]⟩, ⟨#[115, 52]⟩] 2 c 2 bx _ rfl rfl rfl (by decide) true (decide_eq_true rfl).symm
  have T18 : ∀ A c bx, Triple Tryz.prog 24 [.slice A 2 c, .slice (some ⟨bx, 0, none⟩) 2 2] [] [Row 9 1 A 2 c ([ch 120, ch 121].flatMap encS), Pt bx 9 [.string ⟨#[120]⟩, .string ⟨#[121]⟩]] Unit (fun _ => .bool true) (fun _ => True) (fun _ => []) := fun A c bx => sameLit A [ch 120, ch 121] [ch 120, ch 121] 2 c 2 bx _ rfl rfl rfl (by decide) true (decide_eq_true rfl).symm
  obtain ⟨zl, hzl⟩ : ∃ zl : List UInt8, zl = List.replicate 8192 0 := ⟨_, rfl⟩
  have hz8 : z8 = ⟨zl.toArray⟩ := by rw [hzl]; rfl
  rw [hz8] at T10
  have hlz : 8192 = zl.length := by rw [hzl, List.length_replicate]
  refine triple_intro Tryz.tbs_ok Tryz.func18 rfl [] [] trivial rfl (by simp) ?_
  intro E
  refine go Tryz.tbs_ok 1000 ?_
  refine ev_callF (T0 ) [] [] rfl rfl (by decide) rfl (by simp) (fun _ => (by repeat (first | exact trivial | refine ⟨rfl, ?_⟩))) (fun x0 h1 => ?_)
  refine go Tryz.tbs_ok 1000 ?_
  refine ev_callF (T1 (x0)) [0] [.inl 0] rfl rfl (by decide) rfl (by simp) (fun _ => (by repeat (first | exact trivial | refine ⟨rfl, ?_⟩))) (fun ⟨x2, x3, x4⟩ h5 => ?_)
  refine go Tryz.tbs_ok 1000 ?_
  refine ev_if_no rfl ?_
  refine go Tryz.tbs_ok 1000 ?_
  refine ev_if_no rfl ?_
  refine go Tryz.tbs_ok 1000 ?_
  refine ev_if_no rfl ?_
  refine go Tryz.tbs_ok 1000 ?_
  refine ev_new fun b6 => ?_
  refine ev_callF (T2 (x2) (x0) (b6)) [0, 1] [.inl 0, .inr 3] rfl rfl (by decide) rfl (by simp) (fun _ => (by repeat (first | exact trivial | refine ⟨rfl, ?_⟩))) (fun _ h7 => ?_)
  refine go Tryz.tbs_ok 1000 ?_
  refine ev_callF (T3 (x2) (x0)) [0, 1] [.inl 0] rfl rfl (by decide) rfl (by simp) (fun _ => (by repeat (first | exact trivial | refine ⟨rfl, ?_⟩))) (fun _ h8 => ?_)
  refine go Tryz.tbs_ok 1000 ?_
  refine ev_new fun b9 => ?_
  refine ev_callF (T4 (x2) (x0) (b9)) [0, 1] [.inl 0, .inr 4] rfl rfl (by decide) rfl (by simp) (fun _ => (by repeat (first | exact trivial | refine ⟨rfl, ?_⟩))) (fun _ h10 => ?_)
  refine go Tryz.tbs_ok 1000 ?_
  refine ev_new fun b11 => ?_
  refine ev_callF (T5 (x0) (b11)) [1] [.inr 5] rfl rfl (by decide) rfl (by simp) (fun _ => (by repeat (first | exact trivial | refine ⟨rfl, ?_⟩))) (fun _ h12 => ?_)
  refine go Tryz.tbs_ok 1000 ?_
  refine ev_callF (T6 (x0)) [1] [] rfl rfl (by decide) rfl (by simp) (fun _ => (by repeat (first | exact trivial | refine ⟨rfl, ?_⟩))) (fun _ h13 => ?_)
  refine go Tryz.tbs_ok 1000 ?_
  refine ev_new fun b14 => ?_
  refine ev_callF (T7 (x2) (x0) (b14)) [0, 1] [.inl 0, .inr 6] rfl rfl (by decide) rfl (by simp) (fun _ => (by repeat (first | exact trivial | refine ⟨rfl, ?_⟩))) (fun _ h15 => ?_)
  refine go Tryz.tbs_ok 1000 ?_
  refine ev_callF (T8 (x0)) [1] [.inl 0] rfl rfl (by decide) rfl (by simp) (fun _ => (by repeat (first | exact trivial | refine ⟨rfl, ?_⟩))) (fun ⟨x16, x17, x18⟩ h19 => ?_)
  refine go Tryz.tbs_ok 1000 ?_
  refine ev_if_no rfl ?_
  refine go Tryz.tbs_ok 1000 ?_
  refine ev_if_no rfl ?_
  refine go Tryz.tbs_ok 1000 ?_
  refine ev_if_no rfl ?_
  refine go Tryz.tbs_ok 1000 ?_
  refine ev_if_no rfl ?_
  refine go Tryz.tbs_ok 1000 ?_
  refine ev_if_no rfl ?_
  refine go Tryz.tbs_ok 1000 ?_
  refine ev_if_no rfl ?_
  refine go Tryz.tbs_ok 1000 ?_
  refine ev_if_no rfl ?_
  refine go Tryz.tbs_ok 1000 ?_
  refine ev_new fun b20 => ?_
  refine ev_callF (T9 (x17) (x18) (b20)) [] [.inr 8, .inr 9] rfl rfl (by decide) rfl (by simp) (fun _ => (by repeat (first | exact trivial | refine ⟨rfl, ?_⟩))) (fun _ h21 => ?_)
  refine go Tryz.tbs_ok 1000 ?_
  refine ev_if_no rfl ?_
  refine go Tryz.tbs_ok 1000 ?_
  refine ev_stop (go_make (sz := 1) Tryz.tbs_ok (8192) (8192) rfl rfl rfl rfl rfl rfl rfl rfl rfl (by omega) (le_max (by omega)) (le_bytes (by omega) (by decide)) (fun _ => (by repeat (first | exact trivial | refine ⟨rfl, ?_⟩))) (fun b22 => ?_))
  refine go Tryz.tbs_ok 1000 ?_
  have hrep : ((List.replicate 8192 ()).flatMap fun _ => [Value.int .u8 0]) = (List.replicate 8192 (0 : UInt8)).flatMap encC := flat_rep (enc := encC) (z := 0) 8192
  refine go_turn 10 (Row 5 1 (some ⟨b22, 0, none⟩) 8192 8192 ((List.replicate 8192 ()).flatMap fun _ => [.int .u8 0])) (fun _ : Unit => Row 5 1 (some ⟨b22, 0, none⟩) 8192 8192 (zl.flatMap encC)) rfl (fun h p => ⟨(), by rw [hzl, ← hrep]; exact p⟩) (fun _ => ?_)
  refine go Tryz.tbs_ok 1000 ?_
  refine ev_stop (go_stringOf Tryz.tbs_ok (zl) (.inr 10) rfl rfl rfl rfl rfl rfl rfl (by first | rfl | omega | (simp; omega)) (fun _ h => Row.rd h) ?_)
  refine go Tryz.tbs_ok 1000 ?_
  refine ev_new fun b30 => ?_
  refine ev_callF (T10 (x16) (x0) (b30)) [1, 7] [.inl 0, .inr 11] rfl rfl (by decide) rfl (by simp) (fun _ => (by repeat (first | exact trivial | refine ⟨rfl, ?_⟩))) (fun _ h31 => ?_)
  refine go Tryz.tbs_ok 1000 ?_
  refine ev_new fun b32 => ?_
  refine ev_callF (T11 (x16) (x0) (b32)) [1, 7] [.inl 0, .inr 12] rfl rfl (by decide) rfl (by simp) (fun _ => (by repeat (first | exact trivial | refine ⟨rfl, ?_⟩))) (fun _ h33 => ?_)
  refine go Tryz.tbs_ok 1000 ?_
  refine ev_callF (T12 (x16) (x0)) [1, 7] [.inl 0] rfl rfl (by decide) rfl (by simp) (fun _ => (by repeat (first | exact trivial | refine ⟨rfl, ?_⟩))) (fun _ h34 => ?_)
  refine go Tryz.tbs_ok 1000 ?_
  refine ev_new fun b35 => ?_
  refine ev_callF (T13 (x16) (x0) (b35)) [1, 7] [.inl 0, .inr 13] rfl rfl (by decide) rfl (by simp) (fun _ => (by repeat (first | exact trivial | refine ⟨rfl, ?_⟩))) (fun _ h36 => ?_)
  refine go Tryz.tbs_ok 1000 ?_
  refine ev_new fun b37 => ?_
  refine ev_callF (T14 (x16) (x0) (b37)) [1, 7] [.inl 0, .inr 14] rfl rfl (by decide) rfl (by simp) (fun _ => (by repeat (first | exact trivial | refine ⟨rfl, ?_⟩))) (fun _ h38 => ?_)
  refine go Tryz.tbs_ok 1000 ?_
  refine ev_callF (T15 (x0)) [7] [.inl 0] rfl rfl (by decide) rfl (by simp) (fun _ => (by repeat (first | exact trivial | refine ⟨rfl, ?_⟩))) (fun ⟨x39, x40, x41⟩ h42 => ?_)
  refine go Tryz.tbs_ok 1000 ?_
  refine ev_if_yes rfl ?_
  refine go Tryz.tbs_ok 1000 ?_
  refine ev_if_yes rfl ?_
  refine go Tryz.tbs_ok 1000 ?_
  refine ev_if_yes rfl ?_
  refine go Tryz.tbs_ok 1000 ?_
  refine ev_if_yes rfl ?_
  refine go Tryz.tbs_ok 1000 ?_
  refine ev_if_yes rfl ?_
  refine go Tryz.tbs_ok 1000 ?_
  refine ev_callF (T16 (x0)) [15] [] rfl rfl (by decide) rfl (by simp) (fun _ => (by repeat (first | exact trivial | refine ⟨rfl, ?_⟩))) (fun ⟨x43, x44⟩ h45 => ?_)
  refine go Tryz.tbs_ok 1000 ?_
  refine ev_new fun b46 => ?_
  refine ev_callF (T17 (x43) (x44) (b46)) [] [.inr 17, .inr 18] rfl rfl (by decide) rfl (by simp) (fun _ => (by repeat (first | exact trivial | refine ⟨rfl, ?_⟩))) (fun _ h47 => ?_)
  refine go Tryz.tbs_ok 1000 ?_
  refine ev_if_yes rfl ?_
  refine go Tryz.tbs_ok 1000 ?_
  refine ev_if_yes rfl ?_
  refine go Tryz.tbs_ok 1000 ?_
  refine ev_new fun b48 => ?_
  refine ev_callF (T18 (x40) (x41) (b48)) [] [.inr 16, .inr 19] rfl rfl (by decide) rfl (by simp) (fun _ => (by repeat (first | exact trivial | refine ⟨rfl, ?_⟩))) (fun _ h49 => ?_)
  refine go Tryz.tbs_ok 1000 ?_
  refine ev_fin ⟨trivial, _, rfl, (()), rfl, (by trivial), Frm.nil _⟩
end Go.Proofs.YtjlfdfmkofbccaaGreatDoor
namespace Go.Proofs.YtjlfdfmkofbccaaGreatDoor
open Go.Sy
/-- an act -/
structure ActW where
  k : Int
  L : List ByteArray
  A : Option Addr
  c : Nat
  z : Int
  K : List Int
  B : Option Addr
  d : Nat
def encW (x : ActW) : List Value := [.int .u8 x.k, .slice x.A x.L.length x.c, .int .i64 x.z, .slice x.B x.K.length x.d]
def ActW.rdL (x : ActW) : Asn := Rd 1 x.A x.L.length (x.L.flatMap encS)
def ActW.rdK (x : ActW) : Asn := Rd 1 x.B x.K.length (x.K.flatMap encN)
def ActsW (l : List ActW) : Asn := ⟨fun h => ∀ x ∈ l, x.rdL.holds h ∧ x.rdK.holds h, fun e p x hx => ⟨x.rdL.mono e (p x hx).1, x.rdK.mono e (p x hx).2⟩⟩
/-- an act that is not too great -/
structure boundW (x : ActW) : Prop where
  L : x.L.length ≤ 50
  K : x.K.length ≤ 100
  p : ∀ p ∈ x.L, p.size ≤ 60000
set_option maxHeartbeats 4000000 in
set_option maxRecDepth 100000 in
theorem greatW (A : Option Addr) (l : List ActW) (n c : Nat) (hn : n = l.length) (h1 : n ≤ 9223372036854775807) :
    Triple Tryz.prog 10 [.slice A n c] [] [Rd 4 A n (l.flatMap encW), ActsW l] Bool (fun b => .bool b) (fun b => b = false → n ≤ 100 ∧ ∀ x ∈ l, boundW x) (fun _ => []) := by
  refine triple_intro Tryz.tbs_ok Tryz.func10 rfl [.va (.slice A n c)] [] ⟨trivial, trivial⟩ rfl (by simp) ?_
  intro E
  refine go Tryz.tbs_ok 1000 ?_
  refine ev_stop (go_loopR [2, 3, 4, 5, 6, 7, 8, 9, 10, 11, 12, 13, 14, 15, 16, 17, 18, 19, 20, 21, 22, 23, 24, 25, 26, 27, 28, 29, 30, 31, 32, 33, 34, 35, 36, 37, 38, 39, 40, 41, 42, 43, 44, 45] (fun (i, s) => [(3, .va (.int .i64 s)), (4, .va (.int .i64 (i : Nat)))]) (fun _ => []) (fun (i, s) => i ≤ n ∧ (0 ≤ s ∧ s ≤ 60000) ∧ ∀ x ∈ l.take i, boundW x) (fun (i, _) => n - i) ((0, 0) : Nat × Int) ⟨Nat.zero_le _, ⟨by decide, by decide⟩, by simp⟩ ⟨⟨by kernel_rfl, by kernel_rfl⟩, ⟨_, rfl⟩, ⟨_, rfl⟩, by kernel_rfl, by kernel_rfl⟩ (fun x_ h_ => ?_))
  obtain ⟨i, s⟩ := x_
  obtain ⟨hi, hs, h0⟩ := h_
  rcases Nat.lt_or_ge i n with hin | hin
  · have hil : i < l.length := by omega
    obtain ⟨x, hx⟩ : ∃ x, x = l[i] := ⟨_, rfl⟩
    refine go_more 1 (ActsW l) (Rd 1 l[i].A l[i].L.length (l[i].L.flatMap encS)) rfl (fun h p => (p _ (List.getElem_mem hil)).1) ?_
    refine go Tryz.tbs_ok 1000 ?_
    refine ev_if_yes (decide_eq_true (show (↑i : Int) < (↑n : Int) from (by omega))) ?_
    refine go Tryz.tbs_ok 1000 ?_
    refine ev_stop (go_indexE (sz := 4) Tryz.tbs_ok (.inl 0) (i) rfl rfl rfl rfl rfl rfl (by omega) rfl (fun _ h => h) (fun g20 o22 e21 => ?_))
    subst e21
    refine go Tryz.tbs_ok 1000 ?_
    have l23 : i < (l).length := (by omega)
    refine ev_stop (go_loadE Tryz.tbs_ok (.inl 0) (i) 0 rfl rfl rfl rfl (fun _ h => h) (by omega) (fun _ => rfl) (by omega) l23 (by decide) ?_)
    refine go Tryz.tbs_ok 1000 ?_
    refine ev_new fun b24 => ?_
    refine ev_if_lt (fun h25 => ?_) (fun h25 => ?_)
    refine go Tryz.tbs_ok 1000 ?_
    refine ev_fin ⟨trivial, _, rfl, (true), rfl, (by simp [*]), Frm.nil _⟩
    refine go Tryz.tbs_ok 1000 ?_
    refine ev_if_lt (fun h26 => ?_) (fun h26 => ?_)
    refine go Tryz.tbs_ok 1000 ?_
    refine ev_fin ⟨trivial, _, rfl, (true), rfl, (by simp [*]), Frm.nil _⟩
    refine go Tryz.tbs_ok 1000 ?_
    rw [← hx]
    have hK : x.K.length ≤ 100 := by rw [hx]; omega
    have hL : x.L.length ≤ 50 := by rw [hx]; omega
    have hst : ∀ y ∈ l.take (i + 1), y ∈ l.take i ∨ y = x := fun y hy => by
      rw [← List.take_append_getElem hil] at hy
      rcases List.mem_append.1 hy with hy | hy
      · exact .inl hy
      · rw [hx]; exact .inr (List.mem_singleton.1 hy)
    clear hx
    obtain ⟨xk, xL, xA, xc, xz, xK, xB, xd⟩ := x
    simp only at hK hL
    obtain ⟨m, hm⟩ : ∃ m, m = xL.length := ⟨_, rfl⟩
    simp only [← hm]
    refine ev_stop (go_loopR [2, 3, 6, 16, 27, 28, 29, 30, 31, 32, 33, 34, 35, 36, 37, 38, 39, 40, 41, 42, 43, 44, 45] (fun (k, u) => [(3, .va (.int .i64 u)), (6, .va (.int .i64 (k : Nat)))]) (fun _ => []) (fun (k, u) => k ≤ m ∧ (0 ≤ u ∧ u ≤ 60000) ∧ ∀ p ∈ xL.take k, p.size ≤ 60000) (fun (k, _) => m - k) ((0, s) : Nat × Int) ⟨Nat.zero_le _, hs, by simp⟩ ⟨⟨by kernel_rfl, by kernel_rfl⟩, ⟨_, rfl⟩, ⟨_, rfl⟩, by kernel_rfl, by kernel_rfl⟩ (fun x_ h_ => ?_))
    obtain ⟨k, u⟩ := x_
    obtain ⟨hk, hu, hp⟩ := h_
    refine go Tryz.tbs_ok 1000 ?_
    refine ev_if_lt (fun h60 => ?_) (fun h60 => ?_)
    refine go Tryz.tbs_ok 1000 ?_
    refine ev_w64 (by constructor <;> omega) ?_
    refine ev_stop (go_indexE (sz := 1) Tryz.tbs_ok (.inl 2) (k) rfl rfl rfl rfl rfl rfl (by omega) rfl (fun _ h => h) (fun g61 o63 e62 => ?_))
    subst e62
    refine go Tryz.tbs_ok 1000 ?_
    have l64 : k < (xL).length := (by omega)
    refine ev_stop (go_loadE Tryz.tbs_ok (.inl 2) (k) 0 rfl rfl rfl rfl (fun _ h => h) (by omega) (fun _ => rfl) (by omega) l64 (by decide) ?_)
    refine go Tryz.tbs_ok 1000 ?_
    refine ev_w64 (by constructor <;> omega) ?_
    refine ev_if_lt (fun h65 => ?_) (fun h65 => ?_)
    refine go Tryz.tbs_ok 1000 ?_
    refine ev_fin ⟨trivial, _, rfl, (true), rfl, (by simp [*]), Frm.nil _⟩
    refine go Tryz.tbs_ok 1000 ?_
    refine ev_wrapN (k + 1) (by constructor <;> omega) (by rfl) ?_
    refine ev_fin (round_next ((k + 1, u + 10 + min (↑xL[k].size : Int) 100000)) (?_ : k + 1 ≤ m ∧ (0 ≤ u + 10 + min (↑xL[k].size : Int) 100000 ∧ u + 10 + min (↑xL[k].size : Int) 100000 ≤ 60000) ∧ ∀ (p : ByteArray), p ∈ List.take (k + 1) xL → p.size ≤ 60000) (show m - (k + 1) < m - k from (by omega)) ⟨⟨by kernel_rfl, by kernel_rfl⟩, ⟨_, rfl⟩, ⟨_, rfl⟩, by kernel_rfl, by kernel_rfl⟩)
    rotate_left
    refine go Tryz.tbs_ok 1000 ?_
    refine ev_fin (go Tryz.tbs_ok 1000 ?_)
    refine ev_wrapN (i + 1) (by constructor <;> omega) (by rfl) ?_
    refine ev_fin (round_next ((i + 1, u)) (?_ : i + 1 ≤ n ∧ (0 ≤ u ∧ u ≤ 60000) ∧ ∀ (x : ActW), x ∈ List.take (i + 1) l → boundW x) (show n - (i + 1) < n - i from (by omega)) ⟨⟨by kernel_rfl, by kernel_rfl⟩, ⟨_, rfl⟩, ⟨_, rfl⟩, by kernel_rfl, by kernel_rfl⟩)
    rotate_left
    · refine ⟨by omega, ⟨by omega, by omega⟩, fun p hp2 => ?_⟩
      rw [← List.take_append_getElem (show k < xL.length by omega)] at hp2
      rcases List.mem_append.1 hp2 with h | h
      · exact hp p h
      · rw [List.mem_singleton.1 h]
        omega
    · refine ⟨by omega, hu, fun y hy => ?_⟩
      rcases hst y hy with h | h
      · exact h0 y h
      · rw [h]
        rw [List.take_of_length_le (by omega)] at hp
        exact ⟨hL, hK, hp⟩
  · obtain rfl : i = n := by omega
    rw [List.take_of_length_le (by omega)] at h0
    refine go Tryz.tbs_ok 1000 ?_
    refine ev_if_no (decide_eq_false (show ¬(↑i : Int) < (↑i : Int) from (by omega))) ?_
    refine go Tryz.tbs_ok 1000 ?_
    refine ev_fin (go Tryz.tbs_ok 1000 ?_)
    refine ev_fin ⟨trivial, _, rfl, (decide ((↑i : Int) > 100)), rfl, ?_, Frm.nil _⟩
    intro h
    rw [decide_eq_false_iff_not] at h
    exact ⟨by omega, h0⟩
end Go.Proofs.YtjlfdfmkofbccaaGreatDoor
namespace Go.Proofs.YtjlfdfmkofbccaaGreatDoor
open Go.Sy
set_option maxRecDepth 100000 in
theorem nilOpen : Triple Tryz.prog 12 [.pointer none] [] [] Unit (fun _ => .tuple #[.pointer none, .slice none 0 0, .int .i64 1]) (fun _ => True) (fun _ => []) := by
  refine triple_intro Tryz.tbs_ok Tryz.func12 rfl [.va (.pointer none)] [] ⟨trivial, trivial⟩ rfl (by simp) ?_
  intro E
  refine go Tryz.tbs_ok 1000 ?_
  refine ev_inline Tryz.tbs_ok Tryz.func35 rfl rfl ?_
  refine go Tryz.tbs_ok 1000 ?_
  refine ev_inline Tryz.tbs_ok Tryz.func45 rfl rfl ?_
  refine go Tryz.tbs_ok 1000 ?_
  refine ev_fin ⟨trivial, (by repeat (first | exact trivial | refine ⟨rfl, ?_⟩)), _, rfl, ?_⟩
  refine go Tryz.tbs_ok 1000 ?_
  refine ev_fin ⟨trivial, (by repeat (first | exact trivial | refine ⟨rfl, ?_⟩)), _, rfl, ?_⟩
  refine go Tryz.tbs_ok 1000 ?_
  refine ev_new fun b0 => ?_
  refine ev_inline Tryz.tbs_ok Tryz.func17 rfl rfl ?_
  refine go Tryz.tbs_ok 1000 ?_
  refine ev_inline Tryz.tbs_ok Tryz.func45 rfl rfl ?_
  refine go Tryz.tbs_ok 1000 ?_
  refine ev_fin ⟨trivial, (by repeat (first | exact trivial | refine ⟨rfl, ?_⟩)), _, rfl, ?_⟩
  refine go Tryz.tbs_ok 1000 ?_
  refine ev_fin ⟨trivial, (by repeat (first | exact trivial | refine ⟨rfl, ?_⟩)), _, rfl, ?_⟩
  refine go Tryz.tbs_ok 1000 ?_
  refine ev_inline Tryz.tbs_ok Tryz.func25 rfl rfl ?_
  refine go Tryz.tbs_ok 1000 ?_
  refine ev_new fun b1 => ?_
  refine ev_inline Tryz.tbs_ok Tryz.func43 rfl rfl ?_
  refine go Tryz.tbs_ok 1000 ?_
  refine ev_inline Tryz.tbs_ok Tryz.func45 rfl rfl ?_
  refine go Tryz.tbs_ok 1000 ?_
  refine ev_fin ⟨trivial, (by repeat (first | exact trivial | refine ⟨rfl, ?_⟩)), _, rfl, ?_⟩
  refine go Tryz.tbs_ok 1000 ?_
  refine ev_fin ⟨trivial, (by repeat (first | exact trivial | refine ⟨rfl, ?_⟩)), _, rfl, ?_⟩
  refine go Tryz.tbs_ok 1000 ?_
  refine ev_if_yes rfl ?_
  refine go Tryz.tbs_ok 1000 ?_
  refine ev_fin ⟨trivial, (by repeat (first | exact trivial | refine ⟨rfl, ?_⟩)), _, rfl, ?_⟩
  refine go Tryz.tbs_ok 1000 ?_
  refine ev_fin ⟨trivial, _, rfl, (()), rfl, (by trivial), Frm.nil _⟩
set_option maxRecDepth 100000 in
theorem zeroOpen (q : Nat) : Triple Tryz.prog 12 [.pointer (some ⟨q, 0, none⟩)] [Pt q 52 [.int .i64 0, .int .i64 0, .bool false, .slice none 0 0, .nilFunc, .slice none 0 0]] [] Unit (fun _ => .tuple #[.pointer none, .slice none 0 0, .int .i64 1]) (fun _ => True) (fun _ => [Pt q 52 [.int .i64 0, .int .i64 0, .bool false, .slice none 0 0, .nilFunc, .slice none 0 0]]) := by
  refine triple_intro Tryz.tbs_ok Tryz.func12 rfl [.pt 0 q 0] [.box q 52 [.va (.int .i64 0), .va (.int .i64 0), .va (.bool false), .va (.slice none 0 0), .va .nilFunc, .va (.slice none 0 0)]] ⟨rfl, trivial⟩ rfl (by simp [SV.good, SV.goodL, blkAt, Res.blk]) ?_
  intro E
  refine go Tryz.tbs_ok 1000 ?_
  refine ev_inline Tryz.tbs_ok Tryz.func35 rfl rfl ?_
  refine go Tryz.tbs_ok 1000 ?_
  refine ev_inline Tryz.tbs_ok Tryz.func45 rfl rfl ?_
  refine go Tryz.tbs_ok 1000 ?_
  refine ev_fin ⟨trivial, (by repeat (first | exact trivial | refine ⟨rfl, ?_⟩)), _, rfl, ?_⟩
  refine go Tryz.tbs_ok 1000 ?_
  refine ev_if_yes rfl ?_
  refine go Tryz.tbs_ok 1000 ?_
  refine ev_fin ⟨trivial, (by repeat (first | exact trivial | refine ⟨rfl, ?_⟩)), _, rfl, ?_⟩
  refine go Tryz.tbs_ok 1000 ?_
  refine ev_new fun b0 => ?_
  refine ev_inline Tryz.tbs_ok Tryz.func17 rfl rfl ?_
  refine go Tryz.tbs_ok 1000 ?_
  refine ev_inline Tryz.tbs_ok Tryz.func45 rfl rfl ?_
  refine go Tryz.tbs_ok 1000 ?_
  refine ev_fin ⟨trivial, (by repeat (first | exact trivial | refine ⟨rfl, ?_⟩)), _, rfl, ?_⟩
  refine go Tryz.tbs_ok 1000 ?_
  refine ev_if_no rfl ?_
  refine go Tryz.tbs_ok 1000 ?_
  refine ev_fin ⟨trivial, (by repeat (first | exact trivial | refine ⟨rfl, ?_⟩)), _, rfl, ?_⟩
  refine go Tryz.tbs_ok 1000 ?_
  refine ev_inline Tryz.tbs_ok Tryz.func25 rfl rfl ?_
  refine go Tryz.tbs_ok 1000 ?_
  refine ev_new fun b1 => ?_
  refine ev_inline Tryz.tbs_ok Tryz.func43 rfl rfl ?_
  refine go Tryz.tbs_ok 1000 ?_
  refine ev_inline Tryz.tbs_ok Tryz.func45 rfl rfl ?_
  refine go Tryz.tbs_ok 1000 ?_
  refine ev_fin ⟨trivial, (by repeat (first | exact trivial | refine ⟨rfl, ?_⟩)), _, rfl, ?_⟩
  refine go Tryz.tbs_ok 1000 ?_
  refine ev_if_yes rfl ?_
  refine go Tryz.tbs_ok 1000 ?_
  refine ev_fin ⟨trivial, (by repeat (first | exact trivial | refine ⟨rfl, ?_⟩)), _, rfl, ?_⟩
  refine go Tryz.tbs_ok 1000 ?_
  refine ev_if_yes rfl ?_
  refine go Tryz.tbs_ok 1000 ?_
  refine ev_fin ⟨trivial, (by repeat (first | exact trivial | refine ⟨rfl, ?_⟩)), _, rfl, ?_⟩
  refine go Tryz.tbs_ok 1000 ?_
  refine ev_fin ⟨trivial, _, rfl, (()), rfl, (by trivial), Frm.sel [0] rfl (by decide)⟩
set_option maxRecDepth 100000 in
theorem nilApp (A : Option Addr) (n c : Nat) : Triple Tryz.prog 19 [.pointer none, .slice A n c] [] [] Unit (fun _ => .int .i64 1) (fun _ => True) (fun _ => []) := by
  refine triple_intro Tryz.tbs_ok Tryz.func19 rfl [.va (.pointer none), .va (.slice A n c)] [] ⟨trivial, trivial, trivial⟩ rfl (by simp) ?_
  intro E
  refine go Tryz.tbs_ok 1000 ?_
  refine ev_inline Tryz.tbs_ok Tryz.func46 rfl rfl ?_
  refine go Tryz.tbs_ok 1000 ?_
  refine ev_fin ⟨trivial, (by repeat (first | exact trivial | refine ⟨rfl, ?_⟩)), _, rfl, ?_⟩
  refine go Tryz.tbs_ok 1000 ?_
  refine ev_if_yes rfl ?_
  refine go Tryz.tbs_ok 1000 ?_
  refine ev_fin ⟨trivial, _, rfl, (()), rfl, (by trivial), Frm.nil _⟩
set_option maxRecDepth 100000 in
theorem zeroApp (p : Nat) (A : Option Addr) (n c : Nat) : Triple Tryz.prog 19 [.pointer (some ⟨p, 0, none⟩), .slice A n c] [Pt p 49 [.pointer none, .int .i64 0, .bool false, .int .i64 0, .int .i64 0]] [] Unit (fun _ => .int .i64 1) (fun _ => True) (fun _ => [Pt p 49 [.pointer none, .int .i64 0, .bool false, .int .i64 0, .int .i64 0]]) := by
  refine triple_intro Tryz.tbs_ok Tryz.func19 rfl [.pt 0 p 0, .va (.slice A n c)] [.box p 49 [.va (.pointer none), .va (.int .i64 0), .va (.bool false), .va (.int .i64 0), .va (.int .i64 0)]] ⟨rfl, trivial, trivial⟩ rfl (by simp [SV.good, SV.goodL, blkAt, Res.blk]) ?_
  intro E
  refine go Tryz.tbs_ok 1000 ?_
  refine ev_inline Tryz.tbs_ok Tryz.func46 rfl rfl ?_
  refine go Tryz.tbs_ok 1000 ?_
  refine ev_fin ⟨trivial, (by repeat (first | exact trivial | refine ⟨rfl, ?_⟩)), _, rfl, ?_⟩
  refine go Tryz.tbs_ok 1000 ?_
  refine ev_if_yes rfl ?_
  refine go Tryz.tbs_ok 1000 ?_
  refine ev_fin ⟨trivial, _, rfl, (()), rfl, (by trivial), Frm.sel [0] rfl (by decide)⟩
set_option maxRecDepth 100000 in
theorem nilCk (A : Option Addr) (n c : Nat) : Triple Tryz.prog 21 [.pointer none, .slice A n c] [] [] Unit (fun _ => .int .i64 1) (fun _ => True) (fun _ => []) := by
  refine triple_intro Tryz.tbs_ok Tryz.func21 rfl [.va (.pointer none), .va (.slice A n c)] [] ⟨trivial, trivial, trivial⟩ rfl (by simp) ?_
  intro E
  refine go Tryz.tbs_ok 1000 ?_
  refine ev_new fun b0 => ?_
  refine ev_inline Tryz.tbs_ok Tryz.func46 rfl rfl ?_
  refine go Tryz.tbs_ok 1000 ?_
  refine ev_fin ⟨trivial, (by repeat (first | exact trivial | refine ⟨rfl, ?_⟩)), _, rfl, ?_⟩
  refine go Tryz.tbs_ok 1000 ?_
  refine ev_if_yes rfl ?_
  refine go Tryz.tbs_ok 1000 ?_
  refine ev_fin ⟨trivial, _, rfl, (()), rfl, (by trivial), Frm.nil _⟩
set_option maxRecDepth 100000 in
theorem zeroCk (p : Nat) (A : Option Addr) (n c : Nat) : Triple Tryz.prog 21 [.pointer (some ⟨p, 0, none⟩), .slice A n c] [Pt p 49 [.pointer none, .int .i64 0, .bool false, .int .i64 0, .int .i64 0]] [] Unit (fun _ => .int .i64 1) (fun _ => True) (fun _ => [Pt p 49 [.pointer none, .int .i64 0, .bool false, .int .i64 0, .int .i64 0]]) := by
  refine triple_intro Tryz.tbs_ok Tryz.func21 rfl [.pt 0 p 0, .va (.slice A n c)] [.box p 49 [.va (.pointer none), .va (.int .i64 0), .va (.bool false), .va (.int .i64 0), .va (.int .i64 0)]] ⟨rfl, trivial, trivial⟩ rfl (by simp [SV.good, SV.goodL, blkAt, Res.blk]) ?_
  intro E
  refine go Tryz.tbs_ok 1000 ?_
  refine ev_new fun b0 => ?_
  refine ev_inline Tryz.tbs_ok Tryz.func46 rfl rfl ?_
  refine go Tryz.tbs_ok 1000 ?_
  refine ev_fin ⟨trivial, (by repeat (first | exact trivial | refine ⟨rfl, ?_⟩)), _, rfl, ?_⟩
  refine go Tryz.tbs_ok 1000 ?_
  refine ev_if_yes rfl ?_
  refine go Tryz.tbs_ok 1000 ?_
  refine ev_fin ⟨trivial, _, rfl, (()), rfl, (by trivial), Frm.sel [0] rfl (by decide)⟩
set_option maxRecDepth 100000 in
theorem nilSync : Triple Tryz.prog 20 [.pointer none] [] [] Unit (fun _ => .int .i64 1) (fun _ => True) (fun _ => []) := by
  refine triple_intro Tryz.tbs_ok Tryz.func20 rfl [.va (.pointer none)] [] ⟨trivial, trivial⟩ rfl (by simp) ?_
  intro E
  refine go Tryz.tbs_ok 1000 ?_
  refine ev_inline Tryz.tbs_ok Tryz.func46 rfl rfl ?_
  refine go Tryz.tbs_ok 1000 ?_
  refine ev_fin ⟨trivial, (by repeat (first | exact trivial | refine ⟨rfl, ?_⟩)), _, rfl, ?_⟩
  refine go Tryz.tbs_ok 1000 ?_
  refine ev_if_yes rfl ?_
  refine go Tryz.tbs_ok 1000 ?_
  refine ev_fin ⟨trivial, _, rfl, (()), rfl, (by trivial), Frm.nil _⟩
set_option maxRecDepth 100000 in
theorem zeroSync (p : Nat) : Triple Tryz.prog 20 [.pointer (some ⟨p, 0, none⟩)] [Pt p 49 [.pointer none, .int .i64 0, .bool false, .int .i64 0, .int .i64 0]] [] Unit (fun _ => .int .i64 1) (fun _ => True) (fun _ => [Pt p 49 [.pointer none, .int .i64 0, .bool false, .int .i64 0, .int .i64 0]]) := by
  refine triple_intro Tryz.tbs_ok Tryz.func20 rfl [.pt 0 p 0] [.box p 49 [.va (.pointer none), .va (.int .i64 0), .va (.bool false), .va (.int .i64 0), .va (.int .i64 0)]] ⟨rfl, trivial⟩ rfl (by simp [SV.good, SV.goodL, blkAt, Res.blk]) ?_
  intro E
  refine go Tryz.tbs_ok 1000 ?_
  refine ev_inline Tryz.tbs_ok Tryz.func46 rfl rfl ?_
  refine go Tryz.tbs_ok 1000 ?_
  refine ev_fin ⟨trivial, (by repeat (first | exact trivial | refine ⟨rfl, ?_⟩)), _, rfl, ?_⟩
  refine go Tryz.tbs_ok 1000 ?_
  refine ev_if_yes rfl ?_
  refine go Tryz.tbs_ok 1000 ?_
  refine ev_fin ⟨trivial, _, rfl, (()), rfl, (by trivial), Frm.sel [0] rfl (by decide)⟩
set_option maxRecDepth 100000 in
theorem nilSegs : Triple Tryz.prog 22 [.pointer none] [] [] Unit (fun _ => .int .i64 0) (fun _ => True) (fun _ => []) := by
  refine triple_intro Tryz.tbs_ok Tryz.func22 rfl [.va (.pointer none)] [] ⟨trivial, trivial⟩ rfl (by simp) ?_
  intro E
  refine go Tryz.tbs_ok 1000 ?_
  refine ev_inline Tryz.tbs_ok Tryz.func46 rfl rfl ?_
  refine go Tryz.tbs_ok 1000 ?_
  refine ev_fin ⟨trivial, (by repeat (first | exact trivial | refine ⟨rfl, ?_⟩)), _, rfl, ?_⟩
  refine go Tryz.tbs_ok 1000 ?_
  refine ev_if_yes rfl ?_
  refine go Tryz.tbs_ok 1000 ?_
  refine ev_fin ⟨trivial, _, rfl, (()), rfl, (by trivial), Frm.nil _⟩
set_option maxRecDepth 100000 in
theorem zeroSegs (p : Nat) : Triple Tryz.prog 22 [.pointer (some ⟨p, 0, none⟩)] [Pt p 49 [.pointer none, .int .i64 0, .bool false, .int .i64 0, .int .i64 0]] [] Unit (fun _ => .int .i64 0) (fun _ => True) (fun _ => [Pt p 49 [.pointer none, .int .i64 0, .bool false, .int .i64 0, .int .i64 0]]) := by
  refine triple_intro Tryz.tbs_ok Tryz.func22 rfl [.pt 0 p 0] [.box p 49 [.va (.pointer none), .va (.int .i64 0), .va (.bool false), .va (.int .i64 0), .va (.int .i64 0)]] ⟨rfl, trivial⟩ rfl (by simp [SV.good, SV.goodL, blkAt, Res.blk]) ?_
  intro E
  refine go Tryz.tbs_ok 1000 ?_
  refine ev_inline Tryz.tbs_ok Tryz.func46 rfl rfl ?_
  refine go Tryz.tbs_ok 1000 ?_
  refine ev_fin ⟨trivial, (by repeat (first | exact trivial | refine ⟨rfl, ?_⟩)), _, rfl, ?_⟩
  refine go Tryz.tbs_ok 1000 ?_
  refine ev_if_yes rfl ?_
  refine go Tryz.tbs_ok 1000 ?_
  refine ev_fin ⟨trivial, _, rfl, (()), rfl, (by trivial), Frm.sel [0] rfl (by decide)⟩
set_option maxRecDepth 100000 in
theorem nilSize : Triple Tryz.prog 23 [.pointer none] [] [] Unit (fun _ => .int .i64 0) (fun _ => True) (fun _ => []) := by
  refine triple_intro Tryz.tbs_ok Tryz.func23 rfl [.va (.pointer none)] [] ⟨trivial, trivial⟩ rfl (by simp) ?_
  intro E
  refine go Tryz.tbs_ok 1000 ?_
  refine ev_inline Tryz.tbs_ok Tryz.func46 rfl rfl ?_
  refine go Tryz.tbs_ok 1000 ?_
  refine ev_fin ⟨trivial, (by repeat (first | exact trivial | refine ⟨rfl, ?_⟩)), _, rfl, ?_⟩
  refine go Tryz.tbs_ok 1000 ?_
  refine ev_if_yes rfl ?_
  refine go Tryz.tbs_ok 1000 ?_
  refine ev_fin ⟨trivial, _, rfl, (()), rfl, (by trivial), Frm.nil _⟩
set_option maxRecDepth 100000 in
theorem zeroSize (p : Nat) : Triple Tryz.prog 23 [.pointer (some ⟨p, 0, none⟩)] [Pt p 49 [.pointer none, .int .i64 0, .bool false, .int .i64 0, .int .i64 0]] [] Unit (fun _ => .int .i64 0) (fun _ => True) (fun _ => [Pt p 49 [.pointer none, .int .i64 0, .bool false, .int .i64 0, .int .i64 0]]) := by
  refine triple_intro Tryz.tbs_ok Tryz.func23 rfl [.pt 0 p 0] [.box p 49 [.va (.pointer none), .va (.int .i64 0), .va (.bool false), .va (.int .i64 0), .va (.int .i64 0)]] ⟨rfl, trivial⟩ rfl (by simp [SV.good, SV.goodL, blkAt, Res.blk]) ?_
  intro E
  refine go Tryz.tbs_ok 1000 ?_
  refine ev_inline Tryz.tbs_ok Tryz.func46 rfl rfl ?_
  refine go Tryz.tbs_ok 1000 ?_
  refine ev_fin ⟨trivial, (by repeat (first | exact trivial | refine ⟨rfl, ?_⟩)), _, rfl, ?_⟩
  refine go Tryz.tbs_ok 1000 ?_
  refine ev_if_yes rfl ?_
  refine go Tryz.tbs_ok 1000 ?_
  refine ev_fin ⟨trivial, _, rfl, (()), rfl, (by trivial), Frm.sel [0] rfl (by decide)⟩
theorem greatOne (k : Int) (A : Option Addr) (l : List ByteArray) (n c bx : Nat) (hn : n = l.length) : Triple Tryz.prog 10 [.slice (some ⟨bx, 0, none⟩) 1 1] [] [Pt bx 38 [.int .u8 k, .slice A n c, .int .i64 0, .slice none 0 0], Rd 1 A n (l.flatMap encS)] Bool (fun b => .bool b) (fun b => b = false → n ≤ 50 ∧ ∀ p ∈ l, p.size ≤ 60000) (fun _ => []) := by
  subst hn
  refine ((greatW (some ⟨bx, 0, none⟩) [⟨k, l, A, c, 0, [], none, 0⟩] 1 1 rfl (by decide)).reads (N' := [Pt bx 38 [.int .u8 k, .slice A l.length c, .int .i64 0, .slice none 0 0], Rd 1 A l.length (l.flatMap encS)]) (fun X hX => by
    simp only [List.mem_cons, List.not_mem_nil, or_false] at hX
    rcases hX with rfl | rfl
    · exact ⟨_, List.mem_cons_self, fun _ q => Pt.rd q rfl⟩
    · refine ⟨_, List.mem_cons_of_mem _ List.mem_cons_self, fun h q x hx => ?_⟩
      rw [List.mem_singleton.1 hx]
      exact ⟨q, Rd.nil _ _ h⟩)).imp fun b hb => ⟨b, rfl, fun h => ?_, fun _ q => q⟩
  have := (hb h).2 _ List.mem_cons_self
  exact ⟨this.L, this.p⟩
set_option maxHeartbeats 8000000 in
set_option maxRecDepth 100000 in
theorem walNone (A : Option Addr) (l : List ByteArray) (n c : Nat) (hn : n = l.length) : Triple Tryz.prog 4 [.slice A n c] [] [TabA, Rd 1 A n (l.flatMap encS)] Unit (fun _ => .bool true) (fun _ => True) (fun _ => []) := by
  have TG := fun bx => greatOne 0 A l n c bx hn
  have TN : Triple Tryz.prog 11 [.int .i64 100] [] [] Nat (fun p => .tuple #[.pointer (some ⟨p, 0, none⟩), .int .i64 0]) (fun _ => True) (fun p => [DiskM p ⟨100, 0, false, [], none, []⟩]) := newM 100 (by decide) (by decide)
  have hD : okD ⟨100, 0, false, [], none, []⟩ := new_ok (by decide) (by decide)
  obtain ⟨D0, hD0⟩ : ∃ D0 : DK, D0 = ⟨100, 0, false, [], none, []⟩ := ⟨_, rfl⟩
  rw [← hD0] at TN hD
  have hc : (crashD D0 []).2 = 0 := by rw [hD0]; rfl
  have hcd : (crashD D0 []).1.down = true := by rw [hD0]; rfl
  have TC := fun q => crashM q D0 none 0 0 [] hD rfl
  have hD1 := crash_ok hD []
  rw [hc] at TC
  obtain ⟨D1, hD1e⟩ : ∃ D1, D1 = (crashD D0 []).1 := ⟨_, rfl⟩
  rw [← hD1e] at TC hD1 hcd
  have TO := fun q => openDown q D1 hD1 hcd
  have TW := worksT
  refine triple_intro Tryz.tbs_ok Tryz.func4 rfl [.va (.slice A n c)] [] ⟨trivial, trivial⟩ rfl (by simp) ?_
  intro E
  refine go_fact (Rd 1 none 0 (([] : List Int).flatMap encN)) (fun h => Rd.nil _ _ h) ?_
  refine go Tryz.tbs_ok 1000 ?_
  refine ev_new fun b0 => ?_
  refine ev_callF (TG (b0)) [] [.inr 1, .inl 1] rfl rfl (by decide) rfl (by simp) (fun _ => (by repeat (first | exact trivial | refine ⟨rfl, ?_⟩))) (fun x1 h2 => ?_)
  refine go Tryz.tbs_ok 1000 ?_
  refine ev_if (fun h3 => ?_) (fun h3 => ?_)
  refine go Tryz.tbs_ok 1000 ?_
  refine ev_fin ⟨trivial, _, rfl, (()), rfl, (by trivial), Frm.nil _⟩
  refine go Tryz.tbs_ok 1000 ?_
  refine ev_stop (go_rounds 3 ?_)
  refine go Tryz.tbs_ok 1000 ?_
  refine ev_if_yes rfl ?_
  refine go Tryz.tbs_ok 1000 ?_
  refine ev_if_no rfl ?_
  refine go Tryz.tbs_ok 1000 ?_
  refine ev_callF (nilOpen ) [] [] rfl rfl (by decide) rfl (by simp) (fun _ => (by repeat (first | exact trivial | refine ⟨rfl, ?_⟩))) (fun _ h20 => ?_)
  refine go Tryz.tbs_ok 1000 ?_
  refine ev_callF (nilApp (A) (n) (c)) [] [] rfl rfl (by decide) rfl (by simp) (fun _ => (by repeat (first | exact trivial | refine ⟨rfl, ?_⟩))) (fun _ h21 => ?_)
  refine go Tryz.tbs_ok 1000 ?_
  refine ev_if_no rfl ?_
  refine go Tryz.tbs_ok 1000 ?_
  refine ev_callF (nilSync ) [] [] rfl rfl (by decide) rfl (by simp) (fun _ => (by repeat (first | exact trivial | refine ⟨rfl, ?_⟩))) (fun _ h22 => ?_)
  refine go Tryz.tbs_ok 1000 ?_
  refine ev_if_no rfl ?_
  refine go Tryz.tbs_ok 1000 ?_
  refine ev_callF (nilCk (A) (n) (c)) [] [] rfl rfl (by decide) rfl (by simp) (fun _ => (by repeat (first | exact trivial | refine ⟨rfl, ?_⟩))) (fun _ h23 => ?_)
  refine go Tryz.tbs_ok 1000 ?_
  refine ev_if_no rfl ?_
  refine go Tryz.tbs_ok 1000 ?_
  refine ev_callF (nilSegs ) [] [] rfl rfl (by decide) rfl (by simp) (fun _ => (by repeat (first | exact trivial | refine ⟨rfl, ?_⟩))) (fun _ h24 => ?_)
  refine go Tryz.tbs_ok 1000 ?_
  refine ev_if_no rfl ?_
  refine go Tryz.tbs_ok 1000 ?_
  refine ev_callF (nilSize ) [] [] rfl rfl (by decide) rfl (by simp) (fun _ => (by repeat (first | exact trivial | refine ⟨rfl, ?_⟩))) (fun _ h25 => ?_)
  refine go Tryz.tbs_ok 1000 ?_
  refine ev_if_no rfl ?_
  refine go Tryz.tbs_ok 1000 ?_
  refine ev_if_no rfl ?_
  refine go Tryz.tbs_ok 1000 ?_
  refine ev_if_no rfl ?_
  refine go Tryz.tbs_ok 1000 ?_
  refine ev_wrapN (0 + 1) (by constructor <;> omega) (by rfl) ?_
  refine ev_fin (go Tryz.tbs_ok 1000 ?_)
  refine ev_if_yes rfl ?_
  refine go Tryz.tbs_ok 1000 ?_
  refine ev_if_yes rfl ?_
  refine go Tryz.tbs_ok 1000 ?_
  refine ev_new fun b26 => ?_
  refine ev_new fun b27 => ?_
  refine ev_call (zeroOpen (b27)) [3] [] (fun v0_ => [.box (b27) 52 [.va (Value.int IntKind.i64 0), .va (Value.int IntKind.i64 0), .bl false, .va (Value.slice none 0 0), .va (Value.nilFunc), .va (Value.slice none 0 0)]]) rfl rfl (by decide) rfl (by simp) (fun _ => rfl) (fun _ => (newsOk_box (by simp [SV.good, SV.goodL]) (newsOk_nil _))) (fun _ => (by repeat (first | exact trivial | refine ⟨rfl, ?_⟩))) (fun _ h28 => ?_)
  refine go Tryz.tbs_ok 1000 ?_
  refine ev_call (zeroApp (b26) (A) (n) (c)) [2] [] (fun v0_ => [.box (b26) 49 [.va (Value.pointer none), .va (Value.int IntKind.i64 0), .bl false, .va (Value.int IntKind.i64 0), .va (Value.int IntKind.i64 0)]]) rfl rfl (by decide) rfl (by simp) (fun _ => rfl) (fun _ => (newsOk_box (by simp [SV.good, SV.goodL]) (newsOk_nil _))) (fun _ => (by repeat (first | exact trivial | refine ⟨rfl, ?_⟩))) (fun _ h29 => ?_)
  refine go Tryz.tbs_ok 1000 ?_
  refine ev_if_no rfl ?_
  refine go Tryz.tbs_ok 1000 ?_
  refine ev_call (zeroSync (b26)) [2] [] (fun v0_ => [.box (b26) 49 [.va (Value.pointer none), .va (Value.int IntKind.i64 0), .bl false, .va (Value.int IntKind.i64 0), .va (Value.int IntKind.i64 0)]]) rfl rfl (by decide) rfl (by simp) (fun _ => rfl) (fun _ => (newsOk_box (by simp [SV.good, SV.goodL]) (newsOk_nil _))) (fun _ => (by repeat (first | exact trivial | refine ⟨rfl, ?_⟩))) (fun _ h30 => ?_)
  refine go Tryz.tbs_ok 1000 ?_
  refine ev_if_no rfl ?_
  refine go Tryz.tbs_ok 1000 ?_
  refine ev_call (zeroCk (b26) (A) (n) (c)) [2] [] (fun v0_ => [.box (b26) 49 [.va (Value.pointer none), .va (Value.int IntKind.i64 0), .bl false, .va (Value.int IntKind.i64 0), .va (Value.int IntKind.i64 0)]]) rfl rfl (by decide) rfl (by simp) (fun _ => rfl) (fun _ => (newsOk_box (by simp [SV.good, SV.goodL]) (newsOk_nil _))) (fun _ => (by repeat (first | exact trivial | refine ⟨rfl, ?_⟩))) (fun _ h31 => ?_)
  refine go Tryz.tbs_ok 1000 ?_
  refine ev_if_no rfl ?_
  refine go Tryz.tbs_ok 1000 ?_
  refine ev_call (zeroSegs (b26)) [2] [] (fun v0_ => [.box (b26) 49 [.va (Value.pointer none), .va (Value.int IntKind.i64 0), .bl false, .va (Value.int IntKind.i64 0), .va (Value.int IntKind.i64 0)]]) rfl rfl (by decide) rfl (by simp) (fun _ => rfl) (fun _ => (newsOk_box (by simp [SV.good, SV.goodL]) (newsOk_nil _))) (fun _ => (by repeat (first | exact trivial | refine ⟨rfl, ?_⟩))) (fun _ h32 => ?_)
  refine go Tryz.tbs_ok 1000 ?_
  refine ev_if_no rfl ?_
  refine go Tryz.tbs_ok 1000 ?_
  refine ev_call (zeroSize (b26)) [2] [] (fun v0_ => [.box (b26) 49 [.va (Value.pointer none), .va (Value.int IntKind.i64 0), .bl false, .va (Value.int IntKind.i64 0), .va (Value.int IntKind.i64 0)]]) rfl rfl (by decide) rfl (by simp) (fun _ => rfl) (fun _ => (newsOk_box (by simp [SV.good, SV.goodL]) (newsOk_nil _))) (fun _ => (by repeat (first | exact trivial | refine ⟨rfl, ?_⟩))) (fun _ h33 => ?_)
  refine go Tryz.tbs_ok 1000 ?_
  refine ev_if_no rfl ?_
  refine go Tryz.tbs_ok 1000 ?_
  refine ev_if_no rfl ?_
  refine go Tryz.tbs_ok 1000 ?_
  refine ev_if_no rfl ?_
  refine go Tryz.tbs_ok 1000 ?_
  refine ev_wrapN (0 + 1 + 1) (by constructor <;> omega) (by rfl) ?_
  refine ev_fin (go Tryz.tbs_ok 1000 ?_)
  refine ev_if_no rfl ?_
  refine go Tryz.tbs_ok 1000 ?_
  refine ev_fin (go Tryz.tbs_ok 1000 ?_)
  refine ev_callF (TN ) [] [] rfl rfl (by decide) rfl (by simp) (fun _ => (by repeat (first | exact trivial | refine ⟨rfl, ?_⟩))) (fun x34 h35 => ?_)
  refine go Tryz.tbs_ok 1000 ?_
  refine ev_if_no rfl ?_
  refine go Tryz.tbs_ok 1000 ?_
  refine ev_callF (TC (x34)) [4] [.inr 0] rfl rfl (by decide) rfl (by simp) (fun _ => (by repeat (first | exact trivial | refine ⟨rfl, ?_⟩))) (fun _ h36 => ?_)
  refine go Tryz.tbs_ok 1000 ?_
  refine ev_if_no rfl ?_
  refine go Tryz.tbs_ok 1000 ?_
  refine ev_callF (TO (x34)) [4] [.inl 0] rfl rfl (by decide) rfl (by simp) (fun _ => (by repeat (first | exact trivial | refine ⟨rfl, ?_⟩))) (fun _ h37 => ?_)
  refine go Tryz.tbs_ok 1000 ?_
  refine ev_if_yes rfl ?_
  refine go Tryz.tbs_ok 1000 ?_
  refine ev_if_yes rfl ?_
  refine go Tryz.tbs_ok 1000 ?_
  refine ev_callF (TW ) [] [.inl 0] rfl rfl (by decide) rfl (by simp) (fun _ => (by repeat (first | exact trivial | refine ⟨rfl, ?_⟩))) (fun _ h38 => ?_)
  refine go Tryz.tbs_ok 1000 ?_
  refine ev_fin ⟨trivial, _, rfl, (()), rfl, (by trivial), Frm.nil _⟩
end Go.Proofs.YtjlfdfmkofbccaaGreatDoor
namespace Go.Sy
open Go.RowKit Go.ChangeShapes Go.WideShapes
section
variable {H : Type} {enc : TypeId × Value → H} {P : Program}
/-- arguments of these types can be read, and carried -/
def typesOk (P : Program) (ts : List TypeId) : Bool := ts.all fun t => P.readableRec t && decide (t < P.types.size)
theorem trodAll_below (hl : laidOutB P = true) {W W' : World} (hb : Below W.heap.size W W') (sp : Nat → Bool) :
    ∀ {ts : List TypeId} {vs : List Value} {ds : List (DataW H)} {ps : List MemPlace}, typesOk P ts = true → DataW.TrodAll enc P W 0 (fun _ => true) true ts vs ds ps → (∀ x ∈ ps, x.block < W.heap.size) → (∀ x ∈ ps, sp x.block = true) →
      DataW.TrodAll enc P W' 0 sp true ts vs ds ps
  | [], [], [], _, _, h, _, _ => h
  | t :: ts, v :: vs, d :: ds, _, ht, ⟨p, q, h1, h2, e⟩, hlt, hsp => by
    subst e
    simp only [typesOk, List.all_cons, Bool.and_eq_true, decide_eq_true_eq] at ht
    exact ⟨p, q, WideElems.Trod_stays hl ht.1.1 ht.1.2 h1 (fun x hx => hb.same (hlt x (List.mem_append_left _ hx))) (fun x hx => hsp x (List.mem_append_left _ hx)),
      trodAll_below hl hb sp (ts := ts) (by simpa [typesOk] using ht.2) h2 (fun x hx => hlt x (List.mem_append_right _ hx)) (fun x hx => hsp x (List.mem_append_right _ hx)), rfl⟩
  | [], [], _ :: _, _, _, h, _, _ => h.elim
  | [], _ :: _, [], _, _, h, _, _ => h.elim
  | [], _ :: _, _ :: _, _, _, h, _, _ => h.elim
  | _ :: _, [], [], _, _, h, _, _ => h.elim
  | _ :: _, [], _ :: _, _, _, h, _, _ => h.elim
  | _ :: _, _ :: _, [], _, _, h, _, _ => h.elim
/-- behind a call that answers true, below which nothing has turned -/
theorem post_true {f : Func} {s : ChangeSpec} {apart fresh handsOn again : Bool} {W W' : World} {args : Array Value} {ds gs : List (DataW H)} {before : List MemPlace} {rt : TypeId}
    (hl : laidOutB P = true) (hts : typesOk P f.params.toList = true) (hvars : s.vars = []) (hrt : f.resultTypes = #[rt]) (hbool : P.underlying rt = some .bool)
    (hW : DataW.Whole enc P f.params.toList s.vars apart W args.toList ds gs before) (hb : Below W.heap.size W W')
    (hr : (s.fn H (ds ++ gs)).results = [.lit (.bool true)]) (ha : (s.fn H (ds ++ gs)).args = ds) (hv : (s.fn H (ds ++ gs)).vars = []) :
    s.post enc P f apart fresh handsOn again W args (.bool true) W' := by
  have hlt : ∀ p ∈ before, p.block < W.heap.size := fun p hp => hW.lt p hp
  have hold : ∀ p ∈ before, (fun b => decide (b < W.heap.size)) p.block = true := fun p hp => by simpa using hlt p hp
  have hW2 := hW
  obtain ⟨p, q, hA, hV, rfl, hz, hn⟩ := hW2
  rw [hvars] at hV
  obtain ⟨rfl, rfl⟩ := trodVars_none hV
  rw [List.append_nil] at hlt hold hz hn hW
  have hres : ∀ (b : Nat) (sp : Nat → Bool) (hd : Bool), DataW.TrodAll enc P W' b sp hd f.resultTypes.toList ((Value.bool true).resultList f.resultTypes.size) (s.fn H (ds ++ [])).results [] := fun b sp hd => by
    rw [hr, hrt]
    exact trodAll_mk1 (shut_bool hbool true)
  have hargs : ∀ sp : Nat → Bool, (∀ x ∈ p, sp x.block = true) → DataW.TrodAll enc P W' 0 sp true f.params.toList args.toList (s.fn H (ds ++ [])).args p := fun sp hsp => by
    rw [ha]
    exact trodAll_below hl hb sp hts hA hlt hsp
  have hvs : ∀ sp : Nat → Bool, DataW.TrodVars enc P W' sp s.vars (s.fn H (ds ++ [])).vars [] := fun sp => by rw [hv, hvars]; rfl
  have hok : ∀ (j : Nat) (t : TypeId) (r : Value), f.resultTypes[j]? = some t → ((Value.bool true).resultList f.resultTypes.size)[j]? = some r → Value.okWide P W' .any 0 t r := by
    intro j t r hj hr'
    rw [hrt] at hj hr'
    match j, hj, hr' with
    | 0, hj, hr' =>
      simp [Value.resultList] at hj hr'
      subst hj; subst hr'
      exact okWide_bool_mk hbool true
  refine ⟨ds, [], p, [], p, [], hW, hres _ _ _, hargs _ hold, hvs _, World.keptBut_mono (fun x hx => ⟨hx, ?_⟩) (hb.frame (· ∈ p)), fun _ => ?_⟩
  · exact .inr (.inl hx)
  · refine ⟨hok, _, _, ([] ++ p) ++ [], ⟨[] ++ p, [], trodAll_append (hargs _ (fun _ _ => rfl)) (hres _ _ _), hvs _, rfl, ?_, ?_⟩, ?_⟩
    · intro b off hp
      have hin : MemPlace.cell b off ∈ p := by simpa using hp
      rw [hb.frozen (hlt _ hin)]
      exact hz b off hin
    · intro h
      simpa using hn h
    · intro x hx _
      simpa using hx
end
end Go.Sy
namespace Go.Sy
open Go.RowKit Go.ChangeShapes Go.WideShapes
/-- what cells of a type are, and what lies behind their slices; so deep -/
def Sees (T : Tab) (w : World) : Nat → TypeId → List Value → Prop
  | 0, _, _ => True
  | F + 1, t, cs => match (te T t).map (fun e : TE => e.k) with
    | some (TK.int k) => ∃ n, cs = [.int k n] ∧ (Lit.int k n).wf = true
    | some TK.bool => ∃ b, cs = [.bool b]
    | some TK.string => ∃ s : ByteArray, cs = [.string s] ∧ s.size ≤ maxLen
    | some (TK.slice el) => cs = [.slice none 0 0] ∨ ∃ a n c, cs = [.slice (some a) n c] ∧ n ≤ c ∧ c ≤ maxLen ∧
        ∀ e', te T el = some e' → ∀ i, i < n → ∃ vs, w.cells? 0 (a.add (i * e'.size)) e'.size = some vs ∧ Sees T w F el vs
    | some (TK.struct fs) => ∀ f ∈ fs, ∀ e', te T f.2 = some e' → Sees T w F f.2 ((cs.drop f.1).take e'.size)
    | _ => True
theorem cellsOf_te {P : Program} {T : Tab} (hT : TabOk P T) {t : TypeId} {e : TE} (h : te T t = some e) : P.cellsOf t = e.size := by
  obtain ⟨i, u, z, h1, _, _, _, h2, _⟩ := te_spec hT h
  simp [Program.cellsOf, h1, h2]
theorem sees_of_trod {H : Type} {enc : TypeId × Value → H} {P : Program} {T : Tab} (hT : TabOk P T) {w : World} {sp : Nat → Bool} {held : Bool} :
    ∀ (F fuel : Nat) (t : TypeId) (cs : List Value) (x : DataW H × List MemPlace), DataW.trod enc P w 0 sp held fuel t cs = some x → Sees T w F t cs
  | 0, _, _, _, _, _ => trivial
  | F + 1, fuel, t, cs, x, h => by
    unfold Sees
    cases ht : te T t with
    | none => trivial
    | some e =>
      obtain ⟨i, u, z, hi, hu, hz, hk, hs, _⟩ := te_spec hT ht
      simp only [Option.map_some, hk]
      cases u with
      | int k =>
        obtain ⟨n, h1, _, h2⟩ := DataW.trod_int hu h
        exact ⟨n, h1, h2⟩
      | bool =>
        obtain ⟨b, h1, _⟩ := DataW.trod_bool hu h
        exact ⟨b, h1⟩
      | string =>
        obtain ⟨s, h1, _, h2⟩ := DataW.trod_string hu h
        exact ⟨s, h1, h2⟩
      | slice el =>
        rcases DataW.trod_slice hu h with ⟨h1, _⟩ | ⟨a, n, c, elems, rest, m, _, h1, _, _, h2, h3, h4, h5, _, _⟩
        · exact .inl h1
        · refine .inr ⟨a, n, c, h1, h2, h3, fun e' he' j hj => ?_⟩
          have h6 := h5 j hj
          rw [cellsOf_te hT he'] at h6
          have hlt : j < elems.length := by omega
          rw [List.getElem?_eq_getElem hlt] at h6
          cases hc : w.cells? 0 (a.add (j * e'.size)) e'.size with
          | none => rw [hc] at h6; cases h6
          | some vs =>
            rw [hc] at h6
            exact ⟨vs, rfl, sees_of_trod hT F m el vs _ h6⟩
      | struct fs =>
        obtain ⟨xs, n, _, _, hlen, hxl, hf⟩ := DataW.trod_struct hu h
        intro f hf' e' he'
        obtain ⟨g, hg, rfl⟩ := List.mem_map.1 hf'
        obtain ⟨j, hj⟩ := List.mem_iff_getElem?.1 hg
        have h6 := hf j g (by simpa using hj)
        rw [cellsOf_te hT he'] at h6
        have hlt : j < xs.length := by
          have := (List.getElem?_eq_some_iff.1 hj).1
          simp at this
          omega
        rw [List.getElem?_eq_getElem hlt] at h6
        exact sees_of_trod hT F n g.type _ _ h6
      | _ => trivial
end Go.Sy
namespace Go.Sy
open Go.RowKit Go.ChangeShapes Go.WideShapes
/-- the leaves of a type: where, and of which type -/
def leaves (T : Tab) : Nat → TypeId → List (Nat × TypeId)
  | 0, t => [(0, t)]
  | d + 1, t => match (te T t).map (fun e : TE => e.k) with
    | some (TK.struct fs) => fs.flatMap fun f => (leaves T d f.2).map fun p => (f.1 + p.1, p.2)
    | _ => [(0, t)]
theorem sees_down {T : Tab} {w : World} : ∀ (F : Nat) {t : TypeId} {cs : List Value}, Sees T w (F + 1) t cs → Sees T w F t cs
  | 0, _, _, _ => trivial
  | F + 1, t, cs, h => by
    unfold Sees at h ⊢
    cases hk : (te T t).map (fun e : TE => e.k) with
    | none => trivial
    | some k =>
      rw [hk] at h
      cases k with
      | slice el =>
        rcases h with h | ⟨a, n, c, h1, h2, h3, h4⟩
        · exact .inl h
        · exact .inr ⟨a, n, c, h1, h2, h3, fun e' he' i hi => let ⟨vs, hv, hs⟩ := h4 e' he' i hi; ⟨vs, hv, sees_down F hs⟩⟩
      | struct fs => exact fun f hf e' he' => sees_down F (h f hf e' he')
      | _ => exact h
theorem sees_downs {T : Tab} {w : World} {F : Nat} {t : TypeId} {cs : List Value} : ∀ (d : Nat), Sees T w (F + d) t cs → Sees T w F t cs
  | 0, h => h
  | d + 1, h => sees_downs d (sees_down (F + d) h)
def oneK : TK → Bool
  | .int _ => true
  | .bool => true
  | .string => true
  | .slice _ => true
  | _ => false
theorem sees_one {T : Tab} {w : World} {F : Nat} {t : TypeId} {cs : List Value} {k : TK} (hk : (te T t).map (fun e : TE => e.k) = some k) (ho : oneK k = true) (h : Sees T w (F + 1) t cs) : ∃ v, cs = [v] := by
  unfold Sees at h
  rw [hk] at h
  cases k <;> first | (cases ho; done) | (obtain ⟨n, h1, _⟩ := h; exact ⟨_, h1⟩; done) | (obtain ⟨n, h1⟩ := h; exact ⟨_, h1⟩; done) | (rcases h with h | ⟨a, n, c, h, _⟩ <;> exact ⟨_, h⟩)
theorem sees_leaf {T : Tab} {w : World} {F : Nat} {k : TK} (ho : oneK k = true) {u : TypeId} (hk : (te T u).map (fun e : TE => e.k) = some k) : ∀ (d : Nat) {t : TypeId} {cs : List Value} {o : Nat}, (o, u) ∈ leaves T d t → (∀ p ∈ leaves T d t, (te T p.2).isSome = true) → Sees T w (F + 1 + d) t cs → ∃ v, cs[o]? = some v ∧ Sees T w (F + 1) u [v]
  | 0, t, cs, o, hm, _, h => by
    simp [leaves] at hm
    obtain ⟨rfl, rfl⟩ := hm
    obtain ⟨v, rfl⟩ := sees_one hk ho h
    exact ⟨v, rfl, h⟩
  | d + 1, t, cs, o, hm, hi, h => by
    have h0 := sees_downs (d + 1) h
    have h' : Sees T w (F + 1 + d + 1) t cs := h
    unfold leaves at hm hi
    unfold Sees at h'
    cases hkt : (te T t).map (fun e : TE => e.k) with
    | none =>
      rw [hkt] at hm
      simp at hm
      obtain ⟨rfl, rfl⟩ := hm
      rw [hk] at hkt; cases hkt
    | some kt =>
      rw [hkt] at hm hi h'
      have base : (o, u) ∈ [(0, t)] → ∃ v, cs[o]? = some v ∧ Sees T w (F + 1) u [v] := fun hm => by
        simp at hm
        obtain ⟨rfl, rfl⟩ := hm
        obtain ⟨v, rfl⟩ := sees_one hk ho h0
        exact ⟨v, rfl, h0⟩
      cases kt with
      | struct fs =>
        simp only [List.mem_flatMap, List.mem_map] at hm
        obtain ⟨f, hf, ⟨o', u'⟩, hp, he⟩ := hm
        simp only [Prod.mk.injEq] at he
        obtain ⟨rfl, rfl⟩ := he
        cases hte : te T f.2 with
        | none =>
          exfalso
          have h1 : leaves T d f.2 = [(0, f.2)] := by cases d <;> simp [leaves, hte]
          have h2 := hi (f.1 + 0, f.2) (List.mem_flatMap.2 ⟨f, hf, by rw [h1]; exact List.mem_map.2 ⟨(0, f.2), by simp, rfl⟩⟩)
          rw [hte] at h2; cases h2
        | some e' =>
          obtain ⟨v, hv, hs⟩ := sees_leaf ho hk d hp (fun p hp' => hi (f.1 + p.1, p.2) (List.mem_flatMap.2 ⟨f, hf, List.mem_map.2 ⟨p, hp', rfl⟩⟩)) (h' f hf e' hte)
          refine ⟨v, ?_, hs⟩
          rw [List.getElem?_take] at hv
          split at hv
          · rwa [List.getElem?_drop] at hv
          · cases hv
      | _ => exact base hm
theorem leaf_string {T : Tab} {w : World} {F d : Nat} {u t : TypeId} {cs : List Value} (hk : (te T u).map (fun e : TE => e.k) = some .string) (hi : (leaves T d t).all (fun p => (te T p.2).isSome) = true) (h : Sees T w (F + 1 + d) t cs) (o : Nat) (hm : (o, u) ∈ leaves T d t) : ∃ s : ByteArray, cs[o]? = some (.string s) ∧ s.size ≤ maxLen := by
  obtain ⟨v, hv, hs⟩ := sees_leaf rfl hk d hm (List.all_eq_true.1 hi) h
  unfold Sees at hs
  rw [hk] at hs
  obtain ⟨n, h1, h2⟩ := hs
  cases h1
  exact ⟨n, hv, h2⟩
/-- what a slice reads as, if each of its elements is so and so -/
theorem list_of_sees {T : Tab} {w : World} {F : Nat} {t el : TypeId} {e : TE} {cs : List Value} {α : Type} [Inhabited α] {enc : α → List Value} {G : α → Prop} (hk : (te T t).map (fun e : TE => e.k) = some (.slice el)) (he : te T el = some e) (h0 : 0 < e.size)
    (hlen : ∀ x, (enc x).length = e.size) (hone : ∀ x, (enc x).all Value.oneCell' = true)
    (hdec : ∀ vs, vs.length = e.size → Sees T w F el vs → ∃ x, vs = enc x ∧ G x) (h : Sees T w (F + 1) t cs) :
    ∃ A n c, ∃ l : List α, cs = [.slice A n c] ∧ l.length = n ∧ n ≤ c ∧ c ≤ maxLen ∧ (Rd e.size A n (l.flatMap enc)).holds (hp w) ∧ ∀ x ∈ l, G x := by
  unfold Sees at h
  rw [hk] at h
  rcases h with h | ⟨a, n, c, h1, h2, h3, h4⟩
  · exact ⟨none, 0, 0, [], h, rfl, Nat.le_refl _, Nat.zero_le _, Rd.nil _ _ _, fun _ h => by cases h⟩
  · have key : ∀ i, i < n → ∃ x, w.cells? 0 (a.add (i * e.size)) e.size = some (enc x) ∧ G x := fun i hi => by
      obtain ⟨vs, hv, hs⟩ := h4 e he i hi
      obtain ⟨x, rfl, hx⟩ := hdec vs (World.cells?_some hv).2.1 hs
      exact ⟨x, hv, hx⟩
    obtain ⟨f, hf⟩ : ∃ f : Nat → α, ∀ i, i < n → w.cells? 0 (a.add (i * e.size)) e.size = some (enc (f i)) ∧ G (f i) := by
      refine ⟨fun i => if hi : i < n then Classical.choose (key i hi) else default, fun i hi => ?_⟩
      simp only [hi, dite_true]
      exact Classical.choose_spec (key i hi)
    let l := (List.range n).map f
    have hll : l.length = n := by simp [l]
    refine ⟨some a, n, c, l, h1, hll, h2, h3, ⟨by rw [flat_len hlen, hll], fun v hv => ?_, fun hn => ?_⟩, fun x hx => ?_⟩
    · obtain ⟨x, _, hx⟩ := List.mem_flatMap.1 hv
      exact List.all_eq_true.1 (hone x) v hx
    · have hc0 := (World.cells?_some (hf 0 hn).1).2.2 0 h0
      have ha0 : a.add 0 = a := by unfold Addr.add; simp
      simp only [Nat.zero_mul, ha0] at hc0
      obtain ⟨g, o, sp⟩ := a
      have hx0 : (enc (f 0))[0]? ≠ none := by simp [hlen]; omega
      rw [← hc0] at hx0
      unfold World.cell? at hx0
      cases hw : w.heap[g]? with
      | none => simp [hw] at hx0
      | some ob =>
        cases ob <;> simp [hw] at hx0
        rename_i cur el' fz
        cases sp with
        | some s => simp at hx0
        | none =>
          refine ⟨g, o, cur, el', fz, rfl, hw, ?_⟩
          have hcell : ∀ j, w.cell? ⟨g, j, none⟩ = cur[j]? := fun j => by unfold World.cell?; simp [hw]
          have hget : ∀ k, k < n * e.size → cur[o + k]? = (l.flatMap enc)[k]? := fun k hk' => by
            have hq : k / e.size < n := by rw [Nat.div_lt_iff_lt_mul h0]; exact hk'
            have hm : k % e.size < e.size := Nat.mod_lt _ h0
            have h5 := (World.cells?_some (hf (k / e.size) hq).1).2.2 (k % e.size) hm
            rw [addr_add, addr_add, hcell, Nat.add_assoc, Nat.div_add_mod'] at h5
            rw [h5]
            have h6 : (enc (f (k / e.size)))[k % e.size]? = ((l.flatMap enc).drop (k / e.size * e.size))[k % e.size]? := by
              rw [flat_drop hlen]
              have : l.drop (k / e.size) = f (k / e.size) :: l.drop (k / e.size + 1) := by
                rw [List.drop_eq_getElem_cons (by rw [hll]; exact hq)]
                simp [l]
              rw [this, List.flatMap_cons, List.getElem?_append_left (by rw [hlen]; exact hm)]
            rw [h6, List.getElem?_drop, Nat.div_add_mod']
          have hL : (l.flatMap enc).length = n * e.size := by rw [flat_len hlen, hll]
          apply List.ext_getElem?
          intro k
          rcases Nat.lt_or_ge k (n * e.size) with hk' | hk'
          · rw [List.getElem?_take, if_pos hk', List.getElem?_drop, Array.getElem?_toList, hget k hk']
          · rw [List.getElem?_eq_none (by rw [List.length_take]; omega), List.getElem?_eq_none (by omega)]
    · obtain ⟨i, hi, rfl⟩ := List.mem_map.1 hx
      exact (hf i (List.mem_range.1 hi)).2
/-- these stand there, from k on -/
def AllAt (vs : List Value) : Nat → List Value → Prop
  | _, [] => True
  | k, x :: ws => vs[k]? = some x ∧ AllAt vs (k + 1) ws
theorem drop_of_at (vs : List Value) : ∀ (ws : List Value) (k : Nat), AllAt vs k ws → vs.length = k + ws.length → vs.drop k = ws
  | [], k, _, hl => List.drop_eq_nil_of_le (by simp at hl; omega)
  | x :: ws, k, h, hl => by
    have hk : k < vs.length := by simp at hl; omega
    have h1 := h.1
    rw [List.getElem?_eq_getElem hk] at h1
    rw [List.drop_eq_getElem_cons hk, drop_of_at vs ws (k + 1) h.2 (by simp at hl; omega)]
    simp at h1
    rw [h1]
theorem eq_of_at {vs ws : List Value} (hl : vs.length = ws.length) (h : AllAt vs 0 ws) : vs = ws := drop_of_at vs ws 0 h (by omega)
end Go.Sy
namespace Go.Proofs.YtjlfdfmkofbccaaGreatDoor
open Go.Sy Go.RowKit Go.ChangeShapes Go.WideShapes
theorem Tryz.own : ownKnob Tryz.prog.godebug = none := by kernel_rfl
theorem Tryz.laidOut : laidOutB Tryz.prog = true := by kernel_rfl
end Go.Proofs.YtjlfdfmkofbccaaGreatDoor
namespace Go.Proofs.YtjlfdfmkofbccaaGreatDoor
open Go.Sy Go.RowKit Go.ChangeShapes Go.WideShapes
theorem str_dec {w : World} {F : Nat} {vs : List Value} (hl : vs.length = 1) (h : Sees Tryz.tab w (F + 1) 9 vs) : ∃ x : ByteArray, vs = encS x ∧ x.size ≤ maxLen := by
  obtain ⟨n0, e0, w0⟩ := leaf_string (F := F) (d := 0) (u := 9) rfl rfl h 0 (by decide)
  exact ⟨n0, eq_of_at hl (And.intro e0 trivial), w0⟩
/-- what the rows list -/
abbrev laidL : List (String × DataW Unit) := Rows.walNoneRow.laid
theorem door_met (os : Os) (args : Array Value) : laidMetH Tryz.prog laidL ((World.doorLaid Tryz.prog 400 os).forCall (fun _ _ => 0) ⟨#[], args, []⟩).memory := by
  rw [MakeChecks.laidMetH_plain _ _ _ (by kernel_rfl)]
  exact laidMet_of_run' 8 (by kernel_rfl) (by kernel_rfl)
theorem tab_of {W : World} (h : laidMetH Tryz.prog laidL W) : TabA.holds (hp W) := by
  rw [MakeChecks.laidMetH_plain _ _ _ (by kernel_rfl)] at h
  obtain ⟨g, hg, hgt⟩ : ∃ g, Tryz.prog.globalNamed "internal/strconv.uint64pow10" = some g ∧ (Tryz.prog.globals[g]?).map (·.type) = some 176 := ⟨0, by kernel_rfl, by kernel_rfl⟩
  have h3 : Lib.TabIs Tryz.prog W "internal/strconv.uint64pow10" .u64 Lib.pow10Tab := Lib.tabIs_of_head (g := g) (t := 176) (e := 160) (n := 20) hg hgt (by kernel_rfl) (by kernel_rfl) (by kernel_rfl) (by kernel_rfl) (laidMet.tail (laidMet.tail h))
  intro w hw
  have h4 : W.var? Tryz.prog "internal/strconv.uint64pow10" = some (Lib.pow10Tab.map fun z => Value.int .u64 z).toArray := h3
  show w.var? Tryz.prog "internal/strconv.uint64pow10" = some _
  unfold World.var? at h4 ⊢
  rw [hg] at h4 ⊢
  simp only [Option.bind_some] at h4 ⊢
  cases hx : W.heap[g]? with
  | none => rw [hx] at h4; cases h4
  | some o =>
    rw [hx] at h4
    have h5 : w.heap[g]? = some o := hw g o hx
    rw [h5]
    exact h4
end Go.Proofs.YtjlfdfmkofbccaaGreatDoor
namespace Go.Proofs.YtjlfdfmkofbccaaGreatDoor
open Go.Sy Go.RowKit Go.ChangeShapes Go.WideShapes
set_option maxRecDepth 100000 in
theorem walNone_lifted (os : Os) (started : os.Started) (H : Type) (enc : TypeId × Value → H) :
    ReturnsInHanded {} Tryz.checked os 4 .any (fun w args => (Rows.walNoneSpec.pre enc Tryz.prog Tryz.f4 Rows.walNoneRow.domain Rows.walNoneRow.apart w args ∧ laidMetH Tryz.prog Rows.walNoneRow.laid w) ∧ sizedMet enc Tryz.prog Tryz.f4 (OpenSpec.ofChange Rows.walNoneSpec) Rows.walNoneRow.apart w args) (Rows.walNoneSpec.post enc Tryz.prog Tryz.f4 Rows.walNoneRow.apart Rows.walNoneRow.fresh Rows.walNoneRow.handsOn Rows.walNoneRow.again) := by
  refine returnsInHanded_of_change_and (C := Tryz.checked) (X := fun w _ => laidMetH Tryz.prog Rows.walNoneRow.laid w) (fun _ _ _ hh h => h.of_heap hh) Tryz.own started (by kernel_rfl) Tryz.func4
    (ChangeSpec.witness_shaped (enc := enc) (C := Tryz.checked) (os := os) (X := fun w _ => laidMetH Tryz.prog Rows.walNoneRow.laid w) false (World.doorLaid Tryz.prog 400 os) #[.slice none 0 0] 8 rfl (World.shaped_of_RefB (by kernel_rfl) (by kernel_rfl)) (by kernel_rfl) (by kernel_rfl) (by kernel_rfl) (door_met os _)) ?_
  intro W base args ds gs before hval0 hW hcnd _ hL _
  have htab := tab_of hL
  have hval : ∀ (j : Nat) t v, Tryz.f4.params[j]? = some t → args[j]? = some v → Value.okWide Tryz.prog W .any base t v := hval0
  obtain ⟨p, q, hA0, hV, _, _, _⟩ := id hW
  have hA : DataW.TrodAll enc Tryz.prog W 0 (fun _ => true) true Tryz.f4.params.toList args.toList ds p := hA0
  clear hval0 hA0
  obtain ⟨rfl, _⟩ := trodVars_none hV
  have hpar : Tryz.f4.params = #[30] := by kernel_rfl
  rw [hpar] at hA hval
  obtain ⟨v0, d0, rfl, rfl, fuel0, hf0⟩ := trodAll_one hA
  obtain ⟨A0, n0, c0, rfl⟩ := okWide_slice (P := Tryz.prog) (t := 30) (e := 9) (by kernel_rfl) (hval 0 _ _ rfl rfl)
  obtain ⟨A0', n0', c0', l0, hl0, hln0, hc0, hm0, hr0, hg0⟩ := list_of_sees (F := 0 + 1) (t := 30) (el := 9) (enc := encS) (G := fun x => x.size ≤ maxLen) rfl rfl (by decide) encS_len (fun _ => rfl) (fun vs hl h => str_dec hl h) (sees_of_trod Tryz.tbs_ok.tab 2 fuel0 _ _ _ hf0)
  cases hl0
  refine (walNone A0 l0 n0 c0 hln0.symm W Hp.emp (hp W) (Hp.emp_le _) (Hp.le_refl _) (Hp.emp_dis _) trivial (fun X hX => ?_)).mono fun e W' ⟨_, _, he, _, _, _, hext, _⟩ => ?_
  · simp only [List.mem_cons, List.not_mem_nil, or_false] at hX
    rcases hX with rfl | rfl
    · exact htab
    · exact hr0
  · exact ⟨.bool true, he, post_true Tryz.laidOut (by kernel_rfl) rfl (rt := 4) (by kernel_rfl) (by kernel_rfl) hW hext.below rfl rfl rfl⟩
theorem walNone_holds : Rows.WalNoneSaid :=
  OpenClaim.holds_of_wide 4 Tryz.f4 rfl rfl rfl rfl rfl rfl rfl ⟨rfl, rfl, rfl, rfl, rfl⟩ rfl rfl rfl rfl rfl (by kernel_rfl) Tryz.func4 (by kernel_rfl)
    (of_decide_eq_true (by kernel_rfl)) (by unfold Func.isWrapper; rw [if_neg (by decide +kernel)]; exact ⟨rfl, rfl⟩)
    (fun os started H enc _ => walNone_lifted os started H enc)
set_option maxRecDepth 100000 in
theorem walNone_card : Rows.WalNoneCardSaid :=
  Claim7.holds_tied_plain_at .later [] [.data, .data, .data] true Rows.walNoneCard.stood.harness false
    walNone_holds (fun _ h => by cases h) (by kernel_rfl) (fun _ h => by cases h) walNone_row_tie rfl ⟨rfl, rfl⟩ (by kernel_rfl) rfl
    (fun f fn hf hfn => by
      obtain rfl : f = 4 := (Option.some.inj ((show Tryz.prog.funcNamed Rows.walNoneRow.func = some 4 by kernel_rfl).symm.trans hf)).symm
      obtain rfl : fn = Tryz.f4 := (Option.some.inj (Tryz.func4.symm.trans hfn)).symm
      refine ⟨by kernel_rfl, fun j t ht => ?_⟩
      have hpar : Tryz.f4.params = #[30] := by kernel_rfl
      rw [hpar] at ht
      have hm : t ∈ [30] := by
        rw [show (#[30] : Array TypeId)[j]? = ([30] : List TypeId)[j]? from by simp] at ht
        exact List.mem_of_getElem? ht
      simp only [List.mem_cons, List.not_mem_nil, or_false] at hm
      rcases hm with rfl
      exact (show Tryz.prog.wantsStandIn 30 = false by kernel_rfl))
    (by kernel_rfl)
end Go.Proofs.YtjlfdfmkofbccaaGreatDoor
