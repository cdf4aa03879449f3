/-
  What is proved: walRoom_card. Conditions: none.
-/
import Derived.Test.YtjlfdfmkofbccaaGreatDoorCards
import Derived.Test.YtjlfdfmkofbccaaGreatDoorTie
import Derived.SevenTiedAt
import Derived.LaidLaws
import Derived.LaidMore
import Derived.Lib.LaidTab
import Derived.Stop.LaidErr
import Derived.OpenShut
import Derived.ChangeMaps5
import Derived.Test.YtjlfdfmkofbccaaGreatDoorWb6
namespace Go.Proofs.YtjlfdfmkofbccaaGreatDoor
open Go.Sy
set_option maxHeartbeats 16000000 in
set_option maxRecDepth 100000 in
theorem walRoom (cap many : Int) (hc : 0 ≤ cap ∧ cap < 65536) (hm : 0 ≤ many ∧ many < 65536) :
 Triple Tryz.prog 7 [.int .u16 cap, .int .u16 many] [] [TabA] Unit (fun _ => .bool true) (fun _ => True) (fun _ => []) := by
 have ht1 : cap.tmod 30000 = cap % 30000 := Int.tmod_eq_emod_of_nonneg hc.1
 have ht2 : many.tmod 2000 = many % 2000 := Int.tmod_eq_emod_of_nonneg hm.1
 have TN := newM (3000 + cap.tmod 30000 * 30) (by omega) (by omega)
 have R0 : Room ⟨0, false, 0, 0⟩ ⟨3000 + cap.tmod 30000 * 30, 0, false, [], none, []⟩ [] 0 := Room.new (by omega) (by omega)
 obtain ⟨D0, hD0⟩ : ∃ D0 : DK, D0 = ⟨3000 + cap.tmod 30000 * 30, 0, false, [], none, []⟩ := ⟨_, rfl⟩
 obtain ⟨W0, hW0⟩ : ∃ W0 : WK, W0 = ⟨0, false, 0, 0⟩ := ⟨_, rfl⟩
 rw [← hD0, ← hW0] at R0
 rw [← hD0] at TN
 have TO := fun q => openLit q R0.ok.1 R0.live.self
 have TW := worksT
 obtain ⟨np, hnp⟩ : ∃ np : Nat, 100 + many.tmod 2000 = (np : Int) := ⟨(100 + many.tmod 2000).toNat, by omega⟩
 obtain ⟨zl, hzl⟩ : ∃ zl : List UInt8, zl = List.replicate np 0 := ⟨_, rfl⟩
 have hlz : np = zl.length := by rw [hzl, List.length_replicate]
 have hnp2 : np ≤ 2099 := by omega
 refine triple_intro Tryz.tbs_ok Tryz.func7 rfl [.va (.int .u16 cap), .va (.int .u16 many)] [] ⟨trivial, trivial, trivial⟩ rfl (by simp) ?_
 intro E
 refine go_fact (Row 9 1 none 0 0 (([] : List ByteArray).flatMap encS)) (Row.nilE _ _) ?_
 refine go Tryz.tbs_ok 1000 ?_
 refine ev_w64 (by constructor <;> omega) ?_
 refine ev_w64 (by constructor <;> omega) ?_
 refine ev_w64 (by constructor <;> omega) ?_
 refine ev_callF (TN ) [] [] rfl rfl (by decide) rfl (by simp) (fun _ => (by repeat (first | exact trivial | refine ⟨rfl, ?_⟩))) (fun x0 h1 => ?_)
 refine go Tryz.tbs_ok 1000 ?_
 refine ev_callF (TO (x0)) [1] [.inl 0] rfl rfl (by decide) rfl (by simp) (fun _ => (by repeat (first | exact trivial | refine ⟨rfl, ?_⟩))) (fun ⟨x2, x3, x4⟩ h5 => ?_)
 refine go Tryz.tbs_ok 1000 ?_
 refine ev_if_no rfl ?_
 refine go Tryz.tbs_ok 1000 ?_
 refine ev_if_no rfl ?_
 refine go Tryz.tbs_ok 1000 ?_
 refine ev_w64 (by constructor <;> omega) ?_
 refine ev_w64 (by constructor <;> omega) ?_
 refine ev_stop (go_slot 47 _ (.va (.int IntKind.i64 ((np : Nat) : Int))) rfl rfl (congrArg (fun z => Value.int IntKind.i64 z) (show 100 + many.tmod 2000 = ((np : Nat) : Int) by first | omega | (simp only [List.getElem_set_self]; omega))) (fun _ => trivial) ?_)
 refine go Tryz.tbs_ok 1000 ?_
 refine ev_stop (go_make (sz := 1) Tryz.tbs_ok (np) (np) rfl rfl rfl rfl rfl rfl rfl rfl rfl (by omega) (le_max (by omega)) (le_bytes (by omega) (by decide)) (fun _ => (by repeat (first | exact trivial | refine ⟨rfl, ?_⟩))) (fun b6 => ?_))
 refine go Tryz.tbs_ok 1000 ?_
 have hrep : ((List.replicate np ()).flatMap fun _ => [Value.int .u8 0]) = (List.replicate np (0 : UInt8)).flatMap encC := flat_rep (enc := encC) (z := 0) np
 refine go_turn 4 (Row 5 1 (some ⟨b6, 0, none⟩) np np ((List.replicate np ()).flatMap fun _ => [.int .u8 0])) (fun _ : Unit => Row 5 1 (some ⟨b6, 0, none⟩) np np (zl.flatMap encC)) rfl (fun h p => ⟨(), by rw [hzl, ← hrep]; exact p⟩) (fun _ => ?_)
 refine go Tryz.tbs_ok 1000 ?_
 refine ev_stop (go_stringOf Tryz.tbs_ok (zl) (.inr 4) rfl rfl rfl rfl rfl rfl rfl (by first | rfl | omega | (simp; omega)) (fun _ h => Row.rd h) ?_)
 refine go Tryz.tbs_ok 1000 ?_
 refine ev_stop (go_slot 12 _ (.bq false) rfl rfl rfl (fun _ => trivial) ?_)
 refine go Tryz.tbs_ok 1000 ?_
 refine ev_stop (go_loopR [4, 11, 12, 13, 14, 15, 16, 23, 29, 32, 34, 50, 51, 52, 53, 54, 55, 56, 57, 58, 59, 60, 61, 62, 63, 64, 65, 66, 67, 68, 69, 70, 71, 72, 73, 74, 75, 76, 77, 78, 79, 80, 81, 82, 83, 84, 85, 86, 87, 88, 89] (fun (i, full, H, nh, ch, _) => [(11, .va (.slice H nh ch)), (12, .bq full), (13, .va (.int .i64 (i : Nat)))]) (fun (_, _, H, nh, ch, W, D, hv) => [(0, .fact (Row 9 1 H nh ch (hv.flatMap encS))), (1, .fact (WalM x2 x0 W)), (2, .fact (DiskM x0 D))]) (fun (i, full, _, nh, ch, W, D, hv) => i ≤ 400 ∧ Room W D hv i ∧ nh = hv.length ∧ (nh = 2 * i ∨ full = true) ∧ nh ≤ 2 * i) (fun (i, _) => 400 - i) ((0, false, none, 0, 0, W0, D0, []) : Nat × Bool × Option Addr × Nat × Nat × WK × DK × List ByteArray) ⟨Nat.zero_le _, R0, rfl, .inl rfl, Nat.le_refl _⟩ ⟨⟨by kernel_rfl, by kernel_rfl⟩, ⟨_, rfl⟩, ⟨_, rfl⟩, by kernel_rfl, by kernel_rfl⟩ (fun x_ h_ => ?_))
 obtain ⟨i, full, H, nh, ch, W, D, hv⟩ := x_
 obtain ⟨hi, hR, hlen, hh, hcap⟩ := h_
 have hlen8 : nh ≤ 10000 := by omega
 obtain ⟨hokD, hokW, ht⟩ := hR.ok
 obtain ⟨hz1, hz2, hz3, hz4⟩ := hR.size
 obtain ⟨P, hP⟩ : ∃ P : ByteArray, P = ⟨zl.toArray⟩ := ⟨_, rfl⟩
 have hPs : P.size = np := by rw [hP, hlz]; exact List.size_toArray
 have hsm : ∀ p ∈ [P, P], p.size ≤ 8192 := fun p hp => by
  simp only [List.mem_cons, List.not_mem_nil, or_false, or_self] at hp
  rw [hp]
  omega
 have hsb : ∀ p ∈ [P, P], p.size ≤ 900000000 := fun p hp => Nat.le_trans (hsm p hp) (by decide)
 rcases Nat.lt_or_ge i 400 with hi4 | hi4
 · cases full with
   |
    true =>
    have TZ := sizeWT x2 x0 W D hokD hokW ht
    have TS := segsWT x2 x0 W D hokD hokW
    have TM := namesM x0 D hokD
    rw [hz1] at TZ
    rw [hz3] at TS
    rw [hz4] at TM
    have hsv : small hv := hR.smalls
    have TK := rdsR2 (e := 9) (ch := ch) (ckWT x2 x0 W D H hv nh ch hlen hlen8 (fun p q => Nat.le_trans (hsv p q) (by decide)) hokD hokW)
    rcases hR.ck hsv with ⟨g1, g2⟩ | g1
    · obtain ⟨W1, hW1⟩ : ∃ W1, W1 = (ckW W D hv).1 := ⟨_, rfl⟩
      obtain ⟨D1, hD1⟩ : ∃ D1, D1 = (ckW W D hv).2.1 := ⟨_, rfl⟩
      rw [g1] at TK
      rw [← hW1, ← hD1] at TK g2
      obtain ⟨W2, D2, f1, f2, f3, f4⟩ := g2.noneC (by omega)
      have TO1 := openLit x0 g2.ok.1 g2.live.self
      have TE := fun A c => same2 A H hv hv.length c nh ch rfl hlen hR.live.small
      have TK2 := rdsNil (ckWT x2 x0 W1 D1 none [] 0 0 rfl (by decide) (fun p q => by cases q) g2.ok.1 g2.ok.2.1)
      rw [f1] at TK2
      have TO2 := openLit x0 f2.ok.1 f2.live.self
      have TZ2 := sizeWT x2 x0 W2 D2 f2.ok.1 f2.ok.2.1 f2.ok.2.2
      have TS2 := segsWT x2 x0 W2 D2 f2.ok.1 f2.ok.2.1
      rw [f3] at TZ2
      rw [f4] at TS2
      refine go Tryz.tbs_ok 1000 ?_
      refine ev_if_yes (decide_eq_true (show (↑i : Int) < 400 from (by omega))) ?_
      refine go Tryz.tbs_ok 1000 ?_
      refine ev_if_no rfl ?_
      refine go Tryz.tbs_ok 1000 ?_
      refine ev_fin (go Tryz.tbs_ok 1000 ?_)
      refine ev_callF (TZ ) [1, 2] [.inl 0] rfl rfl (by decide) rfl (by simp) (fun _ => (by repeat (first | exact trivial | refine ⟨rfl, ?_⟩))) (fun _ h30 => ?_)
      refine go Tryz.tbs_ok 1000 ?_
      refine ev_callF (TK ) [1, 2] [.inl 0, .inr 0] rfl rfl (by decide) rfl (by simp) (fun _ => (by repeat (first | exact trivial | refine ⟨rfl, ?_⟩))) (fun _ h31 => ?_)
      refine go Tryz.tbs_ok 1000 ?_
      refine ev_if_no rfl ?_
      refine go Tryz.tbs_ok 1000 ?_
      refine ev_if_no rfl ?_
      refine go Tryz.tbs_ok 1000 ?_
      refine ev_callF (TO1 ) [2] [.inl 0] rfl rfl (by decide) rfl (by simp) (fun _ => (by repeat (first | exact trivial | refine ⟨rfl, ?_⟩))) (fun ⟨x32, x33, x34⟩ h35 => ?_)
      refine go Tryz.tbs_ok 1000 ?_
      refine ev_if_no rfl ?_
      refine go Tryz.tbs_ok 1000 ?_
      refine ev_callF (TE (x33) (x34)) [] [.inr 6, .inr 0] rfl rfl (by decide) rfl (by simp) (fun _ => (by repeat (first | exact trivial | refine ⟨rfl, ?_⟩))) (fun _ h36 => ?_)
      refine go Tryz.tbs_ok 1000 ?_
      refine ev_if_no rfl ?_
      refine go Tryz.tbs_ok 1000 ?_
      refine ev_callF (TK2 ) [1, 5] [.inl 0] rfl rfl (by decide) rfl (by simp) (fun _ => (by repeat (first | exact trivial | refine ⟨rfl, ?_⟩))) (fun _ h37 => ?_)
      refine go Tryz.tbs_ok 1000 ?_
      refine ev_callF (TO2 ) [5] [.inl 0] rfl rfl (by decide) rfl (by simp) (fun _ => (by repeat (first | exact trivial | refine ⟨rfl, ?_⟩))) (fun ⟨x38, x39, x40⟩ h41 => ?_)
      refine go Tryz.tbs_ok 1000 ?_
      refine ev_if_yes rfl ?_
      refine go Tryz.tbs_ok 1000 ?_
      refine ev_if_yes rfl ?_
      refine go Tryz.tbs_ok 1000 ?_
      refine ev_if_yes rfl ?_
      refine go Tryz.tbs_ok 1000 ?_
      refine ev_if_yes rfl ?_
      refine go Tryz.tbs_ok 1000 ?_
      refine ev_callF (TZ2 ) [1, 7] [.inl 0] rfl rfl (by decide) rfl (by simp) (fun _ => (by repeat (first | exact trivial | refine ⟨rfl, ?_⟩))) (fun _ h42 => ?_)
      refine go Tryz.tbs_ok 1000 ?_
      refine ev_if_yes rfl ?_
      refine go Tryz.tbs_ok 1000 ?_
      refine ev_callF (TS2 ) [1, 7] [.inl 0] rfl rfl (by decide) rfl (by simp) (fun _ => (by repeat (first | exact trivial | refine ⟨rfl, ?_⟩))) (fun _ h43 => ?_)
      refine go Tryz.tbs_ok 1000 ?_
      refine ev_if_yes rfl ?_
      refine go Tryz.tbs_ok 1000 ?_
      refine ev_callF (TW ) [] [.inl 0] rfl rfl (by decide) rfl (by simp) (fun _ => (by repeat (first | exact trivial | refine ⟨rfl, ?_⟩))) (fun _ h44 => ?_)
      refine go Tryz.tbs_ok 1000 ?_
      refine ev_fin ⟨trivial, _, rfl, (()), rfl, (by trivial), Frm.nil _⟩
    · rw [g1] at TK
      obtain ⟨W2, D2, f1, f2, f3, f4⟩ := hR.noneC (by omega)
      have TO1 := openLit x0 hokD hR.live.self
      have TE := fun A c => same2 A H hv hv.length c nh ch rfl hlen hR.live.small
      have TK2 := rdsNil (ckWT x2 x0 W D none [] 0 0 rfl (by decide) (fun p q => by cases q) hokD hokW)
      rw [f1] at TK2
      have TO2 := openLit x0 f2.ok.1 f2.live.self
      have TZ2 := sizeWT x2 x0 W2 D2 f2.ok.1 f2.ok.2.1 f2.ok.2.2
      have TS2 := segsWT x2 x0 W2 D2 f2.ok.1 f2.ok.2.1
      rw [f3] at TZ2
      rw [f4] at TS2
      refine go Tryz.tbs_ok 1000 ?_
      refine ev_if_yes (decide_eq_true (show (↑i : Int) < 400 from (by omega))) ?_
      refine go Tryz.tbs_ok 1000 ?_
      refine ev_if_no rfl ?_
      refine go Tryz.tbs_ok 1000 ?_
      refine ev_fin (go Tryz.tbs_ok 1000 ?_)
      refine ev_callF (TZ ) [1, 2] [.inl 0] rfl rfl (by decide) rfl (by simp) (fun _ => (by repeat (first | exact trivial | refine ⟨rfl, ?_⟩))) (fun _ h30 => ?_)
      refine go Tryz.tbs_ok 1000 ?_
      refine ev_callF (TK ) [1, 2] [.inl 0, .inr 0] rfl rfl (by decide) rfl (by simp) (fun _ => (by repeat (first | exact trivial | refine ⟨rfl, ?_⟩))) (fun _ h31 => ?_)
      refine go Tryz.tbs_ok 1000 ?_
      refine ev_if_yes rfl ?_
      refine go Tryz.tbs_ok 1000 ?_
      refine ev_callF (TZ ) [1, 2] [.inl 0] rfl rfl (by decide) rfl (by simp) (fun _ => (by repeat (first | exact trivial | refine ⟨rfl, ?_⟩))) (fun _ h32 => ?_)
      refine go Tryz.tbs_ok 1000 ?_
      refine ev_if_no (ne_no (show (↑(ByteArray.size (FB hv)) : Int) = (↑(ByteArray.size (FB hv)) : Int) from (by omega))) ?_
      refine go Tryz.tbs_ok 1000 ?_
      refine ev_callF (TM ) [2] [] rfl rfl (by decide) rfl (by simp) (fun _ => (by repeat (first | exact trivial | refine ⟨rfl, ?_⟩))) (fun ⟨x33, x34⟩ h35 => ?_)
      refine go Tryz.tbs_ok 1000 ?_
      refine ev_callF (TS ) [1, 2] [.inl 0] rfl rfl (by decide) rfl (by simp) (fun _ => (by repeat (first | exact trivial | refine ⟨rfl, ?_⟩))) (fun _ h36 => ?_)
      refine go Tryz.tbs_ok 1000 ?_
      refine ev_if_no (ne_no (show (↑(segsM W.b W.t).length : Int) = (↑(segsM W.b W.t).length : Int) from (by omega))) ?_
      refine go Tryz.tbs_ok 1000 ?_
      refine ev_callF (TO1 ) [2] [.inl 0] rfl rfl (by decide) rfl (by simp) (fun _ => (by repeat (first | exact trivial | refine ⟨rfl, ?_⟩))) (fun ⟨x37, x38, x39⟩ h40 => ?_)
      refine go Tryz.tbs_ok 1000 ?_
      refine ev_if_no rfl ?_
      refine go Tryz.tbs_ok 1000 ?_
      refine ev_callF (TE (x38) (x39)) [] [.inr 7, .inr 0] rfl rfl (by decide) rfl (by simp) (fun _ => (by repeat (first | exact trivial | refine ⟨rfl, ?_⟩))) (fun _ h41 => ?_)
      refine go Tryz.tbs_ok 1000 ?_
      refine ev_if_no rfl ?_
      refine go Tryz.tbs_ok 1000 ?_
      refine ev_callF (TK2 ) [1, 6] [.inl 0] rfl rfl (by decide) rfl (by simp) (fun _ => (by repeat (first | exact trivial | refine ⟨rfl, ?_⟩))) (fun _ h42 => ?_)
      refine go Tryz.tbs_ok 1000 ?_
      refine ev_callF (TO2 ) [6] [.inl 0] rfl rfl (by decide) rfl (by simp) (fun _ => (by repeat (first | exact trivial | refine ⟨rfl, ?_⟩))) (fun ⟨x43, x44, x45⟩ h46 => ?_)
      refine go Tryz.tbs_ok 1000 ?_
      refine ev_if_yes rfl ?_
      refine go Tryz.tbs_ok 1000 ?_
      refine ev_if_yes rfl ?_
      refine go Tryz.tbs_ok 1000 ?_
      refine ev_if_yes rfl ?_
      refine go Tryz.tbs_ok 1000 ?_
      refine ev_if_yes rfl ?_
      refine go Tryz.tbs_ok 1000 ?_
      refine ev_callF (TZ2 ) [1, 8] [.inl 0] rfl rfl (by decide) rfl (by simp) (fun _ => (by repeat (first | exact trivial | refine ⟨rfl, ?_⟩))) (fun _ h47 => ?_)
      refine go Tryz.tbs_ok 1000 ?_
      refine ev_if_yes rfl ?_
      refine go Tryz.tbs_ok 1000 ?_
      refine ev_callF (TS2 ) [1, 8] [.inl 0] rfl rfl (by decide) rfl (by simp) (fun _ => (by repeat (first | exact trivial | refine ⟨rfl, ?_⟩))) (fun _ h48 => ?_)
      refine go Tryz.tbs_ok 1000 ?_
      refine ev_if_yes rfl ?_
      refine go Tryz.tbs_ok 1000 ?_
      refine ev_callF (TW ) [] [.inl 0] rfl rfl (by decide) rfl (by simp) (fun _ => (by repeat (first | exact trivial | refine ⟨rfl, ?_⟩))) (fun _ h49 => ?_)
      refine go Tryz.tbs_ok 1000 ?_
      refine ev_fin ⟨trivial, _, rfl, (()), rfl, (by trivial), Frm.nil _⟩
   |
    false =>
    have TZ := sizeWT x2 x0 W D hokD hokW ht
    have TS := segsWT x2 x0 W D hokD hokW
    obtain ⟨W1, hW1⟩ : ∃ W1, W1 = (appW W D [P, P]).1 := ⟨_, rfl⟩
    obtain ⟨D1, hD1⟩ : ∃ D1, D1 = (appW W D [P, P]).2.1 := ⟨_, rfl⟩
    obtain ⟨e, hee⟩ : ∃ e, e = (appW W D [P, P]).2.2 := ⟨_, rfl⟩
    have he : appW W D [P, P] = (W1, D1, e) := Prod.ext hW1.symm (Prod.ext hD1.symm hee.symm)
    have T := fun bx => appLit x2 x0 [P, P] bx 2 [.string P, .string P] rfl rfl (by decide) hsb hokD hokW he
    have hout := hR.app hsm
    rw [he] at hout
    dsimp only at hout
    rw [hP] at T
    rcases hout with ⟨h1, h2⟩ | ⟨h1, h2, h3⟩
    · subst h1
      rw [hP] at h2
      refine go Tryz.tbs_ok 1000 ?_
      refine ev_if_yes (decide_eq_true (show (↑i : Int) < 400 from (by omega))) ?_
      refine go Tryz.tbs_ok 1000 ?_
      refine ev_if_yes rfl ?_
      refine go Tryz.tbs_ok 1000 ?_
      refine ev_callF (TZ ) [1, 2] [.inl 0] rfl rfl (by decide) rfl (by simp) (fun _ => (by repeat (first | exact trivial | refine ⟨rfl, ?_⟩))) (fun _ h30 => ?_)
      refine go Tryz.tbs_ok 1000 ?_
      refine ev_callF (TS ) [1, 2] [.inl 0] rfl rfl (by decide) rfl (by simp) (fun _ => (by repeat (first | exact trivial | refine ⟨rfl, ?_⟩))) (fun _ h31 => ?_)
      refine go Tryz.tbs_ok 1000 ?_
      refine ev_new fun b32 => ?_
      refine ev_callF (T (b32)) [1, 2] [.inl 0, .inr 5] rfl rfl (by decide) rfl (by simp) (fun _ => (by repeat (first | exact trivial | refine ⟨rfl, ?_⟩))) (fun _ h33 => ?_)
      refine go Tryz.tbs_ok 1000 ?_
      refine ev_if_yes rfl ?_
      refine go Tryz.tbs_ok 1000 ?_
      refine ev_new fun b34 => ?_
      refine ev_stop (go_appendE (sz := 1) (M := [_]) (enc := encS) Tryz.tbs_ok [0] [] (.inr 6) (hv) ([{ data := zl.toArray : ByteArray }, { data := zl.toArray : ByteArray }]) ((hv) ++ ([{ data := zl.toArray : ByteArray }, { data := zl.toArray : ByteArray }])) (nh + 2) rfl rfl rfl rfl rfl rfl rfl (by decide) rfl (by decide) (fun _ p => starH_one.1 p) rfl (fun _ p => Pt.rd p rfl) (by first | rfl | simp) (by first | rfl | omega) (le_app (s := nh + 2) (by omega) (by first | rfl | omega)) (le_appb (s := nh + 2) (by omega) (by first | rfl | omega) (by decide)) (fun _ _ => (by repeat (first | exact trivial | refine ⟨rfl, ?_⟩))) (fun A35 c36 h37 => ?_))
      refine go Tryz.tbs_ok 1000 ?_
      refine ev_wrapN (i + 1) (by constructor <;> omega) (by rfl) ?_
      refine ev_fin (round_next ((i + 1, false, A35, nh + 2, c36, W1, D1, hv ++ [{ data := zl.toArray : ByteArray }, { data := zl.toArray : ByteArray }])) (?_ : i + 1 ≤ 400 ∧ Room W1 D1 (hv ++ [{ data := zl.toArray : ByteArray }, { data := zl.toArray : ByteArray }]) (i + 1) ∧ nh + 2 = (hv ++ [{ data := zl.toArray : ByteArray }, { data := zl.toArray : ByteArray }]).length ∧ (nh + 2 = 2 * (i + 1) ∨ false = true) ∧ nh + 2 ≤ 2 * (i + 1)) (show 400 - (i + 1) < 400 - i from (by omega)) ⟨⟨by kernel_rfl, by kernel_rfl⟩, ⟨_, rfl⟩, ⟨_, rfl⟩, by kernel_rfl, by kernel_rfl⟩)
      exact ⟨by omega, h2, by rw [List.length_append, hlen]; rfl, .inl (hh.elim (fun q => by omega) (fun q => by cases q)), by omega⟩
    · subst h1 h2
      obtain ⟨g1, g2, g3, g4⟩ := h3.size
      obtain ⟨k1, k2, k3⟩ := h3.ok
      have TZ2 := sizeWT x2 x0 W1 D1 k1 k2 k3
      have TS2 := segsWT x2 x0 W1 D1 k1 k2
      rw [g1] at TZ2
      rw [g3] at TS2
      rw [hz1] at TZ
      rw [hz3] at TS
      refine go Tryz.tbs_ok 1000 ?_
      refine ev_if_yes (decide_eq_true (show (↑i : Int) < 400 from (by omega))) ?_
      refine go Tryz.tbs_ok 1000 ?_
      refine ev_if_yes rfl ?_
      refine go Tryz.tbs_ok 1000 ?_
      refine ev_callF (TZ ) [1, 2] [.inl 0] rfl rfl (by decide) rfl (by simp) (fun _ => (by repeat (first | exact trivial | refine ⟨rfl, ?_⟩))) (fun _ h30 => ?_)
      refine go Tryz.tbs_ok 1000 ?_
      refine ev_callF (TS ) [1, 2] [.inl 0] rfl rfl (by decide) rfl (by simp) (fun _ => (by repeat (first | exact trivial | refine ⟨rfl, ?_⟩))) (fun _ h31 => ?_)
      refine go Tryz.tbs_ok 1000 ?_
      refine ev_new fun b32 => ?_
      refine ev_callF (T (b32)) [1, 2] [.inl 0, .inr 5] rfl rfl (by decide) rfl (by simp) (fun _ => (by repeat (first | exact trivial | refine ⟨rfl, ?_⟩))) (fun _ h33 => ?_)
      refine go Tryz.tbs_ok 1000 ?_
      refine ev_if_no rfl ?_
      refine go Tryz.tbs_ok 1000 ?_
      refine ev_if_yes rfl ?_
      refine go Tryz.tbs_ok 1000 ?_
      refine ev_callF (TZ2 ) [1, 2] [.inl 0] rfl rfl (by decide) rfl (by simp) (fun _ => (by repeat (first | exact trivial | refine ⟨rfl, ?_⟩))) (fun _ h34 => ?_)
      refine go Tryz.tbs_ok 1000 ?_
      refine ev_if_yes (beq_iff_eq.2 (show (↑(ByteArray.size (FB hv)) : Int) = (↑(ByteArray.size (FB hv)) : Int) from (by omega))) ?_
      refine go Tryz.tbs_ok 1000 ?_
      refine ev_callF (TS2 ) [1, 2] [.inl 0] rfl rfl (by decide) rfl (by simp) (fun _ => (by repeat (first | exact trivial | refine ⟨rfl, ?_⟩))) (fun _ h35 => ?_)
      refine go Tryz.tbs_ok 1000 ?_
      refine ev_if_no (ne_no (show (↑(segsM W1.b W1.t).length : Int) = (↑(segsM W1.b W1.t).length : Int) from (by omega))) ?_
      refine go Tryz.tbs_ok 1000 ?_
      refine ev_wrapN (i + 1) (by constructor <;> omega) (by rfl) ?_
      refine ev_fin (round_next ((i + 1, (↑(segsM W1.b W1.t).length : Int) == (↑(segsM W1.b W1.t).length : Int), H, nh, ch, W1, D1, hv)) (?_ : i + 1 ≤ 400 ∧ Room W1 D1 hv (i + 1) ∧ nh = hv.length ∧ (nh = 2 * (i + 1) ∨ ((↑(segsM W1.b W1.t).length : Int) == (↑(segsM W1.b W1.t).length : Int)) = true) ∧ nh ≤ 2 * (i + 1)) (show 400 - (i + 1) < 400 - i from (by omega)) ⟨⟨by kernel_rfl, by kernel_rfl⟩, ⟨_, rfl⟩, ⟨_, rfl⟩, by kernel_rfl, by kernel_rfl⟩)
      exact ⟨by omega, ⟨h3.live, h3.fails, Nat.le_succ_of_le h3.few⟩, hlen, .inr (by simp), by omega⟩
 · obtain rfl : i = 400 := by omega
   cases full with
   |
    true =>
    have TZ := sizeWT x2 x0 W D hokD hokW ht
    have TS := segsWT x2 x0 W D hokD hokW
    have TM := namesM x0 D hokD
    rw [hz1] at TZ
    rw [hz3] at TS
    rw [hz4] at TM
    have hsv : small hv := hR.smalls
    have TK := rdsR2 (e := 9) (ch := ch) (ckWT x2 x0 W D H hv nh ch hlen hlen8 (fun p q => Nat.le_trans (hsv p q) (by decide)) hokD hokW)
    rcases hR.ck hsv with ⟨g1, g2⟩ | g1
    · obtain ⟨W1, hW1⟩ : ∃ W1, W1 = (ckW W D hv).1 := ⟨_, rfl⟩
      obtain ⟨D1, hD1⟩ : ∃ D1, D1 = (ckW W D hv).2.1 := ⟨_, rfl⟩
      rw [g1] at TK
      rw [← hW1, ← hD1] at TK g2
      obtain ⟨W2, D2, f1, f2, f3, f4⟩ := g2.noneC (by omega)
      have TO1 := openLit x0 g2.ok.1 g2.live.self
      have TE := fun A c => same2 A H hv hv.length c nh ch rfl hlen hR.live.small
      have TK2 := rdsNil (ckWT x2 x0 W1 D1 none [] 0 0 rfl (by decide) (fun p q => by cases q) g2.ok.1 g2.ok.2.1)
      rw [f1] at TK2
      have TO2 := openLit x0 f2.ok.1 f2.live.self
      have TZ2 := sizeWT x2 x0 W2 D2 f2.ok.1 f2.ok.2.1 f2.ok.2.2
      have TS2 := segsWT x2 x0 W2 D2 f2.ok.1 f2.ok.2.1
      rw [f3] at TZ2
      rw [f4] at TS2
      refine go Tryz.tbs_ok 1000 ?_
      refine ev_if_no rfl ?_
      refine go Tryz.tbs_ok 1000 ?_
      refine ev_fin (go Tryz.tbs_ok 1000 ?_)
      refine ev_callF (TZ ) [1, 2] [.inl 0] rfl rfl (by decide) rfl (by simp) (fun _ => (by repeat (first | exact trivial | refine ⟨rfl, ?_⟩))) (fun _ h30 => ?_)
      refine go Tryz.tbs_ok 1000 ?_
      refine ev_callF (TK ) [1, 2] [.inl 0, .inr 0] rfl rfl (by decide) rfl (by simp) (fun _ => (by repeat (first | exact trivial | refine ⟨rfl, ?_⟩))) (fun _ h31 => ?_)
      refine go Tryz.tbs_ok 1000 ?_
      refine ev_if_no rfl ?_
      refine go Tryz.tbs_ok 1000 ?_
      refine ev_if_no rfl ?_
      refine go Tryz.tbs_ok 1000 ?_
      refine ev_callF (TO1 ) [2] [.inl 0] rfl rfl (by decide) rfl (by simp) (fun _ => (by repeat (first | exact trivial | refine ⟨rfl, ?_⟩))) (fun ⟨x32, x33, x34⟩ h35 => ?_)
      refine go Tryz.tbs_ok 1000 ?_
      refine ev_if_no rfl ?_
      refine go Tryz.tbs_ok 1000 ?_
      refine ev_callF (TE (x33) (x34)) [] [.inr 6, .inr 0] rfl rfl (by decide) rfl (by simp) (fun _ => (by repeat (first | exact trivial | refine ⟨rfl, ?_⟩))) (fun _ h36 => ?_)
      refine go Tryz.tbs_ok 1000 ?_
      refine ev_if_no rfl ?_
      refine go Tryz.tbs_ok 1000 ?_
      refine ev_callF (TK2 ) [1, 5] [.inl 0] rfl rfl (by decide) rfl (by simp) (fun _ => (by repeat (first | exact trivial | refine ⟨rfl, ?_⟩))) (fun _ h37 => ?_)
      refine go Tryz.tbs_ok 1000 ?_
      refine ev_callF (TO2 ) [5] [.inl 0] rfl rfl (by decide) rfl (by simp) (fun _ => (by repeat (first | exact trivial | refine ⟨rfl, ?_⟩))) (fun ⟨x38, x39, x40⟩ h41 => ?_)
      refine go Tryz.tbs_ok 1000 ?_
      refine ev_if_yes rfl ?_
      refine go Tryz.tbs_ok 1000 ?_
      refine ev_if_yes rfl ?_
      refine go Tryz.tbs_ok 1000 ?_
      refine ev_if_yes rfl ?_
      refine go Tryz.tbs_ok 1000 ?_
      refine ev_if_yes rfl ?_
      refine go Tryz.tbs_ok 1000 ?_
      refine ev_callF (TZ2 ) [1, 7] [.inl 0] rfl rfl (by decide) rfl (by simp) (fun _ => (by repeat (first | exact trivial | refine ⟨rfl, ?_⟩))) (fun _ h42 => ?_)
      refine go Tryz.tbs_ok 1000 ?_
      refine ev_if_yes rfl ?_
      refine go Tryz.tbs_ok 1000 ?_
      refine ev_callF (TS2 ) [1, 7] [.inl 0] rfl rfl (by decide) rfl (by simp) (fun _ => (by repeat (first | exact trivial | refine ⟨rfl, ?_⟩))) (fun _ h43 => ?_)
      refine go Tryz.tbs_ok 1000 ?_
      refine ev_if_yes rfl ?_
      refine go Tryz.tbs_ok 1000 ?_
      refine ev_callF (TW ) [] [.inl 0] rfl rfl (by decide) rfl (by simp) (fun _ => (by repeat (first | exact trivial | refine ⟨rfl, ?_⟩))) (fun _ h44 => ?_)
      refine go Tryz.tbs_ok 1000 ?_
      refine ev_fin ⟨trivial, _, rfl, (()), rfl, (by trivial), Frm.nil _⟩
    · rw [g1] at TK
      obtain ⟨W2, D2, f1, f2, f3, f4⟩ := hR.noneC (by omega)
      have TO1 := openLit x0 hokD hR.live.self
      have TE := fun A c => same2 A H hv hv.length c nh ch rfl hlen hR.live.small
      have TK2 := rdsNil (ckWT x2 x0 W D none [] 0 0 rfl (by decide) (fun p q => by cases q) hokD hokW)
      rw [f1] at TK2
      have TO2 := openLit x0 f2.ok.1 f2.live.self
      have TZ2 := sizeWT x2 x0 W2 D2 f2.ok.1 f2.ok.2.1 f2.ok.2.2
      have TS2 := segsWT x2 x0 W2 D2 f2.ok.1 f2.ok.2.1
      rw [f3] at TZ2
      rw [f4] at TS2
      refine go Tryz.tbs_ok 1000 ?_
      refine ev_if_no rfl ?_
      refine go Tryz.tbs_ok 1000 ?_
      refine ev_fin (go Tryz.tbs_ok 1000 ?_)
      refine ev_callF (TZ ) [1, 2] [.inl 0] rfl rfl (by decide) rfl (by simp) (fun _ => (by repeat (first | exact trivial | refine ⟨rfl, ?_⟩))) (fun _ h30 => ?_)
      refine go Tryz.tbs_ok 1000 ?_
      refine ev_callF (TK ) [1, 2] [.inl 0, .inr 0] rfl rfl (by decide) rfl (by simp) (fun _ => (by repeat (first | exact trivial | refine ⟨rfl, ?_⟩))) (fun _ h31 => ?_)
      refine go Tryz.tbs_ok 1000 ?_
      refine ev_if_yes rfl ?_
      refine go Tryz.tbs_ok 1000 ?_
      refine ev_callF (TZ ) [1, 2] [.inl 0] rfl rfl (by decide) rfl (by simp) (fun _ => (by repeat (first | exact trivial | refine ⟨rfl, ?_⟩))) (fun _ h32 => ?_)
      refine go Tryz.tbs_ok 1000 ?_
      refine ev_if_no (ne_no (show (↑(ByteArray.size (FB hv)) : Int) = (↑(ByteArray.size (FB hv)) : Int) from (by omega))) ?_
      refine go Tryz.tbs_ok 1000 ?_
      refine ev_callF (TM ) [2] [] rfl rfl (by decide) rfl (by simp) (fun _ => (by repeat (first | exact trivial | refine ⟨rfl, ?_⟩))) (fun ⟨x33, x34⟩ h35 => ?_)
      refine go Tryz.tbs_ok 1000 ?_
      refine ev_callF (TS ) [1, 2] [.inl 0] rfl rfl (by decide) rfl (by simp) (fun _ => (by repeat (first | exact trivial | refine ⟨rfl, ?_⟩))) (fun _ h36 => ?_)
      refine go Tryz.tbs_ok 1000 ?_
      refine ev_if_no (ne_no (show (↑(segsM W.b W.t).length : Int) = (↑(segsM W.b W.t).length : Int) from (by omega))) ?_
      refine go Tryz.tbs_ok 1000 ?_
      refine ev_callF (TO1 ) [2] [.inl 0] rfl rfl (by decide) rfl (by simp) (fun _ => (by repeat (first | exact trivial | refine ⟨rfl, ?_⟩))) (fun ⟨x37, x38, x39⟩ h40 => ?_)
      refine go Tryz.tbs_ok 1000 ?_
      refine ev_if_no rfl ?_
      refine go Tryz.tbs_ok 1000 ?_
      refine ev_callF (TE (x38) (x39)) [] [.inr 7, .inr 0] rfl rfl (by decide) rfl (by simp) (fun _ => (by repeat (first | exact trivial | refine ⟨rfl, ?_⟩))) (fun _ h41 => ?_)
      refine go Tryz.tbs_ok 1000 ?_
      refine ev_if_no rfl ?_
      refine go Tryz.tbs_ok 1000 ?_
      refine ev_callF (TK2 ) [1, 6] [.inl 0] rfl rfl (by decide) rfl (by simp) (fun _ => (by repeat (first | exact trivial | refine ⟨rfl, ?_⟩))) (fun _ h42 => ?_)
      refine go Tryz.tbs_ok 1000 ?_
      refine ev_callF (TO2 ) [6] [.inl 0] rfl rfl (by decide) rfl (by simp) (fun _ => (by repeat (first | exact trivial | refine ⟨rfl, ?_⟩))) (fun ⟨x43, x44, x45⟩ h46 => ?_)
      refine go Tryz.tbs_ok 1000 ?_
      refine ev_if_yes rfl ?_
      refine go Tryz.tbs_ok 1000 ?_
      refine ev_if_yes rfl ?_
      refine go Tryz.tbs_ok 1000 ?_
      refine ev_if_yes rfl ?_
      refine go Tryz.tbs_ok 1000 ?_
      refine ev_if_yes rfl ?_
      refine go Tryz.tbs_ok 1000 ?_
      refine ev_callF (TZ2 ) [1, 8] [.inl 0] rfl rfl (by decide) rfl (by simp) (fun _ => (by repeat (first | exact trivial | refine ⟨rfl, ?_⟩))) (fun _ h47 => ?_)
      refine go Tryz.tbs_ok 1000 ?_
      refine ev_if_yes rfl ?_
      refine go Tryz.tbs_ok 1000 ?_
      refine ev_callF (TS2 ) [1, 8] [.inl 0] rfl rfl (by decide) rfl (by simp) (fun _ => (by repeat (first | exact trivial | refine ⟨rfl, ?_⟩))) (fun _ h48 => ?_)
      refine go Tryz.tbs_ok 1000 ?_
      refine ev_if_yes rfl ?_
      refine go Tryz.tbs_ok 1000 ?_
      refine ev_callF (TW ) [] [.inl 0] rfl rfl (by decide) rfl (by simp) (fun _ => (by repeat (first | exact trivial | refine ⟨rfl, ?_⟩))) (fun _ h49 => ?_)
      refine go Tryz.tbs_ok 1000 ?_
      refine ev_fin ⟨trivial, _, rfl, (()), rfl, (by trivial), Frm.nil _⟩
   |
    false =>
    have hh8 : nh = 800 := hh.elim (fun q => by omega) (fun q => by cases q)
    have TZ := sizeWT x2 x0 W D hokD hokW ht
    have TS := segsWT x2 x0 W D hokD hokW
    have TM := namesM x0 D hokD
    rw [hz1] at TZ
    rw [hz3] at TS
    rw [hz4] at TM
    have hsv : small hv := hR.smalls
    have TK := rdsR2 (e := 9) (ch := ch) (ckWT x2 x0 W D H hv nh ch hlen hlen8 (fun p q => Nat.le_trans (hsv p q) (by decide)) hokD hokW)
    rcases hR.ck hsv with ⟨g1, g2⟩ | g1
    · obtain ⟨W1, hW1⟩ : ∃ W1, W1 = (ckW W D hv).1 := ⟨_, rfl⟩
      obtain ⟨D1, hD1⟩ : ∃ D1, D1 = (ckW W D hv).2.1 := ⟨_, rfl⟩
      rw [g1] at TK
      rw [← hW1, ← hD1] at TK g2
      obtain ⟨W2, D2, f1, f2, f3, f4⟩ := g2.noneC (by omega)
      have TO1 := openLit x0 g2.ok.1 g2.live.self
      have TE := fun A c => same2 A H hv hv.length c nh ch rfl hlen hR.live.small
      have TK2 := rdsNil (ckWT x2 x0 W1 D1 none [] 0 0 rfl (by decide) (fun p q => by cases q) g2.ok.1 g2.ok.2.1)
      rw [f1] at TK2
      have TO2 := openLit x0 f2.ok.1 f2.live.self
      have TZ2 := sizeWT x2 x0 W2 D2 f2.ok.1 f2.ok.2.1 f2.ok.2.2
      have TS2 := segsWT x2 x0 W2 D2 f2.ok.1 f2.ok.2.1
      rw [f3] at TZ2
      rw [f4] at TS2
      refine go Tryz.tbs_ok 1000 ?_
      refine ev_if_no rfl ?_
      refine go Tryz.tbs_ok 1000 ?_
      refine ev_fin (go Tryz.tbs_ok 1000 ?_)
      refine ev_callF (TZ ) [1, 2] [.inl 0] rfl rfl (by decide) rfl (by simp) (fun _ => (by repeat (first | exact trivial | refine ⟨rfl, ?_⟩))) (fun _ h30 => ?_)
      refine go Tryz.tbs_ok 1000 ?_
      refine ev_callF (TK ) [1, 2] [.inl 0, .inr 0] rfl rfl (by decide) rfl (by simp) (fun _ => (by repeat (first | exact trivial | refine ⟨rfl, ?_⟩))) (fun _ h31 => ?_)
      refine go Tryz.tbs_ok 1000 ?_
      refine ev_if_no rfl ?_
      refine go Tryz.tbs_ok 1000 ?_
      refine ev_if_no rfl ?_
      refine go Tryz.tbs_ok 1000 ?_
      refine ev_callF (TO1 ) [2] [.inl 0] rfl rfl (by decide) rfl (by simp) (fun _ => (by repeat (first | exact trivial | refine ⟨rfl, ?_⟩))) (fun ⟨x32, x33, x34⟩ h35 => ?_)
      refine go Tryz.tbs_ok 1000 ?_
      refine ev_if_no rfl ?_
      refine go Tryz.tbs_ok 1000 ?_
      refine ev_callF (TE (x33) (x34)) [] [.inr 6, .inr 0] rfl rfl (by decide) rfl (by simp) (fun _ => (by repeat (first | exact trivial | refine ⟨rfl, ?_⟩))) (fun _ h36 => ?_)
      refine go Tryz.tbs_ok 1000 ?_
      refine ev_if_no rfl ?_
      refine go Tryz.tbs_ok 1000 ?_
      refine ev_callF (TK2 ) [1, 5] [.inl 0] rfl rfl (by decide) rfl (by simp) (fun _ => (by repeat (first | exact trivial | refine ⟨rfl, ?_⟩))) (fun _ h37 => ?_)
      refine go Tryz.tbs_ok 1000 ?_
      refine ev_callF (TO2 ) [5] [.inl 0] rfl rfl (by decide) rfl (by simp) (fun _ => (by repeat (first | exact trivial | refine ⟨rfl, ?_⟩))) (fun ⟨x38, x39, x40⟩ h41 => ?_)
      refine go Tryz.tbs_ok 1000 ?_
      refine ev_if_no rfl ?_
      refine go Tryz.tbs_ok 1000 ?_
      refine ev_if_yes (beq_iff_eq.2 (show (↑nh : Int) = 800 from (by omega))) ?_
      refine go Tryz.tbs_ok 1000 ?_
      refine ev_if_yes rfl ?_
      refine go Tryz.tbs_ok 1000 ?_
      refine ev_if_yes rfl ?_
      refine go Tryz.tbs_ok 1000 ?_
      refine ev_if_yes rfl ?_
      refine go Tryz.tbs_ok 1000 ?_
      refine ev_callF (TZ2 ) [1, 7] [.inl 0] rfl rfl (by decide) rfl (by simp) (fun _ => (by repeat (first | exact trivial | refine ⟨rfl, ?_⟩))) (fun _ h42 => ?_)
      refine go Tryz.tbs_ok 1000 ?_
      refine ev_if_yes rfl ?_
      refine go Tryz.tbs_ok 1000 ?_
      refine ev_callF (TS2 ) [1, 7] [.inl 0] rfl rfl (by decide) rfl (by simp) (fun _ => (by repeat (first | exact trivial | refine ⟨rfl, ?_⟩))) (fun _ h43 => ?_)
      refine go Tryz.tbs_ok 1000 ?_
      refine ev_if_yes rfl ?_
      refine go Tryz.tbs_ok 1000 ?_
      refine ev_callF (TW ) [] [.inl 0] rfl rfl (by decide) rfl (by simp) (fun _ => (by repeat (first | exact trivial | refine ⟨rfl, ?_⟩))) (fun _ h44 => ?_)
      refine go Tryz.tbs_ok 1000 ?_
      refine ev_fin ⟨trivial, _, rfl, (()), rfl, (by trivial), Frm.nil _⟩
    · rw [g1] at TK
      obtain ⟨W2, D2, f1, f2, f3, f4⟩ := hR.noneC (by omega)
      have TO1 := openLit x0 hokD hR.live.self
      have TE := fun A c => same2 A H hv hv.length c nh ch rfl hlen hR.live.small
      have TK2 := rdsNil (ckWT x2 x0 W D none [] 0 0 rfl (by decide) (fun p q => by cases q) hokD hokW)
      rw [f1] at TK2
      have TO2 := openLit x0 f2.ok.1 f2.live.self
      have TZ2 := sizeWT x2 x0 W2 D2 f2.ok.1 f2.ok.2.1 f2.ok.2.2
      have TS2 := segsWT x2 x0 W2 D2 f2.ok.1 f2.ok.2.1
      rw [f3] at TZ2
      rw [f4] at TS2
      refine go Tryz.tbs_ok 1000 ?_
      refine ev_if_no rfl ?_
      refine go Tryz.tbs_ok 1000 ?_
      refine ev_fin (go Tryz.tbs_ok 1000 ?_)
      refine ev_callF (TZ ) [1, 2] [.inl 0] rfl rfl (by decide) rfl (by simp) (fun _ => (by repeat (first | exact trivial | refine ⟨rfl, ?_⟩))) (fun _ h30 => ?_)
      refine go Tryz.tbs_ok 1000 ?_
      refine ev_callF (TK ) [1, 2] [.inl 0, .inr 0] rfl rfl (by decide) rfl (by simp) (fun _ => (by repeat (first | exact trivial | refine ⟨rfl, ?_⟩))) (fun _ h31 => ?_)
      refine go Tryz.tbs_ok 1000 ?_
      refine ev_if_yes rfl ?_
      refine go Tryz.tbs_ok 1000 ?_
      refine ev_callF (TZ ) [1, 2] [.inl 0] rfl rfl (by decide) rfl (by simp) (fun _ => (by repeat (first | exact trivial | refine ⟨rfl, ?_⟩))) (fun _ h32 => ?_)
      refine go Tryz.tbs_ok 1000 ?_
      refine ev_if_no (ne_no (show (↑(ByteArray.size (FB hv)) : Int) = (↑(ByteArray.size (FB hv)) : Int) from (by omega))) ?_
      refine go Tryz.tbs_ok 1000 ?_
      refine ev_callF (TM ) [2] [] rfl rfl (by decide) rfl (by simp) (fun _ => (by repeat (first | exact trivial | refine ⟨rfl, ?_⟩))) (fun ⟨x33, x34⟩ h35 => ?_)
      refine go Tryz.tbs_ok 1000 ?_
      refine ev_callF (TS ) [1, 2] [.inl 0] rfl rfl (by decide) rfl (by simp) (fun _ => (by repeat (first | exact trivial | refine ⟨rfl, ?_⟩))) (fun _ h36 => ?_)
      refine go Tryz.tbs_ok 1000 ?_
      refine ev_if_no (ne_no (show (↑(segsM W.b W.t).length : Int) = (↑(segsM W.b W.t).length : Int) from (by omega))) ?_
      refine go Tryz.tbs_ok 1000 ?_
      refine ev_callF (TO1 ) [2] [.inl 0] rfl rfl (by decide) rfl (by simp) (fun _ => (by repeat (first | exact trivial | refine ⟨rfl, ?_⟩))) (fun ⟨x37, x38, x39⟩ h40 => ?_)
      refine go Tryz.tbs_ok 1000 ?_
      refine ev_if_no rfl ?_
      refine go Tryz.tbs_ok 1000 ?_
      refine ev_callF (TE (x38) (x39)) [] [.inr 7, .inr 0] rfl rfl (by decide) rfl (by simp) (fun _ => (by repeat (first | exact trivial | refine ⟨rfl, ?_⟩))) (fun _ h41 => ?_)
      refine go Tryz.tbs_ok 1000 ?_
      refine ev_if_no rfl ?_
      refine go Tryz.tbs_ok 1000 ?_
      refine ev_callF (TK2 ) [1, 6] [.inl 0] rfl rfl (by decide) rfl (by simp) (fun _ => (by repeat (first | exact trivial | refine ⟨rfl, ?_⟩))) (fun _ h42 => ?_)
      refine go Tryz.tbs_ok 1000 ?_
      refine ev_callF (TO2 ) [6] [.inl 0] rfl rfl (by decide) rfl (by simp) (fun _ => (by repeat (first | exact trivial | refine ⟨rfl, ?_⟩))) (fun ⟨x43, x44, x45⟩ h46 => ?_)
      refine go Tryz.tbs_ok 1000 ?_
      refine ev_if_no rfl ?_
      refine go Tryz.tbs_ok 1000 ?_
      refine ev_if_yes (beq_iff_eq.2 (show (↑nh : Int) = 800 from (by omega))) ?_
      refine go Tryz.tbs_ok 1000 ?_
      refine ev_if_yes rfl ?_
      refine go Tryz.tbs_ok 1000 ?_
      refine ev_if_yes rfl ?_
      refine go Tryz.tbs_ok 1000 ?_
      refine ev_if_yes rfl ?_
      refine go Tryz.tbs_ok 1000 ?_
      refine ev_callF (TZ2 ) [1, 8] [.inl 0] rfl rfl (by decide) rfl (by simp) (fun _ => (by repeat (first | exact trivial | refine ⟨rfl, ?_⟩))) (fun _ h47 => ?_)
      refine go Tryz.tbs_ok 1000 ?_
      refine ev_if_yes rfl ?_
      refine go Tryz.tbs_ok 1000 ?_
      refine ev_callF (TS2 ) [1, 8] [.inl 0] rfl rfl (by decide) rfl (by simp) (fun _ => (by repeat (first | exact trivial | refine ⟨rfl, ?_⟩))) (fun _ h48 => ?_)
      refine go Tryz.tbs_ok 1000 ?_
      refine ev_if_yes rfl ?_
      refine go Tryz.tbs_ok 1000 ?_
      refine ev_callF (TW ) [] [.inl 0] rfl rfl (by decide) rfl (by simp) (fun _ => (by repeat (first | exact trivial | refine ⟨rfl, ?_⟩))) (fun _ h49 => ?_)
      refine go Tryz.tbs_ok 1000 ?_
      refine ev_fin ⟨trivial, _, rfl, (()), rfl, (by trivial), Frm.nil _⟩
end Go.Proofs.YtjlfdfmkofbccaaGreatDoor
namespace Go.Proofs.YtjlfdfmkofbccaaGreatDoor
open Go.Sy Go.RowKit Go.ChangeShapes Go.WideShapes
set_option maxRecDepth 100000 in
theorem walRoom_lifted (os : Os) (started : os.Started) (H : Type) (enc : TypeId × Value → H) :
 ReturnsInHanded {} Tryz.checked os 7 .any (fun w args => (Rows.walRoomSpec.pre enc Tryz.prog Tryz.f7 Rows.walRoomRow.domain Rows.walRoomRow.apart w args ∧ laidMetH Tryz.prog Rows.walRoomRow.laid w) ∧ sizedMet enc Tryz.prog Tryz.f7 (OpenSpec.ofChange Rows.walRoomSpec) Rows.walRoomRow.apart w args) (Rows.walRoomSpec.post enc Tryz.prog Tryz.f7 Rows.walRoomRow.apart Rows.walRoomRow.fresh Rows.walRoomRow.handsOn Rows.walRoomRow.again) := by
 refine returnsInHanded_of_change_and (C := Tryz.checked) (X := fun w _ => laidMetH Tryz.prog Rows.walRoomRow.laid w) (fun _ _ _ hh h => h.of_heap hh) Tryz.own started (by kernel_rfl) Tryz.func7
  (ChangeSpec.witness_shaped (enc := enc) (C := Tryz.checked) (os := os) (X := fun w _ => laidMetH Tryz.prog Rows.walRoomRow.laid w) false (World.doorLaid Tryz.prog 400 os) #[.int .u16 0, .int .u16 0] 8 rfl (World.shaped_of_RefB (by kernel_rfl) (by kernel_rfl)) (by kernel_rfl) (by kernel_rfl) (by kernel_rfl) (door_met os _)) ?_
 intro W base args ds gs before hval0 hW hcnd _ hL _
 have htab := tab_of hL
 have hval : ∀ (j : Nat) t v, Tryz.f7.params[j]? = some t → args[j]? = some v → Value.okWide Tryz.prog W .any base t v := hval0
 obtain ⟨p, q, hA0, hV, _, _, _⟩ := id hW
 have hA : DataW.TrodAll enc Tryz.prog W 0 (fun _ => true) true Tryz.f7.params.toList args.toList ds p := hA0
 clear hval0 hA0
 obtain ⟨rfl, _⟩ := trodVars_none hV
 have hpar : Tryz.f7.params = #[22, 22] := by kernel_rfl
 rw [hpar] at hA hval
 obtain ⟨v0, v1, d0, d1, p0, p1, rfl, rfl, _, ⟨fuel0, hf0⟩, ⟨fuel1, hf1⟩⟩ := trodAll_two hA
 obtain ⟨m0, rfl, _, _, w0⟩ := open_int (P := Tryz.prog) (t := 22) (k := .u16) (by kernel_rfl) (hval 0 _ _ rfl rfl) ⟨fuel0, hf0⟩
 obtain ⟨m1, rfl, _, _, w1⟩ := open_int (P := Tryz.prog) (t := 22) (k := .u16) (by kernel_rfl) (hval 1 _ _ rfl rfl) ⟨fuel1, hf1⟩
 refine (walRoom m0 m1 (wf_u16 w0) (wf_u16 w1) W Hp.emp (hp W) (Hp.emp_le _) (Hp.le_refl _) (Hp.emp_dis _) trivial (fun X hX => ?_)).mono fun e W' ⟨_, _, he, _, _, _, hext, _⟩ => ?_
 · simp only [List.mem_cons, List.not_mem_nil, or_false] at hX
   subst hX
   exact htab
 · exact ⟨.bool true, he, post_true Tryz.laidOut (by kernel_rfl) rfl (rt := 4) (by kernel_rfl) (by kernel_rfl) hW hext.below rfl rfl rfl⟩
theorem walRoom_holds : Rows.WalRoomSaid :=
 OpenClaim.holds_of_wide 7 Tryz.f7 rfl rfl rfl rfl rfl rfl rfl ⟨rfl, rfl, rfl, rfl, rfl⟩ rfl rfl rfl rfl rfl (by kernel_rfl) Tryz.func7 (by kernel_rfl)
  (of_decide_eq_true (by kernel_rfl)) (by unfold Func.isWrapper; rw [if_neg (by decide +kernel)]; exact ⟨rfl, rfl⟩)
  (fun os started H enc _ => walRoom_lifted os started H enc)
set_option maxRecDepth 100000 in
theorem walRoom_card : Rows.WalRoomCardSaid :=
 Claim7.holds_tied_plain_at .later [] [.data, .data, .data] true Rows.walRoomCard.stood.harness false
  walRoom_holds (fun _ h => by cases h) (by kernel_rfl) (fun _ h => by cases h) walRoom_row_tie rfl ⟨rfl, rfl⟩ (by kernel_rfl) rfl
  (fun f fn hf hfn => by
   obtain rfl : f = 7 := (Option.some.inj ((show Tryz.prog.funcNamed Rows.walRoomRow.func = some 7 by kernel_rfl).symm.trans hf)).symm
   obtain rfl : fn = Tryz.f7 := (Option.some.inj (Tryz.func7.symm.trans hfn)).symm
   refine ⟨by kernel_rfl, fun j t ht => ?_⟩
   have hpar : Tryz.f7.params = #[22, 22] := by kernel_rfl
   rw [hpar] at ht
   have hm : t ∈ [22, 22] := by
    rw [show (#[22, 22] : Array TypeId)[j]? = ([22, 22] : List TypeId)[j]? from by simp] at ht
    exact List.mem_of_getElem? ht
   simp only [List.mem_cons, List.not_mem_nil, or_false] at hm
   rcases hm with rfl | rfl
   · exact (show Tryz.prog.wantsStandIn 22 = false by kernel_rfl)
   · exact (show Tryz.prog.wantsStandIn 22 = false by kernel_rfl))
  (by kernel_rfl)
end Go.Proofs.YtjlfdfmkofbccaaGreatDoor
