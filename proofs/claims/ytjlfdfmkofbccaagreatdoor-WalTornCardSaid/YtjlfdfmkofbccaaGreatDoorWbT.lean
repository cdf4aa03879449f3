/-
  What is proved: walTorn_card. Conditions: none.
-/
import Derived.Test.YtjlfdfmkofbccaaGreatDoorCards
import Derived.Test.YtjlfdfmkofbccaaGreatDoorTie
import Derived.SevenTiedAt
import Derived.LaidLaws
import Derived.LaidMore
import Derived.Lib.LaidTab
import Derived.Stop.LaidErr
import Derived.OpenShut
import Derived.ChangeMaps5
import Derived.Test.YtjlfdfmkofbccaaGreatDoorWb6
namespace Go.Proofs.YtjlfdfmkofbccaaGreatDoor
open Go.Sy
set_option maxRecDepth 100000 in
theorem beginsT (A B : Option Addr) (l m : List ByteArray) (n c nm d : Nat) (least : Nat) (hn : n = l.length) (hm : nm = m.length) (h1 : n ≤ 1000000) (h2 : nm ≤ 1000000) (hl : least ≤ 1000000) (hd : nm ≤ d) :
 Triple Tryz.prog 44 [.slice A n c, .slice B nm d, .int .i64 (least : Nat)] [] [Rd 1 A n (l.flatMap encS), Rd 1 B nm (m.flatMap encS)] Unit (fun _ => .bool (decide (least ≤ n ∧ n ≤ nm ∧ l = m.take n))) (fun _ => True) (fun _ => []) := by
 refine triple_intro Tryz.tbs_ok Tryz.func44 rfl [.va (.slice A n c), .va (.slice B nm d), .va (.int .i64 (least : Nat))] [] ⟨trivial, trivial, trivial, trivial⟩ rfl (by simp) ?_
 intro E
 by_cases g1 : least ≤ n
 · by_cases g2 : n ≤ nm
   · have T1 := fun d' => (sameTexts A B l (m.take n) n c n d' hn (by rw [List.length_take]; omega) h1).reads (N' := [Rd 1 A n (l.flatMap encS), Rd 1 B nm (m.flatMap encS)]) (fun X hX => by
      simp only [List.mem_cons, List.not_mem_nil, or_false] at hX
      rcases hX with rfl | rfl
      · exact ⟨_, List.mem_cons_self, fun _ q => q⟩
      · exact ⟨_, List.mem_cons_of_mem _ List.mem_cons_self, fun _ q => rd_take encS_len q g2⟩)
     refine go Tryz.tbs_ok 1000 ?_
     refine ev_if_yes (decide_eq_true (show (↑n : Int) ≥ (↑least : Int) from (by omega))) ?_
     refine go Tryz.tbs_ok 1000 ?_
     refine ev_if_yes (decide_eq_true (show (↑n : Int) ≤ (↑nm : Int) from (by omega))) ?_
     refine go Tryz.tbs_ok 1000 ?_
     refine ev_stop (go_front Tryz.tbs_ok (n) (d) rfl rfl rfl rfl rfl rfl ⟨_, rfl⟩ rfl (by decide) (by omega) (by omega) ?_)
     refine go Tryz.tbs_ok 1000 ?_
     refine ev_callF (T1 (d)) [] [.inl 0, .inl 1] rfl rfl (by decide) rfl (by simp) (fun _ => (by repeat (first | exact trivial | refine ⟨rfl, ?_⟩))) (fun _ h0 => ?_)
     refine go Tryz.tbs_ok 1000 ?_
     refine ev_fin ⟨trivial, _, rfl, (()), ?_, (by trivial), Frm.nil _⟩
     exact congrArg Value.bool (decide_eq_decide.2 ⟨fun q => ⟨g1, g2, q⟩, fun q => q.2.2⟩)
   · rw [decide_eq_false (fun q => g2 q.2.1)]
     refine go Tryz.tbs_ok 1000 ?_
     refine ev_if_yes (decide_eq_true (show (↑n : Int) ≥ (↑least : Int) from (by omega))) ?_
     refine go Tryz.tbs_ok 1000 ?_
     refine ev_if_no (decide_eq_false (show ¬(↑n : Int) ≤ (↑nm : Int) from (by omega))) ?_
     refine go Tryz.tbs_ok 1000 ?_
     refine ev_fin ⟨trivial, _, rfl, (()), rfl, (by trivial), Frm.nil _⟩
 · rw [decide_eq_false (fun q => g1 q.1)]
   refine go Tryz.tbs_ok 1000 ?_
   refine ev_if_no (decide_eq_false (show ¬(↑n : Int) ≥ (↑least : Int) from (by omega))) ?_
   refine go Tryz.tbs_ok 1000 ?_
   refine ev_fin ⟨trivial, _, rfl, (()), rfl, (by trivial), Frm.nil _⟩
def ptK (k q p : Nat) (H : Option Addr) (nh ch : Nat) (sure : Nat) : Asn := Pt k 35 [.pointer (some ⟨q, 0, none⟩), .pointer (some ⟨p, 0, none⟩), .slice H nh ch, .int .i64 (sure : Nat)]
set_option maxHeartbeats 4000000 in
set_option maxRecDepth 100000 in
theorem againT (k q p : Nat) (H : Option Addr) (nh ch sure : Nat) (D D' : DK) (W' : WK) (l longer other : List ByteArray) (LA OA : Option Addr) (nl cl no co : Nat) (ck : Bool) (hD : okD D) (ho : openD D = (D', 0, W', l)) (hsu : sure ≤ 1000000) (hll : l.length ≤ 1000000)
 (hnl : nl = longer.length) (hno : no = other.length) (h1 : nl ≤ 1000000) (h2 : no ≤ 1000000) (hcl : nl ≤ cl) (hok : (sure ≤ l.length ∧ l <+: longer) ∨ (ck = true ∧ l = other)) :
 Triple Tryz.prog 15 [.pointer (some ⟨k, 0, none⟩), .slice LA nl cl, .slice OA no co, .bool ck] [ptK k q p H nh ch sure, DiskM q D] [TabA, Rd 1 LA nl (longer.flatMap encS), Rd 1 OA no (other.flatMap encS)] (Nat × Option Addr × Nat) (fun _ => .bool true) (fun _ => True) (fun (p', C, c) => [ptK k q p' C l.length c l.length, DiskM q D', WalM p' q W', Row 9 1 C l.length c (l.flatMap encS)]) := by
 have T1 := openLit q hD ho
 unfold ptK
 obtain ⟨n, hn⟩ : ∃ n, n = l.length := ⟨_, rfl⟩
 rw [← hn] at T1 hll ⊢
 by_cases hb : sure ≤ n ∧ n ≤ nl ∧ l = longer.take n
 · have T2 := fun A c => (beginsT A LA l longer n c nl cl sure hn hnl hll h1 hsu hcl).reads (N' := [Row 9 1 A n c (l.flatMap encS), Rd 1 LA nl (longer.flatMap encS)]) (fun X hX => by
    simp only [List.mem_cons, List.not_mem_nil, or_false] at hX
    rcases hX with rfl | rfl
    · exact ⟨_, List.mem_cons_self, fun _ q => Row.rd q⟩
    · exact ⟨_, List.mem_cons_of_mem _ List.mem_cons_self, fun _ q => q⟩)
   simp only [decide_eq_true hb] at T2
   refine triple_intro Tryz.tbs_ok Tryz.func15 rfl [.pt 0 k 0, .va (.slice LA nl cl), .va (.slice OA no co), .bq ck] [.box k 35 [.va (.pointer (some ⟨q, 0, none⟩)), .va (.pointer (some ⟨p, 0, none⟩)), .va (.slice H nh ch), .va (.int .i64 (sure : Nat))], .fact (DiskM q D)] ⟨rfl, trivial, trivial, trivial, trivial⟩ rfl (by simp [SV.good, SV.goodL, blkAt, Res.blk]) ?_
   intro E
   refine go Tryz.tbs_ok 1000 ?_
   refine ev_callF (T1 ) [1] [.inl 0] rfl rfl (by decide) rfl (by simp) (fun _ => (by repeat (first | exact trivial | refine ⟨rfl, ?_⟩))) (fun ⟨x0, x1, x2⟩ h3 => ?_)
   refine go Tryz.tbs_ok 1000 ?_
   refine ev_if_no rfl ?_
   refine go Tryz.tbs_ok 1000 ?_
   refine ev_callF (T2 (x1) (x2)) [] [.inr 3, .inl 1] rfl rfl (by decide) rfl (by simp) (fun _ => (by repeat (first | exact trivial | refine ⟨rfl, ?_⟩))) (fun _ h4 => ?_)
   refine go Tryz.tbs_ok 1000 ?_
   refine ev_if_no rfl ?_
   refine go Tryz.tbs_ok 1000 ?_
   refine ev_fin ⟨trivial, _, rfl, ((x0, x1, x2)), rfl, (by trivial), Frm.sel [0, 2, 1, 3] rfl (by decide)⟩
 · obtain ⟨rfl, hlo⟩ : ck = true ∧ l = other := by
    rcases hok with ⟨g1, g2⟩ | h
    · exact absurd ⟨by omega, by rw [hn, hnl]; exact g2.length_le, by rw [hn]; exact List.prefix_iff_eq_take.1 g2⟩ hb
    · exact h
   have T2 := fun A c => (beginsT A LA l longer n c nl cl sure hn hnl hll h1 hsu hcl).reads (N' := [Row 9 1 A n c (l.flatMap encS), Rd 1 LA nl (longer.flatMap encS)]) (fun X hX => by
    simp only [List.mem_cons, List.not_mem_nil, or_false] at hX
    rcases hX with rfl | rfl
    · exact ⟨_, List.mem_cons_self, fun _ q => Row.rd q⟩
    · exact ⟨_, List.mem_cons_of_mem _ List.mem_cons_self, fun _ q => q⟩)
   simp only [decide_eq_false hb] at T2
   have T3 := fun A c => (sameTexts A OA l other n c no co hn hno hll).reads (N' := [Row 9 1 A n c (l.flatMap encS), Rd 1 OA no (other.flatMap encS)]) (fun X hX => by
    simp only [List.mem_cons, List.not_mem_nil, or_false] at hX
    rcases hX with rfl | rfl
    · exact ⟨_, List.mem_cons_self, fun _ q => Row.rd q⟩
    · exact ⟨_, List.mem_cons_of_mem _ List.mem_cons_self, fun _ q => q⟩)
   simp only [decide_eq_true hlo] at T3
   refine triple_intro Tryz.tbs_ok Tryz.func15 rfl [.pt 0 k 0, .va (.slice LA nl cl), .va (.slice OA no co), .va (.bool true)] [.box k 35 [.va (.pointer (some ⟨q, 0, none⟩)), .va (.pointer (some ⟨p, 0, none⟩)), .va (.slice H nh ch), .va (.int .i64 (sure : Nat))], .fact (DiskM q D)] ⟨rfl, trivial, trivial, trivial, trivial⟩ rfl (by simp [SV.good, SV.goodL, blkAt, Res.blk]) ?_
   intro E
   refine go Tryz.tbs_ok 1000 ?_
   refine ev_callF (T1 ) [1] [.inl 0] rfl rfl (by decide) rfl (by simp) (fun _ => (by repeat (first | exact trivial | refine ⟨rfl, ?_⟩))) (fun ⟨x0, x1, x2⟩ h3 => ?_)
   refine go Tryz.tbs_ok 1000 ?_
   refine ev_if_no rfl ?_
   refine go Tryz.tbs_ok 1000 ?_
   refine ev_callF (T2 (x1) (x2)) [] [.inr 3, .inl 1] rfl rfl (by decide) rfl (by simp) (fun _ => (by repeat (first | exact trivial | refine ⟨rfl, ?_⟩))) (fun _ h4 => ?_)
   refine go Tryz.tbs_ok 1000 ?_
   refine ev_if_yes rfl ?_
   refine go Tryz.tbs_ok 1000 ?_
   refine ev_if_yes rfl ?_
   refine go Tryz.tbs_ok 1000 ?_
   refine ev_callF (T3 (x1) (x2)) [] [.inr 3, .inl 2] rfl rfl (by decide) rfl (by simp) (fun _ => (by repeat (first | exact trivial | refine ⟨rfl, ?_⟩))) (fun _ h5 => ?_)
   refine go Tryz.tbs_ok 1000 ?_
   refine ev_if_no rfl ?_
   refine go Tryz.tbs_ok 1000 ?_
   refine ev_fin ⟨trivial, _, rfl, ((x0, x1, x2)), rfl, (by trivial), Frm.sel [0, 2, 1, 3] rfl (by decide)⟩
end Go.Proofs.YtjlfdfmkofbccaaGreatDoor
namespace Go.Proofs.YtjlfdfmkofbccaaGreatDoor
open Go.Sy
set_option maxHeartbeats 4000000 in
set_option maxRecDepth 100000 in
theorem doesN (k q p : Nat) (H : Option Addr) (nh ch sure : Nat) (W : WK) (D : DK) (l : List ByteArray) (x : ActW) (nx : Nat) (hk : 0 ≤ x.k ∧ x.k < 256) (hD : okD D) (hW : okW W) (hnh : nh = l.length) (h1 : nh ≤ 100000) (hnx : nx = x.L.length) (h2 : nx ≤ 50) (h : x.k % 10 = 6 ∨ x.k % 10 = 8 ∨ x.k % 10 = 9) : Triple Tryz.prog 16 [.pointer (some ⟨k, 0, none⟩), .agg #[.int .u8 x.k, .slice x.A nx x.c, .int .i64 x.z, .slice x.B x.K.length x.d]] [ptK k q p H nh ch sure, WalM p q W, DiskM q D] [TabA, Rd 1 H nh (l.flatMap encS), Rd 1 x.A nx (x.L.flatMap encS), Rd 1 x.B x.K.length (x.K.flatMap encN)] Unit (fun _ => .tuple #[.bool false, .slice none 0 0, .slice none 0 0, .bool false, .bool true]) (fun _ => True) (fun _ => [ptK k q p H nh ch sure, WalM p q W, DiskM q D]) := by
 have h10 : x.k.tmod 10 = x.k % 10 := Int.tmod_eq_emod_of_nonneg hk.1
 unfold ptK
 refine triple_intro Tryz.tbs_ok Tryz.func16 rfl [.pt 0 k 0, .ag [.va (.int .u8 x.k), .va (.slice x.A nx x.c), .va (.int .i64 x.z), .va (.slice x.B x.K.length x.d)]] [.box k 35 [.va (.pointer (some ⟨q, 0, none⟩)), .va (.pointer (some ⟨p, 0, none⟩)), .va (.slice H nh ch), .va (.int .i64 (sure : Nat))], .fact (WalM p q W), .fact (DiskM q D)] ⟨rfl, by simp [SV.good, SV.goodL], trivial⟩ rfl (by simp [SV.good, SV.goodL, blkAt, Res.blk]) ?_
 intro E
 refine go Tryz.tbs_ok 1000 ?_
 refine ev_new fun b0 => ?_
 refine ev_if_no (beq_eq_false_iff_ne.2 (show ¬x.k.tmod 10 = 4 from (by omega))) ?_
 refine go Tryz.tbs_ok 1000 ?_
 refine ev_if_no (beq_eq_false_iff_ne.2 (show ¬x.k.tmod 10 = 5 from (by omega))) ?_
 refine go Tryz.tbs_ok 1000 ?_
 refine ev_if_no (beq_eq_false_iff_ne.2 (show ¬x.k.tmod 10 = 7 from (by omega))) ?_
 refine go Tryz.tbs_ok 1000 ?_
 refine ev_if_no (beq_eq_false_iff_ne.2 (show ¬x.k.tmod 10 = 0 from (by omega))) ?_
 refine go Tryz.tbs_ok 1000 ?_
 refine ev_if_no (beq_eq_false_iff_ne.2 (show ¬x.k.tmod 10 = 1 from (by omega))) ?_
 refine go Tryz.tbs_ok 1000 ?_
 refine ev_if_no (beq_eq_false_iff_ne.2 (show ¬x.k.tmod 10 = 2 from (by omega))) ?_
 refine go Tryz.tbs_ok 1000 ?_
 refine ev_if_no (beq_eq_false_iff_ne.2 (show ¬x.k.tmod 10 = 3 from (by omega))) ?_
 refine go Tryz.tbs_ok 1000 ?_
 refine ev_fin ⟨trivial, _, rfl, (()), rfl, (by trivial), Frm.sel [0, 1, 2] rfl (by decide)⟩
set_option maxHeartbeats 4000000 in
set_option maxRecDepth 100000 in
theorem does7 (k q p : Nat) (H : Option Addr) (nh ch sure : Nat) (W : WK) (D : DK) (l : List ByteArray) (x : ActW) (nx : Nat) (hk : 0 ≤ x.k ∧ x.k < 256) (hD : okD D) (hW : okW W) (hnh : nh = l.length) (h1 : nh ≤ 100000) (hnx : nx = x.L.length) (h2 : nx ≤ 50) (h : x.k % 10 = 7) (hkk : x.K.length ≤ 100) : Triple Tryz.prog 16 [.pointer (some ⟨k, 0, none⟩), .agg #[.int .u8 x.k, .slice x.A nx x.c, .int .i64 x.z, .slice x.B x.K.length x.d]] [ptK k q p H nh ch sure, WalM p q W, DiskM q D] [TabA, Rd 1 H nh (l.flatMap encS), Rd 1 x.A nx (x.L.flatMap encS), Rd 1 x.B x.K.length (x.K.flatMap encN)] Unit (fun _ => .tuple #[.bool false, .slice none 0 0, .slice none 0 0, .bool false, .bool true]) (fun _ => True) (fun _ => [ptK k q p H nh ch sure, WalM p q W, DiskM q (failD D x.z x.K).1]) := by
 have h10 : x.k.tmod 10 = x.k % 10 := Int.tmod_eq_emod_of_nonneg hk.1
 have T1 := failM q D x.z x.B x.K.length x.d x.K hD rfl (by omega)
 unfold ptK
 refine triple_intro Tryz.tbs_ok Tryz.func16 rfl [.pt 0 k 0, .ag [.va (.int .u8 x.k), .va (.slice x.A nx x.c), .va (.int .i64 x.z), .va (.slice x.B x.K.length x.d)]] [.box k 35 [.va (.pointer (some ⟨q, 0, none⟩)), .va (.pointer (some ⟨p, 0, none⟩)), .va (.slice H nh ch), .va (.int .i64 (sure : Nat))], .fact (WalM p q W), .fact (DiskM q D)] ⟨rfl, by simp [SV.good, SV.goodL], trivial⟩ rfl (by simp [SV.good, SV.goodL, blkAt, Res.blk]) ?_
 intro E
 refine go Tryz.tbs_ok 1000 ?_
 refine ev_new fun b0 => ?_
 refine ev_if_no (beq_eq_false_iff_ne.2 (show ¬x.k.tmod 10 = 4 from (by omega))) ?_
 refine go Tryz.tbs_ok 1000 ?_
 refine ev_if_no (beq_eq_false_iff_ne.2 (show ¬x.k.tmod 10 = 5 from (by omega))) ?_
 refine go Tryz.tbs_ok 1000 ?_
 refine ev_if_yes (beq_iff_eq.2 (show x.k.tmod 10 = 7 from (by omega))) ?_
 refine go Tryz.tbs_ok 1000 ?_
 refine ev_stop (go_draw Tryz.tbs_ok false [0, 3] [(0,true),(1,true),(2,true),(3,true),(4,true),(5,true),(6,true),(7,true),(8,false)] rfl ?_)
 refine go Tryz.tbs_ok 1000 ?_
 refine ev_need ⟨⟨(by repeat (first | exact trivial | refine ⟨rfl, ?_⟩)), rfl⟩, by kernel_rfl⟩ ?_
 refine ev_callF (T1 ) [2] [.inl 3] rfl rfl (by decide) rfl (by simp) (fun _ => (by repeat (first | exact trivial | refine ⟨rfl, ?_⟩))) (fun _ h1 => ?_)
 refine go Tryz.tbs_ok 1000 ?_
 refine ev_need (by kernel_rfl) ?_
 refine ev_fin ⟨trivial, _, rfl, (()), rfl, (by trivial), Frm.sel [0, 1, 2] rfl (by decide)⟩
set_option maxHeartbeats 4000000 in
set_option maxRecDepth 100000 in
theorem does4 (k q p : Nat) (H : Option Addr) (nh ch sure : Nat) (W : WK) (D : DK) (l : List ByteArray) (x : ActW) (nx : Nat) (hk : 0 ≤ x.k ∧ x.k < 256) (hD : okD D) (hW : okW W) (hnh : nh = l.length) (h1 : nh ≤ 100000) (hnx : nx = x.L.length) (h2 : nx ≤ 50) (h : x.k % 10 = 4) (W' : WK) (D' : DK) (e : Int) (he : syncW W D = (W', D', e)) (h01 : e = 0 ∨ e = 41) : Triple Tryz.prog 16 [.pointer (some ⟨k, 0, none⟩), .agg #[.int .u8 x.k, .slice x.A nx x.c, .int .i64 x.z, .slice x.B x.K.length x.d]] [ptK k q p H nh ch sure, WalM p q W, DiskM q D] [TabA, Rd 1 H nh (l.flatMap encS), Rd 1 x.A nx (x.L.flatMap encS), Rd 1 x.B x.K.length (x.K.flatMap encN)] Unit (fun _ => .tuple #[.bool (e == 41), .slice H nh ch, .slice none 0 0, .bool false, .bool true]) (fun _ => True) (fun _ => [ptK k q p H nh ch (if e = 0 then nh else sure), WalM p q W', DiskM q D']) := by
 have h10 : x.k.tmod 10 = x.k % 10 := Int.tmod_eq_emod_of_nonneg hk.1
 have T1 := syncWT p q W D hD hW
 rw [he] at T1
 dsimp only at T1
 unfold ptK
 rcases h01 with rfl | rfl
 · rw [if_pos rfl]
   refine triple_intro Tryz.tbs_ok Tryz.func16 rfl [.pt 0 k 0, .ag [.va (.int .u8 x.k), .va (.slice x.A nx x.c), .va (.int .i64 x.z), .va (.slice x.B x.K.length x.d)]] [.box k 35 [.va (.pointer (some ⟨q, 0, none⟩)), .va (.pointer (some ⟨p, 0, none⟩)), .va (.slice H nh ch), .va (.int .i64 (sure : Nat))], .fact (WalM p q W), .fact (DiskM q D)] ⟨rfl, by simp [SV.good, SV.goodL], trivial⟩ rfl (by simp [SV.good, SV.goodL, blkAt, Res.blk]) ?_
   intro E
   refine go Tryz.tbs_ok 1000 ?_
   refine ev_new fun b0 => ?_
   refine ev_if_yes (beq_iff_eq.2 (show x.k.tmod 10 = 4 from (by omega))) ?_
   refine go Tryz.tbs_ok 1000 ?_
   refine ev_callF (T1 ) [1, 2] [.inl 0] rfl rfl (by decide) rfl (by simp) (fun _ => (by repeat (first | exact trivial | refine ⟨rfl, ?_⟩))) (fun _ h1 => ?_)
   refine go Tryz.tbs_ok 1000 ?_
   refine ev_if_yes rfl ?_
   refine go Tryz.tbs_ok 1000 ?_
   refine ev_stop (go_draw Tryz.tbs_ok false [0] [(0,true),(1,true),(2,true),(3,true),(4,true),(5,true),(6,true),(7,true),(8,true),(9,true),(10,true),(11,true),(12,false),(13,false),(14,false),(15,false),(16,false)] rfl ?_)
   refine go Tryz.tbs_ok 1000 ?_
   refine ev_need ⟨⟨(by repeat (first | exact trivial | refine ⟨rfl, ?_⟩)), rfl⟩, by kernel_rfl⟩ ?_
   refine ev_if_yes rfl ?_
   refine go Tryz.tbs_ok 1000 ?_
   refine ev_need ⟨⟨(by repeat (first | exact trivial | refine ⟨rfl, ?_⟩)), rfl⟩, by kernel_rfl⟩ ?_
   refine ev_need ⟨⟨(by repeat (first | exact trivial | refine ⟨rfl, ?_⟩)), rfl⟩, by kernel_rfl⟩ ?_
   refine ev_need ⟨⟨(by repeat (first | exact trivial | refine ⟨rfl, ?_⟩)), rfl⟩, by kernel_rfl⟩ ?_
   refine ev_need ⟨⟨(by repeat (first | exact trivial | refine ⟨rfl, ?_⟩)), rfl⟩, by kernel_rfl⟩ ?_
   refine ev_need ⟨⟨(by repeat (first | exact trivial | refine ⟨rfl, ?_⟩)), rfl⟩, by kernel_rfl⟩ ?_
   refine ev_need (by kernel_rfl) ?_
   refine ev_fin ⟨trivial, _, rfl, (()), rfl, (by trivial), Frm.sel [0, 1, 2] rfl (by decide)⟩
 · rw [if_neg (by decide)]
   refine triple_intro Tryz.tbs_ok Tryz.func16 rfl [.pt 0 k 0, .ag [.va (.int .u8 x.k), .va (.slice x.A nx x.c), .va (.int .i64 x.z), .va (.slice x.B x.K.length x.d)]] [.box k 35 [.va (.pointer (some ⟨q, 0, none⟩)), .va (.pointer (some ⟨p, 0, none⟩)), .va (.slice H nh ch), .va (.int .i64 (sure : Nat))], .fact (WalM p q W), .fact (DiskM q D)] ⟨rfl, by simp [SV.good, SV.goodL], trivial⟩ rfl (by simp [SV.good, SV.goodL, blkAt, Res.blk]) ?_
   intro E
   refine go Tryz.tbs_ok 1000 ?_
   refine ev_new fun b0 => ?_
   refine ev_if_yes (beq_iff_eq.2 (show x.k.tmod 10 = 4 from (by omega))) ?_
   refine go Tryz.tbs_ok 1000 ?_
   refine ev_callF (T1 ) [1, 2] [.inl 0] rfl rfl (by decide) rfl (by simp) (fun _ => (by repeat (first | exact trivial | refine ⟨rfl, ?_⟩))) (fun _ h1 => ?_)
   refine go Tryz.tbs_ok 1000 ?_
   refine ev_if_no rfl ?_
   refine go Tryz.tbs_ok 1000 ?_
   refine ev_stop (go_draw Tryz.tbs_ok false [0] [(0,true),(1,true),(2,true),(3,true),(4,true),(5,true),(6,true),(7,true),(8,true),(9,true),(10,true),(11,true),(12,false),(13,false),(14,false),(15,false),(16,false)] rfl ?_)
   refine go Tryz.tbs_ok 1000 ?_
   refine ev_need ⟨⟨(by repeat (first | exact trivial | refine ⟨rfl, ?_⟩)), rfl⟩, by kernel_rfl⟩ ?_
   refine ev_if_no rfl ?_
   refine go Tryz.tbs_ok 1000 ?_
   refine ev_need ⟨⟨(by repeat (first | exact trivial | refine ⟨rfl, ?_⟩)), rfl⟩, by kernel_rfl⟩ ?_
   refine ev_need ⟨⟨(by repeat (first | exact trivial | refine ⟨rfl, ?_⟩)), rfl⟩, by kernel_rfl⟩ ?_
   refine ev_need ⟨⟨(by repeat (first | exact trivial | refine ⟨rfl, ?_⟩)), rfl⟩, by kernel_rfl⟩ ?_
   refine ev_need ⟨⟨(by repeat (first | exact trivial | refine ⟨rfl, ?_⟩)), rfl⟩, by kernel_rfl⟩ ?_
   refine ev_need ⟨⟨(by repeat (first | exact trivial | refine ⟨rfl, ?_⟩)), rfl⟩, by kernel_rfl⟩ ?_
   refine ev_need (by kernel_rfl) ?_
   refine ev_fin ⟨trivial, _, rfl, (()), rfl, (by trivial), Frm.sel [0, 1, 2] rfl (by decide)⟩
set_option maxHeartbeats 8000000 in
set_option maxRecDepth 100000 in
theorem does5T (k q p : Nat) (H : Option Addr) (nh ch sure : Nat) (W : WK) (D : DK) (l : List ByteArray) (x : ActW) (nx : Nat) (hk : 0 ≤ x.k ∧ x.k < 256) (hD : okD D) (hW : okW W) (hnh : nh = l.length) (h1 : nh ≤ 100000) (hnx : nx = x.L.length) (h2 : nx ≤ 50) (h : x.k % 10 = 5) (hp : ∀ p ∈ x.L, p.size ≤ 60000) (W' : WK) (D' : DK) (he : ckW W D x.L = (W', D', 0)) : Triple Tryz.prog 16 [.pointer (some ⟨k, 0, none⟩), .agg #[.int .u8 x.k, .slice x.A nx x.c, .int .i64 x.z, .slice x.B x.K.length x.d]] [ptK k q p H nh ch sure, WalM p q W, DiskM q D] [TabA, Rd 1 H nh (l.flatMap encS), Rd 1 x.A nx (x.L.flatMap encS), Rd 1 x.B x.K.length (x.K.flatMap encN)] (Option Addr × Nat) (fun (C, c) => .tuple #[.bool false, .slice C nx c, .slice x.A nx x.c, .bool true, .bool true]) (fun _ => True) (fun (C, c) => [ptK k q p C nx c nx, WalM p q W', DiskM q D', Row 9 1 C nx c (x.L.flatMap encS)]) := by
 have h10 : x.k.tmod 10 = x.k % 10 := Int.tmod_eq_emod_of_nonneg hk.1
 have T1 := ckWT p q W D x.A x.L nx x.c hnx (by omega) (fun p q => Nat.le_trans (hp p q) (by decide)) hD hW
 rw [he] at T1
 dsimp only at T1
 unfold ptK
 refine triple_intro Tryz.tbs_ok Tryz.func16 rfl [.pt 0 k 0, .ag [.va (.int .u8 x.k), .va (.slice x.A nx x.c), .va (.int .i64 x.z), .va (.slice x.B x.K.length x.d)]] [.box k 35 [.va (.pointer (some ⟨q, 0, none⟩)), .va (.pointer (some ⟨p, 0, none⟩)), .va (.slice H nh ch), .va (.int .i64 (sure : Nat))], .fact (WalM p q W), .fact (DiskM q D)] ⟨rfl, by simp [SV.good, SV.goodL], trivial⟩ rfl (by simp [SV.good, SV.goodL, blkAt, Res.blk]) ?_
 intro E
 refine go Tryz.tbs_ok 1000 ?_
 refine ev_new fun b0 => ?_
 refine ev_if_no (beq_eq_false_iff_ne.2 (show ¬x.k.tmod 10 = 4 from (by omega))) ?_
 refine go Tryz.tbs_ok 1000 ?_
 refine ev_if_yes (beq_iff_eq.2 (show x.k.tmod 10 = 5 from (by omega))) ?_
 refine go Tryz.tbs_ok 1000 ?_
 refine ev_stop (go_draw Tryz.tbs_ok false [0, 3] [(0,true),(1,true),(2,true),(3,true),(4,true),(5,true),(6,false),(7,false)] rfl ?_)
 refine go Tryz.tbs_ok 1000 ?_
 refine ev_need ⟨⟨(by repeat (first | exact trivial | refine ⟨rfl, ?_⟩)), rfl⟩, by kernel_rfl⟩ ?_
 refine ev_callF (T1 ) [1, 2] [.inl 0, .inl 2] rfl rfl (by decide) rfl (by simp) (fun _ => (by repeat (first | exact trivial | refine ⟨rfl, ?_⟩))) (fun _ h1 => ?_)
 refine go Tryz.tbs_ok 1000 ?_
 refine ev_need ⟨⟨(by repeat (first | exact trivial | refine ⟨rfl, ?_⟩)), rfl⟩, by kernel_rfl⟩ ?_
 refine ev_need (by kernel_rfl) ?_
 refine ev_if_yes rfl ?_
 refine go Tryz.tbs_ok 1000 ?_
 refine ev_new fun b2 => ?_
 refine ev_stop (go_appendE (sz := 1) (M := [_]) (enc := encS) Tryz.tbs_ok [4] [some b2] (.inl 2) ([]) (x.L) (x.L) (nx) rfl rfl rfl rfl rfl rfl rfl (by decide) rfl (by decide) (fun _ p => Pt.row (starH_one.1 p) rfl (by decide)) rfl (fun _ h => h) (by first | rfl | simp) (by first | rfl | omega) (le_app (s := nx) (by omega) (by first | rfl | omega)) (le_appb (s := nx) (by omega) (by first | rfl | omega) (by decide)) (fun _ _ => (by repeat (first | exact trivial | refine ⟨rfl, ?_⟩))) (fun A3 c4 h5 => ?_))
 refine go Tryz.tbs_ok 1000 ?_
 refine ev_stop (go_draw Tryz.tbs_ok false [0, 3] [(0,true),(1,true),(2,true),(3,true),(4,true),(5,true),(6,true),(7,true),(8,true),(9,true),(10,true),(11,true),(12,true),(13,true),(14,false),(15,false),(16,false),(17,false),(18,false)] rfl ?_)
 refine go Tryz.tbs_ok 1000 ?_
 refine ev_need ⟨⟨(by repeat (first | exact trivial | refine ⟨rfl, ?_⟩)), rfl⟩, by kernel_rfl⟩ ?_
 refine ev_if_yes rfl ?_
 refine go Tryz.tbs_ok 1000 ?_
 refine ev_need ⟨⟨(by repeat (first | exact trivial | refine ⟨rfl, ?_⟩)), rfl⟩, by kernel_rfl⟩ ?_
 refine ev_need ⟨⟨(by repeat (first | exact trivial | refine ⟨rfl, ?_⟩)), rfl⟩, by kernel_rfl⟩ ?_
 refine ev_need ⟨⟨(by repeat (first | exact trivial | refine ⟨rfl, ?_⟩)), rfl⟩, by kernel_rfl⟩ ?_
 refine ev_need ⟨⟨(by repeat (first | exact trivial | refine ⟨rfl, ?_⟩)), rfl⟩, by kernel_rfl⟩ ?_
 refine ev_need ⟨⟨(by repeat (first | exact trivial | refine ⟨rfl, ?_⟩)), rfl⟩, by kernel_rfl⟩ ?_
 refine ev_need (by kernel_rfl) ?_
 refine ev_fin ⟨trivial, _, rfl, ((A3, c4)), rfl, (by trivial), Frm.sel [0, 1, 2, 5] rfl (by decide)⟩
set_option maxHeartbeats 8000000 in
set_option maxRecDepth 100000 in
theorem does5F (k q p : Nat) (H : Option Addr) (nh ch sure : Nat) (W : WK) (D : DK) (l : List ByteArray) (x : ActW) (nx : Nat) (hk : 0 ≤ x.k ∧ x.k < 256) (hD : okD D) (hW : okW W) (hnh : nh = l.length) (h1 : nh ≤ 100000) (hnx : nx = x.L.length) (h2 : nx ≤ 50) (h : x.k % 10 = 5) (hp : ∀ p ∈ x.L, p.size ≤ 60000) (W' : WK) (D' : DK) (e : Int) (he : ckW W D x.L = (W', D', e)) (h0 : e ≠ 0) (h01 : e ≠ 1) (h50 : e ≠ 50) : Triple Tryz.prog 16 [.pointer (some ⟨k, 0, none⟩), .agg #[.int .u8 x.k, .slice x.A nx x.c, .int .i64 x.z, .slice x.B x.K.length x.d]] [ptK k q p H nh ch sure, WalM p q W, DiskM q D] [TabA, Rd 1 H nh (l.flatMap encS), Rd 1 x.A nx (x.L.flatMap encS), Rd 1 x.B x.K.length (x.K.flatMap encN)] Unit (fun _ => .tuple #[.bool (e == 41), .slice H nh ch, .slice x.A nx x.c, .bool true, .bool true]) (fun _ => True) (fun _ => [ptK k q p H nh ch sure, WalM p q W', DiskM q D']) := by
 have h10 : x.k.tmod 10 = x.k % 10 := Int.tmod_eq_emod_of_nonneg hk.1
 have T1 := ckWT p q W D x.A x.L nx x.c hnx (by omega) (fun p q => Nat.le_trans (hp p q) (by decide)) hD hW
 rw [he] at T1
 dsimp only at T1
 unfold ptK
 refine triple_intro Tryz.tbs_ok Tryz.func16 rfl [.pt 0 k 0, .ag [.va (.int .u8 x.k), .va (.slice x.A nx x.c), .va (.int .i64 x.z), .va (.slice x.B x.K.length x.d)]] [.box k 35 [.va (.pointer (some ⟨q, 0, none⟩)), .va (.pointer (some ⟨p, 0, none⟩)), .va (.slice H nh ch), .va (.int .i64 (sure : Nat))], .fact (WalM p q W), .fact (DiskM q D)] ⟨rfl, by simp [SV.good, SV.goodL], trivial⟩ rfl (by simp [SV.good, SV.goodL, blkAt, Res.blk]) ?_
 intro E
 refine go Tryz.tbs_ok 1000 ?_
 refine ev_new fun b0 => ?_
 refine ev_if_no (beq_eq_false_iff_ne.2 (show ¬x.k.tmod 10 = 4 from (by omega))) ?_
 refine go Tryz.tbs_ok 1000 ?_
 refine ev_if_yes (beq_iff_eq.2 (show x.k.tmod 10 = 5 from (by omega))) ?_
 refine go Tryz.tbs_ok 1000 ?_
 refine ev_stop (go_draw Tryz.tbs_ok false [0, 3] [(0,true),(1,true),(2,true),(3,true),(4,true),(5,true),(6,false),(7,false)] rfl ?_)
 refine go Tryz.tbs_ok 1000 ?_
 refine ev_need ⟨⟨(by repeat (first | exact trivial | refine ⟨rfl, ?_⟩)), rfl⟩, by kernel_rfl⟩ ?_
 refine ev_callF (T1 ) [1, 2] [.inl 0, .inl 2] rfl rfl (by decide) rfl (by simp) (fun _ => (by repeat (first | exact trivial | refine ⟨rfl, ?_⟩))) (fun _ h1 => ?_)
 refine go Tryz.tbs_ok 1000 ?_
 refine ev_need ⟨⟨(by repeat (first | exact trivial | refine ⟨rfl, ?_⟩)), rfl⟩, by kernel_rfl⟩ ?_
 refine ev_need (by kernel_rfl) ?_
 refine ev_if_no (beq_eq_false_iff_ne.2 (by with_reducible assumption)) ?_
 refine go Tryz.tbs_ok 1000 ?_
 refine ev_stop (go_draw Tryz.tbs_ok false [0, 3] [(0,true),(1,true),(2,true),(3,true),(4,true),(5,true),(6,true),(7,true),(8,true),(9,true),(10,true),(11,true),(12,true),(13,true),(14,false),(15,false),(16,false),(17,false),(18,false)] rfl ?_)
 refine go Tryz.tbs_ok 1000 ?_
 refine ev_need ⟨⟨(by repeat (first | exact trivial | refine ⟨rfl, ?_⟩)), rfl⟩, by kernel_rfl⟩ ?_
 refine ev_if_yes (ne_yes (by with_reducible assumption)) ?_
 refine go Tryz.tbs_ok 1000 ?_
 refine ev_need ⟨⟨(by repeat (first | exact trivial | refine ⟨rfl, ?_⟩)), rfl⟩, by kernel_rfl⟩ ?_
 refine ev_need ⟨⟨(by repeat (first | exact trivial | refine ⟨rfl, ?_⟩)), rfl⟩, by kernel_rfl⟩ ?_
 refine ev_need ⟨⟨(by repeat (first | exact trivial | refine ⟨rfl, ?_⟩)), rfl⟩, by kernel_rfl⟩ ?_
 refine ev_need ⟨⟨(by repeat (first | exact trivial | refine ⟨rfl, ?_⟩)), rfl⟩, by kernel_rfl⟩ ?_
 refine ev_need ⟨⟨(by repeat (first | exact trivial | refine ⟨rfl, ?_⟩)), rfl⟩, by kernel_rfl⟩ ?_
 refine ev_need (by kernel_rfl) ?_
 refine ev_fin ⟨trivial, _, rfl, (()), ?_, (by trivial), Frm.sel [0, 1, 2] rfl (by decide)⟩
 exact congrArg (fun b => Value.tuple #[.bool (e == 41), .slice H nh ch, .slice x.A nx x.c, .bool true, .bool b]) (by simp [h50] : (!(e == 50)) = true)
set_option maxHeartbeats 8000000 in
set_option maxRecDepth 100000 in
theorem does0T (k q p : Nat) (H : Option Addr) (nh ch sure : Nat) (W : WK) (D : DK) (l : List ByteArray) (x : ActW) (nx : Nat) (hk : 0 ≤ x.k ∧ x.k < 256) (hD : okD D) (hW : okW W) (hnh : nh = l.length) (h1 : nh ≤ 100000) (hnx : nx = x.L.length) (h2 : nx ≤ 50) (h : x.k % 10 < 4) (hp : ∀ p ∈ x.L, p.size ≤ 60000) (W' : WK) (D' : DK) (he : appW W D x.L = (W', D', 0)) : Triple Tryz.prog 16 [.pointer (some ⟨k, 0, none⟩), .agg #[.int .u8 x.k, .slice x.A nx x.c, .int .i64 x.z, .slice x.B x.K.length x.d]] [ptK k q p H nh ch sure, WalM p q W, DiskM q D] [TabA, Rd 1 H nh (l.flatMap encS), Rd 1 x.A nx (x.L.flatMap encS), Rd 1 x.B x.K.length (x.K.flatMap encN)] (Option Addr × Nat) (fun (C, c) => .tuple #[.bool false, .slice C (nh + nx) c, .slice none 0 0, .bool false, .bool true]) (fun _ => True) (fun (C, c) => [ptK k q p C (nh + nx) c sure, WalM p q W', DiskM q D', Row 9 1 C (nh + nx) c ((l ++ x.L).flatMap encS)]) := by
 have h10 : x.k.tmod 10 = x.k % 10 := Int.tmod_eq_emod_of_nonneg hk.1
 have T1 := appWT p q W D x.A x.L nx x.c hnx (by omega) (fun p q => Nat.le_trans (hp p q) (by decide)) hD hW
 rw [he] at T1
 dsimp only at T1
 unfold ptK
 refine triple_intro Tryz.tbs_ok Tryz.func16 rfl [.pt 0 k 0, .ag [.va (.int .u8 x.k), .va (.slice x.A nx x.c), .va (.int .i64 x.z), .va (.slice x.B x.K.length x.d)]] [.box k 35 [.va (.pointer (some ⟨q, 0, none⟩)), .va (.pointer (some ⟨p, 0, none⟩)), .va (.slice H nh ch), .va (.int .i64 (sure : Nat))], .fact (WalM p q W), .fact (DiskM q D)] ⟨rfl, by simp [SV.good, SV.goodL], trivial⟩ rfl (by simp [SV.good, SV.goodL, blkAt, Res.blk]) ?_
 intro E
 rcases show x.k % 10 = 0 ∨ x.k % 10 = 1 ∨ x.k % 10 = 2 ∨ x.k % 10 = 3 by omega with g | g | g | g
 · refine go Tryz.tbs_ok 1000 ?_
   refine ev_new fun b0 => ?_
   refine ev_if_no (beq_eq_false_iff_ne.2 (show ¬x.k.tmod 10 = 4 from (by omega))) ?_
   refine go Tryz.tbs_ok 1000 ?_
   refine ev_if_no (beq_eq_false_iff_ne.2 (show ¬x.k.tmod 10 = 5 from (by omega))) ?_
   refine go Tryz.tbs_ok 1000 ?_
   refine ev_if_no (beq_eq_false_iff_ne.2 (show ¬x.k.tmod 10 = 7 from (by omega))) ?_
   refine go Tryz.tbs_ok 1000 ?_
   refine ev_if_yes (beq_iff_eq.2 (show x.k.tmod 10 = 0 from (by omega))) ?_
   refine go Tryz.tbs_ok 1000 ?_
   refine ev_if_yes (beq_iff_eq.2 (show x.k.tmod 10 = 0 from (by omega))) ?_
   refine go Tryz.tbs_ok 1000 ?_
   refine ev_stop (go_draw Tryz.tbs_ok false [0, 3] [(0,true),(1,true),(2,true),(3,true),(4,true),(5,true),(6,false),(7,false)] rfl ?_)
   refine go Tryz.tbs_ok 1000 ?_
   refine ev_need ⟨⟨(by repeat (first | exact trivial | refine ⟨rfl, ?_⟩)), rfl⟩, by kernel_rfl⟩ ?_
   refine ev_callF (T1 ) [1, 2] [.inl 0, .inl 2] rfl rfl (by decide) rfl (by simp) (fun _ => (by repeat (first | exact trivial | refine ⟨rfl, ?_⟩))) (fun _ h1 => ?_)
   refine go Tryz.tbs_ok 1000 ?_
   refine ev_need ⟨⟨(by repeat (first | exact trivial | refine ⟨rfl, ?_⟩)), rfl⟩, by kernel_rfl⟩ ?_
   refine ev_need (by kernel_rfl) ?_
   refine ev_stop (go_draw Tryz.tbs_ok false [0, 3] [(1,true),(2,true),(3,true),(4,true),(6,true),(7,true),(0,false),(5,false),(8,false),(9,false)] rfl ?_)
   refine go Tryz.tbs_ok 1000 ?_
   refine ev_need ⟨⟨(by repeat (first | exact trivial | refine ⟨rfl, ?_⟩)), rfl⟩, by kernel_rfl⟩ ?_
   refine ev_new fun b2 => ?_
   refine ev_need ⟨⟨(by repeat (first | exact trivial | refine ⟨rfl, ?_⟩)), rfl⟩, by kernel_rfl⟩ ?_
   refine ev_stop (go_appendE (sz := 1) (M := [_]) (enc := encS) Tryz.tbs_ok [4] [some b2] (.inl 1) ([]) (l) (l) (nh) rfl rfl rfl rfl rfl rfl rfl (by decide) rfl (by decide) (fun _ p => Pt.row (starH_one.1 p) rfl (by decide)) rfl (fun _ h => h) (by first | rfl | simp) (by first | rfl | omega) (le_app (s := nh) (by omega) (by first | rfl | omega)) (le_appb (s := nh) (by omega) (by first | rfl | omega) (by decide)) (fun _ _ => (by repeat (first | exact trivial | refine ⟨rfl, ?_⟩))) (fun A3 c4 h5 => ?_))
   refine go Tryz.tbs_ok 1000 ?_
   refine ev_need ⟨⟨(by repeat (first | exact trivial | refine ⟨rfl, ?_⟩)), rfl⟩, by kernel_rfl⟩ ?_
   refine ev_stop (go_appendE (sz := 1) (M := [_]) (enc := encS) Tryz.tbs_ok [5] [] (.inl 2) (l) (x.L) ((l) ++ (x.L)) (nh + nx) rfl rfl rfl rfl rfl rfl rfl (by decide) rfl (by decide) (fun _ p => starH_one.1 p) rfl (fun _ h => h) (by first | rfl | simp) (by first | rfl | omega) (le_app (s := nh + nx) (by omega) (by first | rfl | omega)) (le_appb (s := nh + nx) (by omega) (by first | rfl | omega) (by decide)) (fun _ _ => (by repeat (first | exact trivial | refine ⟨rfl, ?_⟩))) (fun A6 c7 h8 => ?_))
   refine go Tryz.tbs_ok 1000 ?_
   refine ev_need ⟨⟨(by repeat (first | exact trivial | refine ⟨rfl, ?_⟩)), rfl⟩, by kernel_rfl⟩ ?_
   refine ev_need (by kernel_rfl) ?_
   refine ev_if_yes rfl ?_
   refine go Tryz.tbs_ok 1000 ?_
   refine ev_if_yes rfl ?_
   refine go Tryz.tbs_ok 1000 ?_
   refine ev_fin ⟨trivial, _, rfl, ((A6, c7)), rfl, (by trivial), Frm.sel [0, 1, 2, 5] rfl (by decide)⟩
 · refine go Tryz.tbs_ok 1000 ?_
   refine ev_new fun b0 => ?_
   refine ev_if_no (beq_eq_false_iff_ne.2 (show ¬x.k.tmod 10 = 4 from (by omega))) ?_
   refine go Tryz.tbs_ok 1000 ?_
   refine ev_if_no (beq_eq_false_iff_ne.2 (show ¬x.k.tmod 10 = 5 from (by omega))) ?_
   refine go Tryz.tbs_ok 1000 ?_
   refine ev_if_no (beq_eq_false_iff_ne.2 (show ¬x.k.tmod 10 = 7 from (by omega))) ?_
   refine go Tryz.tbs_ok 1000 ?_
   refine ev_if_no (beq_eq_false_iff_ne.2 (show ¬x.k.tmod 10 = 0 from (by omega))) ?_
   refine go Tryz.tbs_ok 1000 ?_
   refine ev_if_yes (beq_iff_eq.2 (show x.k.tmod 10 = 1 from (by omega))) ?_
   refine go Tryz.tbs_ok 1000 ?_
   refine ev_if_yes (beq_iff_eq.2 (show x.k.tmod 10 = 1 from (by omega))) ?_
   refine go Tryz.tbs_ok 1000 ?_
   refine ev_stop (go_draw Tryz.tbs_ok false [0, 3] [(0,true),(1,true),(2,true),(3,true),(4,true),(5,true),(6,false),(7,false)] rfl ?_)
   refine go Tryz.tbs_ok 1000 ?_
   refine ev_need ⟨⟨(by repeat (first | exact trivial | refine ⟨rfl, ?_⟩)), rfl⟩, by kernel_rfl⟩ ?_
   refine ev_callF (T1 ) [1, 2] [.inl 0, .inl 2] rfl rfl (by decide) rfl (by simp) (fun _ => (by repeat (first | exact trivial | refine ⟨rfl, ?_⟩))) (fun _ h1 => ?_)
   refine go Tryz.tbs_ok 1000 ?_
   refine ev_need ⟨⟨(by repeat (first | exact trivial | refine ⟨rfl, ?_⟩)), rfl⟩, by kernel_rfl⟩ ?_
   refine ev_need (by kernel_rfl) ?_
   refine ev_stop (go_draw Tryz.tbs_ok false [0, 3] [(1,true),(2,true),(3,true),(4,true),(6,true),(7,true),(0,false),(5,false),(8,false),(9,false)] rfl ?_)
   refine go Tryz.tbs_ok 1000 ?_
   refine ev_need ⟨⟨(by repeat (first | exact trivial | refine ⟨rfl, ?_⟩)), rfl⟩, by kernel_rfl⟩ ?_
   refine ev_new fun b2 => ?_
   refine ev_need ⟨⟨(by repeat (first | exact trivial | refine ⟨rfl, ?_⟩)), rfl⟩, by kernel_rfl⟩ ?_
   refine ev_stop (go_appendE (sz := 1) (M := [_]) (enc := encS) Tryz.tbs_ok [4] [some b2] (.inl 1) ([]) (l) (l) (nh) rfl rfl rfl rfl rfl rfl rfl (by decide) rfl (by decide) (fun _ p => Pt.row (starH_one.1 p) rfl (by decide)) rfl (fun _ h => h) (by first | rfl | simp) (by first | rfl | omega) (le_app (s := nh) (by omega) (by first | rfl | omega)) (le_appb (s := nh) (by omega) (by first | rfl | omega) (by decide)) (fun _ _ => (by repeat (first | exact trivial | refine ⟨rfl, ?_⟩))) (fun A3 c4 h5 => ?_))
   refine go Tryz.tbs_ok 1000 ?_
   refine ev_need ⟨⟨(by repeat (first | exact trivial | refine ⟨rfl, ?_⟩)), rfl⟩, by kernel_rfl⟩ ?_
   refine ev_stop (go_appendE (sz := 1) (M := [_]) (enc := encS) Tryz.tbs_ok [5] [] (.inl 2) (l) (x.L) ((l) ++ (x.L)) (nh + nx) rfl rfl rfl rfl rfl rfl rfl (by decide) rfl (by decide) (fun _ p => starH_one.1 p) rfl (fun _ h => h) (by first | rfl | simp) (by first | rfl | omega) (le_app (s := nh + nx) (by omega) (by first | rfl | omega)) (le_appb (s := nh + nx) (by omega) (by first | rfl | omega) (by decide)) (fun _ _ => (by repeat (first | exact trivial | refine ⟨rfl, ?_⟩))) (fun A6 c7 h8 => ?_))
   refine go Tryz.tbs_ok 1000 ?_
   refine ev_need ⟨⟨(by repeat (first | exact trivial | refine ⟨rfl, ?_⟩)), rfl⟩, by kernel_rfl⟩ ?_
   refine ev_need (by kernel_rfl) ?_
   refine ev_if_yes rfl ?_
   refine go Tryz.tbs_ok 1000 ?_
   refine ev_if_yes rfl ?_
   refine go Tryz.tbs_ok 1000 ?_
   refine ev_fin ⟨trivial, _, rfl, ((A6, c7)), rfl, (by trivial), Frm.sel [0, 1, 2, 5] rfl (by decide)⟩
 · refine go Tryz.tbs_ok 1000 ?_
   refine ev_new fun b0 => ?_
   refine ev_if_no (beq_eq_false_iff_ne.2 (show ¬x.k.tmod 10 = 4 from (by omega))) ?_
   refine go Tryz.tbs_ok 1000 ?_
   refine ev_if_no (beq_eq_false_iff_ne.2 (show ¬x.k.tmod 10 = 5 from (by omega))) ?_
   refine go Tryz.tbs_ok 1000 ?_
   refine ev_if_no (beq_eq_false_iff_ne.2 (show ¬x.k.tmod 10 = 7 from (by omega))) ?_
   refine go Tryz.tbs_ok 1000 ?_
   refine ev_if_no (beq_eq_false_iff_ne.2 (show ¬x.k.tmod 10 = 0 from (by omega))) ?_
   refine go Tryz.tbs_ok 1000 ?_
   refine ev_if_no (beq_eq_false_iff_ne.2 (show ¬x.k.tmod 10 = 1 from (by omega))) ?_
   refine go Tryz.tbs_ok 1000 ?_
   refine ev_if_yes (beq_iff_eq.2 (show x.k.tmod 10 = 2 from (by omega))) ?_
   refine go Tryz.tbs_ok 1000 ?_
   refine ev_if_yes (beq_iff_eq.2 (show x.k.tmod 10 = 2 from (by omega))) ?_
   refine go Tryz.tbs_ok 1000 ?_
   refine ev_stop (go_draw Tryz.tbs_ok false [0, 3] [(0,true),(1,true),(2,true),(3,true),(4,true),(5,true),(6,false),(7,false)] rfl ?_)
   refine go Tryz.tbs_ok 1000 ?_
   refine ev_need ⟨⟨(by repeat (first | exact trivial | refine ⟨rfl, ?_⟩)), rfl⟩, by kernel_rfl⟩ ?_
   refine ev_callF (T1 ) [1, 2] [.inl 0, .inl 2] rfl rfl (by decide) rfl (by simp) (fun _ => (by repeat (first | exact trivial | refine ⟨rfl, ?_⟩))) (fun _ h1 => ?_)
   refine go Tryz.tbs_ok 1000 ?_
   refine ev_need ⟨⟨(by repeat (first | exact trivial | refine ⟨rfl, ?_⟩)), rfl⟩, by kernel_rfl⟩ ?_
   refine ev_need (by kernel_rfl) ?_
   refine ev_stop (go_draw Tryz.tbs_ok false [0, 3] [(1,true),(2,true),(3,true),(4,true),(6,true),(7,true),(0,false),(5,false),(8,false),(9,false)] rfl ?_)
   refine go Tryz.tbs_ok 1000 ?_
   refine ev_need ⟨⟨(by repeat (first | exact trivial | refine ⟨rfl, ?_⟩)), rfl⟩, by kernel_rfl⟩ ?_
   refine ev_new fun b2 => ?_
   refine ev_need ⟨⟨(by repeat (first | exact trivial | refine ⟨rfl, ?_⟩)), rfl⟩, by kernel_rfl⟩ ?_
   refine ev_stop (go_appendE (sz := 1) (M := [_]) (enc := encS) Tryz.tbs_ok [4] [some b2] (.inl 1) ([]) (l) (l) (nh) rfl rfl rfl rfl rfl rfl rfl (by decide) rfl (by decide) (fun _ p => Pt.row (starH_one.1 p) rfl (by decide)) rfl (fun _ h => h) (by first | rfl | simp) (by first | rfl | omega) (le_app (s := nh) (by omega) (by first | rfl | omega)) (le_appb (s := nh) (by omega) (by first | rfl | omega) (by decide)) (fun _ _ => (by repeat (first | exact trivial | refine ⟨rfl, ?_⟩))) (fun A3 c4 h5 => ?_))
   refine go Tryz.tbs_ok 1000 ?_
   refine ev_need ⟨⟨(by repeat (first | exact trivial | refine ⟨rfl, ?_⟩)), rfl⟩, by kernel_rfl⟩ ?_
   refine ev_stop (go_appendE (sz := 1) (M := [_]) (enc := encS) Tryz.tbs_ok [5] [] (.inl 2) (l) (x.L) ((l) ++ (x.L)) (nh + nx) rfl rfl rfl rfl rfl rfl rfl (by decide) rfl (by decide) (fun _ p => starH_one.1 p) rfl (fun _ h => h) (by first | rfl | simp) (by first | rfl | omega) (le_app (s := nh + nx) (by omega) (by first | rfl | omega)) (le_appb (s := nh + nx) (by omega) (by first | rfl | omega) (by decide)) (fun _ _ => (by repeat (first | exact trivial | refine ⟨rfl, ?_⟩))) (fun A6 c7 h8 => ?_))
   refine go Tryz.tbs_ok 1000 ?_
   refine ev_need ⟨⟨(by repeat (first | exact trivial | refine ⟨rfl, ?_⟩)), rfl⟩, by kernel_rfl⟩ ?_
   refine ev_need (by kernel_rfl) ?_
   refine ev_if_yes rfl ?_
   refine go Tryz.tbs_ok 1000 ?_
   refine ev_if_yes rfl ?_
   refine go Tryz.tbs_ok 1000 ?_
   refine ev_fin ⟨trivial, _, rfl, ((A6, c7)), rfl, (by trivial), Frm.sel [0, 1, 2, 5] rfl (by decide)⟩
 · refine go Tryz.tbs_ok 1000 ?_
   refine ev_new fun b0 => ?_
   refine ev_if_no (beq_eq_false_iff_ne.2 (show ¬x.k.tmod 10 = 4 from (by omega))) ?_
   refine go Tryz.tbs_ok 1000 ?_
   refine ev_if_no (beq_eq_false_iff_ne.2 (show ¬x.k.tmod 10 = 5 from (by omega))) ?_
   refine go Tryz.tbs_ok 1000 ?_
   refine ev_if_no (beq_eq_false_iff_ne.2 (show ¬x.k.tmod 10 = 7 from (by omega))) ?_
   refine go Tryz.tbs_ok 1000 ?_
   refine ev_if_no (beq_eq_false_iff_ne.2 (show ¬x.k.tmod 10 = 0 from (by omega))) ?_
   refine go Tryz.tbs_ok 1000 ?_
   refine ev_if_no (beq_eq_false_iff_ne.2 (show ¬x.k.tmod 10 = 1 from (by omega))) ?_
   refine go Tryz.tbs_ok 1000 ?_
   refine ev_if_no (beq_eq_false_iff_ne.2 (show ¬x.k.tmod 10 = 2 from (by omega))) ?_
   refine go Tryz.tbs_ok 1000 ?_
   refine ev_if_yes (beq_iff_eq.2 (show x.k.tmod 10 = 3 from (by omega))) ?_
   refine go Tryz.tbs_ok 1000 ?_
   refine ev_stop (go_draw Tryz.tbs_ok false [0, 3] [(0,true),(1,true),(2,true),(3,true),(4,true),(5,true),(6,false),(7,false)] rfl ?_)
   refine go Tryz.tbs_ok 1000 ?_
   refine ev_need ⟨⟨(by repeat (first | exact trivial | refine ⟨rfl, ?_⟩)), rfl⟩, by kernel_rfl⟩ ?_
   refine ev_callF (T1 ) [1, 2] [.inl 0, .inl 2] rfl rfl (by decide) rfl (by simp) (fun _ => (by repeat (first | exact trivial | refine ⟨rfl, ?_⟩))) (fun _ h1 => ?_)
   refine go Tryz.tbs_ok 1000 ?_
   refine ev_need ⟨⟨(by repeat (first | exact trivial | refine ⟨rfl, ?_⟩)), rfl⟩, by kernel_rfl⟩ ?_
   refine ev_need (by kernel_rfl) ?_
   refine ev_stop (go_draw Tryz.tbs_ok false [0, 3] [(1,true),(2,true),(3,true),(4,true),(6,true),(7,true),(0,false),(5,false),(8,false),(9,false)] rfl ?_)
   refine go Tryz.tbs_ok 1000 ?_
   refine ev_need ⟨⟨(by repeat (first | exact trivial | refine ⟨rfl, ?_⟩)), rfl⟩, by kernel_rfl⟩ ?_
   refine ev_new fun b2 => ?_
   refine ev_need ⟨⟨(by repeat (first | exact trivial | refine ⟨rfl, ?_⟩)), rfl⟩, by kernel_rfl⟩ ?_
   refine ev_stop (go_appendE (sz := 1) (M := [_]) (enc := encS) Tryz.tbs_ok [4] [some b2] (.inl 1) ([]) (l) (l) (nh) rfl rfl rfl rfl rfl rfl rfl (by decide) rfl (by decide) (fun _ p => Pt.row (starH_one.1 p) rfl (by decide)) rfl (fun _ h => h) (by first | rfl | simp) (by first | rfl | omega) (le_app (s := nh) (by omega) (by first | rfl | omega)) (le_appb (s := nh) (by omega) (by first | rfl | omega) (by decide)) (fun _ _ => (by repeat (first | exact trivial | refine ⟨rfl, ?_⟩))) (fun A3 c4 h5 => ?_))
   refine go Tryz.tbs_ok 1000 ?_
   refine ev_need ⟨⟨(by repeat (first | exact trivial | refine ⟨rfl, ?_⟩)), rfl⟩, by kernel_rfl⟩ ?_
   refine ev_stop (go_appendE (sz := 1) (M := [_]) (enc := encS) Tryz.tbs_ok [5] [] (.inl 2) (l) (x.L) ((l) ++ (x.L)) (nh + nx) rfl rfl rfl rfl rfl rfl rfl (by decide) rfl (by decide) (fun _ p => starH_one.1 p) rfl (fun _ h => h) (by first | rfl | simp) (by first | rfl | omega) (le_app (s := nh + nx) (by omega) (by first | rfl | omega)) (le_appb (s := nh + nx) (by omega) (by first | rfl | omega) (by decide)) (fun _ _ => (by repeat (first | exact trivial | refine ⟨rfl, ?_⟩))) (fun A6 c7 h8 => ?_))
   refine go Tryz.tbs_ok 1000 ?_
   refine ev_need ⟨⟨(by repeat (first | exact trivial | refine ⟨rfl, ?_⟩)), rfl⟩, by kernel_rfl⟩ ?_
   refine ev_need (by kernel_rfl) ?_
   refine ev_if_yes rfl ?_
   refine go Tryz.tbs_ok 1000 ?_
   refine ev_if_yes rfl ?_
   refine go Tryz.tbs_ok 1000 ?_
   refine ev_fin ⟨trivial, _, rfl, ((A6, c7)), rfl, (by trivial), Frm.sel [0, 1, 2, 5] rfl (by decide)⟩
set_option maxHeartbeats 8000000 in
set_option maxRecDepth 100000 in
theorem does0F (k q p : Nat) (H : Option Addr) (nh ch sure : Nat) (W : WK) (D : DK) (l : List ByteArray) (x : ActW) (nx : Nat) (hk : 0 ≤ x.k ∧ x.k < 256) (hD : okD D) (hW : okW W) (hnh : nh = l.length) (h1 : nh ≤ 100000) (hnx : nx = x.L.length) (h2 : nx ≤ 50) (h : x.k % 10 < 4) (hp : ∀ p ∈ x.L, p.size ≤ 60000) (W' : WK) (D' : DK) (e : Int) (he : appW W D x.L = (W', D', e)) (h0 : e ≠ 0) (h01 : e ≠ 1) (h50 : e ≠ 50) : Triple Tryz.prog 16 [.pointer (some ⟨k, 0, none⟩), .agg #[.int .u8 x.k, .slice x.A nx x.c, .int .i64 x.z, .slice x.B x.K.length x.d]] [ptK k q p H nh ch sure, WalM p q W, DiskM q D] [TabA, Rd 1 H nh (l.flatMap encS), Rd 1 x.A nx (x.L.flatMap encS), Rd 1 x.B x.K.length (x.K.flatMap encN)] (Option Addr × Nat) (fun (C, c) => .tuple #[.bool (e == 41), .slice C (nh + nx) c, .slice none 0 0, .bool false, .bool true]) (fun _ => True) (fun (C, c) => [ptK k q p H nh ch sure, WalM p q W', DiskM q D', Row 9 1 C (nh + nx) c ((l ++ x.L).flatMap encS)]) := by
 have h10 : x.k.tmod 10 = x.k % 10 := Int.tmod_eq_emod_of_nonneg hk.1
 have T1 := appWT p q W D x.A x.L nx x.c hnx (by omega) (fun p q => Nat.le_trans (hp p q) (by decide)) hD hW
 rw [he] at T1
 dsimp only at T1
 unfold ptK
 refine triple_intro Tryz.tbs_ok Tryz.func16 rfl [.pt 0 k 0, .ag [.va (.int .u8 x.k), .va (.slice x.A nx x.c), .va (.int .i64 x.z), .va (.slice x.B x.K.length x.d)]] [.box k 35 [.va (.pointer (some ⟨q, 0, none⟩)), .va (.pointer (some ⟨p, 0, none⟩)), .va (.slice H nh ch), .va (.int .i64 (sure : Nat))], .fact (WalM p q W), .fact (DiskM q D)] ⟨rfl, by simp [SV.good, SV.goodL], trivial⟩ rfl (by simp [SV.good, SV.goodL, blkAt, Res.blk]) ?_
 intro E
 rcases show x.k % 10 = 0 ∨ x.k % 10 = 1 ∨ x.k % 10 = 2 ∨ x.k % 10 = 3 by omega with g | g | g | g
 · refine go Tryz.tbs_ok 1000 ?_
   refine ev_new fun b0 => ?_
   refine ev_if_no (beq_eq_false_iff_ne.2 (show ¬x.k.tmod 10 = 4 from (by omega))) ?_
   refine go Tryz.tbs_ok 1000 ?_
   refine ev_if_no (beq_eq_false_iff_ne.2 (show ¬x.k.tmod 10 = 5 from (by omega))) ?_
   refine go Tryz.tbs_ok 1000 ?_
   refine ev_if_no (beq_eq_false_iff_ne.2 (show ¬x.k.tmod 10 = 7 from (by omega))) ?_
   refine go Tryz.tbs_ok 1000 ?_
   refine ev_if_yes (beq_iff_eq.2 (show x.k.tmod 10 = 0 from (by omega))) ?_
   refine go Tryz.tbs_ok 1000 ?_
   refine ev_if_yes (beq_iff_eq.2 (show x.k.tmod 10 = 0 from (by omega))) ?_
   refine go Tryz.tbs_ok 1000 ?_
   refine ev_stop (go_draw Tryz.tbs_ok false [0, 3] [(0,true),(1,true),(2,true),(3,true),(4,true),(5,true),(6,false),(7,false)] rfl ?_)
   refine go Tryz.tbs_ok 1000 ?_
   refine ev_need ⟨⟨(by repeat (first | exact trivial | refine ⟨rfl, ?_⟩)), rfl⟩, by kernel_rfl⟩ ?_
   refine ev_callF (T1 ) [1, 2] [.inl 0, .inl 2] rfl rfl (by decide) rfl (by simp) (fun _ => (by repeat (first | exact trivial | refine ⟨rfl, ?_⟩))) (fun _ h1 => ?_)
   refine go Tryz.tbs_ok 1000 ?_
   refine ev_need ⟨⟨(by repeat (first | exact trivial | refine ⟨rfl, ?_⟩)), rfl⟩, by kernel_rfl⟩ ?_
   refine ev_need (by kernel_rfl) ?_
   refine ev_stop (go_draw Tryz.tbs_ok false [0, 3] [(1,true),(2,true),(3,true),(4,true),(6,true),(7,true),(0,false),(5,false),(8,false),(9,false)] rfl ?_)
   refine go Tryz.tbs_ok 1000 ?_
   refine ev_need ⟨⟨(by repeat (first | exact trivial | refine ⟨rfl, ?_⟩)), rfl⟩, by kernel_rfl⟩ ?_
   refine ev_new fun b2 => ?_
   refine ev_need ⟨⟨(by repeat (first | exact trivial | refine ⟨rfl, ?_⟩)), rfl⟩, by kernel_rfl⟩ ?_
   refine ev_stop (go_appendE (sz := 1) (M := [_]) (enc := encS) Tryz.tbs_ok [4] [some b2] (.inl 1) ([]) (l) (l) (nh) rfl rfl rfl rfl rfl rfl rfl (by decide) rfl (by decide) (fun _ p => Pt.row (starH_one.1 p) rfl (by decide)) rfl (fun _ h => h) (by first | rfl | simp) (by first | rfl | omega) (le_app (s := nh) (by omega) (by first | rfl | omega)) (le_appb (s := nh) (by omega) (by first | rfl | omega) (by decide)) (fun _ _ => (by repeat (first | exact trivial | refine ⟨rfl, ?_⟩))) (fun A3 c4 h5 => ?_))
   refine go Tryz.tbs_ok 1000 ?_
   refine ev_need ⟨⟨(by repeat (first | exact trivial | refine ⟨rfl, ?_⟩)), rfl⟩, by kernel_rfl⟩ ?_
   refine ev_stop (go_appendE (sz := 1) (M := [_]) (enc := encS) Tryz.tbs_ok [5] [] (.inl 2) (l) (x.L) ((l) ++ (x.L)) (nh + nx) rfl rfl rfl rfl rfl rfl rfl (by decide) rfl (by decide) (fun _ p => starH_one.1 p) rfl (fun _ h => h) (by first | rfl | simp) (by first | rfl | omega) (le_app (s := nh + nx) (by omega) (by first | rfl | omega)) (le_appb (s := nh + nx) (by omega) (by first | rfl | omega) (by decide)) (fun _ _ => (by repeat (first | exact trivial | refine ⟨rfl, ?_⟩))) (fun A6 c7 h8 => ?_))
   refine go Tryz.tbs_ok 1000 ?_
   refine ev_need ⟨⟨(by repeat (first | exact trivial | refine ⟨rfl, ?_⟩)), rfl⟩, by kernel_rfl⟩ ?_
   refine ev_need (by kernel_rfl) ?_
   refine ev_if_no (beq_eq_false_iff_ne.2 (by with_reducible assumption)) ?_
   refine go Tryz.tbs_ok 1000 ?_
   refine ev_if_yes (ne_yes (by with_reducible assumption)) ?_
   refine go Tryz.tbs_ok 1000 ?_
   refine ev_fin ⟨trivial, _, rfl, ((A6, c7)), ?_, (by trivial), Frm.sel [0, 1, 2, 5] rfl (by decide)⟩
   exact congrArg (fun b => Value.tuple #[.bool (e == 41), .slice A6 (nh + nx) c7, .slice none 0 0, .bool false, .bool b]) (by simp [h50] : (!(e == 50)) = true)
 · refine go Tryz.tbs_ok 1000 ?_
   refine ev_new fun b0 => ?_
   refine ev_if_no (beq_eq_false_iff_ne.2 (show ¬x.k.tmod 10 = 4 from (by omega))) ?_
   refine go Tryz.tbs_ok 1000 ?_
   refine ev_if_no (beq_eq_false_iff_ne.2 (show ¬x.k.tmod 10 = 5 from (by omega))) ?_
   refine go Tryz.tbs_ok 1000 ?_
   refine ev_if_no (beq_eq_false_iff_ne.2 (show ¬x.k.tmod 10 = 7 from (by omega))) ?_
   refine go Tryz.tbs_ok 1000 ?_
   refine ev_if_no (beq_eq_false_iff_ne.2 (show ¬x.k.tmod 10 = 0 from (by omega))) ?_
   refine go Tryz.tbs_ok 1000 ?_
   refine ev_if_yes (beq_iff_eq.2 (show x.k.tmod 10 = 1 from (by omega))) ?_
   refine go Tryz.tbs_ok 1000 ?_
   refine ev_if_yes (beq_iff_eq.2 (show x.k.tmod 10 = 1 from (by omega))) ?_
   refine go Tryz.tbs_ok 1000 ?_
   refine ev_stop (go_draw Tryz.tbs_ok false [0, 3] [(0,true),(1,true),(2,true),(3,true),(4,true),(5,true),(6,false),(7,false)] rfl ?_)
   refine go Tryz.tbs_ok 1000 ?_
   refine ev_need ⟨⟨(by repeat (first | exact trivial | refine ⟨rfl, ?_⟩)), rfl⟩, by kernel_rfl⟩ ?_
   refine ev_callF (T1 ) [1, 2] [.inl 0, .inl 2] rfl rfl (by decide) rfl (by simp) (fun _ => (by repeat (first | exact trivial | refine ⟨rfl, ?_⟩))) (fun _ h1 => ?_)
   refine go Tryz.tbs_ok 1000 ?_
   refine ev_need ⟨⟨(by repeat (first | exact trivial | refine ⟨rfl, ?_⟩)), rfl⟩, by kernel_rfl⟩ ?_
   refine ev_need (by kernel_rfl) ?_
   refine ev_stop (go_draw Tryz.tbs_ok false [0, 3] [(1,true),(2,true),(3,true),(4,true),(6,true),(7,true),(0,false),(5,false),(8,false),(9,false)] rfl ?_)
   refine go Tryz.tbs_ok 1000 ?_
   refine ev_need ⟨⟨(by repeat (first | exact trivial | refine ⟨rfl, ?_⟩)), rfl⟩, by kernel_rfl⟩ ?_
   refine ev_new fun b2 => ?_
   refine ev_need ⟨⟨(by repeat (first | exact trivial | refine ⟨rfl, ?_⟩)), rfl⟩, by kernel_rfl⟩ ?_
   refine ev_stop (go_appendE (sz := 1) (M := [_]) (enc := encS) Tryz.tbs_ok [4] [some b2] (.inl 1) ([]) (l) (l) (nh) rfl rfl rfl rfl rfl rfl rfl (by decide) rfl (by decide) (fun _ p => Pt.row (starH_one.1 p) rfl (by decide)) rfl (fun _ h => h) (by first | rfl | simp) (by first | rfl | omega) (le_app (s := nh) (by omega) (by first | rfl | omega)) (le_appb (s := nh) (by omega) (by first | rfl | omega) (by decide)) (fun _ _ => (by repeat (first | exact trivial | refine ⟨rfl, ?_⟩))) (fun A3 c4 h5 => ?_))
   refine go Tryz.tbs_ok 1000 ?_
   refine ev_need ⟨⟨(by repeat (first | exact trivial | refine ⟨rfl, ?_⟩)), rfl⟩, by kernel_rfl⟩ ?_
   refine ev_stop (go_appendE (sz := 1) (M := [_]) (enc := encS) Tryz.tbs_ok [5] [] (.inl 2) (l) (x.L) ((l) ++ (x.L)) (nh + nx) rfl rfl rfl rfl rfl rfl rfl (by decide) rfl (by decide) (fun _ p => starH_one.1 p) rfl (fun _ h => h) (by first | rfl | simp) (by first | rfl | omega) (le_app (s := nh + nx) (by omega) (by first | rfl | omega)) (le_appb (s := nh + nx) (by omega) (by first | rfl | omega) (by decide)) (fun _ _ => (by repeat (first | exact trivial | refine ⟨rfl, ?_⟩))) (fun A6 c7 h8 => ?_))
   refine go Tryz.tbs_ok 1000 ?_
   refine ev_need ⟨⟨(by repeat (first | exact trivial | refine ⟨rfl, ?_⟩)), rfl⟩, by kernel_rfl⟩ ?_
   refine ev_need (by kernel_rfl) ?_
   refine ev_if_no (beq_eq_false_iff_ne.2 (by with_reducible assumption)) ?_
   refine go Tryz.tbs_ok 1000 ?_
   refine ev_if_yes (ne_yes (by with_reducible assumption)) ?_
   refine go Tryz.tbs_ok 1000 ?_
   refine ev_fin ⟨trivial, _, rfl, ((A6, c7)), ?_, (by trivial), Frm.sel [0, 1, 2, 5] rfl (by decide)⟩
   exact congrArg (fun b => Value.tuple #[.bool (e == 41), .slice A6 (nh + nx) c7, .slice none 0 0, .bool false, .bool b]) (by simp [h50] : (!(e == 50)) = true)
 · refine go Tryz.tbs_ok 1000 ?_
   refine ev_new fun b0 => ?_
   refine ev_if_no (beq_eq_false_iff_ne.2 (show ¬x.k.tmod 10 = 4 from (by omega))) ?_
   refine go Tryz.tbs_ok 1000 ?_
   refine ev_if_no (beq_eq_false_iff_ne.2 (show ¬x.k.tmod 10 = 5 from (by omega))) ?_
   refine go Tryz.tbs_ok 1000 ?_
   refine ev_if_no (beq_eq_false_iff_ne.2 (show ¬x.k.tmod 10 = 7 from (by omega))) ?_
   refine go Tryz.tbs_ok 1000 ?_
   refine ev_if_no (beq_eq_false_iff_ne.2 (show ¬x.k.tmod 10 = 0 from (by omega))) ?_
   refine go Tryz.tbs_ok 1000 ?_
   refine ev_if_no (beq_eq_false_iff_ne.2 (show ¬x.k.tmod 10 = 1 from (by omega))) ?_
   refine go Tryz.tbs_ok 1000 ?_
   refine ev_if_yes (beq_iff_eq.2 (show x.k.tmod 10 = 2 from (by omega))) ?_
   refine go Tryz.tbs_ok 1000 ?_
   refine ev_if_yes (beq_iff_eq.2 (show x.k.tmod 10 = 2 from (by omega))) ?_
   refine go Tryz.tbs_ok 1000 ?_
   refine ev_stop (go_draw Tryz.tbs_ok false [0, 3] [(0,true),(1,true),(2,true),(3,true),(4,true),(5,true),(6,false),(7,false)] rfl ?_)
   refine go Tryz.tbs_ok 1000 ?_
   refine ev_need ⟨⟨(by repeat (first | exact trivial | refine ⟨rfl, ?_⟩)), rfl⟩, by kernel_rfl⟩ ?_
   refine ev_callF (T1 ) [1, 2] [.inl 0, .inl 2] rfl rfl (by decide) rfl (by simp) (fun _ => (by repeat (first | exact trivial | refine ⟨rfl, ?_⟩))) (fun _ h1 => ?_)
   refine go Tryz.tbs_ok 1000 ?_
   refine ev_need ⟨⟨(by repeat (first | exact trivial | refine ⟨rfl, ?_⟩)), rfl⟩, by kernel_rfl⟩ ?_
   refine ev_need (by kernel_rfl) ?_
   refine ev_stop (go_draw Tryz.tbs_ok false [0, 3] [(1,true),(2,true),(3,true),(4,true),(6,true),(7,true),(0,false),(5,false),(8,false),(9,false)] rfl ?_)
   refine go Tryz.tbs_ok 1000 ?_
   refine ev_need ⟨⟨(by repeat (first | exact trivial | refine ⟨rfl, ?_⟩)), rfl⟩, by kernel_rfl⟩ ?_
   refine ev_new fun b2 => ?_
   refine ev_need ⟨⟨(by repeat (first | exact trivial | refine ⟨rfl, ?_⟩)), rfl⟩, by kernel_rfl⟩ ?_
   refine ev_stop (go_appendE (sz := 1) (M := [_]) (enc := encS) Tryz.tbs_ok [4] [some b2] (.inl 1) ([]) (l) (l) (nh) rfl rfl rfl rfl rfl rfl rfl (by decide) rfl (by decide) (fun _ p => Pt.row (starH_one.1 p) rfl (by decide)) rfl (fun _ h => h) (by first | rfl | simp) (by first | rfl | omega) (le_app (s := nh) (by omega) (by first | rfl | omega)) (le_appb (s := nh) (by omega) (by first | rfl | omega) (by decide)) (fun _ _ => (by repeat (first | exact trivial | refine ⟨rfl, ?_⟩))) (fun A3 c4 h5 => ?_))
   refine go Tryz.tbs_ok 1000 ?_
   refine ev_need ⟨⟨(by repeat (first | exact trivial | refine ⟨rfl, ?_⟩)), rfl⟩, by kernel_rfl⟩ ?_
   refine ev_stop (go_appendE (sz := 1) (M := [_]) (enc := encS) Tryz.tbs_ok [5] [] (.inl 2) (l) (x.L) ((l) ++ (x.L)) (nh + nx) rfl rfl rfl rfl rfl rfl rfl (by decide) rfl (by decide) (fun _ p => starH_one.1 p) rfl (fun _ h => h) (by first | rfl | simp) (by first | rfl | omega) (le_app (s := nh + nx) (by omega) (by first | rfl | omega)) (le_appb (s := nh + nx) (by omega) (by first | rfl | omega) (by decide)) (fun _ _ => (by repeat (first | exact trivial | refine ⟨rfl, ?_⟩))) (fun A6 c7 h8 => ?_))
   refine go Tryz.tbs_ok 1000 ?_
   refine ev_need ⟨⟨(by repeat (first | exact trivial | refine ⟨rfl, ?_⟩)), rfl⟩, by kernel_rfl⟩ ?_
   refine ev_need (by kernel_rfl) ?_
   refine ev_if_no (beq_eq_false_iff_ne.2 (by with_reducible assumption)) ?_
   refine go Tryz.tbs_ok 1000 ?_
   refine ev_if_yes (ne_yes (by with_reducible assumption)) ?_
   refine go Tryz.tbs_ok 1000 ?_
   refine ev_fin ⟨trivial, _, rfl, ((A6, c7)), ?_, (by trivial), Frm.sel [0, 1, 2, 5] rfl (by decide)⟩
   exact congrArg (fun b => Value.tuple #[.bool (e == 41), .slice A6 (nh + nx) c7, .slice none 0 0, .bool false, .bool b]) (by simp [h50] : (!(e == 50)) = true)
 · refine go Tryz.tbs_ok 1000 ?_
   refine ev_new fun b0 => ?_
   refine ev_if_no (beq_eq_false_iff_ne.2 (show ¬x.k.tmod 10 = 4 from (by omega))) ?_
   refine go Tryz.tbs_ok 1000 ?_
   refine ev_if_no (beq_eq_false_iff_ne.2 (show ¬x.k.tmod 10 = 5 from (by omega))) ?_
   refine go Tryz.tbs_ok 1000 ?_
   refine ev_if_no (beq_eq_false_iff_ne.2 (show ¬x.k.tmod 10 = 7 from (by omega))) ?_
   refine go Tryz.tbs_ok 1000 ?_
   refine ev_if_no (beq_eq_false_iff_ne.2 (show ¬x.k.tmod 10 = 0 from (by omega))) ?_
   refine go Tryz.tbs_ok 1000 ?_
   refine ev_if_no (beq_eq_false_iff_ne.2 (show ¬x.k.tmod 10 = 1 from (by omega))) ?_
   refine go Tryz.tbs_ok 1000 ?_
   refine ev_if_no (beq_eq_false_iff_ne.2 (show ¬x.k.tmod 10 = 2 from (by omega))) ?_
   refine go Tryz.tbs_ok 1000 ?_
   refine ev_if_yes (beq_iff_eq.2 (show x.k.tmod 10 = 3 from (by omega))) ?_
   refine go Tryz.tbs_ok 1000 ?_
   refine ev_stop (go_draw Tryz.tbs_ok false [0, 3] [(0,true),(1,true),(2,true),(3,true),(4,true),(5,true),(6,false),(7,false)] rfl ?_)
   refine go Tryz.tbs_ok 1000 ?_
   refine ev_need ⟨⟨(by repeat (first | exact trivial | refine ⟨rfl, ?_⟩)), rfl⟩, by kernel_rfl⟩ ?_
   refine ev_callF (T1 ) [1, 2] [.inl 0, .inl 2] rfl rfl (by decide) rfl (by simp) (fun _ => (by repeat (first | exact trivial | refine ⟨rfl, ?_⟩))) (fun _ h1 => ?_)
   refine go Tryz.tbs_ok 1000 ?_
   refine ev_need ⟨⟨(by repeat (first | exact trivial | refine ⟨rfl, ?_⟩)), rfl⟩, by kernel_rfl⟩ ?_
   refine ev_need (by kernel_rfl) ?_
   refine ev_stop (go_draw Tryz.tbs_ok false [0, 3] [(1,true),(2,true),(3,true),(4,true),(6,true),(7,true),(0,false),(5,false),(8,false),(9,false)] rfl ?_)
   refine go Tryz.tbs_ok 1000 ?_
   refine ev_need ⟨⟨(by repeat (first | exact trivial | refine ⟨rfl, ?_⟩)), rfl⟩, by kernel_rfl⟩ ?_
   refine ev_new fun b2 => ?_
   refine ev_need ⟨⟨(by repeat (first | exact trivial | refine ⟨rfl, ?_⟩)), rfl⟩, by kernel_rfl⟩ ?_
   refine ev_stop (go_appendE (sz := 1) (M := [_]) (enc := encS) Tryz.tbs_ok [4] [some b2] (.inl 1) ([]) (l) (l) (nh) rfl rfl rfl rfl rfl rfl rfl (by decide) rfl (by decide) (fun _ p => Pt.row (starH_one.1 p) rfl (by decide)) rfl (fun _ h => h) (by first | rfl | simp) (by first | rfl | omega) (le_app (s := nh) (by omega) (by first | rfl | omega)) (le_appb (s := nh) (by omega) (by first | rfl | omega) (by decide)) (fun _ _ => (by repeat (first | exact trivial | refine ⟨rfl, ?_⟩))) (fun A3 c4 h5 => ?_))
   refine go Tryz.tbs_ok 1000 ?_
   refine ev_need ⟨⟨(by repeat (first | exact trivial | refine ⟨rfl, ?_⟩)), rfl⟩, by kernel_rfl⟩ ?_
   refine ev_stop (go_appendE (sz := 1) (M := [_]) (enc := encS) Tryz.tbs_ok [5] [] (.inl 2) (l) (x.L) ((l) ++ (x.L)) (nh + nx) rfl rfl rfl rfl rfl rfl rfl (by decide) rfl (by decide) (fun _ p => starH_one.1 p) rfl (fun _ h => h) (by first | rfl | simp) (by first | rfl | omega) (le_app (s := nh + nx) (by omega) (by first | rfl | omega)) (le_appb (s := nh + nx) (by omega) (by first | rfl | omega) (by decide)) (fun _ _ => (by repeat (first | exact trivial | refine ⟨rfl, ?_⟩))) (fun A6 c7 h8 => ?_))
   refine go Tryz.tbs_ok 1000 ?_
   refine ev_need ⟨⟨(by repeat (first | exact trivial | refine ⟨rfl, ?_⟩)), rfl⟩, by kernel_rfl⟩ ?_
   refine ev_need (by kernel_rfl) ?_
   refine ev_if_no (beq_eq_false_iff_ne.2 (by with_reducible assumption)) ?_
   refine go Tryz.tbs_ok 1000 ?_
   refine ev_if_yes (ne_yes (by with_reducible assumption)) ?_
   refine go Tryz.tbs_ok 1000 ?_
   refine ev_fin ⟨trivial, _, rfl, ((A6, c7)), ?_, (by trivial), Frm.sel [0, 1, 2, 5] rfl (by decide)⟩
   exact congrArg (fun b => Value.tuple #[.bool (e == 41), .slice A6 (nh + nx) c7, .slice none 0 0, .bool false, .bool b]) (by simp [h50] : (!(e == 50)) = true)
end Go.Proofs.YtjlfdfmkofbccaaGreatDoor
namespace Go.Proofs.YtjlfdfmkofbccaaGreatDoor
open Go.Sy
structure Keeps (i nh sure : Nat) (W : WK) (D : DK) (l : List BA) : Prop where
 log : Logs W D l sure
 len : nh = l.length
 few : nh ≤ i * 50
 su : sure ≤ nh
 lo : 0 ≤ D.starts
 hi : D.starts ≤ i
theorem Keeps.ok {i nh sure : Nat} {W : WK} {D : DK} {l : List BA} (h : Keeps i nh sure W D l) : okD D ∧ okW W ∧ D.down = false ∧ D.starts = W.s := by
 obtain ⟨_, _, _, hL, _⟩ := h.log
 exact ⟨hL.ok, hL.okW, hL.up, hL.st⟩
set_option maxHeartbeats 16000000 in
set_option maxRecDepth 100000 in
theorem walTorn (cap : Int) (A : Option Addr) (l : List ActW) (n c : Nat) (hc : 0 ≤ cap ∧ cap < 65536) (hn : n = l.length) (hn1 : n ≤ 9223372036854775807) (hin : ∀ x ∈ l, 0 ≤ x.k ∧ x.k < 256 ∧ x.z ≤ 9223372036854775807) :
 Triple Tryz.prog 3 [.int .u16 cap, .slice A n c] [] [TabA, Rd 4 A n (l.flatMap encW), ActsW l] Unit (fun _ => .bool true) (fun _ => True) (fun _ => []) := by
 have TG := greatW A l n c hn hn1
 have TN := newM (2000 + 3 * cap) (by omega) (by omega)
 have L0 : Live ⟨0, false, 0, 0⟩ ⟨2000 + 3 * cap, 0, false, [], none, []⟩ [] [] 0 := Live.new (by omega) (by omega)
 obtain ⟨D0, hD0⟩ : ∃ D0 : DK, D0 = ⟨2000 + 3 * cap, 0, false, [], none, []⟩ := ⟨_, rfl⟩
 obtain ⟨W0, hW0⟩ : ∃ W0 : WK, W0 = ⟨0, false, 0, 0⟩ := ⟨_, rfl⟩
 rw [← hD0, ← hW0] at L0
 rw [← hD0] at TN
 have ho0 : openD D0 = (D0, 0, W0, []) := by
  have := L0.opens
  rw [this, hD0, hW0]
  rfl
 have TO := fun q => openLit q L0.ok ho0
 have TW := worksT
 refine triple_intro Tryz.tbs_ok Tryz.func3 rfl [.va (.int .u16 cap), .va (.slice A n c)] [] ⟨trivial, trivial, trivial⟩ rfl (by simp) ?_
 intro E
 refine go_fact (Rd 1 none 0 (([] : List ByteArray).flatMap encS)) (fun h => Rd.nil _ _ h) ?_
 refine go_fact (Row 9 1 none 0 0 (([] : List ByteArray).flatMap encS)) (Row.nilE _ _) ?_
 refine go Tryz.tbs_ok 1000 ?_
 refine ev_callF (TG ) [] [.inl 1, .inl 2] rfl rfl (by decide) rfl (by simp) (fun _ => (by repeat (first | exact trivial | refine ⟨rfl, ?_⟩))) (fun x0 h1 => ?_)
 refine go Tryz.tbs_ok 1000 ?_
 refine ev_if (fun h2 => ?_) (fun h2 => ?_)
 refine go Tryz.tbs_ok 1000 ?_
 refine ev_fin ⟨trivial, _, rfl, (()), rfl, (by trivial), Frm.nil _⟩
 refine go Tryz.tbs_ok 1000 ?_
 refine ev_w64 (by constructor <;> omega) ?_
 refine ev_w64 (by constructor <;> omega) ?_
 refine ev_w64 (by constructor <;> omega) ?_
 refine ev_callF (TN ) [] [] rfl rfl (by decide) rfl (by simp) (fun _ => (by repeat (first | exact trivial | refine ⟨rfl, ?_⟩))) (fun x3 h4 => ?_)
 refine go Tryz.tbs_ok 1000 ?_
 refine ev_callF (TO (x3)) [2] [.inl 0] rfl rfl (by decide) rfl (by simp) (fun _ => (by repeat (first | exact trivial | refine ⟨rfl, ?_⟩))) (fun ⟨x5, x6, x7⟩ h8 => ?_)
 refine go Tryz.tbs_ok 1000 ?_
 refine ev_if_no rfl ?_
 refine go Tryz.tbs_ok 1000 ?_
 refine ev_if_no rfl ?_
 refine go Tryz.tbs_ok 1000 ?_
 refine ev_if_no rfl ?_
 refine go Tryz.tbs_ok 1000 ?_
 refine ev_new fun b9 => ?_
 obtain ⟨hn100, hbd⟩ := h1 h2
 refine ev_stop (go_loopR [4, 11, 12, 13, 14, 15, 16, 17, 20, 25, 28, 30, 47, 49, 50, 51, 52, 53, 54, 55, 56, 57, 58, 59, 60, 61, 62, 63, 64, 65, 66, 67, 68, 69, 70, 71, 72, 73, 74, 75, 76, 77, 78, 79, 80, 81, 82, 83, 84, 85, 86, 87, 88, 89, 90, 91, 92, 93, 94, 95, 96, 97, 98, 99, 100, 101, 102, 103, 104, 105, 106, 107, 108, 109, 110, 111, 112, 113, 114, 115, 116] (fun (i, _) => [(11, .va (.int .i64 (i : Nat)))]) (fun (_, H, nh, ch, sure, p, W, D, hv) => [(1, .fact (Row 9 1 H nh ch (hv.flatMap encS))), (2, .fact (WalM p x3 W)), (3, .fact (DiskM x3 D)), (5, .box b9 35 [.va (.pointer (some ⟨x3, 0, none⟩)), .va (.pointer (some ⟨p, 0, none⟩)), .va (.slice H nh ch), .va (.int .i64 (sure : Nat))])]) (fun (i, _, nh, ch, sure, _, W, D, hv) => i ≤ n ∧ Keeps i nh sure W D hv ∧ nh ≤ ch) (fun (i, _) => n - i) ((0, none, 0, 0, 0, x5, W0, D0, []) : Nat × Option Addr × Nat × Nat × Nat × Nat × WK × DK × List ByteArray) ⟨Nat.zero_le _, ⟨⟨[], [], 0, L0, rfl, Nat.le_refl _⟩, rfl, Nat.le_refl _, Nat.le_refl _, by rw [hD0]; exact Int.le_refl _, by rw [hD0]; exact Int.le_refl _⟩, Nat.le_refl _⟩ ⟨⟨by kernel_rfl, by kernel_rfl⟩, ⟨_, rfl⟩, ⟨_, rfl⟩, by kernel_rfl, by kernel_rfl⟩ (fun x_ h_ => ?_))
 obtain ⟨i, H, nh, ch, sure, p, W, D, hv⟩ := x_
 obtain ⟨hi, hK, hcap⟩ := h_
 obtain ⟨hokD, hokW, hup, hst⟩ := hK.ok
 have hfew : nh ≤ 5000 := Nat.le_trans hK.few (by omega)
 rcases Nat.lt_or_ge i n with hin2 | hin2
 · have hil : i < l.length := by omega
   obtain ⟨x, hx⟩ : ∃ x, x = l[i] := ⟨_, rfl⟩
   have hbx := hbd x (by rw [hx]; exact List.getElem_mem hil)
   have hix := hin x (by rw [hx]; exact List.getElem_mem hil)
   refine go_more 2 (ActsW l) (Rd 1 l[i].A l[i].L.length (l[i].L.flatMap encS)) rfl (fun h p => (p _ (List.getElem_mem hil)).1) ?_
   refine go_more 2 (ActsW l) (Rd 1 l[i].B l[i].K.length (l[i].K.flatMap encN)) rfl (fun h p => (p _ (List.getElem_mem hil)).2) ?_
   refine go Tryz.tbs_ok 1000 ?_
   refine ev_if_yes (decide_eq_true (show (↑i : Int) < (↑n : Int) from (by omega))) ?_
   refine go Tryz.tbs_ok 1000 ?_
   refine ev_stop (go_indexE (sz := 4) Tryz.tbs_ok (.inl 1) (i) rfl rfl rfl rfl rfl rfl (by omega) rfl (fun _ h => h) (fun g30 o32 e31 => ?_))
   subst e31
   refine go Tryz.tbs_ok 1000 ?_
   have l33 : i < (l).length := (by omega)
   refine ev_stop (go_loadE Tryz.tbs_ok (.inl 1) (i) 0 rfl rfl rfl rfl (fun _ h => h) (by omega) (fun _ => rfl) (by omega) l33 (by decide) ?_)
   rw [← hx]
   clear hx
   have hnx2 := hbx.L
   have hk10 : x.k.tmod 10 = x.k % 10 := Int.tmod_eq_emod_of_nonneg hix.1
   rcases show (x.k % 10 = 6 ∨ x.k % 10 = 8) ∨ x.k % 10 = 9 ∨ x.k % 10 = 7 ∨ x.k % 10 = 4 ∨ x.k % 10 = 5 ∨ x.k % 10 < 4 by omega with hk | hk | hk | hk | hk | hk
   · obtain ⟨hc0, hbrk, hcs⟩ := hK.log.crash x.K
     have TC := crashM x3 D x.B x.K.length x.d x.K hokD rfl
     rw [hc0] at TC
     obtain ⟨D1, hD1⟩ : ∃ D1, D1 = (crashD D x.K).1 := ⟨_, rfl⟩
     rw [← hD1] at TC hbrk hcs
     obtain ⟨D2, W3, D3, lw, hs1, hs2, ho, hs3, hlog, hpre, hsu, hok2, _, _⟩ := hbrk.opens
     have hlo := hK.lo
     have hhi := hK.hi
     have TS := startM x3 D1 hbrk.ok (by omega) (by omega)
     rw [hs1] at TS
     have hlw : lw.length ≤ hv.length := hpre.length_le
     have hlen := hK.len
     have TA := know (g := fun x => lw.length ≤ x.2.2) (rdsR3 (e := 9) (ch := ch) (againT b9 x3 p H nh ch sure D2 D3 W3 lw hv [] H none nh ch 0 0 false hok2 ho (by have := hK.su; omega) (by omega) hK.len rfl (by omega) (by decide) hcap (.inl ⟨hsu, hpre⟩))) (fun x h q => Row.cap (starH_mem (A := Row 9 1 x.2.1 lw.length x.2.2 (lw.flatMap encS)) (by simp) q))
     unfold ptK at TA
     have hnext : Keeps (i + 1) lw.length lw.length W3 D3 lw := ⟨hlog, rfl, by have := hK.few; omega, Nat.le_refl _, by omega, by omega⟩
     refine go Tryz.tbs_ok 1000 ?_
     refine ev_new fun b60 => ?_
     refine ev_if_eq (fun h61 => ?_) (fun h61 => ?_)
     refine go Tryz.tbs_ok 1000 ?_
     refine ev_callF (TC ) [3] [.inl 4] rfl rfl (by decide) rfl (by simp) (fun _ => (by repeat (first | exact trivial | refine ⟨rfl, ?_⟩))) (fun _ h62 => ?_)
     refine go Tryz.tbs_ok 1000 ?_
     refine ev_if_no rfl ?_
     refine go Tryz.tbs_ok 1000 ?_
     refine ev_callF (TS ) [3] [] rfl rfl (by decide) rfl (by simp) (fun _ => (by repeat (first | exact trivial | refine ⟨rfl, ?_⟩))) (fun _ h63 => ?_)
     refine go Tryz.tbs_ok 1000 ?_
     refine ev_if_no rfl ?_
     refine go Tryz.tbs_ok 1000 ?_
     refine ev_call (TA ) [5, 3] [.inl 0, .inr 1, .inr 0] (fun (v0_, v1_, v2_) => [.box (b9) 35 [.va (Value.pointer (some { block := x3, off := 0 : Addr })), .va (Value.pointer (some { block := v0_, off := 0 : Addr })), .va (Value.slice v1_ lw.length v2_), .va (Value.int IntKind.i64 (↑lw.length : Int))], .fact (DiskM x3 D3), .fact (WalM v0_ x3 W3), .fact (Row 9 1 v1_ lw.length v2_ (List.flatMap encS lw))]) rfl rfl (by decide) rfl (by simp) (fun _ => rfl) (fun _ => (newsOk_box (by simp [SV.good, SV.goodL]) (newsOk_fact (newsOk_fact (newsOk_fact (newsOk_nil _)))))) (fun _ => (by repeat (first | exact trivial | refine ⟨rfl, ?_⟩))) (fun ⟨x64, x65, x66⟩ h67 => ?_)
     refine go Tryz.tbs_ok 1000 ?_
     refine ev_if_no rfl ?_
     refine go Tryz.tbs_ok 1000 ?_
     refine ev_wrapN (i + 1) (by constructor <;> omega) (by rfl) ?_
     refine ev_move 1 8 (by decide) rfl rfl (by repeat (first | exact trivial | refine ⟨rfl, ?_⟩)) ?_
     refine ev_move 2 7 (by decide) rfl rfl (by repeat (first | exact trivial | refine ⟨rfl, ?_⟩)) ?_
     refine ev_fin (round_next ((i + 1, x65, lw.length, x66, lw.length, x64, W3, D3, lw)) (show i + 1 ≤ n ∧ Keeps (i + 1) lw.length lw.length W3 D3 lw ∧ lw.length ≤ x66 from (by trivial)) (show n - (i + 1) < n - i from (by omega)) ⟨⟨by kernel_rfl, by kernel_rfl⟩, ⟨_, rfl⟩, ⟨_, rfl⟩, by kernel_rfl, by kernel_rfl⟩)
     refine go Tryz.tbs_ok 1000 ?_
     refine ev_if_yes (beq_iff_eq.2 (show x.k.tmod 10 = 8 from (by omega))) ?_
     refine go Tryz.tbs_ok 1000 ?_
     refine ev_callF (TC ) [3] [.inl 4] rfl rfl (by decide) rfl (by simp) (fun _ => (by repeat (first | exact trivial | refine ⟨rfl, ?_⟩))) (fun _ h68 => ?_)
     refine go Tryz.tbs_ok 1000 ?_
     refine ev_if_no rfl ?_
     refine go Tryz.tbs_ok 1000 ?_
     refine ev_callF (TS ) [3] [] rfl rfl (by decide) rfl (by simp) (fun _ => (by repeat (first | exact trivial | refine ⟨rfl, ?_⟩))) (fun _ h69 => ?_)
     refine go Tryz.tbs_ok 1000 ?_
     refine ev_if_no rfl ?_
     refine go Tryz.tbs_ok 1000 ?_
     refine ev_call (TA ) [5, 3] [.inl 0, .inr 1, .inr 0] (fun (v0_, v1_, v2_) => [.box (b9) 35 [.va (Value.pointer (some { block := x3, off := 0 : Addr })), .va (Value.pointer (some { block := v0_, off := 0 : Addr })), .va (Value.slice v1_ lw.length v2_), .va (Value.int IntKind.i64 (↑lw.length : Int))], .fact (DiskM x3 D3), .fact (WalM v0_ x3 W3), .fact (Row 9 1 v1_ lw.length v2_ (List.flatMap encS lw))]) rfl rfl (by decide) rfl (by simp) (fun _ => rfl) (fun _ => (newsOk_box (by simp [SV.good, SV.goodL]) (newsOk_fact (newsOk_fact (newsOk_fact (newsOk_nil _)))))) (fun _ => (by repeat (first | exact trivial | refine ⟨rfl, ?_⟩))) (fun ⟨x70, x71, x72⟩ h73 => ?_)
     refine go Tryz.tbs_ok 1000 ?_
     refine ev_if_no rfl ?_
     refine go Tryz.tbs_ok 1000 ?_
     refine ev_wrapN (i + 1) (by constructor <;> omega) (by rfl) ?_
     refine ev_move 1 8 (by decide) rfl rfl (by repeat (first | exact trivial | refine ⟨rfl, ?_⟩)) ?_
     refine ev_move 2 7 (by decide) rfl rfl (by repeat (first | exact trivial | refine ⟨rfl, ?_⟩)) ?_
     refine ev_fin (round_next ((i + 1, x71, lw.length, x72, lw.length, x70, W3, D3, lw)) (show i + 1 ≤ n ∧ Keeps (i + 1) lw.length lw.length W3 D3 lw ∧ lw.length ≤ x72 from (by trivial)) (show n - (i + 1) < n - i from (by omega)) ⟨⟨by kernel_rfl, by kernel_rfl⟩, ⟨_, rfl⟩, ⟨_, rfl⟩, by kernel_rfl, by kernel_rfl⟩)
   · have T := rdsR (e := 9) (ch := ch) (doesN b9 x3 p H nh ch sure W D hv x x.L.length ⟨hix.1, hix.2.1⟩ hokD hokW hK.len (by omega) rfl hnx2 (.inr (.inr hk)))
     unfold ptK at T
     have hnext : Keeps (i + 1) nh sure W D hv := ⟨hK.log, hK.len, by have := hK.few; omega, hK.su, hK.lo, by have := hK.hi; omega⟩
     refine go Tryz.tbs_ok 1000 ?_
     refine ev_new fun b60 => ?_
     refine ev_if_no (beq_eq_false_iff_ne.2 (show ¬x.k.tmod 10 = 6 from (by omega))) ?_
     refine go Tryz.tbs_ok 1000 ?_
     refine ev_if_no (beq_eq_false_iff_ne.2 (show ¬x.k.tmod 10 = 8 from (by omega))) ?_
     refine go Tryz.tbs_ok 1000 ?_
     refine ev_call (T ) [5, 2, 3] [.inl 0, .inr 1, .inl 3, .inl 4] (fun v0_ => [.box (b9) 35 [.va (Value.pointer (some { block := x3, off := 0 : Addr })), .va (Value.pointer (some { block := p, off := 0 : Addr })), .va (Value.slice H nh ch), .va (Value.int IntKind.i64 (↑sure : Int))], .fact (WalM p x3 W), .fact (DiskM x3 D)]) rfl rfl (by decide) rfl (by simp) (fun _ => rfl) (fun _ => (newsOk_box (by simp [SV.good, SV.goodL]) (newsOk_fact (newsOk_fact (newsOk_nil _))))) (fun _ => (by repeat (first | exact trivial | refine ⟨rfl, ?_⟩))) (fun _ h61 => ?_)
     refine go Tryz.tbs_ok 1000 ?_
     refine ev_if_no rfl ?_
     refine go Tryz.tbs_ok 1000 ?_
     refine ev_if_no rfl ?_
     refine go Tryz.tbs_ok 1000 ?_
     refine ev_wrapN (i + 1) (by constructor <;> omega) (by rfl) ?_
     refine ev_fin (round_next ((i + 1, H, nh, ch, sure, p, W, D, hv)) (show i + 1 ≤ n ∧ Keeps (i + 1) nh sure W D hv ∧ nh ≤ ch from (by trivial)) (show n - (i + 1) < n - i from (by omega)) ⟨⟨by kernel_rfl, by kernel_rfl⟩, ⟨_, rfl⟩, ⟨_, rfl⟩, by kernel_rfl, by kernel_rfl⟩)
   · have T := rdsR (e := 9) (ch := ch) (does7 b9 x3 p H nh ch sure W D hv x x.L.length ⟨hix.1, hix.2.1⟩ hokD hokW hK.len (by omega) rfl hnx2 hk hbx.K)
     unfold ptK at T
     obtain ⟨hf1, hf2⟩ := hK.log.fail x.z hix.2.2 x.K
     have hnext : Keeps (i + 1) nh sure W (failD D x.z x.K).1 hv := ⟨hf1, hK.len, by have := hK.few; omega, hK.su, by rw [hf2]; exact hK.lo, by have := hK.hi; omega⟩
     obtain ⟨D1, hD1⟩ : ∃ D1, D1 = (failD D x.z x.K).1 := ⟨_, rfl⟩
     rw [← hD1] at T hnext
     refine go Tryz.tbs_ok 1000 ?_
     refine ev_new fun b60 => ?_
     refine ev_if_no (beq_eq_false_iff_ne.2 (show ¬x.k.tmod 10 = 6 from (by omega))) ?_
     refine go Tryz.tbs_ok 1000 ?_
     refine ev_if_no (beq_eq_false_iff_ne.2 (show ¬x.k.tmod 10 = 8 from (by omega))) ?_
     refine go Tryz.tbs_ok 1000 ?_
     refine ev_call (T ) [5, 2, 3] [.inl 0, .inr 1, .inl 3, .inl 4] (fun v0_ => [.box (b9) 35 [.va (Value.pointer (some { block := x3, off := 0 : Addr })), .va (Value.pointer (some { block := p, off := 0 : Addr })), .va (Value.slice H nh ch), .va (Value.int IntKind.i64 (↑sure : Int))], .fact (WalM p x3 W), .fact (DiskM x3 D1)]) rfl rfl (by decide) rfl (by simp) (fun _ => rfl) (fun _ => (newsOk_box (by simp [SV.good, SV.goodL]) (newsOk_fact (newsOk_fact (newsOk_nil _))))) (fun _ => (by repeat (first | exact trivial | refine ⟨rfl, ?_⟩))) (fun _ h61 => ?_)
     refine go Tryz.tbs_ok 1000 ?_
     refine ev_if_no rfl ?_
     refine go Tryz.tbs_ok 1000 ?_
     refine ev_if_no rfl ?_
     refine go Tryz.tbs_ok 1000 ?_
     refine ev_wrapN (i + 1) (by constructor <;> omega) (by rfl) ?_
     refine ev_fin (round_next ((i + 1, H, nh, ch, sure, p, W, D1, hv)) (show i + 1 ≤ n ∧ Keeps (i + 1) nh sure W D1 hv ∧ nh ≤ ch from (by trivial)) (show n - (i + 1) < n - i from (by omega)) ⟨⟨by kernel_rfl, by kernel_rfl⟩, ⟨_, rfl⟩, ⟨_, rfl⟩, by kernel_rfl, by kernel_rfl⟩)
   · have hst1 := syncW_starts W D
     rcases hK.log.sync with ⟨h1, h2, h3, h4, h5⟩ | ⟨_, h1, hbrk⟩
     · obtain ⟨D1, hD1⟩ : ∃ D1, D1 = (syncW W D).2.1 := ⟨_, rfl⟩
       have he : syncW W D = (W, D1, 0) := Prod.ext h2 (Prod.ext hD1.symm h1)
       have T := rdsR (e := 9) (ch := ch) (does4 b9 x3 p H nh ch sure W D hv x x.L.length ⟨hix.1, hix.2.1⟩ hokD hokW hK.len (by omega) rfl hnx2 hk W D1 0 he (.inl rfl))
       unfold ptK at T
       rw [if_pos rfl] at T
       rw [← hD1] at h3 hst1
       have hnext : Keeps (i + 1) nh nh W D1 hv := ⟨by rw [hK.len]; exact h3, hK.len, by have := hK.few; omega, Nat.le_refl _, by rw [hst1]; exact hK.lo, by have := hK.hi; omega⟩
       refine go Tryz.tbs_ok 1000 ?_
       refine ev_new fun b60 => ?_
       refine ev_if_no (beq_eq_false_iff_ne.2 (show ¬x.k.tmod 10 = 6 from (by omega))) ?_
       refine go Tryz.tbs_ok 1000 ?_
       refine ev_if_no (beq_eq_false_iff_ne.2 (show ¬x.k.tmod 10 = 8 from (by omega))) ?_
       refine go Tryz.tbs_ok 1000 ?_
       refine ev_call (T ) [5, 2, 3] [.inl 0, .inr 1, .inl 3, .inl 4] (fun v0_ => [.box (b9) 35 [.va (Value.pointer (some { block := x3, off := 0 : Addr })), .va (Value.pointer (some { block := p, off := 0 : Addr })), .va (Value.slice H nh ch), .va (Value.int IntKind.i64 (↑nh : Int))], .fact (WalM p x3 W), .fact (DiskM x3 D1)]) rfl rfl (by decide) rfl (by simp) (fun _ => rfl) (fun _ => (newsOk_box (by simp [SV.good, SV.goodL]) (newsOk_fact (newsOk_fact (newsOk_nil _))))) (fun _ => (by repeat (first | exact trivial | refine ⟨rfl, ?_⟩))) (fun _ h61 => ?_)
       refine go Tryz.tbs_ok 1000 ?_
       refine ev_if_no rfl ?_
       refine go Tryz.tbs_ok 1000 ?_
       refine ev_if_no rfl ?_
       refine go Tryz.tbs_ok 1000 ?_
       refine ev_wrapN (i + 1) (by constructor <;> omega) (by rfl) ?_
       refine ev_fin (round_next ((i + 1, H, nh, ch, nh, p, W, D1, hv)) (show i + 1 ≤ n ∧ Keeps (i + 1) nh nh W D1 hv ∧ nh ≤ ch from (by trivial)) (show n - (i + 1) < n - i from (by omega)) ⟨⟨by kernel_rfl, by kernel_rfl⟩, ⟨_, rfl⟩, ⟨_, rfl⟩, by kernel_rfl, by kernel_rfl⟩)
     · obtain ⟨W1, hW1⟩ : ∃ W1, W1 = (syncW W D).1 := ⟨_, rfl⟩
       obtain ⟨D1, hD1⟩ : ∃ D1, D1 = (syncW W D).2.1 := ⟨_, rfl⟩
       have he : syncW W D = (W1, D1, 41) := Prod.ext hW1.symm (Prod.ext hD1.symm h1)
       have T := rdsR (e := 9) (ch := ch) (does4 b9 x3 p H nh ch sure W D hv x x.L.length ⟨hix.1, hix.2.1⟩ hokD hokW hK.len (by omega) rfl hnx2 hk W1 D1 41 he (.inr rfl))
       unfold ptK at T
       rw [if_neg (by decide)] at T
       rw [← hD1] at hbrk hst1
       obtain ⟨D2, W3, D3, lw, hs1, hs2, ho, hs3, hlog, hpre, hsu, hok2, _, _⟩ := hbrk.opens
       have hlo := hK.lo
       have hhi := hK.hi
       have TU := upM x3 D1 hbrk.ok
       rw [hbrk.down] at TU
       have TS := startM x3 D1 hbrk.ok (by omega) (by omega)
       rw [hs1] at TS
       have hlw : lw.length ≤ hv.length := hpre.length_le
       have hlen := hK.len
       have TA := know (g := fun x => lw.length ≤ x.2.2) (rdsR3 (e := 9) (ch := ch) (againT b9 x3 p H nh ch sure D2 D3 W3 lw hv [] H none nh ch 0 0 false hok2 ho (by have := hK.su; omega) (by omega) hK.len rfl (by omega) (by decide) hcap (.inl ⟨hsu, hpre⟩))) (fun x h q => Row.cap (starH_mem (A := Row 9 1 x.2.1 lw.length x.2.2 (lw.flatMap encS)) (by simp) q))
       unfold ptK at TA
       have hnext : Keeps (i + 1) lw.length lw.length W3 D3 lw := ⟨hlog, rfl, by have := hK.few; omega, Nat.le_refl _, by omega, by omega⟩
       refine go Tryz.tbs_ok 1000 ?_
       refine ev_new fun b60 => ?_
       refine ev_if_no (beq_eq_false_iff_ne.2 (show ¬x.k.tmod 10 = 6 from (by omega))) ?_
       refine go Tryz.tbs_ok 1000 ?_
       refine ev_if_no (beq_eq_false_iff_ne.2 (show ¬x.k.tmod 10 = 8 from (by omega))) ?_
       refine go Tryz.tbs_ok 1000 ?_
       refine ev_call (T ) [5, 2, 3] [.inl 0, .inr 1, .inl 3, .inl 4] (fun v0_ => [.box (b9) 35 [.va (Value.pointer (some { block := x3, off := 0 : Addr })), .va (Value.pointer (some { block := p, off := 0 : Addr })), .va (Value.slice H nh ch), .va (Value.int IntKind.i64 (↑sure : Int))], .fact (WalM p x3 W1), .fact (DiskM x3 D1)]) rfl rfl (by decide) rfl (by simp) (fun _ => rfl) (fun _ => (newsOk_box (by simp [SV.good, SV.goodL]) (newsOk_fact (newsOk_fact (newsOk_nil _))))) (fun _ => (by repeat (first | exact trivial | refine ⟨rfl, ?_⟩))) (fun _ h61 => ?_)
       refine go Tryz.tbs_ok 1000 ?_
       refine ev_if_no rfl ?_
       refine go Tryz.tbs_ok 1000 ?_
       refine ev_if_yes rfl ?_
       refine go Tryz.tbs_ok 1000 ?_
       refine ev_callF (TU ) [3] [] rfl rfl (by decide) rfl (by simp) (fun _ => (by repeat (first | exact trivial | refine ⟨rfl, ?_⟩))) (fun _ h62 => ?_)
       refine go Tryz.tbs_ok 1000 ?_
       refine ev_if_no rfl ?_
       refine go Tryz.tbs_ok 1000 ?_
       refine ev_callF (TS ) [3] [] rfl rfl (by decide) rfl (by simp) (fun _ => (by repeat (first | exact trivial | refine ⟨rfl, ?_⟩))) (fun _ h63 => ?_)
       refine go Tryz.tbs_ok 1000 ?_
       refine ev_if_no rfl ?_
       refine go Tryz.tbs_ok 1000 ?_
       refine ev_call (TA ) [5, 3] [.inl 0, .inr 1, .inr 0] (fun (v0_, v1_, v2_) => [.box (b9) 35 [.va (Value.pointer (some { block := x3, off := 0 : Addr })), .va (Value.pointer (some { block := v0_, off := 0 : Addr })), .va (Value.slice v1_ lw.length v2_), .va (Value.int IntKind.i64 (↑lw.length : Int))], .fact (DiskM x3 D3), .fact (WalM v0_ x3 W3), .fact (Row 9 1 v1_ lw.length v2_ (List.flatMap encS lw))]) rfl rfl (by decide) rfl (by simp) (fun _ => rfl) (fun _ => (newsOk_box (by simp [SV.good, SV.goodL]) (newsOk_fact (newsOk_fact (newsOk_fact (newsOk_nil _)))))) (fun _ => (by repeat (first | exact trivial | refine ⟨rfl, ?_⟩))) (fun ⟨x64, x65, x66⟩ h67 => ?_)
       refine go Tryz.tbs_ok 1000 ?_
       refine ev_if_no rfl ?_
       refine go Tryz.tbs_ok 1000 ?_
       refine ev_wrapN (i + 1) (by constructor <;> omega) (by rfl) ?_
       refine ev_move 1 8 (by decide) rfl rfl (by repeat (first | exact trivial | refine ⟨rfl, ?_⟩)) ?_
       refine ev_move 2 7 (by decide) rfl rfl (by repeat (first | exact trivial | refine ⟨rfl, ?_⟩)) ?_
       refine ev_fin (round_next ((i + 1, x65, lw.length, x66, lw.length, x64, W3, D3, lw)) (show i + 1 ≤ n ∧ Keeps (i + 1) lw.length lw.length W3 D3 lw ∧ lw.length ≤ x66 from (by trivial)) (show n - (i + 1) < n - i from (by omega)) ⟨⟨by kernel_rfl, by kernel_rfl⟩, ⟨_, rfl⟩, ⟨_, rfl⟩, by kernel_rfl, by kernel_rfl⟩)
   · have hst1 := ckW_starts W D x.L
     obtain ⟨W1, hW1⟩ : ∃ W1, W1 = (ckW W D x.L).1 := ⟨_, rfl⟩
     obtain ⟨D1, hD1⟩ : ∃ D1, D1 = (ckW W D x.L).2.1 := ⟨_, rfl⟩
     obtain ⟨e, hee⟩ : ∃ e, e = (ckW W D x.L).2.2 := ⟨_, rfl⟩
     have he : ckW W D x.L = (W1, D1, e) := Prod.ext hW1.symm (Prod.ext hD1.symm hee.symm)
     have hout := hK.log.ck x.L
     rw [← hW1, ← hD1, ← hee] at hout
     rw [← hD1] at hst1
     rcases hout with ⟨h1, _, h3, _⟩ | ⟨h1, h2, h3⟩ | ⟨_, h1, h2⟩
     · subst h1
       have T := know (g := fun x_ => x.L.length ≤ x_.2) (rdsR (e := 9) (ch := ch) (does5T b9 x3 p H nh ch sure W D hv x x.L.length ⟨hix.1, hix.2.1⟩ hokD hokW hK.len (by omega) rfl hnx2 hk hbx.p W1 D1 he)) (fun x_ h q => Row.cap (starH_mem (A := Row 9 1 x_.1 x.L.length x_.2 (x.L.flatMap encS)) (by simp) q))
       unfold ptK at T
       have hnext : Keeps (i + 1) x.L.length x.L.length W1 D1 x.L := ⟨h3, rfl, by omega, Nat.le_refl _, by rw [hst1]; exact hK.lo, by have := hK.hi; omega⟩
       refine go Tryz.tbs_ok 1000 ?_
       refine ev_new fun b60 => ?_
       refine ev_if_no (beq_eq_false_iff_ne.2 (show ¬x.k.tmod 10 = 6 from (by omega))) ?_
       refine go Tryz.tbs_ok 1000 ?_
       refine ev_if_no (beq_eq_false_iff_ne.2 (show ¬x.k.tmod 10 = 8 from (by omega))) ?_
       refine go Tryz.tbs_ok 1000 ?_
       refine ev_call (T ) [5, 2, 3] [.inl 0, .inr 1, .inl 3, .inl 4] (fun (v0_, v1_) => [.box (b9) 35 [.va (Value.pointer (some { block := x3, off := 0 : Addr })), .va (Value.pointer (some { block := p, off := 0 : Addr })), .va (Value.slice v0_ x.L.length v1_), .va (Value.int IntKind.i64 (↑x.L.length : Int))], .fact (WalM p x3 W1), .fact (DiskM x3 D1), .fact (Row 9 1 v0_ x.L.length v1_ (List.flatMap encS x.L))]) rfl rfl (by decide) rfl (by simp) (fun _ => rfl) (fun _ => (newsOk_box (by simp [SV.good, SV.goodL]) (newsOk_fact (newsOk_fact (newsOk_fact (newsOk_nil _)))))) (fun _ => (by repeat (first | exact trivial | refine ⟨rfl, ?_⟩))) (fun ⟨x61, x62⟩ h63 => ?_)
       refine go Tryz.tbs_ok 1000 ?_
       refine ev_if_no rfl ?_
       refine go Tryz.tbs_ok 1000 ?_
       refine ev_if_no rfl ?_
       refine go Tryz.tbs_ok 1000 ?_
       refine ev_wrapN (i + 1) (by constructor <;> omega) (by rfl) ?_
       refine ev_move 1 7 (by decide) rfl rfl (by repeat (first | exact trivial | refine ⟨rfl, ?_⟩)) ?_
       refine ev_fin (round_next ((i + 1, x61, x.L.length, x62, x.L.length, p, W1, D1, x.L)) (show i + 1 ≤ n ∧ Keeps (i + 1) x.L.length x.L.length W1 D1 x.L ∧ x.L.length ≤ x62 from (by trivial)) (show n - (i + 1) < n - i from (by omega)) ⟨⟨by kernel_rfl, by kernel_rfl⟩, ⟨_, rfl⟩, ⟨_, rfl⟩, by kernel_rfl, by kernel_rfl⟩)
     · have h0 : e ≠ 0 ∧ e ≠ 1 ∧ e ≠ 50 ∧ e ≠ 41 := by rcases h1 with ⟨h1, _⟩ | h1 <;> rw [h1] <;> decide
       have T := rdsR (e := 9) (ch := ch) (does5F b9 x3 p H nh ch sure W D hv x x.L.length ⟨hix.1, hix.2.1⟩ hokD hokW hK.len (by omega) rfl hnx2 hk hbx.p W1 D1 e he h0.1 h0.2.1 h0.2.2.1)
       unfold ptK at T
       have h41 : (e == 41) = false := by simpa using h0.2.2.2
       rw [h41] at T
       subst h2 h3
       have hnext : Keeps (i + 1) nh sure W1 D1 hv := ⟨hK.log, hK.len, by have := hK.few; omega, hK.su, hK.lo, by have := hK.hi; omega⟩
       refine go Tryz.tbs_ok 1000 ?_
       refine ev_new fun b60 => ?_
       refine ev_if_no (beq_eq_false_iff_ne.2 (show ¬x.k.tmod 10 = 6 from (by omega))) ?_
       refine go Tryz.tbs_ok 1000 ?_
       refine ev_if_no (beq_eq_false_iff_ne.2 (show ¬x.k.tmod 10 = 8 from (by omega))) ?_
       refine go Tryz.tbs_ok 1000 ?_
       refine ev_call (T ) [5, 2, 3] [.inl 0, .inr 1, .inl 3, .inl 4] (fun v0_ => [.box (b9) 35 [.va (Value.pointer (some { block := x3, off := 0 : Addr })), .va (Value.pointer (some { block := p, off := 0 : Addr })), .va (Value.slice H nh ch), .va (Value.int IntKind.i64 (↑sure : Int))], .fact (WalM p x3 W1), .fact (DiskM x3 D1)]) rfl rfl (by decide) rfl (by simp) (fun _ => rfl) (fun _ => (newsOk_box (by simp [SV.good, SV.goodL]) (newsOk_fact (newsOk_fact (newsOk_nil _))))) (fun _ => (by repeat (first | exact trivial | refine ⟨rfl, ?_⟩))) (fun _ h61 => ?_)
       refine go Tryz.tbs_ok 1000 ?_
       refine ev_if_no rfl ?_
       refine go Tryz.tbs_ok 1000 ?_
       refine ev_if_no rfl ?_
       refine go Tryz.tbs_ok 1000 ?_
       refine ev_wrapN (i + 1) (by constructor <;> omega) (by rfl) ?_
       refine ev_fin (round_next ((i + 1, H, nh, ch, sure, p, W1, D1, hv)) (show i + 1 ≤ n ∧ Keeps (i + 1) nh sure W1 D1 hv ∧ nh ≤ ch from (by trivial)) (show n - (i + 1) < n - i from (by omega)) ⟨⟨by kernel_rfl, by kernel_rfl⟩, ⟨_, rfl⟩, ⟨_, rfl⟩, by kernel_rfl, by kernel_rfl⟩)
     · subst h1
       have T := rdsR (e := 9) (ch := ch) (does5F b9 x3 p H nh ch sure W D hv x x.L.length ⟨hix.1, hix.2.1⟩ hokD hokW hK.len (by omega) rfl hnx2 hk hbx.p W1 D1 41 he (by decide) (by decide) (by decide))
       unfold ptK at T
       rcases h2 with hbrk | hbrk
       · obtain ⟨D2, W3, D3, lw, hs1, hs2, ho, hs3, hlog, hpre, hsu, hok2, _, _⟩ := hbrk.opens
         have hlo := hK.lo
         have hhi := hK.hi
         have TU := upM x3 D1 hbrk.ok
         rw [hbrk.down] at TU
         have TS := startM x3 D1 hbrk.ok (by omega) (by omega)
         rw [hs1] at TS
         have hlen := hK.len
         have hlw : lw.length ≤ hv.length := hpre.length_le
         have TA := know (g := fun x => lw.length ≤ x.2.2) (rdsR3 (e := 9) (ch := ch) (againT b9 x3 p H nh ch sure D2 D3 W3 lw hv x.L H x.A nh ch x.L.length x.c true hok2 ho (by have := hK.su; omega) (by omega) hK.len rfl (by omega) (by omega) hcap (.inl ⟨hsu, hpre⟩))) (fun x h q => Row.cap (starH_mem (A := Row 9 1 x.2.1 lw.length x.2.2 (lw.flatMap encS)) (by simp) q))
         unfold ptK at TA
         have hnext : Keeps (i + 1) lw.length lw.length W3 D3 lw := ⟨hlog, rfl, by have := hK.few; omega, Nat.le_refl _, by omega, by omega⟩
         refine go Tryz.tbs_ok 1000 ?_
         refine ev_new fun b60 => ?_
         refine ev_if_no (beq_eq_false_iff_ne.2 (show ¬x.k.tmod 10 = 6 from (by omega))) ?_
         refine go Tryz.tbs_ok 1000 ?_
         refine ev_if_no (beq_eq_false_iff_ne.2 (show ¬x.k.tmod 10 = 8 from (by omega))) ?_
         refine go Tryz.tbs_ok 1000 ?_
         refine ev_call (T ) [5, 2, 3] [.inl 0, .inr 1, .inl 3, .inl 4] (fun v0_ => [.box (b9) 35 [.va (Value.pointer (some { block := x3, off := 0 : Addr })), .va (Value.pointer (some { block := p, off := 0 : Addr })), .va (Value.slice H nh ch), .va (Value.int IntKind.i64 (↑sure : Int))], .fact (WalM p x3 W1), .fact (DiskM x3 D1)]) rfl rfl (by decide) rfl (by simp) (fun _ => rfl) (fun _ => (newsOk_box (by simp [SV.good, SV.goodL]) (newsOk_fact (newsOk_fact (newsOk_nil _))))) (fun _ => (by repeat (first | exact trivial | refine ⟨rfl, ?_⟩))) (fun _ h61 => ?_)
         refine go Tryz.tbs_ok 1000 ?_
         refine ev_if_no rfl ?_
         refine go Tryz.tbs_ok 1000 ?_
         refine ev_if_yes rfl ?_
         refine go Tryz.tbs_ok 1000 ?_
         refine ev_callF (TU ) [3] [] rfl rfl (by decide) rfl (by simp) (fun _ => (by repeat (first | exact trivial | refine ⟨rfl, ?_⟩))) (fun _ h62 => ?_)
         refine go Tryz.tbs_ok 1000 ?_
         refine ev_if_no rfl ?_
         refine go Tryz.tbs_ok 1000 ?_
         refine ev_callF (TS ) [3] [] rfl rfl (by decide) rfl (by simp) (fun _ => (by repeat (first | exact trivial | refine ⟨rfl, ?_⟩))) (fun _ h63 => ?_)
         refine go Tryz.tbs_ok 1000 ?_
         refine ev_if_no rfl ?_
         refine go Tryz.tbs_ok 1000 ?_
         refine ev_call (TA ) [5, 3] [.inl 0, .inr 1, .inl 3] (fun (v0_, v1_, v2_) => [.box (b9) 35 [.va (Value.pointer (some { block := x3, off := 0 : Addr })), .va (Value.pointer (some { block := v0_, off := 0 : Addr })), .va (Value.slice v1_ lw.length v2_), .va (Value.int IntKind.i64 (↑lw.length : Int))], .fact (DiskM x3 D3), .fact (WalM v0_ x3 W3), .fact (Row 9 1 v1_ lw.length v2_ (List.flatMap encS lw))]) rfl rfl (by decide) rfl (by simp) (fun _ => rfl) (fun _ => (newsOk_box (by simp [SV.good, SV.goodL]) (newsOk_fact (newsOk_fact (newsOk_fact (newsOk_nil _)))))) (fun _ => (by repeat (first | exact trivial | refine ⟨rfl, ?_⟩))) (fun ⟨x64, x65, x66⟩ h67 => ?_)
         refine go Tryz.tbs_ok 1000 ?_
         refine ev_if_no rfl ?_
         refine go Tryz.tbs_ok 1000 ?_
         refine ev_wrapN (i + 1) (by constructor <;> omega) (by rfl) ?_
         refine ev_move 1 8 (by decide) rfl rfl (by repeat (first | exact trivial | refine ⟨rfl, ?_⟩)) ?_
         refine ev_move 2 7 (by decide) rfl rfl (by repeat (first | exact trivial | refine ⟨rfl, ?_⟩)) ?_
         refine ev_fin (round_next ((i + 1, x65, lw.length, x66, lw.length, x64, W3, D3, lw)) (show i + 1 ≤ n ∧ Keeps (i + 1) lw.length lw.length W3 D3 lw ∧ lw.length ≤ x66 from (by trivial)) (show n - (i + 1) < n - i from (by omega)) ⟨⟨by kernel_rfl, by kernel_rfl⟩, ⟨_, rfl⟩, ⟨_, rfl⟩, by kernel_rfl, by kernel_rfl⟩)
       · obtain ⟨D2, W3, D3, lw, hs1, hs2, ho, hs3, hlog, hpre, hsu, hok2, _, _⟩ := hbrk.opens
         have hlo := hK.lo
         have hhi := hK.hi
         have TU := upM x3 D1 hbrk.ok
         rw [hbrk.down] at TU
         have TS := startM x3 D1 hbrk.ok (by omega) (by omega)
         rw [hs1] at TS
         have hlen := hK.len
         have hlw : lw.length ≤ x.L.length := hpre.length_le
         have hlx : lw = x.L := hpre.eq_of_length (by omega)
         have TA := know (g := fun x => lw.length ≤ x.2.2) (rdsR3 (e := 9) (ch := ch) (againT b9 x3 p H nh ch sure D2 D3 W3 lw hv x.L H x.A nh ch x.L.length x.c true hok2 ho (by have := hK.su; omega) (by omega) hK.len rfl (by omega) (by omega) hcap (.inr ⟨rfl, hlx⟩))) (fun x h q => Row.cap (starH_mem (A := Row 9 1 x.2.1 lw.length x.2.2 (lw.flatMap encS)) (by simp) q))
         unfold ptK at TA
         have hnext : Keeps (i + 1) lw.length lw.length W3 D3 lw := ⟨hlog, rfl, by have := hK.few; omega, Nat.le_refl _, by omega, by omega⟩
         refine go Tryz.tbs_ok 1000 ?_
         refine ev_new fun b60 => ?_
         refine ev_if_no (beq_eq_false_iff_ne.2 (show ¬x.k.tmod 10 = 6 from (by omega))) ?_
         refine go Tryz.tbs_ok 1000 ?_
         refine ev_if_no (beq_eq_false_iff_ne.2 (show ¬x.k.tmod 10 = 8 from (by omega))) ?_
         refine go Tryz.tbs_ok 1000 ?_
         refine ev_call (T ) [5, 2, 3] [.inl 0, .inr 1, .inl 3, .inl 4] (fun v0_ => [.box (b9) 35 [.va (Value.pointer (some { block := x3, off := 0 : Addr })), .va (Value.pointer (some { block := p, off := 0 : Addr })), .va (Value.slice H nh ch), .va (Value.int IntKind.i64 (↑sure : Int))], .fact (WalM p x3 W1), .fact (DiskM x3 D1)]) rfl rfl (by decide) rfl (by simp) (fun _ => rfl) (fun _ => (newsOk_box (by simp [SV.good, SV.goodL]) (newsOk_fact (newsOk_fact (newsOk_nil _))))) (fun _ => (by repeat (first | exact trivial | refine ⟨rfl, ?_⟩))) (fun _ h61 => ?_)
         refine go Tryz.tbs_ok 1000 ?_
         refine ev_if_no rfl ?_
         refine go Tryz.tbs_ok 1000 ?_
         refine ev_if_yes rfl ?_
         refine go Tryz.tbs_ok 1000 ?_
         refine ev_callF (TU ) [3] [] rfl rfl (by decide) rfl (by simp) (fun _ => (by repeat (first | exact trivial | refine ⟨rfl, ?_⟩))) (fun _ h62 => ?_)
         refine go Tryz.tbs_ok 1000 ?_
         refine ev_if_no rfl ?_
         refine go Tryz.tbs_ok 1000 ?_
         refine ev_callF (TS ) [3] [] rfl rfl (by decide) rfl (by simp) (fun _ => (by repeat (first | exact trivial | refine ⟨rfl, ?_⟩))) (fun _ h63 => ?_)
         refine go Tryz.tbs_ok 1000 ?_
         refine ev_if_no rfl ?_
         refine go Tryz.tbs_ok 1000 ?_
         refine ev_call (TA ) [5, 3] [.inl 0, .inr 1, .inl 3] (fun (v0_, v1_, v2_) => [.box (b9) 35 [.va (Value.pointer (some { block := x3, off := 0 : Addr })), .va (Value.pointer (some { block := v0_, off := 0 : Addr })), .va (Value.slice v1_ lw.length v2_), .va (Value.int IntKind.i64 (↑lw.length : Int))], .fact (DiskM x3 D3), .fact (WalM v0_ x3 W3), .fact (Row 9 1 v1_ lw.length v2_ (List.flatMap encS lw))]) rfl rfl (by decide) rfl (by simp) (fun _ => rfl) (fun _ => (newsOk_box (by simp [SV.good, SV.goodL]) (newsOk_fact (newsOk_fact (newsOk_fact (newsOk_nil _)))))) (fun _ => (by repeat (first | exact trivial | refine ⟨rfl, ?_⟩))) (fun ⟨x64, x65, x66⟩ h67 => ?_)
         refine go Tryz.tbs_ok 1000 ?_
         refine ev_if_no rfl ?_
         refine go Tryz.tbs_ok 1000 ?_
         refine ev_wrapN (i + 1) (by constructor <;> omega) (by rfl) ?_
         refine ev_move 1 8 (by decide) rfl rfl (by repeat (first | exact trivial | refine ⟨rfl, ?_⟩)) ?_
         refine ev_move 2 7 (by decide) rfl rfl (by repeat (first | exact trivial | refine ⟨rfl, ?_⟩)) ?_
         refine ev_fin (round_next ((i + 1, x65, lw.length, x66, lw.length, x64, W3, D3, lw)) (show i + 1 ≤ n ∧ Keeps (i + 1) lw.length lw.length W3 D3 lw ∧ lw.length ≤ x66 from (by trivial)) (show n - (i + 1) < n - i from (by omega)) ⟨⟨by kernel_rfl, by kernel_rfl⟩, ⟨_, rfl⟩, ⟨_, rfl⟩, by kernel_rfl, by kernel_rfl⟩)
   · have hst1 := appW_starts W D x.L
     obtain ⟨W1, hW1⟩ : ∃ W1, W1 = (appW W D x.L).1 := ⟨_, rfl⟩
     obtain ⟨D1, hD1⟩ : ∃ D1, D1 = (appW W D x.L).2.1 := ⟨_, rfl⟩
     obtain ⟨e, hee⟩ : ∃ e, e = (appW W D x.L).2.2 := ⟨_, rfl⟩
     have he : appW W D x.L = (W1, D1, e) := Prod.ext hW1.symm (Prod.ext hD1.symm hee.symm)
     have hout := hK.log.app x.L
     rw [← hW1, ← hD1, ← hee] at hout
     rw [← hD1] at hst1
     have hlen := hK.len
     rcases hout with ⟨h1, _, h3, _⟩ | ⟨h1, h2, h3, _, _⟩ | ⟨_, h1, hbrk⟩
     · subst h1
       have T := know (g := fun x_ => nh + x.L.length ≤ x_.2) (rdsR (e := 9) (ch := ch) (does0T b9 x3 p H nh ch sure W D hv x x.L.length ⟨hix.1, hix.2.1⟩ hokD hokW hK.len (by omega) rfl hnx2 hk hbx.p W1 D1 he)) (fun x_ h q => Row.cap (starH_mem (A := Row 9 1 x_.1 (nh + x.L.length) x_.2 ((hv ++ x.L).flatMap encS)) (by simp) q))
       unfold ptK at T
       have hnext : Keeps (i + 1) (nh + x.L.length) sure W1 D1 (hv ++ x.L) := ⟨h3, by rw [List.length_append, hlen], by have := hK.few; omega, by have := hK.su; omega, by rw [hst1]; exact hK.lo, by have := hK.hi; omega⟩
       refine go Tryz.tbs_ok 1000 ?_
       refine ev_new fun b60 => ?_
       refine ev_if_no (beq_eq_false_iff_ne.2 (show ¬x.k.tmod 10 = 6 from (by omega))) ?_
       refine go Tryz.tbs_ok 1000 ?_
       refine ev_if_no (beq_eq_false_iff_ne.2 (show ¬x.k.tmod 10 = 8 from (by omega))) ?_
       refine go Tryz.tbs_ok 1000 ?_
       refine ev_call (T ) [5, 2, 3] [.inl 0, .inr 1, .inl 3, .inl 4] (fun (v0_, v1_) => [.box (b9) 35 [.va (Value.pointer (some { block := x3, off := 0 : Addr })), .va (Value.pointer (some { block := p, off := 0 : Addr })), .va (Value.slice v0_ (nh + x.L.length) v1_), .va (Value.int IntKind.i64 (↑sure : Int))], .fact (WalM p x3 W1), .fact (DiskM x3 D1), .fact (Row 9 1 v0_ (nh + x.L.length) v1_ (List.flatMap encS (hv ++ x.L)))]) rfl rfl (by decide) rfl (by simp) (fun _ => rfl) (fun _ => (newsOk_box (by simp [SV.good, SV.goodL]) (newsOk_fact (newsOk_fact (newsOk_fact (newsOk_nil _)))))) (fun _ => (by repeat (first | exact trivial | refine ⟨rfl, ?_⟩))) (fun ⟨x61, x62⟩ h63 => ?_)
       refine go Tryz.tbs_ok 1000 ?_
       refine ev_if_no rfl ?_
       refine go Tryz.tbs_ok 1000 ?_
       refine ev_if_no rfl ?_
       refine go Tryz.tbs_ok 1000 ?_
       refine ev_wrapN (i + 1) (by constructor <;> omega) (by rfl) ?_
       refine ev_move 1 7 (by decide) rfl rfl (by repeat (first | exact trivial | refine ⟨rfl, ?_⟩)) ?_
       refine ev_fin (round_next ((i + 1, x61, nh + x.L.length, x62, sure, p, W1, D1, hv ++ x.L)) (show i + 1 ≤ n ∧ Keeps (i + 1) (nh + x.L.length) sure W1 D1 (hv ++ x.L) ∧ nh + x.L.length ≤ x62 from (by trivial)) (show n - (i + 1) < n - i from (by omega)) ⟨⟨by kernel_rfl, by kernel_rfl⟩, ⟨_, rfl⟩, ⟨_, rfl⟩, by kernel_rfl, by kernel_rfl⟩)
     · have h0 : e ≠ 0 ∧ e ≠ 1 ∧ e ≠ 50 ∧ e ≠ 41 := by rcases h1 with ⟨h1, _⟩ | h1 <;> rw [h1] <;> decide
       have T := rdsR (e := 9) (ch := ch) (does0F b9 x3 p H nh ch sure W D hv x x.L.length ⟨hix.1, hix.2.1⟩ hokD hokW hK.len (by omega) rfl hnx2 hk hbx.p W1 D1 e he h0.1 h0.2.1 h0.2.2.1)
       unfold ptK at T
       have h41 : (e == 41) = false := by simpa using h0.2.2.2
       rw [h41] at T
       subst h2
       have hnext : Keeps (i + 1) nh sure W1 D1 hv := ⟨h3, hK.len, by have := hK.few; omega, hK.su, by rw [hst1]; exact hK.lo, by have := hK.hi; omega⟩
       refine go Tryz.tbs_ok 1000 ?_
       refine ev_new fun b60 => ?_
       refine ev_if_no (beq_eq_false_iff_ne.2 (show ¬x.k.tmod 10 = 6 from (by omega))) ?_
       refine go Tryz.tbs_ok 1000 ?_
       refine ev_if_no (beq_eq_false_iff_ne.2 (show ¬x.k.tmod 10 = 8 from (by omega))) ?_
       refine go Tryz.tbs_ok 1000 ?_
       refine ev_call (T ) [5, 2, 3] [.inl 0, .inr 1, .inl 3, .inl 4] (fun (v0_, v1_) => [.box (b9) 35 [.va (Value.pointer (some { block := x3, off := 0 : Addr })), .va (Value.pointer (some { block := p, off := 0 : Addr })), .va (Value.slice H nh ch), .va (Value.int IntKind.i64 (↑sure : Int))], .fact (WalM p x3 W1), .fact (DiskM x3 D1), .fact (Row 9 1 v0_ (nh + x.L.length) v1_ (List.flatMap encS (hv ++ x.L)))]) rfl rfl (by decide) rfl (by simp) (fun _ => rfl) (fun _ => (newsOk_box (by simp [SV.good, SV.goodL]) (newsOk_fact (newsOk_fact (newsOk_fact (newsOk_nil _)))))) (fun _ => (by repeat (first | exact trivial | refine ⟨rfl, ?_⟩))) (fun ⟨x61, x62⟩ h63 => ?_)
       refine go Tryz.tbs_ok 1000 ?_
       refine ev_if_no rfl ?_
       refine go Tryz.tbs_ok 1000 ?_
       refine ev_if_no rfl ?_
       refine go Tryz.tbs_ok 1000 ?_
       refine ev_wrapN (i + 1) (by constructor <;> omega) (by rfl) ?_
       refine ev_fin (round_next ((i + 1, H, nh, ch, sure, p, W1, D1, hv)) (show i + 1 ≤ n ∧ Keeps (i + 1) nh sure W1 D1 hv ∧ nh ≤ ch from (by trivial)) (show n - (i + 1) < n - i from (by omega)) ⟨⟨by kernel_rfl, by kernel_rfl⟩, ⟨_, rfl⟩, ⟨_, rfl⟩, by kernel_rfl, by kernel_rfl⟩)
     · subst h1
       have T := know (g := fun x_ => nh + x.L.length ≤ x_.2) (rdsR (e := 9) (ch := ch) (does0F b9 x3 p H nh ch sure W D hv x x.L.length ⟨hix.1, hix.2.1⟩ hokD hokW hK.len (by omega) rfl hnx2 hk hbx.p W1 D1 41 he (by decide) (by decide) (by decide))) (fun x_ h q => Row.cap (starH_mem (A := Row 9 1 x_.1 (nh + x.L.length) x_.2 ((hv ++ x.L).flatMap encS)) (by simp) q))
       unfold ptK at T
       obtain ⟨D2, W3, D3, lw, hs1, hs2, ho, hs3, hlog, hpre, hsu, hok2, _, _⟩ := hbrk.opens
       have hlo := hK.lo
       have hhi := hK.hi
       have TU := upM x3 D1 hbrk.ok
       rw [hbrk.down] at TU
       have TS := startM x3 D1 hbrk.ok (by omega) (by omega)
       rw [hs1] at TS
       have hlen := hK.len
       have hlw : lw.length ≤ hv.length + x.L.length := by
        have := hpre.length_le
        rwa [List.length_append] at this
       have TA := fun C c (hcl : nh + x.L.length ≤ c) => know (g := fun x => lw.length ≤ x.2.2) (rdsR3 (e := 9) (ch := c) (againT b9 x3 p H nh ch sure D2 D3 W3 lw (hv ++ x.L) [] C none (nh + x.L.length) c 0 0 false hok2 ho (by have := hK.su; omega) (by omega) (by rw [List.length_append, hlen]) rfl (by omega) (by omega) hcl (.inl ⟨hsu, hpre⟩))) (fun x h q => Row.cap (starH_mem (A := Row 9 1 x.2.1 lw.length x.2.2 (lw.flatMap encS)) (by simp) q))
       unfold ptK at TA
       have hnext : Keeps (i + 1) lw.length lw.length W3 D3 lw := ⟨hlog, rfl, by have := hK.few; omega, Nat.le_refl _, by omega, by omega⟩
       refine go Tryz.tbs_ok 1000 ?_
       refine ev_new fun b60 => ?_
       refine ev_if_no (beq_eq_false_iff_ne.2 (show ¬x.k.tmod 10 = 6 from (by omega))) ?_
       refine go Tryz.tbs_ok 1000 ?_
       refine ev_if_no (beq_eq_false_iff_ne.2 (show ¬x.k.tmod 10 = 8 from (by omega))) ?_
       refine go Tryz.tbs_ok 1000 ?_
       refine ev_call (T ) [5, 2, 3] [.inl 0, .inr 1, .inl 3, .inl 4] (fun (v0_, v1_) => [.box (b9) 35 [.va (Value.pointer (some { block := x3, off := 0 : Addr })), .va (Value.pointer (some { block := p, off := 0 : Addr })), .va (Value.slice H nh ch), .va (Value.int IntKind.i64 (↑sure : Int))], .fact (WalM p x3 W1), .fact (DiskM x3 D1), .fact (Row 9 1 v0_ (nh + x.L.length) v1_ (List.flatMap encS (hv ++ x.L)))]) rfl rfl (by decide) rfl (by simp) (fun _ => rfl) (fun _ => (newsOk_box (by simp [SV.good, SV.goodL]) (newsOk_fact (newsOk_fact (newsOk_fact (newsOk_nil _)))))) (fun _ => (by repeat (first | exact trivial | refine ⟨rfl, ?_⟩))) (fun ⟨x61, x62⟩ h63 => ?_)
       refine go Tryz.tbs_ok 1000 ?_
       refine ev_if_no rfl ?_
       refine go Tryz.tbs_ok 1000 ?_
       refine ev_if_yes rfl ?_
       refine go Tryz.tbs_ok 1000 ?_
       refine ev_callF (TU ) [3] [] rfl rfl (by decide) rfl (by simp) (fun _ => (by repeat (first | exact trivial | refine ⟨rfl, ?_⟩))) (fun _ h64 => ?_)
       refine go Tryz.tbs_ok 1000 ?_
       refine ev_if_no rfl ?_
       refine go Tryz.tbs_ok 1000 ?_
       refine ev_callF (TS ) [3] [] rfl rfl (by decide) rfl (by simp) (fun _ => (by repeat (first | exact trivial | refine ⟨rfl, ?_⟩))) (fun _ h65 => ?_)
       refine go Tryz.tbs_ok 1000 ?_
       refine ev_if_no rfl ?_
       refine go Tryz.tbs_ok 1000 ?_
       refine ev_call (TA (x61) (x62) (by with_reducible assumption)) [5, 3] [.inl 0, .inr 7, .inr 0] (fun (v0_, v1_, v2_) => [.box (b9) 35 [.va (Value.pointer (some { block := x3, off := 0 : Addr })), .va (Value.pointer (some { block := v0_, off := 0 : Addr })), .va (Value.slice v1_ lw.length v2_), .va (Value.int IntKind.i64 (↑lw.length : Int))], .fact (DiskM x3 D3), .fact (WalM v0_ x3 W3), .fact (Row 9 1 v1_ lw.length v2_ (List.flatMap encS lw))]) rfl rfl (by decide) rfl (by simp) (fun _ => rfl) (fun _ => (newsOk_box (by simp [SV.good, SV.goodL]) (newsOk_fact (newsOk_fact (newsOk_fact (newsOk_nil _)))))) (fun _ => (by repeat (first | exact trivial | refine ⟨rfl, ?_⟩))) (fun ⟨x66, x67, x68⟩ h69 => ?_)
       refine go Tryz.tbs_ok 1000 ?_
       refine ev_if_no rfl ?_
       refine go Tryz.tbs_ok 1000 ?_
       refine ev_wrapN (i + 1) (by constructor <;> omega) (by rfl) ?_
       refine ev_move 1 9 (by decide) rfl rfl (by repeat (first | exact trivial | refine ⟨rfl, ?_⟩)) ?_
       refine ev_move 2 8 (by decide) rfl rfl (by repeat (first | exact trivial | refine ⟨rfl, ?_⟩)) ?_
       refine ev_fin (round_next ((i + 1, x67, lw.length, x68, lw.length, x66, W3, D3, lw)) (show i + 1 ≤ n ∧ Keeps (i + 1) lw.length lw.length W3 D3 lw ∧ lw.length ≤ x68 from (by trivial)) (show n - (i + 1) < n - i from (by omega)) ⟨⟨by kernel_rfl, by kernel_rfl⟩, ⟨_, rfl⟩, ⟨_, rfl⟩, by kernel_rfl, by kernel_rfl⟩)
 · obtain rfl : i = n := by omega
   obtain ⟨hc0, hbrk, hcs⟩ := hK.log.crash []
   have TC := crashM x3 D none 0 0 [] hokD rfl
   rw [hc0] at TC
   obtain ⟨D1, hD1⟩ : ∃ D1, D1 = (crashD D []).1 := ⟨_, rfl⟩
   rw [← hD1] at TC hbrk hcs
   obtain ⟨D2, W3, D3, lw, hs1, hs2, ho, hs3, hlog, hpre, hsu, hok2, _, _⟩ := hbrk.opens
   have hlo := hK.lo
   have hhi := hK.hi
   have TS := startM x3 D1 hbrk.ok (by omega) (by omega)
   rw [hs1] at TS
   have hlw : lw.length ≤ hv.length := hpre.length_le
   have hlen := hK.len
   have TA := rdsR3 (e := 9) (ch := ch) (againT b9 x3 p H nh ch sure D2 D3 W3 lw hv [] H none nh ch 0 0 false hok2 ho (by have := hK.su; omega) (by omega) hK.len rfl (by omega) (by decide) hcap (.inl ⟨hsu, hpre⟩))
   unfold ptK at TA
   refine go_fact (Rd 1 none 0 (([] : List Int).flatMap encN)) (fun h => Rd.nil _ _ h) ?_
   refine go Tryz.tbs_ok 1000 ?_
   refine ev_if_no (decide_eq_false (show ¬(↑i : Int) < (↑i : Int) from (by omega))) ?_
   refine go Tryz.tbs_ok 1000 ?_
   refine ev_fin (go Tryz.tbs_ok 1000 ?_)
   refine ev_callF (TC ) [3] [.inr 0] rfl rfl (by decide) rfl (by simp) (fun _ => (by repeat (first | exact trivial | refine ⟨rfl, ?_⟩))) (fun _ h60 => ?_)
   refine go Tryz.tbs_ok 1000 ?_
   refine ev_if_no rfl ?_
   refine go Tryz.tbs_ok 1000 ?_
   refine ev_callF (TS ) [3] [] rfl rfl (by decide) rfl (by simp) (fun _ => (by repeat (first | exact trivial | refine ⟨rfl, ?_⟩))) (fun _ h61 => ?_)
   refine go Tryz.tbs_ok 1000 ?_
   refine ev_if_no rfl ?_
   refine go Tryz.tbs_ok 1000 ?_
   refine ev_call (TA ) [5, 3] [.inl 0, .inr 1, .inr 0] (fun (v0_, v1_, v2_) => [.box (b9) 35 [.va (Value.pointer (some { block := x3, off := 0 : Addr })), .va (Value.pointer (some { block := v0_, off := 0 : Addr })), .va (Value.slice v1_ lw.length v2_), .va (Value.int IntKind.i64 (↑lw.length : Int))], .fact (DiskM x3 D3), .fact (WalM v0_ x3 W3), .fact (Row 9 1 v1_ lw.length v2_ (List.flatMap encS lw))]) rfl rfl (by decide) rfl (by simp) (fun _ => rfl) (fun _ => (newsOk_box (by simp [SV.good, SV.goodL]) (newsOk_fact (newsOk_fact (newsOk_fact (newsOk_nil _)))))) (fun _ => (by repeat (first | exact trivial | refine ⟨rfl, ?_⟩))) (fun ⟨x62, x63, x64⟩ h65 => ?_)
   refine go Tryz.tbs_ok 1000 ?_
   refine ev_if_yes rfl ?_
   refine go Tryz.tbs_ok 1000 ?_
   refine ev_callF (TW ) [] [.inl 0] rfl rfl (by decide) rfl (by simp) (fun _ => (by repeat (first | exact trivial | refine ⟨rfl, ?_⟩))) (fun _ h66 => ?_)
   refine go Tryz.tbs_ok 1000 ?_
   refine ev_fin ⟨trivial, _, rfl, (()), rfl, (by trivial), Frm.nil _⟩
end Go.Proofs.YtjlfdfmkofbccaaGreatDoor
namespace Go.Proofs.YtjlfdfmkofbccaaGreatDoor
open Go.Sy Go.RowKit Go.ChangeShapes Go.WideShapes
set_option maxRecDepth 100000 in
theorem walTorn_lifted (os : Os) (started : os.Started) (H : Type) (enc : TypeId × Value → H) :
 ReturnsInHanded {} Tryz.checked os 3 .any (fun w args => (Rows.walTornSpec.pre enc Tryz.prog Tryz.f3 Rows.walTornRow.domain Rows.walTornRow.apart w args ∧ laidMetH Tryz.prog Rows.walTornRow.laid w) ∧ sizedMet enc Tryz.prog Tryz.f3 (OpenSpec.ofChange Rows.walTornSpec) Rows.walTornRow.apart w args) (Rows.walTornSpec.post enc Tryz.prog Tryz.f3 Rows.walTornRow.apart Rows.walTornRow.fresh Rows.walTornRow.handsOn Rows.walTornRow.again) := by
 refine returnsInHanded_of_change_and (C := Tryz.checked) (X := fun w _ => laidMetH Tryz.prog Rows.walTornRow.laid w) (fun _ _ _ hh h => h.of_heap hh) Tryz.own started (by kernel_rfl) Tryz.func3
  (ChangeSpec.witness_shaped (enc := enc) (C := Tryz.checked) (os := os) (X := fun w _ => laidMetH Tryz.prog Rows.walTornRow.laid w) false (World.doorLaid Tryz.prog 400 os) #[.int .u16 0, .slice none 0 0] 8 rfl (World.shaped_of_RefB (by kernel_rfl) (by kernel_rfl)) (by kernel_rfl) (by kernel_rfl) (by kernel_rfl) (door_met os _)) ?_
 intro W base args ds gs before hval0 hW hcnd _ hL _
 have htab := tab_of hL
 have hval : ∀ (j : Nat) t v, Tryz.f3.params[j]? = some t → args[j]? = some v → Value.okWide Tryz.prog W .any base t v := hval0
 obtain ⟨p, q, hA0, hV, _, _, _⟩ := id hW
 have hA : DataW.TrodAll enc Tryz.prog W 0 (fun _ => true) true Tryz.f3.params.toList args.toList ds p := hA0
 clear hval0 hA0
 obtain ⟨rfl, _⟩ := trodVars_none hV
 have hpar : Tryz.f3.params = #[22, 23] := by kernel_rfl
 rw [hpar] at hA hval
 obtain ⟨v0, v1, d0, d1, p0, p1, rfl, rfl, _, ⟨fuel0, hf0⟩, ⟨fuel1, hf1⟩⟩ := trodAll_two hA
 obtain ⟨m0, rfl, _, _, w0⟩ := open_int (P := Tryz.prog) (t := 22) (k := .u16) (by kernel_rfl) (hval 0 _ _ rfl rfl) ⟨fuel0, hf0⟩
 obtain ⟨A1, n1, c1, rfl⟩ := okWide_slice (P := Tryz.prog) (t := 23) (e := 38) (by kernel_rfl) (hval 1 _ _ rfl rfl)
 obtain ⟨A1', n1', c1', l1, hl1, hln1, hc1, hm1, hr1, hg1⟩ := list_of_sees (F := 0 + 1 + 1 + 1) (t := 23) (el := 38) (enc := encW) (G := fun x => (x.rdL.holds (hp W) ∧ x.rdK.holds (hp W)) ∧ (0 ≤ x.k ∧ x.k < 256 ∧ x.z ≤ 9223372036854775807)) rfl rfl (by decide) encW_len (fun _ => rfl) (fun vs hl h => actW_dec hl h) (sees_of_trod Tryz.tbs_ok.tab 4 fuel1 _ _ _ hf1)
 cases hl1
 obtain ⟨ha1, hin1⟩ := actsW_in hg1
 refine (walTorn m0 A1 l1 n1 c1 (wf_u16 w0) hln1.symm (maxLen_le hc1 hm1) hin1 W Hp.emp (hp W) (Hp.emp_le _) (Hp.le_refl _) (Hp.emp_dis _) trivial (fun X hX => ?_)).mono fun e W' ⟨_, _, he, _, _, _, hext, _⟩ => ?_
 · simp only [List.mem_cons, List.not_mem_nil, or_false] at hX
   rcases hX with rfl | rfl | rfl
   · exact htab
   · exact hr1
   · exact ha1
 · exact ⟨.bool true, he, post_true Tryz.laidOut (by kernel_rfl) rfl (rt := 4) (by kernel_rfl) (by kernel_rfl) hW hext.below rfl rfl rfl⟩
theorem walTorn_holds : Rows.WalTornSaid :=
 OpenClaim.holds_of_wide 3 Tryz.f3 rfl rfl rfl rfl rfl rfl rfl ⟨rfl, rfl, rfl, rfl, rfl⟩ rfl rfl rfl rfl rfl (by kernel_rfl) Tryz.func3 (by kernel_rfl)
  (of_decide_eq_true (by kernel_rfl)) (by unfold Func.isWrapper; rw [if_neg (by decide +kernel)]; exact ⟨rfl, rfl⟩)
  (fun os started H enc _ => walTorn_lifted os started H enc)
set_option maxRecDepth 100000 in
theorem walTorn_card : Rows.WalTornCardSaid :=
 Claim7.holds_tied_plain_at .later [] [.data, .data, .data] true Rows.walTornCard.stood.harness false
  walTorn_holds (fun _ h => by cases h) (by kernel_rfl) (fun _ h => by cases h) walTorn_row_tie rfl ⟨rfl, rfl⟩ (by kernel_rfl) rfl
  (fun f fn hf hfn => by
   obtain rfl : f = 3 := (Option.some.inj ((show Tryz.prog.funcNamed Rows.walTornRow.func = some 3 by kernel_rfl).symm.trans hf)).symm
   obtain rfl : fn = Tryz.f3 := (Option.some.inj (Tryz.func3.symm.trans hfn)).symm
   refine ⟨by kernel_rfl, fun j t ht => ?_⟩
   have hpar : Tryz.f3.params = #[22, 23] := by kernel_rfl
   rw [hpar] at ht
   have hm : t ∈ [22, 23] := by
    rw [show (#[22, 23] : Array TypeId)[j]? = ([22, 23] : List TypeId)[j]? from by simp] at ht
    exact List.mem_of_getElem? ht
   simp only [List.mem_cons, List.not_mem_nil, or_false] at hm
   rcases hm with rfl | rfl
   · exact (show Tryz.prog.wantsStandIn 22 = false by kernel_rfl)
   · exact (show Tryz.prog.wantsStandIn 23 = false by kernel_rfl))
  (by kernel_rfl)
end Go.Proofs.YtjlfdfmkofbccaaGreatDoor
