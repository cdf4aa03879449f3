/-
  What is proved: walTwice_card. Conditions: none.
-/
import Derived.Test.YtjlfdfmkofbccaaGreatDoorCards
import Derived.Test.YtjlfdfmkofbccaaGreatDoorTie
import Derived.SevenTiedAt
import Derived.LaidLaws
import Derived.LaidMore
import Derived.Lib.LaidTab
import Derived.Stop.LaidErr
import Derived.OpenShut
import Derived.ChangeMaps5
import Derived.Test.YtjlfdfmkofbccaaGreatDoorWb6
namespace Go.Proofs.YtjlfdfmkofbccaaGreatDoor
open Go.Sy
set_option maxHeartbeats 16000000 in
set_option maxRecDepth 100000 in
theorem walTwice (A B : Option Addr) (l : List ActW) (K : List Int) (n c nk ck : Nat) (hn : n = l.length) (hn1 : n ≤ 9223372036854775807) (hin : ∀ x ∈ l, 0 ≤ x.k ∧ x.k < 256 ∧ x.z ≤ 9223372036854775807) (hnk : nk = K.length) (hnk1 : nk ≤ 9223372036854775807) :
 Triple Tryz.prog 6 [.slice A n c, .slice B nk ck] [] [TabA, Rd 4 A n (l.flatMap encW), ActsW l, Rd 1 B nk (K.flatMap encN)] Unit (fun _ => .bool true) (fun _ => True) (fun _ => []) := by
 have TG := greatW A l n c hn hn1
 have TN := newM 200000 (by omega) (by omega)
 have L0 : Logs ⟨0, false, 0, 0⟩ ⟨200000, 0, false, [], none, []⟩ [] 0 := Logs.new (by omega) (by omega)
 have hs0 : (⟨200000, 0, false, [], none, []⟩ : DK).starts = 0 := rfl
 obtain ⟨D0, hD0⟩ : ∃ D0 : DK, D0 = ⟨200000, 0, false, [], none, []⟩ := ⟨_, rfl⟩
 obtain ⟨W0, hW0⟩ : ∃ W0 : WK, W0 = ⟨0, false, 0, 0⟩ := ⟨_, rfl⟩
 rw [← hD0, ← hW0] at L0
 rw [← hD0] at TN hs0
 have S0 : Some1 W0 D0 := .up _ L0
 have TO := fun q => openLit q S0.ok.1 L0.self
 have TW := worksT
 refine triple_intro Tryz.tbs_ok Tryz.func6 rfl [.va (.slice A n c), .va (.slice B nk ck)] [] ⟨trivial, trivial, trivial⟩ rfl (by simp) ?_
 intro E
 refine go Tryz.tbs_ok 1000 ?_
 refine ev_callF (TG ) [] [.inl 1, .inl 2] rfl rfl (by decide) rfl (by simp) (fun _ => (by repeat (first | exact trivial | refine ⟨rfl, ?_⟩))) (fun x0 h1 => ?_)
 refine go Tryz.tbs_ok 1000 ?_
 refine ev_if (fun h2 => ?_) (fun h2 => ?_)
 refine go Tryz.tbs_ok 1000 ?_
 refine ev_fin ⟨trivial, _, rfl, (()), rfl, (by trivial), Frm.nil _⟩
 refine go Tryz.tbs_ok 1000 ?_
 refine ev_if_lt (fun h3 => ?_) (fun h3 => ?_)
 refine go Tryz.tbs_ok 1000 ?_
 refine ev_fin ⟨trivial, _, rfl, (()), rfl, (by trivial), Frm.nil _⟩
 refine go Tryz.tbs_ok 1000 ?_
 refine ev_callF (TN ) [] [] rfl rfl (by decide) rfl (by simp) (fun _ => (by repeat (first | exact trivial | refine ⟨rfl, ?_⟩))) (fun x4 h5 => ?_)
 refine go Tryz.tbs_ok 1000 ?_
 refine ev_callF (TO (x4)) [0] [.inl 0] rfl rfl (by decide) rfl (by simp) (fun _ => (by repeat (first | exact trivial | refine ⟨rfl, ?_⟩))) (fun ⟨x6, x7, x8⟩ h9 => ?_)
 refine go Tryz.tbs_ok 1000 ?_
 refine ev_if_no rfl ?_
 refine go Tryz.tbs_ok 1000 ?_
 refine ev_if_no rfl ?_
 refine go Tryz.tbs_ok 1000 ?_
 obtain ⟨hn100, hbd⟩ := h1 h2
 refine ev_stop (go_loopR [10, 27, 28, 31, 33, 43, 44, 45, 46, 47, 48, 49, 50, 51, 52, 53, 54, 55, 56, 57, 58, 59, 60, 61, 62, 63, 64, 65, 66, 67, 68, 69, 70, 71, 72, 73, 74, 75, 76, 77, 78, 79, 80, 81, 82, 83, 84, 85, 86, 87, 88] (fun (i, _) => [(10, .va (.int .i64 (i : Nat)))]) (fun (_, W, D) => [(0, .fact (WalM x6 x4 W)), (1, .fact (DiskM x4 D))]) (fun (i, W, D) => i ≤ n ∧ Some1 W D ∧ D.starts = 0) (fun (i, _) => n - i) ((0, W0, D0) : Nat × WK × DK) ⟨Nat.zero_le _, S0, hs0⟩ ⟨⟨by kernel_rfl, by kernel_rfl⟩, ⟨_, rfl⟩, ⟨_, rfl⟩, by kernel_rfl, by kernel_rfl⟩ (fun x_ h_ => ?_))
 obtain ⟨i, W, D⟩ := x_
 obtain ⟨hi, hS, hs⟩ := h_
 obtain ⟨hokD, hokW⟩ := hS.ok
 rcases Nat.lt_or_ge i n with hin2 | hin2
 · have hil : i < l.length := by omega
   have hbx := hbd l[i] (List.getElem_mem hil)
   have hix := hin l[i] (List.getElem_mem hil)
   refine go_more 2 (ActsW l) (Rd 1 l[i].A l[i].L.length (l[i].L.flatMap encS)) rfl (fun h p => (p _ (List.getElem_mem hil)).1) ?_
   refine go_more 2 (ActsW l) (Rd 1 l[i].B l[i].K.length (l[i].K.flatMap encN)) rfl (fun h p => (p _ (List.getElem_mem hil)).2) ?_
   have hnx2 := hbx.L
   have hk10 : l[i].k.tmod 10 = l[i].k % 10 := Int.tmod_eq_emod_of_nonneg hix.1
   have hpp : ∀ p ∈ l[i].L, p.size ≤ 900000000 := fun p q => Nat.le_trans (hbx.p p q) (by decide)
   refine go Tryz.tbs_ok 1000 ?_
   rcases show l[i].k % 10 = 4 ∨ l[i].k % 10 = 5 ∨ l[i].k % 10 = 7 ∨ (l[i].k % 10 ≠ 4 ∧ l[i].k % 10 ≠ 5 ∧ l[i].k % 10 ≠ 7) by omega with hk | hk | hk | hk
   · have T := syncWT x6 x4 W D hokD hokW
     obtain ⟨r, hr⟩ : ∃ r, r = syncW W D := ⟨_, rfl⟩
     have g1 := hS.sync
     have g2 := (syncW_starts W D).trans hs
     rw [← hr] at T g1 g2
     refine ev_if_yes (decide_eq_true (show (↑i : Int) < (↑n : Int) from (by omega))) ?_
     refine go Tryz.tbs_ok 1000 ?_
     refine ev_stop (go_indexE (sz := 4) Tryz.tbs_ok (.inl 1) (i) rfl rfl rfl rfl rfl rfl (by omega) rfl (fun _ h => h) (fun g30 o32 e31 => ?_))
     subst e31
     refine go Tryz.tbs_ok 1000 ?_
     have l33 : i < (l).length := (by omega)
     refine ev_stop (go_loadE Tryz.tbs_ok (.inl 1) (i) 0 rfl rfl rfl rfl (fun _ h => h) (by omega) (fun _ => rfl) (by omega) l33 (by decide) ?_)
     refine go Tryz.tbs_ok 1000 ?_
     refine ev_if_yes (beq_iff_eq.2 (show l[i].k.tmod 10 = 4 from (by omega))) ?_
     refine go Tryz.tbs_ok 1000 ?_
     refine ev_callF (T ) [0, 1] [.inl 0] rfl rfl (by decide) rfl (by simp) (fun _ => (by repeat (first | exact trivial | refine ⟨rfl, ?_⟩))) (fun _ h34 => ?_)
     refine go Tryz.tbs_ok 1000 ?_
     refine ev_wrapN (i + 1) (by constructor <;> omega) (by rfl) ?_
     refine ev_fin (round_next ((i + 1, r.fst, r.snd.fst)) (show i + 1 ≤ n ∧ Some1 r.fst r.snd.fst ∧ r.snd.fst.starts = 0 from (by trivial)) (show n - (i + 1) < n - i from (by omega)) ⟨⟨by kernel_rfl, by kernel_rfl⟩, ⟨_, rfl⟩, ⟨_, rfl⟩, by kernel_rfl, by kernel_rfl⟩)
   · have T := ckWT x6 x4 W D l[i].A l[i].L l[i].L.length l[i].c rfl (by omega) hpp hokD hokW
     obtain ⟨r, hr⟩ : ∃ r, r = ckW W D l[i].L := ⟨_, rfl⟩
     have g1 := hS.ck l[i].L
     have g2 := (ckW_starts W D l[i].L).trans hs
     rw [← hr] at T g1 g2
     refine ev_if_yes (decide_eq_true (show (↑i : Int) < (↑n : Int) from (by omega))) ?_
     refine go Tryz.tbs_ok 1000 ?_
     refine ev_stop (go_indexE (sz := 4) Tryz.tbs_ok (.inl 1) (i) rfl rfl rfl rfl rfl rfl (by omega) rfl (fun _ h => h) (fun g30 o32 e31 => ?_))
     subst e31
     refine go Tryz.tbs_ok 1000 ?_
     have l33 : i < (l).length := (by omega)
     refine ev_stop (go_loadE Tryz.tbs_ok (.inl 1) (i) 0 rfl rfl rfl rfl (fun _ h => h) (by omega) (fun _ => rfl) (by omega) l33 (by decide) ?_)
     refine go Tryz.tbs_ok 1000 ?_
     refine ev_if_no (beq_eq_false_iff_ne.2 (show ¬l[i].k.tmod 10 = 4 from (by omega))) ?_
     refine go Tryz.tbs_ok 1000 ?_
     refine ev_if_yes (beq_iff_eq.2 (show l[i].k.tmod 10 = 5 from (by omega))) ?_
     refine go Tryz.tbs_ok 1000 ?_
     refine ev_stop (go_atE (sz := 4) Tryz.tbs_ok (i) rfl rfl rfl rfl rfl rfl (by omega) ?_)
     refine go Tryz.tbs_ok 1000 ?_
     have l34 : i < (l).length := (by omega)
     refine ev_stop (go_loadE Tryz.tbs_ok (.inl 1) (i) 1 rfl rfl rfl rfl (fun _ h => h) (by omega) (fun _ => rfl) (by omega) l34 (by decide) ?_)
     refine go Tryz.tbs_ok 1000 ?_
     refine ev_callF (T ) [0, 1] [.inl 0, .inl 4] rfl rfl (by decide) rfl (by simp) (fun _ => (by repeat (first | exact trivial | refine ⟨rfl, ?_⟩))) (fun _ h35 => ?_)
     refine go Tryz.tbs_ok 1000 ?_
     refine ev_wrapN (i + 1) (by constructor <;> omega) (by rfl) ?_
     refine ev_fin (round_next ((i + 1, r.fst, r.snd.fst)) (show i + 1 ≤ n ∧ Some1 r.fst r.snd.fst ∧ r.snd.fst.starts = 0 from (by trivial)) (show n - (i + 1) < n - i from (by omega)) ⟨⟨by kernel_rfl, by kernel_rfl⟩, ⟨_, rfl⟩, ⟨_, rfl⟩, by kernel_rfl, by kernel_rfl⟩)
   · have T := failM x4 D l[i].z l[i].B l[i].K.length l[i].d l[i].K hokD rfl (by have := hbx.K; omega)
     obtain ⟨g1, g2⟩ := hS.fail l[i].z hix.2.2 l[i].K
     have g2 := g2.trans hs
     obtain ⟨r, hr⟩ : ∃ r, r = failD D l[i].z l[i].K := ⟨_, rfl⟩
     rw [← hr] at T g1 g2
     refine ev_if_yes (decide_eq_true (show (↑i : Int) < (↑n : Int) from (by omega))) ?_
     refine go Tryz.tbs_ok 1000 ?_
     refine ev_stop (go_indexE (sz := 4) Tryz.tbs_ok (.inl 1) (i) rfl rfl rfl rfl rfl rfl (by omega) rfl (fun _ h => h) (fun g30 o32 e31 => ?_))
     subst e31
     refine go Tryz.tbs_ok 1000 ?_
     have l33 : i < (l).length := (by omega)
     refine ev_stop (go_loadE Tryz.tbs_ok (.inl 1) (i) 0 rfl rfl rfl rfl (fun _ h => h) (by omega) (fun _ => rfl) (by omega) l33 (by decide) ?_)
     refine go Tryz.tbs_ok 1000 ?_
     refine ev_if_no (beq_eq_false_iff_ne.2 (show ¬l[i].k.tmod 10 = 4 from (by omega))) ?_
     refine go Tryz.tbs_ok 1000 ?_
     refine ev_if_no (beq_eq_false_iff_ne.2 (show ¬l[i].k.tmod 10 = 5 from (by omega))) ?_
     refine go Tryz.tbs_ok 1000 ?_
     refine ev_if_yes (beq_iff_eq.2 (show l[i].k.tmod 10 = 7 from (by omega))) ?_
     refine go Tryz.tbs_ok 1000 ?_
     refine ev_stop (go_draw Tryz.tbs_ok false [] [(0,true),(1,true),(2,true),(3,true),(4,true),(5,true),(6,true),(7,true),(8,true),(9,true),(10,true),(11,false)] rfl ?_)
     refine go Tryz.tbs_ok 1000 ?_
     refine ev_need ⟨⟨(by repeat (first | exact trivial | refine ⟨rfl, ?_⟩)), rfl⟩, by kernel_rfl⟩ ?_
     refine ev_stop (tk_atE (sz := 4) Tryz.tbs_ok (i) ⟨⟨(by repeat (first | exact trivial | refine ⟨rfl, ?_⟩)), rfl⟩, by kernel_rfl⟩ rfl rfl rfl rfl rfl rfl rfl (by omega) ?_)
     refine go Tryz.tbs_ok 1000 ?_
     refine ev_need ⟨⟨(by repeat (first | exact trivial | refine ⟨rfl, ?_⟩)), rfl⟩, by kernel_rfl⟩ ?_
     have l34 : i < (l).length := (by omega)
     refine ev_stop (tk_loadE Tryz.tbs_ok (.inl 1) (i) 2 ⟨⟨(by repeat (first | exact trivial | refine ⟨rfl, ?_⟩)), rfl⟩, by kernel_rfl⟩ rfl rfl rfl rfl rfl (fun _ h => h) (by omega) (fun _ => rfl) (by omega) l34 (by decide) ?_)
     refine go Tryz.tbs_ok 1000 ?_
     refine ev_need ⟨⟨(by repeat (first | exact trivial | refine ⟨rfl, ?_⟩)), rfl⟩, by kernel_rfl⟩ ?_
     refine ev_stop (tk_atE (sz := 4) Tryz.tbs_ok (i) ⟨⟨(by repeat (first | exact trivial | refine ⟨rfl, ?_⟩)), rfl⟩, by kernel_rfl⟩ rfl rfl rfl rfl rfl rfl rfl (by omega) ?_)
     refine go Tryz.tbs_ok 1000 ?_
     refine ev_need ⟨⟨(by repeat (first | exact trivial | refine ⟨rfl, ?_⟩)), rfl⟩, by kernel_rfl⟩ ?_
     have l35 : i < (l).length := (by omega)
     refine ev_stop (tk_loadE Tryz.tbs_ok (.inl 1) (i) 3 ⟨⟨(by repeat (first | exact trivial | refine ⟨rfl, ?_⟩)), rfl⟩, by kernel_rfl⟩ rfl rfl rfl rfl rfl (fun _ h => h) (by omega) (fun _ => rfl) (by omega) l35 (by decide) ?_)
     refine go Tryz.tbs_ok 1000 ?_
     refine ev_need ⟨⟨(by repeat (first | exact trivial | refine ⟨rfl, ?_⟩)), rfl⟩, by kernel_rfl⟩ ?_
     refine ev_callF (T ) [1] [.inl 5] rfl rfl (by decide) rfl (by simp) (fun _ => (by repeat (first | exact trivial | refine ⟨rfl, ?_⟩))) (fun _ h36 => ?_)
     refine go Tryz.tbs_ok 1000 ?_
     refine ev_need (by kernel_rfl) ?_
     refine ev_wrapN (i + 1) (by constructor <;> omega) (by rfl) ?_
     refine ev_fin (round_next ((i + 1, W, r.fst)) (show i + 1 ≤ n ∧ Some1 W r.fst ∧ r.fst.starts = 0 from (by trivial)) (show n - (i + 1) < n - i from (by omega)) ⟨⟨by kernel_rfl, by kernel_rfl⟩, ⟨_, rfl⟩, ⟨_, rfl⟩, by kernel_rfl, by kernel_rfl⟩)
   · have T := appWT x6 x4 W D l[i].A l[i].L l[i].L.length l[i].c rfl (by omega) hpp hokD hokW
     obtain ⟨r, hr⟩ : ∃ r, r = appW W D l[i].L := ⟨_, rfl⟩
     have g1 := hS.app l[i].L
     have g2 := (appW_starts W D l[i].L).trans hs
     rw [← hr] at T g1 g2
     refine ev_if_yes (decide_eq_true (show (↑i : Int) < (↑n : Int) from (by omega))) ?_
     refine go Tryz.tbs_ok 1000 ?_
     refine ev_stop (go_indexE (sz := 4) Tryz.tbs_ok (.inl 1) (i) rfl rfl rfl rfl rfl rfl (by omega) rfl (fun _ h => h) (fun g30 o32 e31 => ?_))
     subst e31
     refine go Tryz.tbs_ok 1000 ?_
     have l33 : i < (l).length := (by omega)
     refine ev_stop (go_loadE Tryz.tbs_ok (.inl 1) (i) 0 rfl rfl rfl rfl (fun _ h => h) (by omega) (fun _ => rfl) (by omega) l33 (by decide) ?_)
     refine go Tryz.tbs_ok 1000 ?_
     refine ev_if_no (beq_eq_false_iff_ne.2 (show ¬l[i].k.tmod 10 = 4 from (by omega))) ?_
     refine go Tryz.tbs_ok 1000 ?_
     refine ev_if_no (beq_eq_false_iff_ne.2 (show ¬l[i].k.tmod 10 = 5 from (by omega))) ?_
     refine go Tryz.tbs_ok 1000 ?_
     refine ev_if_no (beq_eq_false_iff_ne.2 (show ¬l[i].k.tmod 10 = 7 from (by omega))) ?_
     refine go Tryz.tbs_ok 1000 ?_
     refine ev_stop (go_atE (sz := 4) Tryz.tbs_ok (i) rfl rfl rfl rfl rfl rfl (by omega) ?_)
     refine go Tryz.tbs_ok 1000 ?_
     have l34 : i < (l).length := (by omega)
     refine ev_stop (go_loadE Tryz.tbs_ok (.inl 1) (i) 1 rfl rfl rfl rfl (fun _ h => h) (by omega) (fun _ => rfl) (by omega) l34 (by decide) ?_)
     refine go Tryz.tbs_ok 1000 ?_
     refine ev_callF (T ) [0, 1] [.inl 0, .inl 4] rfl rfl (by decide) rfl (by simp) (fun _ => (by repeat (first | exact trivial | refine ⟨rfl, ?_⟩))) (fun _ h35 => ?_)
     refine go Tryz.tbs_ok 1000 ?_
     refine ev_wrapN (i + 1) (by constructor <;> omega) (by rfl) ?_
     refine ev_fin (round_next ((i + 1, r.fst, r.snd.fst)) (show i + 1 ≤ n ∧ Some1 r.fst r.snd.fst ∧ r.snd.fst.starts = 0 from (by trivial)) (show n - (i + 1) < n - i from (by omega)) ⟨⟨by kernel_rfl, by kernel_rfl⟩, ⟨_, rfl⟩, ⟨_, rfl⟩, by kernel_rfl, by kernel_rfl⟩)
 · obtain rfl : i = n := by omega
   obtain ⟨D1, hcr, hok1, hst1, lb, hbrk⟩ := hS.twice K
   obtain ⟨D2, W3, D3, l3, ho1, ho2, ho3, ho4, ho5, ho6, ho7, ho8, ho9, ho10⟩ := hbrk.twice
   have TU := upM x4 D hokD
   have TS := startM x4 D1 hok1 (by omega) (by omega)
   rw [ho1] at TS
   have TO1 := openLit x4 ho2 ho3
   have TO2 := openLit x4 ho4 ho7
   have TM := namesM x4 D3 ho4
   have TZ := sizeM x4 D3 ho4
   have TSg := fun p => segsWT p x4 W3 D3 ho4 ho5
   rw [ho8] at TSg
   have TSz := fun p => sizeWT p x4 W3 D3 ho4 ho5 ho6
   rw [ho9] at TSz
   have TE := fun A c B d => same2 A B l3 l3.length c l3.length d rfl rfl ho10
   have TE2 := fun A c B d => same2 A B (D3.files.map nameEG) D3.files.length c D3.files.length d (by simp) (by simp) (by have := ho4.few; omega)
   rcases hcr with ⟨hd, rfl⟩ | ⟨hd, hcr⟩
   · rw [hd] at TU
     refine go Tryz.tbs_ok 1000 ?_
     refine ev_if_no (decide_eq_false (show ¬(↑i : Int) < (↑i : Int) from (by omega))) ?_
     refine go Tryz.tbs_ok 1000 ?_
     refine ev_fin (go Tryz.tbs_ok 1000 ?_)
     refine ev_callF (TU ) [1] [] rfl rfl (by decide) rfl (by simp) (fun _ => (by repeat (first | exact trivial | refine ⟨rfl, ?_⟩))) (fun _ h30 => ?_)
     refine go Tryz.tbs_ok 1000 ?_
     refine ev_if_no rfl ?_
     refine go Tryz.tbs_ok 1000 ?_
     refine ev_callF (TS ) [1] [] rfl rfl (by decide) rfl (by simp) (fun _ => (by repeat (first | exact trivial | refine ⟨rfl, ?_⟩))) (fun _ h31 => ?_)
     refine go Tryz.tbs_ok 1000 ?_
     refine ev_if_no rfl ?_
     refine go Tryz.tbs_ok 1000 ?_
     refine ev_callF (TO1 ) [1] [.inl 0] rfl rfl (by decide) rfl (by simp) (fun _ => (by repeat (first | exact trivial | refine ⟨rfl, ?_⟩))) (fun ⟨x32, x33, x34⟩ h35 => ?_)
     refine go Tryz.tbs_ok 1000 ?_
     refine ev_callF (TM ) [3] [] rfl rfl (by decide) rfl (by simp) (fun _ => (by repeat (first | exact trivial | refine ⟨rfl, ?_⟩))) (fun ⟨x36, x37⟩ h38 => ?_)
     refine go Tryz.tbs_ok 1000 ?_
     refine ev_callF (TZ ) [3] [] rfl rfl (by decide) rfl (by simp) (fun _ => (by repeat (first | exact trivial | refine ⟨rfl, ?_⟩))) (fun _ h39 => ?_)
     refine go Tryz.tbs_ok 1000 ?_
     refine ev_callF (TO2 ) [3] [.inl 0] rfl rfl (by decide) rfl (by simp) (fun _ => (by repeat (first | exact trivial | refine ⟨rfl, ?_⟩))) (fun ⟨x40, x41, x42⟩ h43 => ?_)
     refine go Tryz.tbs_ok 1000 ?_
     refine ev_callF (TSg (x40)) [3, 6] [.inl 0] rfl rfl (by decide) rfl (by simp) (fun _ => (by repeat (first | exact trivial | refine ⟨rfl, ?_⟩))) (fun _ h44 => ?_)
     refine go Tryz.tbs_ok 1000 ?_
     refine ev_if_yes rfl ?_
     refine go Tryz.tbs_ok 1000 ?_
     refine ev_if_yes rfl ?_
     refine go Tryz.tbs_ok 1000 ?_
     refine ev_callF (TE (x33) (x34) (x41) (x42)) [] [.inr 4, .inr 7] rfl rfl (by decide) rfl (by simp) (fun _ => (by repeat (first | exact trivial | refine ⟨rfl, ?_⟩))) (fun _ h45 => ?_)
     refine go Tryz.tbs_ok 1000 ?_
     refine ev_if_yes rfl ?_
     refine go Tryz.tbs_ok 1000 ?_
     refine ev_callF (TM ) [6] [] rfl rfl (by decide) rfl (by simp) (fun _ => (by repeat (first | exact trivial | refine ⟨rfl, ?_⟩))) (fun ⟨x46, x47⟩ h48 => ?_)
     refine go Tryz.tbs_ok 1000 ?_
     refine ev_callF (TE2 (x46) (x47) (x36) (x37)) [] [.inr 8, .inr 5] rfl rfl (by decide) rfl (by simp) (fun _ => (by repeat (first | exact trivial | refine ⟨rfl, ?_⟩))) (fun _ h49 => ?_)
     refine go Tryz.tbs_ok 1000 ?_
     refine ev_if_yes rfl ?_
     refine go Tryz.tbs_ok 1000 ?_
     refine ev_callF (TZ ) [6] [] rfl rfl (by decide) rfl (by simp) (fun _ => (by repeat (first | exact trivial | refine ⟨rfl, ?_⟩))) (fun _ h50 => ?_)
     refine go Tryz.tbs_ok 1000 ?_
     refine ev_if_yes (beq_iff_eq.2 (show (↑(sumD D3.files) : Int) = (↑(sumD D3.files) : Int) from (by omega))) ?_
     refine go Tryz.tbs_ok 1000 ?_
     refine ev_if_yes (beq_iff_eq.2 (show (↑D3.files.length : Int) = (↑D3.files.length : Int) from (by omega))) ?_
     refine go Tryz.tbs_ok 1000 ?_
     refine ev_callF (TSz (x40)) [3, 6] [.inl 0] rfl rfl (by decide) rfl (by simp) (fun _ => (by repeat (first | exact trivial | refine ⟨rfl, ?_⟩))) (fun _ h51 => ?_)
     refine go Tryz.tbs_ok 1000 ?_
     refine ev_if_yes (beq_iff_eq.2 (show (↑(sumD D3.files) : Int) = (↑(sumD D3.files) : Int) from (by omega))) ?_
     refine go Tryz.tbs_ok 1000 ?_
     refine ev_callF (TW ) [] [.inl 0] rfl rfl (by decide) rfl (by simp) (fun _ => (by repeat (first | exact trivial | refine ⟨rfl, ?_⟩))) (fun _ h52 => ?_)
     refine go Tryz.tbs_ok 1000 ?_
     refine ev_fin ⟨trivial, _, rfl, (()), rfl, (by trivial), Frm.nil _⟩
   · rw [hd] at TU
     have TC := crashM x4 D B nk ck K hokD hnk
     rw [hcr] at TC
     refine go Tryz.tbs_ok 1000 ?_
     refine ev_if_no (decide_eq_false (show ¬(↑i : Int) < (↑i : Int) from (by omega))) ?_
     refine go Tryz.tbs_ok 1000 ?_
     refine ev_fin (go Tryz.tbs_ok 1000 ?_)
     refine ev_callF (TU ) [1] [] rfl rfl (by decide) rfl (by simp) (fun _ => (by repeat (first | exact trivial | refine ⟨rfl, ?_⟩))) (fun _ h30 => ?_)
     refine go Tryz.tbs_ok 1000 ?_
     refine ev_if_yes rfl ?_
     refine go Tryz.tbs_ok 1000 ?_
     refine ev_callF (TC ) [1] [.inl 3] rfl rfl (by decide) rfl (by simp) (fun _ => (by repeat (first | exact trivial | refine ⟨rfl, ?_⟩))) (fun _ h31 => ?_)
     refine go Tryz.tbs_ok 1000 ?_
     refine ev_if_no rfl ?_
     refine go Tryz.tbs_ok 1000 ?_
     refine ev_callF (TS ) [1] [] rfl rfl (by decide) rfl (by simp) (fun _ => (by repeat (first | exact trivial | refine ⟨rfl, ?_⟩))) (fun _ h32 => ?_)
     refine go Tryz.tbs_ok 1000 ?_
     refine ev_if_no rfl ?_
     refine go Tryz.tbs_ok 1000 ?_
     refine ev_callF (TO1 ) [1] [.inl 0] rfl rfl (by decide) rfl (by simp) (fun _ => (by repeat (first | exact trivial | refine ⟨rfl, ?_⟩))) (fun ⟨x33, x34, x35⟩ h36 => ?_)
     refine go Tryz.tbs_ok 1000 ?_
     refine ev_callF (TM ) [3] [] rfl rfl (by decide) rfl (by simp) (fun _ => (by repeat (first | exact trivial | refine ⟨rfl, ?_⟩))) (fun ⟨x37, x38⟩ h39 => ?_)
     refine go Tryz.tbs_ok 1000 ?_
     refine ev_callF (TZ ) [3] [] rfl rfl (by decide) rfl (by simp) (fun _ => (by repeat (first | exact trivial | refine ⟨rfl, ?_⟩))) (fun _ h40 => ?_)
     refine go Tryz.tbs_ok 1000 ?_
     refine ev_callF (TO2 ) [3] [.inl 0] rfl rfl (by decide) rfl (by simp) (fun _ => (by repeat (first | exact trivial | refine ⟨rfl, ?_⟩))) (fun ⟨x41, x42, x43⟩ h44 => ?_)
     refine go Tryz.tbs_ok 1000 ?_
     refine ev_callF (TSg (x41)) [3, 6] [.inl 0] rfl rfl (by decide) rfl (by simp) (fun _ => (by repeat (first | exact trivial | refine ⟨rfl, ?_⟩))) (fun _ h45 => ?_)
     refine go Tryz.tbs_ok 1000 ?_
     refine ev_if_yes rfl ?_
     refine go Tryz.tbs_ok 1000 ?_
     refine ev_if_yes rfl ?_
     refine go Tryz.tbs_ok 1000 ?_
     refine ev_callF (TE (x34) (x35) (x42) (x43)) [] [.inr 4, .inr 7] rfl rfl (by decide) rfl (by simp) (fun _ => (by repeat (first | exact trivial | refine ⟨rfl, ?_⟩))) (fun _ h46 => ?_)
     refine go Tryz.tbs_ok 1000 ?_
     refine ev_if_yes rfl ?_
     refine go Tryz.tbs_ok 1000 ?_
     refine ev_callF (TM ) [6] [] rfl rfl (by decide) rfl (by simp) (fun _ => (by repeat (first | exact trivial | refine ⟨rfl, ?_⟩))) (fun ⟨x47, x48⟩ h49 => ?_)
     refine go Tryz.tbs_ok 1000 ?_
     refine ev_callF (TE2 (x47) (x48) (x37) (x38)) [] [.inr 8, .inr 5] rfl rfl (by decide) rfl (by simp) (fun _ => (by repeat (first | exact trivial | refine ⟨rfl, ?_⟩))) (fun _ h50 => ?_)
     refine go Tryz.tbs_ok 1000 ?_
     refine ev_if_yes rfl ?_
     refine go Tryz.tbs_ok 1000 ?_
     refine ev_callF (TZ ) [6] [] rfl rfl (by decide) rfl (by simp) (fun _ => (by repeat (first | exact trivial | refine ⟨rfl, ?_⟩))) (fun _ h51 => ?_)
     refine go Tryz.tbs_ok 1000 ?_
     refine ev_if_yes (beq_iff_eq.2 (show (↑(sumD D3.files) : Int) = (↑(sumD D3.files) : Int) from (by omega))) ?_
     refine go Tryz.tbs_ok 1000 ?_
     refine ev_if_yes (beq_iff_eq.2 (show (↑D3.files.length : Int) = (↑D3.files.length : Int) from (by omega))) ?_
     refine go Tryz.tbs_ok 1000 ?_
     refine ev_callF (TSz (x41)) [3, 6] [.inl 0] rfl rfl (by decide) rfl (by simp) (fun _ => (by repeat (first | exact trivial | refine ⟨rfl, ?_⟩))) (fun _ h52 => ?_)
     refine go Tryz.tbs_ok 1000 ?_
     refine ev_if_yes (beq_iff_eq.2 (show (↑(sumD D3.files) : Int) = (↑(sumD D3.files) : Int) from (by omega))) ?_
     refine go Tryz.tbs_ok 1000 ?_
     refine ev_callF (TW ) [] [.inl 0] rfl rfl (by decide) rfl (by simp) (fun _ => (by repeat (first | exact trivial | refine ⟨rfl, ?_⟩))) (fun _ h53 => ?_)
     refine go Tryz.tbs_ok 1000 ?_
     refine ev_fin ⟨trivial, _, rfl, (()), rfl, (by trivial), Frm.nil _⟩
end Go.Proofs.YtjlfdfmkofbccaaGreatDoor
namespace Go.Proofs.YtjlfdfmkofbccaaGreatDoor
open Go.Sy Go.RowKit Go.ChangeShapes Go.WideShapes
set_option maxRecDepth 100000 in
theorem walTwice_lifted (os : Os) (started : os.Started) (H : Type) (enc : TypeId × Value → H) :
 ReturnsInHanded {} Tryz.checked os 6 .any (fun w args => (Rows.walTwiceSpec.pre enc Tryz.prog Tryz.f6 Rows.walTwiceRow.domain Rows.walTwiceRow.apart w args ∧ laidMetH Tryz.prog Rows.walTwiceRow.laid w) ∧ sizedMet enc Tryz.prog Tryz.f6 (OpenSpec.ofChange Rows.walTwiceSpec) Rows.walTwiceRow.apart w args) (Rows.walTwiceSpec.post enc Tryz.prog Tryz.f6 Rows.walTwiceRow.apart Rows.walTwiceRow.fresh Rows.walTwiceRow.handsOn Rows.walTwiceRow.again) := by
 refine returnsInHanded_of_change_and (C := Tryz.checked) (X := fun w _ => laidMetH Tryz.prog Rows.walTwiceRow.laid w) (fun _ _ _ hh h => h.of_heap hh) Tryz.own started (by kernel_rfl) Tryz.func6
  (ChangeSpec.witness_shaped (enc := enc) (C := Tryz.checked) (os := os) (X := fun w _ => laidMetH Tryz.prog Rows.walTwiceRow.laid w) false (World.doorLaid Tryz.prog 400 os) #[.slice none 0 0, .slice none 0 0] 8 rfl (World.shaped_of_RefB (by kernel_rfl) (by kernel_rfl)) (by kernel_rfl) (by kernel_rfl) (by kernel_rfl) (door_met os _)) ?_
 intro W base args ds gs before hval0 hW hcnd _ hL _
 have htab := tab_of hL
 have hval : ∀ (j : Nat) t v, Tryz.f6.params[j]? = some t → args[j]? = some v → Value.okWide Tryz.prog W .any base t v := hval0
 obtain ⟨p, q, hA0, hV, _, _, _⟩ := id hW
 have hA : DataW.TrodAll enc Tryz.prog W 0 (fun _ => true) true Tryz.f6.params.toList args.toList ds p := hA0
 clear hval0 hA0
 obtain ⟨rfl, _⟩ := trodVars_none hV
 have hpar : Tryz.f6.params = #[23, 36] := by kernel_rfl
 rw [hpar] at hA hval
 obtain ⟨v0, v1, d0, d1, p0, p1, rfl, rfl, _, ⟨fuel0, hf0⟩, ⟨fuel1, hf1⟩⟩ := trodAll_two hA
 obtain ⟨A0, n0, c0, rfl⟩ := okWide_slice (P := Tryz.prog) (t := 23) (e := 38) (by kernel_rfl) (hval 0 _ _ rfl rfl)
 obtain ⟨A0', n0', c0', l0, hl0, hln0, hc0, hm0, hr0, hg0⟩ := list_of_sees (F := 0 + 1 + 1 + 1) (t := 23) (el := 38) (enc := encW) (G := fun x => (x.rdL.holds (hp W) ∧ x.rdK.holds (hp W)) ∧ (0 ≤ x.k ∧ x.k < 256 ∧ x.z ≤ 9223372036854775807)) rfl rfl (by decide) encW_len (fun _ => rfl) (fun vs hl h => actW_dec hl h) (sees_of_trod Tryz.tbs_ok.tab 4 fuel0 _ _ _ hf0)
 cases hl0
 obtain ⟨ha0, hin0⟩ := actsW_in hg0
 obtain ⟨A1, n1, c1, rfl⟩ := okWide_slice (P := Tryz.prog) (t := 36) (e := 3) (by kernel_rfl) (hval 1 _ _ rfl rfl)
 obtain ⟨A1', n1', c1', l1, hl1, hln1, hc1, hm1, hr1, hg1⟩ := list_of_sees (F := 0 + 1) (t := 36) (el := 3) (enc := encN) (G := fun _ => True) rfl rfl (by decide) encN_len (fun _ => rfl) (fun vs hl h => int_dec hl h) (sees_of_trod Tryz.tbs_ok.tab 2 fuel1 _ _ _ hf1)
 cases hl1
 refine (walTwice A0 A1 l0 l1 n0 c0 n1 c1 hln0.symm (maxLen_le hc0 hm0) hin0 hln1.symm (maxLen_le hc1 hm1) W Hp.emp (hp W) (Hp.emp_le _) (Hp.le_refl _) (Hp.emp_dis _) trivial (fun X hX => ?_)).mono fun e W' ⟨_, _, he, _, _, _, hext, _⟩ => ?_
 · simp only [List.mem_cons, List.not_mem_nil, or_false] at hX
   rcases hX with rfl | rfl | rfl | rfl
   · exact htab
   · exact hr0
   · exact ha0
   · exact hr1
 · exact ⟨.bool true, he, post_true Tryz.laidOut (by kernel_rfl) rfl (rt := 4) (by kernel_rfl) (by kernel_rfl) hW hext.below rfl rfl rfl⟩
theorem walTwice_holds : Rows.WalTwiceSaid :=
 OpenClaim.holds_of_wide 6 Tryz.f6 rfl rfl rfl rfl rfl rfl rfl ⟨rfl, rfl, rfl, rfl, rfl⟩ rfl rfl rfl rfl rfl (by kernel_rfl) Tryz.func6 (by kernel_rfl)
  (of_decide_eq_true (by kernel_rfl)) (by unfold Func.isWrapper; rw [if_neg (by decide +kernel)]; exact ⟨rfl, rfl⟩)
  (fun os started H enc _ => walTwice_lifted os started H enc)
set_option maxRecDepth 100000 in
theorem walTwice_card : Rows.WalTwiceCardSaid :=
 Claim7.holds_tied_plain_at .later [] [.data, .data, .data] true Rows.walTwiceCard.stood.harness false
  walTwice_holds (fun _ h => by cases h) (by kernel_rfl) (fun _ h => by cases h) walTwice_row_tie rfl ⟨rfl, rfl⟩ (by kernel_rfl) rfl
  (fun f fn hf hfn => by
   obtain rfl : f = 6 := (Option.some.inj ((show Tryz.prog.funcNamed Rows.walTwiceRow.func = some 6 by kernel_rfl).symm.trans hf)).symm
   obtain rfl : fn = Tryz.f6 := (Option.some.inj (Tryz.func6.symm.trans hfn)).symm
   refine ⟨by kernel_rfl, fun j t ht => ?_⟩
   have hpar : Tryz.f6.params = #[23, 36] := by kernel_rfl
   rw [hpar] at ht
   have hm : t ∈ [23, 36] := by
    rw [show (#[23, 36] : Array TypeId)[j]? = ([23, 36] : List TypeId)[j]? from by simp] at ht
    exact List.mem_of_getElem? ht
   simp only [List.mem_cons, List.not_mem_nil, or_false] at hm
   rcases hm with rfl | rfl
   · exact (show Tryz.prog.wantsStandIn 23 = false by kernel_rfl)
   · exact (show Tryz.prog.wantsStandIn 36 = false by kernel_rfl))
  (by kernel_rfl)
end Go.Proofs.YtjlfdfmkofbccaaGreatDoor
