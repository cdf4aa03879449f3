/-
  What is proved: walBack_card. Conditions: none.
-/
import Derived.Test.YtjlfdfmkofbccaaGreatDoorCards
import Derived.Test.YtjlfdfmkofbccaaGreatDoorTie
import Derived.SevenTiedAt
import Derived.LaidLaws
import Derived.LaidMore
import Derived.Lib.LaidTab
import Derived.Stop.LaidErr
import Derived.OpenShut
import Derived.ChangeMaps5
import Derived.Test.YtjlfdfmkofbccaaGreatDoorWb6
namespace Go.Proofs.YtjlfdfmkofbccaaGreatDoor
open Go.Sy
set_option maxHeartbeats 16000000 in
set_option maxRecDepth 100000 in
theorem walBack (A : Option Addr) (l : List ActW) (n c : Nat) (hn : n = l.length) (hn1 : n ≤ 9223372036854775807) (hin : ∀ x ∈ l, 0 ≤ x.k ∧ x.k < 256 ∧ x.z ≤ 9223372036854775807) :
 Triple Tryz.prog 5 [.slice A n c] [] [TabA, Rd 4 A n (l.flatMap encW), ActsW l] Unit (fun _ => .bool true) (fun _ => True) (fun _ => []) := by
 have TG := greatW A l n c hn hn1
 have TN := newM 1048576 (by omega) (by omega)
 have L0 : Logs ⟨0, false, 0, 0⟩ ⟨1048576, 0, false, [], none, []⟩ [] 0 := Logs.new (by omega) (by omega)
 have hf0 : (⟨1048576, 0, false, [], none, []⟩ : DK).fails = none := rfl
 obtain ⟨D0, hD0⟩ : ∃ D0 : DK, D0 = ⟨1048576, 0, false, [], none, []⟩ := ⟨_, rfl⟩
 obtain ⟨W0, hW0⟩ : ∃ W0 : WK, W0 = ⟨0, false, 0, 0⟩ := ⟨_, rfl⟩
 rw [← hD0, ← hW0] at L0
 rw [← hD0] at TN hf0
 have TO := fun q => openLit q L0.okk.1 L0.self
 have TW := worksT
 refine triple_intro Tryz.tbs_ok Tryz.func5 rfl [.va (.slice A n c)] [] ⟨trivial, trivial⟩ rfl (by simp) ?_
 intro E
 refine go_fact (Row 9 1 none 0 0 (([] : List ByteArray).flatMap encS)) (Row.nilE _ _) ?_
 refine go Tryz.tbs_ok 1000 ?_
 refine ev_callF (TG ) [] [.inl 1, .inl 2] rfl rfl (by decide) rfl (by simp) (fun _ => (by repeat (first | exact trivial | refine ⟨rfl, ?_⟩))) (fun x0 h1 => ?_)
 refine go Tryz.tbs_ok 1000 ?_
 refine ev_if (fun h2 => ?_) (fun h2 => ?_)
 refine go Tryz.tbs_ok 1000 ?_
 refine ev_fin ⟨trivial, _, rfl, (()), rfl, (by trivial), Frm.nil _⟩
 refine go Tryz.tbs_ok 1000 ?_
 refine ev_callF (TN ) [] [] rfl rfl (by decide) rfl (by simp) (fun _ => (by repeat (first | exact trivial | refine ⟨rfl, ?_⟩))) (fun x3 h4 => ?_)
 refine go Tryz.tbs_ok 1000 ?_
 refine ev_callF (TO (x3)) [1] [.inl 0] rfl rfl (by decide) rfl (by simp) (fun _ => (by repeat (first | exact trivial | refine ⟨rfl, ?_⟩))) (fun ⟨x5, x6, x7⟩ h8 => ?_)
 refine go Tryz.tbs_ok 1000 ?_
 refine ev_if_no rfl ?_
 refine go Tryz.tbs_ok 1000 ?_
 refine ev_if_no rfl ?_
 refine go Tryz.tbs_ok 1000 ?_
 obtain ⟨hn100, hbd⟩ := h1 h2
 refine ev_stop (go_loopR [2, 5, 8, 9, 10, 11, 12, 13, 14, 20, 21, 24, 26, 36, 37, 38, 39, 40, 41, 42, 43, 44, 45, 46, 47, 48, 49, 50, 51, 52, 53, 54, 55, 56, 57, 58, 59, 60, 61, 62, 63, 64, 65, 66, 67, 68, 69, 70, 71, 72, 73, 74, 75, 76, 77, 78, 79, 80, 81, 82, 83, 84, 85, 86, 87, 88, 89, 90, 91, 92, 93, 94, 95, 96, 97, 98, 99, 100, 101, 102, 103, 104, 105, 106, 107, 108, 109, 110, 111, 112, 113, 114] (fun (i, H, nh, ch, p, _) => [(5, .va (.pointer (some ⟨p, 0, none⟩))), (8, .va (.slice H nh ch)), (9, .va (.int .i64 (i : Nat)))]) (fun (_, H, nh, ch, p, W, D, hv) => [(0, .fact (Row 9 1 H nh ch (hv.flatMap encS))), (1, .fact (WalM p x3 W)), (2, .fact (DiskM x3 D))]) (fun (i, _, nh, ch, _, W, D, hv) => i ≤ n ∧ Logs W D hv 0 ∧ D.fails = none ∧ nh = hv.length ∧ nh ≤ i * 50 ∧ nh ≤ ch) (fun (i, _) => n - i) ((0, none, 0, 0, x5, W0, D0, []) : Nat × Option Addr × Nat × Nat × Nat × WK × DK × List ByteArray) ⟨Nat.zero_le _, L0, hf0, rfl, Nat.le_refl _, Nat.le_refl _⟩ ⟨⟨by kernel_rfl, by kernel_rfl⟩, ⟨_, rfl⟩, ⟨_, rfl⟩, by kernel_rfl, by kernel_rfl⟩ (fun x_ h_ => ?_))
 obtain ⟨i, H, nh, ch, p, W, D, hv⟩ := x_
 obtain ⟨hi, hK, hf, hlen, hfew, hcap⟩ := h_
 obtain ⟨hokD, hokW, ht⟩ := hK.okk
 rcases Nat.lt_or_ge i n with hin2 | hin2
 · have hil : i < l.length := by omega
   obtain ⟨x, hx⟩ : ∃ x, x = l[i] := ⟨_, rfl⟩
   have hbx := hbd x (by rw [hx]; exact List.getElem_mem hil)
   have hix := hin x (by rw [hx]; exact List.getElem_mem hil)
   refine go_more 2 (ActsW l) (Rd 1 l[i].A l[i].L.length (l[i].L.flatMap encS)) rfl (fun h p => (p _ (List.getElem_mem hil)).1) ?_
   refine go Tryz.tbs_ok 1000 ?_
   refine ev_if_yes (decide_eq_true (show (↑i : Int) < (↑n : Int) from (by omega))) ?_
   refine go Tryz.tbs_ok 1000 ?_
   refine ev_stop (go_indexE (sz := 4) Tryz.tbs_ok (.inl 1) (i) rfl rfl rfl rfl rfl rfl (by omega) rfl (fun _ h => h) (fun g30 o32 e31 => ?_))
   subst e31
   refine go Tryz.tbs_ok 1000 ?_
   have l33 : i < (l).length := (by omega)
   refine ev_stop (go_loadE Tryz.tbs_ok (.inl 1) (i) 0 rfl rfl rfl rfl (fun _ h => h) (by omega) (fun _ => rfl) (by omega) l33 (by decide) ?_)
   rw [← hx]
   clear hx
   have hnx2 := hbx.L
   have hk10 : x.k.tmod 10 = x.k % 10 := Int.tmod_eq_emod_of_nonneg hix.1
   have hk3 : x.k.tmod 3 = x.k % 3 := Int.tmod_eq_emod_of_nonneg hix.1
   have hso : (x.k == x.k) = true := by simp
   by_cases hk : x.k % 10 = 5
   · obtain ⟨W1, hW1⟩ : ∃ W1, W1 = (ckW W D x.L).1 := ⟨_, rfl⟩
     obtain ⟨D1, hD1⟩ : ∃ D1, D1 = (ckW W D x.L).2.1 := ⟨_, rfl⟩
     obtain ⟨e, hee⟩ : ∃ e, e = (ckW W D x.L).2.2 := ⟨_, rfl⟩
     have he : ckW W D x.L = (W1, D1, e) := Prod.ext hW1.symm (Prod.ext hD1.symm hee.symm)
     have T := ckWT p x3 W D x.A x.L x.L.length x.c rfl (by omega) (fun p q => Nat.le_trans (hbx.p p q) (by decide)) hokD hokW
     rw [he] at T
     dsimp only at T
     have hout := hK.ck x.L
     rw [he] at hout
     dsimp only at hout
     rcases hout with ⟨h1, _, h3, h4⟩ | ⟨h1, h2, h3⟩ | ⟨h1, _⟩
     · subst h1
       have g1 := h3.nil
       have g2 := h4 hf
       by_cases hk3' : x.k % 3 = 0
       · have TO := openLit x3 g1.okk.1 g1.self
         have TS := fun p => segsWT p x3 W1 D1 g1.okk.1 g1.okk.2.1
         have TZ := fun p => sizeWT p x3 W1 D1 g1.okk.1 g1.okk.2.1 g1.okk.2.2
         have TA := fun A c H c' => same2 A H x.L x.L.length c x.L.length c' rfl rfl (by omega)
         refine go Tryz.tbs_ok 1000 ?_
         refine ev_new fun b60 => ?_
         refine ev_if_yes (beq_iff_eq.2 (show x.k.tmod 10 = 5 from (by omega))) ?_
         refine go Tryz.tbs_ok 1000 ?_
         refine ev_callF (T ) [1, 2] [.inl 0, .inl 3] rfl rfl (by decide) rfl (by simp) (fun _ => (by repeat (first | exact trivial | refine ⟨rfl, ?_⟩))) (fun _ h61 => ?_)
         refine go Tryz.tbs_ok 1000 ?_
         refine ev_if_yes rfl ?_
         refine go Tryz.tbs_ok 1000 ?_
         refine ev_new fun b62 => ?_
         refine ev_stop (go_appendE (sz := 1) (M := [_]) (enc := encS) Tryz.tbs_ok [5] [some b62] (.inl 3) ([]) (x.L) (x.L) (x.L.length) rfl rfl rfl rfl rfl rfl rfl (by decide) rfl (by decide) (fun _ p => Pt.row (starH_one.1 p) rfl (by decide)) rfl (fun _ h => h) (by first | rfl | simp) (by first | rfl | omega) (le_app (s := x.L.length) (by omega) (by first | rfl | omega)) (le_appb (s := x.L.length) (by omega) (by first | rfl | omega) (by decide)) (fun _ _ => (by repeat (first | exact trivial | refine ⟨rfl, ?_⟩))) (fun A63 c64 h65 => ?_))
         refine go Tryz.tbs_ok 1000 ?_
         refine ev_if_no rfl ?_
         refine go Tryz.tbs_ok 1000 ?_
         refine ev_if_yes (beq_iff_eq.2 (show x.k.tmod 3 = 0 from (by omega))) ?_
         refine go Tryz.tbs_ok 1000 ?_
         refine ev_callF (TO ) [2] [.inl 0] rfl rfl (by decide) rfl (by simp) (fun _ => (by repeat (first | exact trivial | refine ⟨rfl, ?_⟩))) (fun ⟨x66, x67, x68⟩ h69 => ?_)
         refine go Tryz.tbs_ok 1000 ?_
         refine ev_if_no rfl ?_
         refine go Tryz.tbs_ok 1000 ?_
         refine ev_callF (TA (x67) (x68) (A63) (c64)) [] [.inr 8, .inr 6] rfl rfl (by decide) rfl (by simp) (fun _ => (by repeat (first | exact trivial | refine ⟨rfl, ?_⟩))) (fun _ h70 => ?_)
         refine go Tryz.tbs_ok 1000 ?_
         refine ev_if_no rfl ?_
         refine go Tryz.tbs_ok 1000 ?_
         refine ev_callF (TS (x66)) [2, 7] [.inl 0] rfl rfl (by decide) rfl (by simp) (fun _ => (by repeat (first | exact trivial | refine ⟨rfl, ?_⟩))) (fun _ h71 => ?_)
         refine go Tryz.tbs_ok 1000 ?_
         refine ev_callF (TS (p)) [1, 7] [.inl 0] rfl rfl (by decide) rfl (by simp) (fun _ => (by repeat (first | exact trivial | refine ⟨rfl, ?_⟩))) (fun _ h72 => ?_)
         refine go Tryz.tbs_ok 1000 ?_
         refine ev_if_no (ne_no (show (↑(segsW W1 D1) : Int) = (↑(segsW W1 D1) : Int) from (by omega))) ?_
         refine go Tryz.tbs_ok 1000 ?_
         refine ev_callF (TZ (x66)) [2, 7] [.inl 0] rfl rfl (by decide) rfl (by simp) (fun _ => (by repeat (first | exact trivial | refine ⟨rfl, ?_⟩))) (fun _ h73 => ?_)
         refine go Tryz.tbs_ok 1000 ?_
         refine ev_callF (TZ (p)) [1, 7] [.inl 0] rfl rfl (by decide) rfl (by simp) (fun _ => (by repeat (first | exact trivial | refine ⟨rfl, ?_⟩))) (fun _ h74 => ?_)
         refine go Tryz.tbs_ok 1000 ?_
         refine ev_if_no (ne_no (show (↑(sizeOfW W1 D1) : Int) = (↑(sizeOfW W1 D1) : Int) from (by omega))) ?_
         refine go Tryz.tbs_ok 1000 ?_
         refine ev_wrapN (i + 1) (by constructor <;> omega) (by rfl) ?_
         refine ev_move 0 6 (by decide) rfl rfl (by repeat (first | exact trivial | refine ⟨rfl, ?_⟩)) ?_
         refine ev_move 1 2 (by decide) rfl rfl (by repeat (first | exact trivial | refine ⟨rfl, ?_⟩)) ?_
         refine ev_moveD 2 7 (by decide) rfl rfl (by repeat (first | exact trivial | refine ⟨rfl, ?_⟩)) ?_
         refine ev_fin (round_next ((i + 1, A63, x.L.length, c64, x66, W1, D1, x.L)) (show i + 1 ≤ n ∧ Logs W1 D1 x.L 0 ∧ D1.fails = none ∧ x.L.length = x.L.length ∧ x.L.length ≤ (i + 1) * 50 ∧ x.L.length ≤ c64 from (by (refine ⟨?_, ?_, ?_, ?_⟩ <;> first | assumption | omega | (simp only [List.length_set, List.length_append, List.length_cons, List.length_nil] <;> omega) | rfl))) (show n - (i + 1) < n - i from (by omega)) ⟨⟨by kernel_rfl, by kernel_rfl⟩, ⟨_, rfl⟩, ⟨_, rfl⟩, by kernel_rfl, by kernel_rfl⟩)
       · refine go Tryz.tbs_ok 1000 ?_
         refine ev_new fun b60 => ?_
         refine ev_if_yes (beq_iff_eq.2 (show x.k.tmod 10 = 5 from (by omega))) ?_
         refine go Tryz.tbs_ok 1000 ?_
         refine ev_callF (T ) [1, 2] [.inl 0, .inl 3] rfl rfl (by decide) rfl (by simp) (fun _ => (by repeat (first | exact trivial | refine ⟨rfl, ?_⟩))) (fun _ h61 => ?_)
         refine go Tryz.tbs_ok 1000 ?_
         refine ev_if_yes rfl ?_
         refine go Tryz.tbs_ok 1000 ?_
         refine ev_new fun b62 => ?_
         refine ev_stop (go_appendE (sz := 1) (M := [_]) (enc := encS) Tryz.tbs_ok [5] [some b62] (.inl 3) ([]) (x.L) (x.L) (x.L.length) rfl rfl rfl rfl rfl rfl rfl (by decide) rfl (by decide) (fun _ p => Pt.row (starH_one.1 p) rfl (by decide)) rfl (fun _ h => h) (by first | rfl | simp) (by first | rfl | omega) (le_app (s := x.L.length) (by omega) (by first | rfl | omega)) (le_appb (s := x.L.length) (by omega) (by first | rfl | omega) (by decide)) (fun _ _ => (by repeat (first | exact trivial | refine ⟨rfl, ?_⟩))) (fun A63 c64 h65 => ?_))
         refine go Tryz.tbs_ok 1000 ?_
         refine ev_if_no rfl ?_
         refine go Tryz.tbs_ok 1000 ?_
         refine ev_if_no (beq_eq_false_iff_ne.2 (show ¬x.k.tmod 3 = 0 from (by omega))) ?_
         refine go Tryz.tbs_ok 1000 ?_
         refine ev_wrapN (i + 1) (by constructor <;> omega) (by rfl) ?_
         refine ev_move 0 6 (by decide) rfl rfl (by repeat (first | exact trivial | refine ⟨rfl, ?_⟩)) ?_
         refine ev_fin (round_next ((i + 1, A63, x.L.length, c64, p, W1, D1, x.L)) (show i + 1 ≤ n ∧ Logs W1 D1 x.L 0 ∧ D1.fails = none ∧ x.L.length = x.L.length ∧ x.L.length ≤ (i + 1) * 50 ∧ x.L.length ≤ c64 from (by (refine ⟨?_, ?_, ?_, ?_⟩ <;> first | assumption | omega | (simp only [List.length_set, List.length_append, List.length_cons, List.length_nil] <;> omega) | rfl))) (show n - (i + 1) < n - i from (by omega)) ⟨⟨by kernel_rfl, by kernel_rfl⟩, ⟨_, rfl⟩, ⟨_, rfl⟩, by kernel_rfl, by kernel_rfl⟩)
     · subst h2 h3
       have g1 := hK
       have TO := openLit x3 hokD g1.self
       have TS := fun p => segsWT p x3 W1 D1 hokD hokW
       have TZ := fun p => sizeWT p x3 W1 D1 hokD hokW ht
       have TA := fun A c => same2 A H hv hv.length c nh ch rfl hlen (by omega)
       rcases show e = 3 ∨ e = 40 from h1.imp And.left id with rfl | rfl
       · by_cases hk3' : x.k % 3 = 0
         · refine go Tryz.tbs_ok 1000 ?_
           refine ev_new fun b60 => ?_
           refine ev_if_yes (beq_iff_eq.2 (show x.k.tmod 10 = 5 from (by omega))) ?_
           refine go Tryz.tbs_ok 1000 ?_
           refine ev_callF (T ) [1, 2] [.inl 0, .inl 3] rfl rfl (by decide) rfl (by simp) (fun _ => (by repeat (first | exact trivial | refine ⟨rfl, ?_⟩))) (fun _ h61 => ?_)
           refine go Tryz.tbs_ok 1000 ?_
           refine ev_if_no rfl ?_
           refine go Tryz.tbs_ok 1000 ?_
           refine ev_if_yes rfl ?_
           refine go Tryz.tbs_ok 1000 ?_
           refine ev_if_no rfl ?_
           refine go Tryz.tbs_ok 1000 ?_
           refine ev_if_yes (beq_iff_eq.2 (show x.k.tmod 3 = 0 from (by omega))) ?_
           refine go Tryz.tbs_ok 1000 ?_
           refine ev_callF (TO ) [2] [.inl 0] rfl rfl (by decide) rfl (by simp) (fun _ => (by repeat (first | exact trivial | refine ⟨rfl, ?_⟩))) (fun ⟨x62, x63, x64⟩ h65 => ?_)
           refine go Tryz.tbs_ok 1000 ?_
           refine ev_if_no rfl ?_
           refine go Tryz.tbs_ok 1000 ?_
           refine ev_callF (TA (x63) (x64)) [] [.inr 6, .inr 0] rfl rfl (by decide) rfl (by simp) (fun _ => (by repeat (first | exact trivial | refine ⟨rfl, ?_⟩))) (fun _ h66 => ?_)
           refine go Tryz.tbs_ok 1000 ?_
           refine ev_if_no rfl ?_
           refine go Tryz.tbs_ok 1000 ?_
           refine ev_callF (TS (x62)) [2, 5] [.inl 0] rfl rfl (by decide) rfl (by simp) (fun _ => (by repeat (first | exact trivial | refine ⟨rfl, ?_⟩))) (fun _ h67 => ?_)
           refine go Tryz.tbs_ok 1000 ?_
           refine ev_callF (TS (p)) [1, 5] [.inl 0] rfl rfl (by decide) rfl (by simp) (fun _ => (by repeat (first | exact trivial | refine ⟨rfl, ?_⟩))) (fun _ h68 => ?_)
           refine go Tryz.tbs_ok 1000 ?_
           refine ev_if_no (ne_no (show (↑(segsW W1 D1) : Int) = (↑(segsW W1 D1) : Int) from (by omega))) ?_
           refine go Tryz.tbs_ok 1000 ?_
           refine ev_callF (TZ (x62)) [2, 5] [.inl 0] rfl rfl (by decide) rfl (by simp) (fun _ => (by repeat (first | exact trivial | refine ⟨rfl, ?_⟩))) (fun _ h69 => ?_)
           refine go Tryz.tbs_ok 1000 ?_
           refine ev_callF (TZ (p)) [1, 5] [.inl 0] rfl rfl (by decide) rfl (by simp) (fun _ => (by repeat (first | exact trivial | refine ⟨rfl, ?_⟩))) (fun _ h70 => ?_)
           refine go Tryz.tbs_ok 1000 ?_
           refine ev_if_no (ne_no (show (↑(sizeOfW W1 D1) : Int) = (↑(sizeOfW W1 D1) : Int) from (by omega))) ?_
           refine go Tryz.tbs_ok 1000 ?_
           refine ev_wrapN (i + 1) (by constructor <;> omega) (by rfl) ?_
           refine ev_move 1 2 (by decide) rfl rfl (by repeat (first | exact trivial | refine ⟨rfl, ?_⟩)) ?_
           refine ev_moveD 2 5 (by decide) rfl rfl (by repeat (first | exact trivial | refine ⟨rfl, ?_⟩)) ?_
           refine ev_fin (round_next ((i + 1, H, nh, ch, x62, W1, D1, hv)) (show i + 1 ≤ n ∧ Logs W1 D1 hv 0 ∧ D1.fails = none ∧ nh = hv.length ∧ nh ≤ (i + 1) * 50 ∧ nh ≤ ch from (by (refine ⟨?_, ?_, ?_, ?_⟩ <;> first | assumption | omega | (simp only [List.length_set, List.length_append, List.length_cons, List.length_nil] <;> omega) | rfl))) (show n - (i + 1) < n - i from (by omega)) ⟨⟨by kernel_rfl, by kernel_rfl⟩, ⟨_, rfl⟩, ⟨_, rfl⟩, by kernel_rfl, by kernel_rfl⟩)
         · refine go Tryz.tbs_ok 1000 ?_
           refine ev_new fun b60 => ?_
           refine ev_if_yes (beq_iff_eq.2 (show x.k.tmod 10 = 5 from (by omega))) ?_
           refine go Tryz.tbs_ok 1000 ?_
           refine ev_callF (T ) [1, 2] [.inl 0, .inl 3] rfl rfl (by decide) rfl (by simp) (fun _ => (by repeat (first | exact trivial | refine ⟨rfl, ?_⟩))) (fun _ h61 => ?_)
           refine go Tryz.tbs_ok 1000 ?_
           refine ev_if_no rfl ?_
           refine go Tryz.tbs_ok 1000 ?_
           refine ev_if_yes rfl ?_
           refine go Tryz.tbs_ok 1000 ?_
           refine ev_if_no rfl ?_
           refine go Tryz.tbs_ok 1000 ?_
           refine ev_if_no (beq_eq_false_iff_ne.2 (show ¬x.k.tmod 3 = 0 from (by omega))) ?_
           refine go Tryz.tbs_ok 1000 ?_
           refine ev_wrapN (i + 1) (by constructor <;> omega) (by rfl) ?_
           refine ev_fin (round_next ((i + 1, H, nh, ch, p, W1, D1, hv)) (show i + 1 ≤ n ∧ Logs W1 D1 hv 0 ∧ D1.fails = none ∧ nh = hv.length ∧ nh ≤ (i + 1) * 50 ∧ nh ≤ ch from (by (refine ⟨?_, ?_, ?_, ?_⟩ <;> first | assumption | omega | (simp only [List.length_set, List.length_append, List.length_cons, List.length_nil] <;> omega) | rfl))) (show n - (i + 1) < n - i from (by omega)) ⟨⟨by kernel_rfl, by kernel_rfl⟩, ⟨_, rfl⟩, ⟨_, rfl⟩, by kernel_rfl, by kernel_rfl⟩)
       · by_cases hk3' : x.k % 3 = 0
         · refine go Tryz.tbs_ok 1000 ?_
           refine ev_new fun b60 => ?_
           refine ev_if_yes (beq_iff_eq.2 (show x.k.tmod 10 = 5 from (by omega))) ?_
           refine go Tryz.tbs_ok 1000 ?_
           refine ev_callF (T ) [1, 2] [.inl 0, .inl 3] rfl rfl (by decide) rfl (by simp) (fun _ => (by repeat (first | exact trivial | refine ⟨rfl, ?_⟩))) (fun _ h61 => ?_)
           refine go Tryz.tbs_ok 1000 ?_
           refine ev_if_no rfl ?_
           refine go Tryz.tbs_ok 1000 ?_
           refine ev_if_yes rfl ?_
           refine go Tryz.tbs_ok 1000 ?_
           refine ev_if_yes rfl ?_
           refine go Tryz.tbs_ok 1000 ?_
           refine ev_if_no rfl ?_
           refine go Tryz.tbs_ok 1000 ?_
           refine ev_if_yes (beq_iff_eq.2 (show x.k.tmod 3 = 0 from (by omega))) ?_
           refine go Tryz.tbs_ok 1000 ?_
           refine ev_callF (TO ) [2] [.inl 0] rfl rfl (by decide) rfl (by simp) (fun _ => (by repeat (first | exact trivial | refine ⟨rfl, ?_⟩))) (fun ⟨x62, x63, x64⟩ h65 => ?_)
           refine go Tryz.tbs_ok 1000 ?_
           refine ev_if_no rfl ?_
           refine go Tryz.tbs_ok 1000 ?_
           refine ev_callF (TA (x63) (x64)) [] [.inr 6, .inr 0] rfl rfl (by decide) rfl (by simp) (fun _ => (by repeat (first | exact trivial | refine ⟨rfl, ?_⟩))) (fun _ h66 => ?_)
           refine go Tryz.tbs_ok 1000 ?_
           refine ev_if_no rfl ?_
           refine go Tryz.tbs_ok 1000 ?_
           refine ev_callF (TS (x62)) [2, 5] [.inl 0] rfl rfl (by decide) rfl (by simp) (fun _ => (by repeat (first | exact trivial | refine ⟨rfl, ?_⟩))) (fun _ h67 => ?_)
           refine go Tryz.tbs_ok 1000 ?_
           refine ev_callF (TS (p)) [1, 5] [.inl 0] rfl rfl (by decide) rfl (by simp) (fun _ => (by repeat (first | exact trivial | refine ⟨rfl, ?_⟩))) (fun _ h68 => ?_)
           refine go Tryz.tbs_ok 1000 ?_
           refine ev_if_no (ne_no (show (↑(segsW W1 D1) : Int) = (↑(segsW W1 D1) : Int) from (by omega))) ?_
           refine go Tryz.tbs_ok 1000 ?_
           refine ev_callF (TZ (x62)) [2, 5] [.inl 0] rfl rfl (by decide) rfl (by simp) (fun _ => (by repeat (first | exact trivial | refine ⟨rfl, ?_⟩))) (fun _ h69 => ?_)
           refine go Tryz.tbs_ok 1000 ?_
           refine ev_callF (TZ (p)) [1, 5] [.inl 0] rfl rfl (by decide) rfl (by simp) (fun _ => (by repeat (first | exact trivial | refine ⟨rfl, ?_⟩))) (fun _ h70 => ?_)
           refine go Tryz.tbs_ok 1000 ?_
           refine ev_if_no (ne_no (show (↑(sizeOfW W1 D1) : Int) = (↑(sizeOfW W1 D1) : Int) from (by omega))) ?_
           refine go Tryz.tbs_ok 1000 ?_
           refine ev_wrapN (i + 1) (by constructor <;> omega) (by rfl) ?_
           refine ev_move 1 2 (by decide) rfl rfl (by repeat (first | exact trivial | refine ⟨rfl, ?_⟩)) ?_
           refine ev_moveD 2 5 (by decide) rfl rfl (by repeat (first | exact trivial | refine ⟨rfl, ?_⟩)) ?_
           refine ev_fin (round_next ((i + 1, H, nh, ch, x62, W1, D1, hv)) (show i + 1 ≤ n ∧ Logs W1 D1 hv 0 ∧ D1.fails = none ∧ nh = hv.length ∧ nh ≤ (i + 1) * 50 ∧ nh ≤ ch from (by (refine ⟨?_, ?_, ?_, ?_⟩ <;> first | assumption | omega | (simp only [List.length_set, List.length_append, List.length_cons, List.length_nil] <;> omega) | rfl))) (show n - (i + 1) < n - i from (by omega)) ⟨⟨by kernel_rfl, by kernel_rfl⟩, ⟨_, rfl⟩, ⟨_, rfl⟩, by kernel_rfl, by kernel_rfl⟩)
         · refine go Tryz.tbs_ok 1000 ?_
           refine ev_new fun b60 => ?_
           refine ev_if_yes (beq_iff_eq.2 (show x.k.tmod 10 = 5 from (by omega))) ?_
           refine go Tryz.tbs_ok 1000 ?_
           refine ev_callF (T ) [1, 2] [.inl 0, .inl 3] rfl rfl (by decide) rfl (by simp) (fun _ => (by repeat (first | exact trivial | refine ⟨rfl, ?_⟩))) (fun _ h61 => ?_)
           refine go Tryz.tbs_ok 1000 ?_
           refine ev_if_no rfl ?_
           refine go Tryz.tbs_ok 1000 ?_
           refine ev_if_yes rfl ?_
           refine go Tryz.tbs_ok 1000 ?_
           refine ev_if_yes rfl ?_
           refine go Tryz.tbs_ok 1000 ?_
           refine ev_if_no rfl ?_
           refine go Tryz.tbs_ok 1000 ?_
           refine ev_if_no (beq_eq_false_iff_ne.2 (show ¬x.k.tmod 3 = 0 from (by omega))) ?_
           refine go Tryz.tbs_ok 1000 ?_
           refine ev_wrapN (i + 1) (by constructor <;> omega) (by rfl) ?_
           refine ev_fin (round_next ((i + 1, H, nh, ch, p, W1, D1, hv)) (show i + 1 ≤ n ∧ Logs W1 D1 hv 0 ∧ D1.fails = none ∧ nh = hv.length ∧ nh ≤ (i + 1) * 50 ∧ nh ≤ ch from (by (refine ⟨?_, ?_, ?_, ?_⟩ <;> first | assumption | omega | (simp only [List.length_set, List.length_append, List.length_cons, List.length_nil] <;> omega) | rfl))) (show n - (i + 1) < n - i from (by omega)) ⟨⟨by kernel_rfl, by kernel_rfl⟩, ⟨_, rfl⟩, ⟨_, rfl⟩, by kernel_rfl, by kernel_rfl⟩)
     · exact absurd hf h1
   · obtain ⟨W1, hW1⟩ : ∃ W1, W1 = (appW W D x.L).1 := ⟨_, rfl⟩
     obtain ⟨D1, hD1⟩ : ∃ D1, D1 = (appW W D x.L).2.1 := ⟨_, rfl⟩
     obtain ⟨e, hee⟩ : ∃ e, e = (appW W D x.L).2.2 := ⟨_, rfl⟩
     have he : appW W D x.L = (W1, D1, e) := Prod.ext hW1.symm (Prod.ext hD1.symm hee.symm)
     have T := appWT p x3 W D x.A x.L x.L.length x.c rfl (by omega) (fun p q => Nat.le_trans (hbx.p p q) (by decide)) hokD hokW
     rw [he] at T
     dsimp only at T
     have hout := hK.app x.L
     rw [he] at hout
     dsimp only at hout
     rcases hout with ⟨h1, _, h3, h4⟩ | ⟨h1, h2, h3, _, h4⟩ | ⟨h1, _⟩
     · subst h1
       have g1 := h3
       have g2 := h4 hf
       have hll : (hv ++ x.L).length = nh + x.L.length := by rw [List.length_append, hlen]
       by_cases hk3' : x.k % 3 = 0
       · have TO := openLit x3 g1.okk.1 g1.self
         rw [hll] at TO
         have TS := fun p => segsWT p x3 W1 D1 g1.okk.1 g1.okk.2.1
         have TZ := fun p => sizeWT p x3 W1 D1 g1.okk.1 g1.okk.2.1 g1.okk.2.2
         have TA := fun A c H c' => same2 A H (hv ++ x.L) (nh + x.L.length) c (nh + x.L.length) c' hll.symm hll.symm (by omega)
         refine go Tryz.tbs_ok 1000 ?_
         refine ev_new fun b60 => ?_
         refine ev_if_no (beq_eq_false_iff_ne.2 (show ¬x.k.tmod 10 = 5 from (by omega))) ?_
         refine go Tryz.tbs_ok 1000 ?_
         refine ev_callF (T ) [1, 2] [.inl 0, .inl 3] rfl rfl (by decide) rfl (by simp) (fun _ => (by repeat (first | exact trivial | refine ⟨rfl, ?_⟩))) (fun _ h61 => ?_)
         refine go Tryz.tbs_ok 1000 ?_
         refine ev_if_yes rfl ?_
         refine go Tryz.tbs_ok 1000 ?_
         refine ev_stop (go_draw Tryz.tbs_ok false [4] [(1,true),(3,true),(4,true),(0,false),(2,false),(5,false),(6,false)] rfl ?_)
         refine go Tryz.tbs_ok 1000 ?_
         refine ev_need ⟨⟨(by repeat (first | exact trivial | refine ⟨rfl, ?_⟩)), rfl⟩, by kernel_rfl⟩ ?_
         refine ev_new fun b62 => ?_
         refine ev_need ⟨⟨(by repeat (first | exact trivial | refine ⟨rfl, ?_⟩)), rfl⟩, by kernel_rfl⟩ ?_
         refine ev_stop (go_appendE (sz := 1) (M := [_]) (enc := encS) Tryz.tbs_ok [5] [some b62] (.inr 0) ([]) (hv) (hv) (nh) rfl rfl rfl rfl rfl rfl rfl (by decide) rfl (by decide) (fun _ p => Pt.row (starH_one.1 p) rfl (by decide)) rfl (fun _ h => Row.rd h) (by first | rfl | simp) (by first | rfl | omega) (le_app (s := nh) (by omega) (by first | rfl | omega)) (le_appb (s := nh) (by omega) (by first | rfl | omega) (by decide)) (fun _ _ => (by repeat (first | exact trivial | refine ⟨rfl, ?_⟩))) (fun A63 c64 h65 => ?_))
         refine go Tryz.tbs_ok 1000 ?_
         refine ev_need ⟨⟨(by repeat (first | exact trivial | refine ⟨rfl, ?_⟩)), rfl⟩, by kernel_rfl⟩ ?_
         refine ev_stop (go_appendE (sz := 1) (M := [_]) (enc := encS) Tryz.tbs_ok [6] [] (.inl 3) (hv) (x.L) ((hv) ++ (x.L)) (nh + x.L.length) rfl rfl rfl rfl rfl rfl rfl (by decide) rfl (by decide) (fun _ p => starH_one.1 p) rfl (fun _ h => h) (by first | rfl | simp) (by first | rfl | omega) (le_app (s := nh + x.L.length) (by omega) (by first | rfl | omega)) (le_appb (s := nh + x.L.length) (by omega) (by first | rfl | omega) (by decide)) (fun _ _ => (by repeat (first | exact trivial | refine ⟨rfl, ?_⟩))) (fun A66 c67 h68 => ?_))
         refine go Tryz.tbs_ok 1000 ?_
         refine ev_need ⟨⟨(by repeat (first | exact trivial | refine ⟨rfl, ?_⟩)), rfl⟩, by kernel_rfl⟩ ?_
         refine ev_need (by kernel_rfl) ?_
         refine ev_if_no rfl ?_
         refine go Tryz.tbs_ok 1000 ?_
         refine ev_if_yes (beq_iff_eq.2 (show x.k.tmod 3 = 0 from (by omega))) ?_
         refine go Tryz.tbs_ok 1000 ?_
         refine ev_callF (TO ) [2] [.inl 0] rfl rfl (by decide) rfl (by simp) (fun _ => (by repeat (first | exact trivial | refine ⟨rfl, ?_⟩))) (fun ⟨x69, x70, x71⟩ h72 => ?_)
         refine go Tryz.tbs_ok 1000 ?_
         refine ev_if_no rfl ?_
         refine go Tryz.tbs_ok 1000 ?_
         refine ev_callF (TA (x70) (x71) (A66) (c67)) [] [.inr 8, .inr 6] rfl rfl (by decide) rfl (by simp) (fun _ => (by repeat (first | exact trivial | refine ⟨rfl, ?_⟩))) (fun _ h73 => ?_)
         refine go Tryz.tbs_ok 1000 ?_
         refine ev_if_no rfl ?_
         refine go Tryz.tbs_ok 1000 ?_
         refine ev_callF (TS (x69)) [2, 7] [.inl 0] rfl rfl (by decide) rfl (by simp) (fun _ => (by repeat (first | exact trivial | refine ⟨rfl, ?_⟩))) (fun _ h74 => ?_)
         refine go Tryz.tbs_ok 1000 ?_
         refine ev_callF (TS (p)) [1, 7] [.inl 0] rfl rfl (by decide) rfl (by simp) (fun _ => (by repeat (first | exact trivial | refine ⟨rfl, ?_⟩))) (fun _ h75 => ?_)
         refine go Tryz.tbs_ok 1000 ?_
         refine ev_if_no (ne_no (show (↑(segsW W1 D1) : Int) = (↑(segsW W1 D1) : Int) from (by omega))) ?_
         refine go Tryz.tbs_ok 1000 ?_
         refine ev_callF (TZ (x69)) [2, 7] [.inl 0] rfl rfl (by decide) rfl (by simp) (fun _ => (by repeat (first | exact trivial | refine ⟨rfl, ?_⟩))) (fun _ h76 => ?_)
         refine go Tryz.tbs_ok 1000 ?_
         refine ev_callF (TZ (p)) [1, 7] [.inl 0] rfl rfl (by decide) rfl (by simp) (fun _ => (by repeat (first | exact trivial | refine ⟨rfl, ?_⟩))) (fun _ h77 => ?_)
         refine go Tryz.tbs_ok 1000 ?_
         refine ev_if_no (ne_no (show (↑(sizeOfW W1 D1) : Int) = (↑(sizeOfW W1 D1) : Int) from (by omega))) ?_
         refine go Tryz.tbs_ok 1000 ?_
         refine ev_wrapN (i + 1) (by constructor <;> omega) (by rfl) ?_
         refine ev_move 0 6 (by decide) rfl rfl (by repeat (first | exact trivial | refine ⟨rfl, ?_⟩)) ?_
         refine ev_move 1 2 (by decide) rfl rfl (by repeat (first | exact trivial | refine ⟨rfl, ?_⟩)) ?_
         refine ev_moveD 2 7 (by decide) rfl rfl (by repeat (first | exact trivial | refine ⟨rfl, ?_⟩)) ?_
         refine ev_fin (round_next ((i + 1, A66, nh + x.L.length, c67, x69, W1, D1, hv ++ x.L)) (show i + 1 ≤ n ∧ Logs W1 D1 (hv ++ x.L) 0 ∧ D1.fails = none ∧ nh + x.L.length = (hv ++ x.L).length ∧ nh + x.L.length ≤ (i + 1) * 50 ∧ nh + x.L.length ≤ c67 from (by (refine ⟨?_, ?_, ?_, ?_⟩ <;> first | assumption | omega | (simp only [List.length_set, List.length_append, List.length_cons, List.length_nil] <;> omega) | rfl))) (show n - (i + 1) < n - i from (by omega)) ⟨⟨by kernel_rfl, by kernel_rfl⟩, ⟨_, rfl⟩, ⟨_, rfl⟩, by kernel_rfl, by kernel_rfl⟩)
       · refine go Tryz.tbs_ok 1000 ?_
         refine ev_new fun b60 => ?_
         refine ev_if_no (beq_eq_false_iff_ne.2 (show ¬x.k.tmod 10 = 5 from (by omega))) ?_
         refine go Tryz.tbs_ok 1000 ?_
         refine ev_callF (T ) [1, 2] [.inl 0, .inl 3] rfl rfl (by decide) rfl (by simp) (fun _ => (by repeat (first | exact trivial | refine ⟨rfl, ?_⟩))) (fun _ h61 => ?_)
         refine go Tryz.tbs_ok 1000 ?_
         refine ev_if_yes rfl ?_
         refine go Tryz.tbs_ok 1000 ?_
         refine ev_stop (go_draw Tryz.tbs_ok false [4] [(1,true),(3,true),(4,true),(0,false),(2,false),(5,false),(6,false)] rfl ?_)
         refine go Tryz.tbs_ok 1000 ?_
         refine ev_need ⟨⟨(by repeat (first | exact trivial | refine ⟨rfl, ?_⟩)), rfl⟩, by kernel_rfl⟩ ?_
         refine ev_new fun b62 => ?_
         refine ev_need ⟨⟨(by repeat (first | exact trivial | refine ⟨rfl, ?_⟩)), rfl⟩, by kernel_rfl⟩ ?_
         refine ev_stop (go_appendE (sz := 1) (M := [_]) (enc := encS) Tryz.tbs_ok [5] [some b62] (.inr 0) ([]) (hv) (hv) (nh) rfl rfl rfl rfl rfl rfl rfl (by decide) rfl (by decide) (fun _ p => Pt.row (starH_one.1 p) rfl (by decide)) rfl (fun _ h => Row.rd h) (by first | rfl | simp) (by first | rfl | omega) (le_app (s := nh) (by omega) (by first | rfl | omega)) (le_appb (s := nh) (by omega) (by first | rfl | omega) (by decide)) (fun _ _ => (by repeat (first | exact trivial | refine ⟨rfl, ?_⟩))) (fun A63 c64 h65 => ?_))
         refine go Tryz.tbs_ok 1000 ?_
         refine ev_need ⟨⟨(by repeat (first | exact trivial | refine ⟨rfl, ?_⟩)), rfl⟩, by kernel_rfl⟩ ?_
         refine ev_stop (go_appendE (sz := 1) (M := [_]) (enc := encS) Tryz.tbs_ok [6] [] (.inl 3) (hv) (x.L) ((hv) ++ (x.L)) (nh + x.L.length) rfl rfl rfl rfl rfl rfl rfl (by decide) rfl (by decide) (fun _ p => starH_one.1 p) rfl (fun _ h => h) (by first | rfl | simp) (by first | rfl | omega) (le_app (s := nh + x.L.length) (by omega) (by first | rfl | omega)) (le_appb (s := nh + x.L.length) (by omega) (by first | rfl | omega) (by decide)) (fun _ _ => (by repeat (first | exact trivial | refine ⟨rfl, ?_⟩))) (fun A66 c67 h68 => ?_))
         refine go Tryz.tbs_ok 1000 ?_
         refine ev_need ⟨⟨(by repeat (first | exact trivial | refine ⟨rfl, ?_⟩)), rfl⟩, by kernel_rfl⟩ ?_
         refine ev_need (by kernel_rfl) ?_
         refine ev_if_no rfl ?_
         refine go Tryz.tbs_ok 1000 ?_
         refine ev_if_no (beq_eq_false_iff_ne.2 (show ¬x.k.tmod 3 = 0 from (by omega))) ?_
         refine go Tryz.tbs_ok 1000 ?_
         refine ev_wrapN (i + 1) (by constructor <;> omega) (by rfl) ?_
         refine ev_move 0 6 (by decide) rfl rfl (by repeat (first | exact trivial | refine ⟨rfl, ?_⟩)) ?_
         refine ev_fin (round_next ((i + 1, A66, nh + x.L.length, c67, p, W1, D1, hv ++ x.L)) (show i + 1 ≤ n ∧ Logs W1 D1 (hv ++ x.L) 0 ∧ D1.fails = none ∧ nh + x.L.length = (hv ++ x.L).length ∧ nh + x.L.length ≤ (i + 1) * 50 ∧ nh + x.L.length ≤ c67 from (by (refine ⟨?_, ?_, ?_, ?_⟩ <;> first | assumption | omega | (simp only [List.length_set, List.length_append, List.length_cons, List.length_nil] <;> omega) | rfl))) (show n - (i + 1) < n - i from (by omega)) ⟨⟨by kernel_rfl, by kernel_rfl⟩, ⟨_, rfl⟩, ⟨_, rfl⟩, by kernel_rfl, by kernel_rfl⟩)
     · subst h2
       have g1 := h3
       have g2 := h4 hf
       have TO := openLit x3 g1.okk.1 g1.self
       have TS := fun p => segsWT p x3 W1 D1 g1.okk.1 g1.okk.2.1
       have TZ := fun p => sizeWT p x3 W1 D1 g1.okk.1 g1.okk.2.1 g1.okk.2.2
       have TA := fun A c => same2 A H hv hv.length c nh ch rfl hlen (by omega)
       rcases show e = 3 ∨ e = 40 from h1.imp And.left id with rfl | rfl
       · by_cases hk3' : x.k % 3 = 0
         · refine go Tryz.tbs_ok 1000 ?_
           refine ev_new fun b60 => ?_
           refine ev_if_no (beq_eq_false_iff_ne.2 (show ¬x.k.tmod 10 = 5 from (by omega))) ?_
           refine go Tryz.tbs_ok 1000 ?_
           refine ev_callF (T ) [1, 2] [.inl 0, .inl 3] rfl rfl (by decide) rfl (by simp) (fun _ => (by repeat (first | exact trivial | refine ⟨rfl, ?_⟩))) (fun _ h61 => ?_)
           refine go Tryz.tbs_ok 1000 ?_
           refine ev_if_no rfl ?_
           refine go Tryz.tbs_ok 1000 ?_
           refine ev_if_yes rfl ?_
           refine go Tryz.tbs_ok 1000 ?_
           refine ev_if_no rfl ?_
           refine go Tryz.tbs_ok 1000 ?_
           refine ev_if_yes (beq_iff_eq.2 (show x.k.tmod 3 = 0 from (by omega))) ?_
           refine go Tryz.tbs_ok 1000 ?_
           refine ev_callF (TO ) [2] [.inl 0] rfl rfl (by decide) rfl (by simp) (fun _ => (by repeat (first | exact trivial | refine ⟨rfl, ?_⟩))) (fun ⟨x62, x63, x64⟩ h65 => ?_)
           refine go Tryz.tbs_ok 1000 ?_
           refine ev_if_no rfl ?_
           refine go Tryz.tbs_ok 1000 ?_
           refine ev_callF (TA (x63) (x64)) [] [.inr 6, .inr 0] rfl rfl (by decide) rfl (by simp) (fun _ => (by repeat (first | exact trivial | refine ⟨rfl, ?_⟩))) (fun _ h66 => ?_)
           refine go Tryz.tbs_ok 1000 ?_
           refine ev_if_no rfl ?_
           refine go Tryz.tbs_ok 1000 ?_
           refine ev_callF (TS (x62)) [2, 5] [.inl 0] rfl rfl (by decide) rfl (by simp) (fun _ => (by repeat (first | exact trivial | refine ⟨rfl, ?_⟩))) (fun _ h67 => ?_)
           refine go Tryz.tbs_ok 1000 ?_
           refine ev_callF (TS (p)) [1, 5] [.inl 0] rfl rfl (by decide) rfl (by simp) (fun _ => (by repeat (first | exact trivial | refine ⟨rfl, ?_⟩))) (fun _ h68 => ?_)
           refine go Tryz.tbs_ok 1000 ?_
           refine ev_if_no (ne_no (show (↑(segsW W1 D1) : Int) = (↑(segsW W1 D1) : Int) from (by omega))) ?_
           refine go Tryz.tbs_ok 1000 ?_
           refine ev_callF (TZ (x62)) [2, 5] [.inl 0] rfl rfl (by decide) rfl (by simp) (fun _ => (by repeat (first | exact trivial | refine ⟨rfl, ?_⟩))) (fun _ h69 => ?_)
           refine go Tryz.tbs_ok 1000 ?_
           refine ev_callF (TZ (p)) [1, 5] [.inl 0] rfl rfl (by decide) rfl (by simp) (fun _ => (by repeat (first | exact trivial | refine ⟨rfl, ?_⟩))) (fun _ h70 => ?_)
           refine go Tryz.tbs_ok 1000 ?_
           refine ev_if_no (ne_no (show (↑(sizeOfW W1 D1) : Int) = (↑(sizeOfW W1 D1) : Int) from (by omega))) ?_
           refine go Tryz.tbs_ok 1000 ?_
           refine ev_wrapN (i + 1) (by constructor <;> omega) (by rfl) ?_
           refine ev_move 1 2 (by decide) rfl rfl (by repeat (first | exact trivial | refine ⟨rfl, ?_⟩)) ?_
           refine ev_moveD 2 5 (by decide) rfl rfl (by repeat (first | exact trivial | refine ⟨rfl, ?_⟩)) ?_
           refine ev_fin (round_next ((i + 1, H, nh, ch, x62, W1, D1, hv)) (show i + 1 ≤ n ∧ Logs W1 D1 hv 0 ∧ D1.fails = none ∧ nh = hv.length ∧ nh ≤ (i + 1) * 50 ∧ nh ≤ ch from (by (refine ⟨?_, ?_, ?_, ?_⟩ <;> first | assumption | omega | (simp only [List.length_set, List.length_append, List.length_cons, List.length_nil] <;> omega) | rfl))) (show n - (i + 1) < n - i from (by omega)) ⟨⟨by kernel_rfl, by kernel_rfl⟩, ⟨_, rfl⟩, ⟨_, rfl⟩, by kernel_rfl, by kernel_rfl⟩)
         · refine go Tryz.tbs_ok 1000 ?_
           refine ev_new fun b60 => ?_
           refine ev_if_no (beq_eq_false_iff_ne.2 (show ¬x.k.tmod 10 = 5 from (by omega))) ?_
           refine go Tryz.tbs_ok 1000 ?_
           refine ev_callF (T ) [1, 2] [.inl 0, .inl 3] rfl rfl (by decide) rfl (by simp) (fun _ => (by repeat (first | exact trivial | refine ⟨rfl, ?_⟩))) (fun _ h61 => ?_)
           refine go Tryz.tbs_ok 1000 ?_
           refine ev_if_no rfl ?_
           refine go Tryz.tbs_ok 1000 ?_
           refine ev_if_yes rfl ?_
           refine go Tryz.tbs_ok 1000 ?_
           refine ev_if_no rfl ?_
           refine go Tryz.tbs_ok 1000 ?_
           refine ev_if_no (beq_eq_false_iff_ne.2 (show ¬x.k.tmod 3 = 0 from (by omega))) ?_
           refine go Tryz.tbs_ok 1000 ?_
           refine ev_wrapN (i + 1) (by constructor <;> omega) (by rfl) ?_
           refine ev_fin (round_next ((i + 1, H, nh, ch, p, W1, D1, hv)) (show i + 1 ≤ n ∧ Logs W1 D1 hv 0 ∧ D1.fails = none ∧ nh = hv.length ∧ nh ≤ (i + 1) * 50 ∧ nh ≤ ch from (by (refine ⟨?_, ?_, ?_, ?_⟩ <;> first | assumption | omega | (simp only [List.length_set, List.length_append, List.length_cons, List.length_nil] <;> omega) | rfl))) (show n - (i + 1) < n - i from (by omega)) ⟨⟨by kernel_rfl, by kernel_rfl⟩, ⟨_, rfl⟩, ⟨_, rfl⟩, by kernel_rfl, by kernel_rfl⟩)
       · by_cases hk3' : x.k % 3 = 0
         · refine go Tryz.tbs_ok 1000 ?_
           refine ev_new fun b60 => ?_
           refine ev_if_no (beq_eq_false_iff_ne.2 (show ¬x.k.tmod 10 = 5 from (by omega))) ?_
           refine go Tryz.tbs_ok 1000 ?_
           refine ev_callF (T ) [1, 2] [.inl 0, .inl 3] rfl rfl (by decide) rfl (by simp) (fun _ => (by repeat (first | exact trivial | refine ⟨rfl, ?_⟩))) (fun _ h61 => ?_)
           refine go Tryz.tbs_ok 1000 ?_
           refine ev_if_no rfl ?_
           refine go Tryz.tbs_ok 1000 ?_
           refine ev_if_yes rfl ?_
           refine go Tryz.tbs_ok 1000 ?_
           refine ev_if_yes rfl ?_
           refine go Tryz.tbs_ok 1000 ?_
           refine ev_if_no rfl ?_
           refine go Tryz.tbs_ok 1000 ?_
           refine ev_if_yes (beq_iff_eq.2 (show x.k.tmod 3 = 0 from (by omega))) ?_
           refine go Tryz.tbs_ok 1000 ?_
           refine ev_callF (TO ) [2] [.inl 0] rfl rfl (by decide) rfl (by simp) (fun _ => (by repeat (first | exact trivial | refine ⟨rfl, ?_⟩))) (fun ⟨x62, x63, x64⟩ h65 => ?_)
           refine go Tryz.tbs_ok 1000 ?_
           refine ev_if_no rfl ?_
           refine go Tryz.tbs_ok 1000 ?_
           refine ev_callF (TA (x63) (x64)) [] [.inr 6, .inr 0] rfl rfl (by decide) rfl (by simp) (fun _ => (by repeat (first | exact trivial | refine ⟨rfl, ?_⟩))) (fun _ h66 => ?_)
           refine go Tryz.tbs_ok 1000 ?_
           refine ev_if_no rfl ?_
           refine go Tryz.tbs_ok 1000 ?_
           refine ev_callF (TS (x62)) [2, 5] [.inl 0] rfl rfl (by decide) rfl (by simp) (fun _ => (by repeat (first | exact trivial | refine ⟨rfl, ?_⟩))) (fun _ h67 => ?_)
           refine go Tryz.tbs_ok 1000 ?_
           refine ev_callF (TS (p)) [1, 5] [.inl 0] rfl rfl (by decide) rfl (by simp) (fun _ => (by repeat (first | exact trivial | refine ⟨rfl, ?_⟩))) (fun _ h68 => ?_)
           refine go Tryz.tbs_ok 1000 ?_
           refine ev_if_no (ne_no (show (↑(segsW W1 D1) : Int) = (↑(segsW W1 D1) : Int) from (by omega))) ?_
           refine go Tryz.tbs_ok 1000 ?_
           refine ev_callF (TZ (x62)) [2, 5] [.inl 0] rfl rfl (by decide) rfl (by simp) (fun _ => (by repeat (first | exact trivial | refine ⟨rfl, ?_⟩))) (fun _ h69 => ?_)
           refine go Tryz.tbs_ok 1000 ?_
           refine ev_callF (TZ (p)) [1, 5] [.inl 0] rfl rfl (by decide) rfl (by simp) (fun _ => (by repeat (first | exact trivial | refine ⟨rfl, ?_⟩))) (fun _ h70 => ?_)
           refine go Tryz.tbs_ok 1000 ?_
           refine ev_if_no (ne_no (show (↑(sizeOfW W1 D1) : Int) = (↑(sizeOfW W1 D1) : Int) from (by omega))) ?_
           refine go Tryz.tbs_ok 1000 ?_
           refine ev_wrapN (i + 1) (by constructor <;> omega) (by rfl) ?_
           refine ev_move 1 2 (by decide) rfl rfl (by repeat (first | exact trivial | refine ⟨rfl, ?_⟩)) ?_
           refine ev_moveD 2 5 (by decide) rfl rfl (by repeat (first | exact trivial | refine ⟨rfl, ?_⟩)) ?_
           refine ev_fin (round_next ((i + 1, H, nh, ch, x62, W1, D1, hv)) (show i + 1 ≤ n ∧ Logs W1 D1 hv 0 ∧ D1.fails = none ∧ nh = hv.length ∧ nh ≤ (i + 1) * 50 ∧ nh ≤ ch from (by (refine ⟨?_, ?_, ?_, ?_⟩ <;> first | assumption | omega | (simp only [List.length_set, List.length_append, List.length_cons, List.length_nil] <;> omega) | rfl))) (show n - (i + 1) < n - i from (by omega)) ⟨⟨by kernel_rfl, by kernel_rfl⟩, ⟨_, rfl⟩, ⟨_, rfl⟩, by kernel_rfl, by kernel_rfl⟩)
         · refine go Tryz.tbs_ok 1000 ?_
           refine ev_new fun b60 => ?_
           refine ev_if_no (beq_eq_false_iff_ne.2 (show ¬x.k.tmod 10 = 5 from (by omega))) ?_
           refine go Tryz.tbs_ok 1000 ?_
           refine ev_callF (T ) [1, 2] [.inl 0, .inl 3] rfl rfl (by decide) rfl (by simp) (fun _ => (by repeat (first | exact trivial | refine ⟨rfl, ?_⟩))) (fun _ h61 => ?_)
           refine go Tryz.tbs_ok 1000 ?_
           refine ev_if_no rfl ?_
           refine go Tryz.tbs_ok 1000 ?_
           refine ev_if_yes rfl ?_
           refine go Tryz.tbs_ok 1000 ?_
           refine ev_if_yes rfl ?_
           refine go Tryz.tbs_ok 1000 ?_
           refine ev_if_no rfl ?_
           refine go Tryz.tbs_ok 1000 ?_
           refine ev_if_no (beq_eq_false_iff_ne.2 (show ¬x.k.tmod 3 = 0 from (by omega))) ?_
           refine go Tryz.tbs_ok 1000 ?_
           refine ev_wrapN (i + 1) (by constructor <;> omega) (by rfl) ?_
           refine ev_fin (round_next ((i + 1, H, nh, ch, p, W1, D1, hv)) (show i + 1 ≤ n ∧ Logs W1 D1 hv 0 ∧ D1.fails = none ∧ nh = hv.length ∧ nh ≤ (i + 1) * 50 ∧ nh ≤ ch from (by (refine ⟨?_, ?_, ?_, ?_⟩ <;> first | assumption | omega | (simp only [List.length_set, List.length_append, List.length_cons, List.length_nil] <;> omega) | rfl))) (show n - (i + 1) < n - i from (by omega)) ⟨⟨by kernel_rfl, by kernel_rfl⟩, ⟨_, rfl⟩, ⟨_, rfl⟩, by kernel_rfl, by kernel_rfl⟩)
     · exact absurd hf h1
 · obtain rfl : i = n := by omega
   have TO := openLit x3 hokD hK.self
   have TA := fun A c => same2 A H hv hv.length c nh ch rfl hlen (by omega)
   refine go Tryz.tbs_ok 1000 ?_
   refine ev_if_no (decide_eq_false (show ¬(↑i : Int) < (↑i : Int) from (by omega))) ?_
   refine go Tryz.tbs_ok 1000 ?_
   refine ev_fin (go Tryz.tbs_ok 1000 ?_)
   refine ev_callF (TO ) [2] [.inl 0] rfl rfl (by decide) rfl (by simp) (fun _ => (by repeat (first | exact trivial | refine ⟨rfl, ?_⟩))) (fun ⟨x60, x61, x62⟩ h63 => ?_)
   refine go Tryz.tbs_ok 1000 ?_
   refine ev_if_yes rfl ?_
   refine go Tryz.tbs_ok 1000 ?_
   refine ev_callF (TA (x61) (x62)) [] [.inr 5, .inr 0] rfl rfl (by decide) rfl (by simp) (fun _ => (by repeat (first | exact trivial | refine ⟨rfl, ?_⟩))) (fun _ h64 => ?_)
   refine go Tryz.tbs_ok 1000 ?_
   refine ev_if_yes rfl ?_
   refine go Tryz.tbs_ok 1000 ?_
   refine ev_callF (TW ) [] [.inl 0] rfl rfl (by decide) rfl (by simp) (fun _ => (by repeat (first | exact trivial | refine ⟨rfl, ?_⟩))) (fun _ h65 => ?_)
   refine go Tryz.tbs_ok 1000 ?_
   refine ev_fin ⟨trivial, _, rfl, (()), rfl, (by trivial), Frm.nil _⟩
end Go.Proofs.YtjlfdfmkofbccaaGreatDoor
namespace Go.Proofs.YtjlfdfmkofbccaaGreatDoor
open Go.Sy Go.RowKit Go.ChangeShapes Go.WideShapes
set_option maxRecDepth 100000 in
theorem walBack_lifted (os : Os) (started : os.Started) (H : Type) (enc : TypeId × Value → H) :
 ReturnsInHanded {} Tryz.checked os 5 .any (fun w args => (Rows.walBackSpec.pre enc Tryz.prog Tryz.f5 Rows.walBackRow.domain Rows.walBackRow.apart w args ∧ laidMetH Tryz.prog Rows.walBackRow.laid w) ∧ sizedMet enc Tryz.prog Tryz.f5 (OpenSpec.ofChange Rows.walBackSpec) Rows.walBackRow.apart w args) (Rows.walBackSpec.post enc Tryz.prog Tryz.f5 Rows.walBackRow.apart Rows.walBackRow.fresh Rows.walBackRow.handsOn Rows.walBackRow.again) := by
 refine returnsInHanded_of_change_and (C := Tryz.checked) (X := fun w _ => laidMetH Tryz.prog Rows.walBackRow.laid w) (fun _ _ _ hh h => h.of_heap hh) Tryz.own started (by kernel_rfl) Tryz.func5
  (ChangeSpec.witness_shaped (enc := enc) (C := Tryz.checked) (os := os) (X := fun w _ => laidMetH Tryz.prog Rows.walBackRow.laid w) false (World.doorLaid Tryz.prog 400 os) #[.slice none 0 0] 8 rfl (World.shaped_of_RefB (by kernel_rfl) (by kernel_rfl)) (by kernel_rfl) (by kernel_rfl) (by kernel_rfl) (door_met os _)) ?_
 intro W base args ds gs before hval0 hW hcnd _ hL _
 have htab := tab_of hL
 have hval : ∀ (j : Nat) t v, Tryz.f5.params[j]? = some t → args[j]? = some v → Value.okWide Tryz.prog W .any base t v := hval0
 obtain ⟨p, q, hA0, hV, _, _, _⟩ := id hW
 have hA : DataW.TrodAll enc Tryz.prog W 0 (fun _ => true) true Tryz.f5.params.toList args.toList ds p := hA0
 clear hval0 hA0
 obtain ⟨rfl, _⟩ := trodVars_none hV
 have hpar : Tryz.f5.params = #[23] := by kernel_rfl
 rw [hpar] at hA hval
 obtain ⟨v0, d0, rfl, rfl, fuel0, hf0⟩ := trodAll_one hA
 obtain ⟨A0, n0, c0, rfl⟩ := okWide_slice (P := Tryz.prog) (t := 23) (e := 38) (by kernel_rfl) (hval 0 _ _ rfl rfl)
 obtain ⟨A0', n0', c0', l0, hl0, hln0, hc0, hm0, hr0, hg0⟩ := list_of_sees (F := 0 + 1 + 1 + 1) (t := 23) (el := 38) (enc := encW) (G := fun x => (x.rdL.holds (hp W) ∧ x.rdK.holds (hp W)) ∧ (0 ≤ x.k ∧ x.k < 256 ∧ x.z ≤ 9223372036854775807)) rfl rfl (by decide) encW_len (fun _ => rfl) (fun vs hl h => actW_dec hl h) (sees_of_trod Tryz.tbs_ok.tab 4 fuel0 _ _ _ hf0)
 cases hl0
 obtain ⟨ha0, hin0⟩ := actsW_in hg0
 refine (walBack A0 l0 n0 c0 hln0.symm (maxLen_le hc0 hm0) hin0 W Hp.emp (hp W) (Hp.emp_le _) (Hp.le_refl _) (Hp.emp_dis _) trivial (fun X hX => ?_)).mono fun e W' ⟨_, _, he, _, _, _, hext, _⟩ => ?_
 · simp only [List.mem_cons, List.not_mem_nil, or_false] at hX
   rcases hX with rfl | rfl | rfl
   · exact htab
   · exact hr0
   · exact ha0
 · exact ⟨.bool true, he, post_true Tryz.laidOut (by kernel_rfl) rfl (rt := 4) (by kernel_rfl) (by kernel_rfl) hW hext.below rfl rfl rfl⟩
theorem walBack_holds : Rows.WalBackSaid :=
 OpenClaim.holds_of_wide 5 Tryz.f5 rfl rfl rfl rfl rfl rfl rfl ⟨rfl, rfl, rfl, rfl, rfl⟩ rfl rfl rfl rfl rfl (by kernel_rfl) Tryz.func5 (by kernel_rfl)
  (of_decide_eq_true (by kernel_rfl)) (by unfold Func.isWrapper; rw [if_neg (by decide +kernel)]; exact ⟨rfl, rfl⟩)
  (fun os started H enc _ => walBack_lifted os started H enc)
set_option maxRecDepth 100000 in
theorem walBack_card : Rows.WalBackCardSaid :=
 Claim7.holds_tied_plain_at .later [] [.data, .data, .data] true Rows.walBackCard.stood.harness false
  walBack_holds (fun _ h => by cases h) (by kernel_rfl) (fun _ h => by cases h) walBack_row_tie rfl ⟨rfl, rfl⟩ (by kernel_rfl) rfl
  (fun f fn hf hfn => by
   obtain rfl : f = 5 := (Option.some.inj ((show Tryz.prog.funcNamed Rows.walBackRow.func = some 5 by kernel_rfl).symm.trans hf)).symm
   obtain rfl : fn = Tryz.f5 := (Option.some.inj (Tryz.func5.symm.trans hfn)).symm
   refine ⟨by kernel_rfl, fun j t ht => ?_⟩
   have hpar : Tryz.f5.params = #[23] := by kernel_rfl
   rw [hpar] at ht
   have hm : t ∈ [23] := by
    rw [show (#[23] : Array TypeId)[j]? = ([23] : List TypeId)[j]? from by simp] at ht
    exact List.mem_of_getElem? ht
   simp only [List.mem_cons, List.not_mem_nil, or_false] at hm
   rcases hm with rfl
   exact (show Tryz.prog.wantsStandIn 23 = false by kernel_rfl))
  (by kernel_rfl)
end Go.Proofs.YtjlfdfmkofbccaaGreatDoor
