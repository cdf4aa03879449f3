/-
  What is proved: RoutesPlay's walk. Conditions: none.
-/
import Derived.Test.YtkjpfodnbjbmfaaRU
namespace Go.Proofs.Ytkjpfodnbjbmfaa
open Go.Sy

set_option maxHeartbeats 8000000 in
set_option maxRecDepth 100000 in
theorem routesPlay (A : Option Addr) (l : List ActR) (n c : Nat) (hn : n = l.length) (hk : ∀ x ∈ l, 0 ≤ x.k ∧ x.k < 256) :
    Triple Try.prog 5 [.slice A n c] [] [Rd 4 A n (l.flatMap encR)] Unit (fun _ => .bool true) (fun _ => True) (fun _ => []) := by
  refine triple_intro Try.tbs_ok Try.func5 rfl [.va (.slice A n c)] [] ⟨trivial, trivial⟩ rfl (by simp) ?_
  intro E
  refine go Try.tbs_ok 1000 ?_
  refine ev_if_lt (fun h10 => ?_) (fun h10 => ?_)
  refine go Try.tbs_ok 1000 ?_
  refine ev_callF (lives ) [] [] rfl rfl (by decide) rfl (by simp) (fun _ => (by repeat (first | exact trivial | refine ⟨rfl, ?_⟩))) (fun _ h11 => ?_)
  refine go Try.tbs_ok 1000 ?_
  refine ev_fin ⟨trivial, _, rfl, (()), rfl, (by trivial), Frm.nil _⟩
  refine go Try.tbs_ok 1000 ?_
  refine ev_callF (tNew ) [] [] rfl rfl (by decide) rfl (by simp) (fun _ => (by repeat (first | exact trivial | refine ⟨rfl, ?_⟩))) (fun x12 h13 => ?_)
  refine go Try.tbs_ok 1000 ?_
  refine ev_new fun b14 => ?_
  refine ev_stop (go_boxfact 1 (RefM b14 []) rfl (fun h p => RefM.in (n := 0) (A := none) (c := 0) rfl ⟨h, Hp.emp, (Hp.emp_dis _).symm, Hp.le_refl _, Hp.emp_le _, p, starH_one.2 (Row.nil _ _ _)⟩) (by repeat (first | exact trivial | refine ⟨rfl, ?_⟩)) ?_)
  refine go Try.tbs_ok 1000 ?_
  refine ev_stop (go_loopR [2, 5, 6, 12, 14, 15, 16, 17, 18, 19, 20, 21, 22, 23, 24, 25, 26, 27, 28, 29, 30, 31, 32, 33, 34, 35, 36, 37, 38, 39, 40, 41, 42, 43, 44, 45, 46, 47, 48, 49, 50, 51, 52, 53, 54, 55, 56, 57, 58, 59, 60, 61, 62, 63, 64, 65, 66, 67, 68, 69, 70, 71, 72, 73, 74, 75, 76, 77, 78, 79, 80, 81, 82, 83, 84, 85, 86, 87, 88, 89, 90, 91, 92, 93, 94, 95, 96, 97, 98, 99, 100, 101, 102, 103] (fun (i, _, _) => [(5, .va (.int .i64 (i : Nat)))]) (fun (_, T, W) => [(0, .fact (TabM x12 T)), (2, .fact (RefM b14 W))]) (fun (i, T, W) => i ≤ n ∧ RelT T W ∧ W.length ≤ i) (fun (i, _, _) => n - i) ((0, [], []) : Nat × WT × List WR) ⟨Nat.zero_le _, RelT.nil, Nat.le_refl _⟩ ⟨⟨by kernel_rfl, by kernel_rfl⟩, ⟨_, rfl⟩, ⟨_, rfl⟩, by kernel_rfl, by kernel_rfl⟩ (fun x_ h_ => ?_))
  obtain ⟨i, T, W⟩ := x_
  obtain ⟨hi, hR, hW⟩ := h_
  refine go Try.tbs_ok 1000 ?_
  refine ev_if_lt (fun hlt => ?_) (fun hge => ?_)
  · have hil : i < l.length := by
      have : (i : Int) < (n : Int) := hlt
      omega
    have hki := hk _ (List.getElem_mem hil)
    have h4 : l[i].k.tmod 4 = l[i].k % 4 := Int.tmod_eq_emod_of_nonneg hki.1
    have hn1 : n ≤ 150 := by omega
    rcases show l[i].k % 4 < 2 ∨ l[i].k % 4 = 2 ∨ l[i].k % 4 = 3 by omega with h | h | h
    · obtain ⟨R, hR1⟩ : ∃ R, R = waitT T (l[i].s, l[i].i) l[i].o := ⟨_, rfl⟩
      obtain ⟨V, hV1⟩ : ∃ V, V = waitW T W l[i].s l[i].i l[i].o := ⟨_, rfl⟩
      have hRV : RelT R.1 V := by rw [hR1, hV1]; exact hR.wait _ _ _
      have hVl : V.length ≤ i + 1 := by have := waitW_len T W l[i].s l[i].i l[i].o; rw [hV1]; omega
      have V1 := tWait x12 T l[i].s l[i].i l[i].o (hR.ok.okL _) R hR1
      have V2 := sWait b14 T W l[i].s l[i].i l[i].o hR (by omega) R V hR1 hV1
      obtain ⟨b, hb⟩ : ∃ b, decide (l[i].o ∈ findT R.1 (l[i].s, l[i].i)) = b := ⟨_, rfl⟩
      have V3 := tHasN x12 R.1 l[i].s l[i].i l[i].o (hRV.ok.okL _) b hb
      have V4 := sHasB b14 R.1 V l[i].s l[i].i l[i].o hRV (by omega) b hb
      have V5 := tLen x12 R.1
      have V6 := sLenN b14 R.1 V hRV (by omega)
      refine go Try.tbs_ok 1000 ?_
      refine ev_stop (go_indexE (sz := 4) Try.tbs_ok (.inl 0) (i) rfl rfl rfl rfl rfl rfl (by omega) rfl (fun _ h => h) (fun g40 o42 e41 => ?_))
      subst e41
      refine go Try.tbs_ok 1000 ?_
      have l43 : i < (l).length := (by omega)
      refine ev_stop (go_loadE Try.tbs_ok (.inl 0) (i) 0 rfl rfl rfl rfl (fun _ h => h) (by omega) (fun _ => rfl) (by omega) l43 (by decide) ?_)
      refine go Try.tbs_ok 1000 ?_
      refine ev_new fun b44 => ?_
      refine ev_if_eq (fun h45 => ?_) (fun h45 => ?_)
      refine go Try.tbs_ok 1000 ?_
      refine ev_if_yes (beq_iff_eq.2 (by with_reducible assumption)) ?_
      refine go Try.tbs_ok 1000 ?_
      refine ev_stop (go_draw Try.tbs_ok true [3] [(0,true),(1,true),(2,true),(3,true),(4,true),(5,true),(6,true),(8,true),(9,true),(10,true),(11,true),(12,true),(13,true),(14,true),(7,false),(15,false),(16,true)] rfl ?_)
      refine go Try.tbs_ok 1000 ?_
      refine ev_need ⟨⟨(by repeat (first | exact trivial | refine ⟨rfl, ?_⟩)), rfl⟩, by kernel_rfl⟩ ?_
      refine ev_callF (V1 ) [0] [] rfl rfl (by decide) rfl (by simp) (fun _ => (by repeat (first | exact trivial | refine ⟨rfl, ?_⟩))) (fun _ h46 => ?_)
      refine go Try.tbs_ok 1000 ?_
      refine ev_need ⟨⟨(by repeat (first | exact trivial | refine ⟨rfl, ?_⟩)), rfl⟩, by kernel_rfl⟩ ?_
      refine ev_callF (V2 ) [2] [] rfl rfl (by decide) rfl (by simp) (fun _ => (by repeat (first | exact trivial | refine ⟨rfl, ?_⟩))) (fun _ h47 => ?_)
      refine go Try.tbs_ok 1000 ?_
      refine ev_need ⟨⟨(by repeat (first | exact trivial | refine ⟨rfl, ?_⟩)), rfl⟩, by kernel_rfl⟩ ?_
      refine ev_if_no (ne_no (show R.snd = R.snd from (by omega))) ?_
      refine go Try.tbs_ok 1000 ?_
      refine ev_stop (go_draw Try.tbs_ok true [3] [(0,true),(2,true),(1,false),(3,false),(4,true),(5,true),(6,true),(7,true),(8,true),(9,true),(10,true),(11,true),(12,true),(14,true),(15,true),(16,true),(17,true),(18,true),(19,true),(20,true),(13,false),(21,false),(22,true),(23,true)] rfl ?_)
      refine go Try.tbs_ok 1000 ?_
      refine ev_need ⟨⟨(by repeat (first | exact trivial | refine ⟨rfl, ?_⟩)), rfl⟩, by kernel_rfl⟩ ?_
      refine ev_callF (V5 ) [0] [] rfl rfl (by decide) rfl (by simp) (fun _ => (by repeat (first | exact trivial | refine ⟨rfl, ?_⟩))) (fun _ h48 => ?_)
      refine go Try.tbs_ok 1000 ?_
      refine ev_need ⟨⟨(by repeat (first | exact trivial | refine ⟨rfl, ?_⟩)), rfl⟩, by kernel_rfl⟩ ?_
      refine ev_callF (V6 ) [2] [] rfl rfl (by decide) rfl (by simp) (fun _ => (by repeat (first | exact trivial | refine ⟨rfl, ?_⟩))) (fun _ h49 => ?_)
      refine go Try.tbs_ok 1000 ?_
      refine ev_need ⟨⟨(by repeat (first | exact trivial | refine ⟨rfl, ?_⟩)), rfl⟩, by kernel_rfl⟩ ?_
      refine ev_if_no (ne_no (show (↑(List.length R.fst) : Int) = (↑(List.length R.fst) : Int) from (by omega))) ?_
      refine go Try.tbs_ok 1000 ?_
      refine ev_need ⟨⟨(by repeat (first | exact trivial | refine ⟨rfl, ?_⟩)), rfl⟩, by kernel_rfl⟩ ?_
      refine ev_callF (V3 ) [0] [] rfl rfl (by decide) rfl (by simp) (fun _ => (by repeat (first | exact trivial | refine ⟨rfl, ?_⟩))) (fun _ h50 => ?_)
      refine go Try.tbs_ok 1000 ?_
      refine ev_need ⟨⟨(by repeat (first | exact trivial | refine ⟨rfl, ?_⟩)), rfl⟩, by kernel_rfl⟩ ?_
      refine ev_callF (V4 ) [2] [] rfl rfl (by decide) rfl (by simp) (fun _ => (by repeat (first | exact trivial | refine ⟨rfl, ?_⟩))) (fun _ h51 => ?_)
      refine go Try.tbs_ok 1000 ?_
      refine ev_need ⟨⟨(by repeat (first | exact trivial | refine ⟨rfl, ?_⟩)), rfl⟩, by kernel_rfl⟩ ?_
      refine ev_if_no (bq_no (by rfl)) ?_
      refine go Try.tbs_ok 1000 ?_
      refine ev_wrapN (i + 1) (by constructor <;> omega) (by rfl) ?_
      refine ev_fin (round_next ((i + 1, R.fst, V)) (show i + 1 ≤ n ∧ RelT R.fst V ∧ V.length ≤ i + 1 from (by (refine ⟨?_, ?_, ?_⟩ <;> first | assumption | omega | (simp only [List.length_set, List.length_append, List.length_cons, List.length_nil] <;> omega) | rfl))) (show n - (i + 1) < n - i from (by omega)) ⟨⟨by kernel_rfl, by kernel_rfl⟩, ⟨_, rfl⟩, ⟨_, rfl⟩, by kernel_rfl, by kernel_rfl⟩)
      refine go Try.tbs_ok 1000 ?_
      refine ev_if_yes (beq_iff_eq.2 (show l[i].k.tmod 4 = 1 from (by omega))) ?_
      refine go Try.tbs_ok 1000 ?_
      refine ev_stop (go_draw Try.tbs_ok true [3] [(0,true),(1,true),(2,true),(3,true),(4,true),(5,true),(6,true),(8,true),(9,true),(10,true),(11,true),(12,true),(13,true),(14,true),(7,false),(15,false),(16,true)] rfl ?_)
      refine go Try.tbs_ok 1000 ?_
      refine ev_need ⟨⟨(by repeat (first | exact trivial | refine ⟨rfl, ?_⟩)), rfl⟩, by kernel_rfl⟩ ?_
      refine ev_callF (V1 ) [0] [] rfl rfl (by decide) rfl (by simp) (fun _ => (by repeat (first | exact trivial | refine ⟨rfl, ?_⟩))) (fun _ h52 => ?_)
      refine go Try.tbs_ok 1000 ?_
      refine ev_need ⟨⟨(by repeat (first | exact trivial | refine ⟨rfl, ?_⟩)), rfl⟩, by kernel_rfl⟩ ?_
      refine ev_callF (V2 ) [2] [] rfl rfl (by decide) rfl (by simp) (fun _ => (by repeat (first | exact trivial | refine ⟨rfl, ?_⟩))) (fun _ h53 => ?_)
      refine go Try.tbs_ok 1000 ?_
      refine ev_need ⟨⟨(by repeat (first | exact trivial | refine ⟨rfl, ?_⟩)), rfl⟩, by kernel_rfl⟩ ?_
      refine ev_if_no (ne_no (show R.snd = R.snd from (by omega))) ?_
      refine go Try.tbs_ok 1000 ?_
      refine ev_stop (go_draw Try.tbs_ok true [3] [(0,true),(2,true),(1,false),(3,false),(4,true),(5,true),(6,true),(7,true),(8,true),(9,true),(10,true),(11,true),(12,true),(14,true),(15,true),(16,true),(17,true),(18,true),(19,true),(20,true),(13,false),(21,false),(22,true),(23,true)] rfl ?_)
      refine go Try.tbs_ok 1000 ?_
      refine ev_need ⟨⟨(by repeat (first | exact trivial | refine ⟨rfl, ?_⟩)), rfl⟩, by kernel_rfl⟩ ?_
      refine ev_callF (V5 ) [0] [] rfl rfl (by decide) rfl (by simp) (fun _ => (by repeat (first | exact trivial | refine ⟨rfl, ?_⟩))) (fun _ h54 => ?_)
      refine go Try.tbs_ok 1000 ?_
      refine ev_need ⟨⟨(by repeat (first | exact trivial | refine ⟨rfl, ?_⟩)), rfl⟩, by kernel_rfl⟩ ?_
      refine ev_callF (V6 ) [2] [] rfl rfl (by decide) rfl (by simp) (fun _ => (by repeat (first | exact trivial | refine ⟨rfl, ?_⟩))) (fun _ h55 => ?_)
      refine go Try.tbs_ok 1000 ?_
      refine ev_need ⟨⟨(by repeat (first | exact trivial | refine ⟨rfl, ?_⟩)), rfl⟩, by kernel_rfl⟩ ?_
      refine ev_if_no (ne_no (show (↑(List.length R.fst) : Int) = (↑(List.length R.fst) : Int) from (by omega))) ?_
      refine go Try.tbs_ok 1000 ?_
      refine ev_need ⟨⟨(by repeat (first | exact trivial | refine ⟨rfl, ?_⟩)), rfl⟩, by kernel_rfl⟩ ?_
      refine ev_callF (V3 ) [0] [] rfl rfl (by decide) rfl (by simp) (fun _ => (by repeat (first | exact trivial | refine ⟨rfl, ?_⟩))) (fun _ h56 => ?_)
      refine go Try.tbs_ok 1000 ?_
      refine ev_need ⟨⟨(by repeat (first | exact trivial | refine ⟨rfl, ?_⟩)), rfl⟩, by kernel_rfl⟩ ?_
      refine ev_callF (V4 ) [2] [] rfl rfl (by decide) rfl (by simp) (fun _ => (by repeat (first | exact trivial | refine ⟨rfl, ?_⟩))) (fun _ h57 => ?_)
      refine go Try.tbs_ok 1000 ?_
      refine ev_need ⟨⟨(by repeat (first | exact trivial | refine ⟨rfl, ?_⟩)), rfl⟩, by kernel_rfl⟩ ?_
      refine ev_if_no (bq_no (by rfl)) ?_
      refine go Try.tbs_ok 1000 ?_
      refine ev_wrapN (i + 1) (by constructor <;> omega) (by rfl) ?_
      refine ev_fin (round_next ((i + 1, R.fst, V)) (show i + 1 ≤ n ∧ RelT R.fst V ∧ V.length ≤ i + 1 from (by (refine ⟨?_, ?_, ?_⟩ <;> first | assumption | omega | (simp only [List.length_set, List.length_append, List.length_cons, List.length_nil] <;> omega) | rfl))) (show n - (i + 1) < n - i from (by omega)) ⟨⟨by kernel_rfl, by kernel_rfl⟩, ⟨_, rfl⟩, ⟨_, rfl⟩, by kernel_rfl, by kernel_rfl⟩)
    · obtain ⟨L, hL⟩ : ∃ L, L = findT T (l[i].s, l[i].i) := ⟨_, rfl⟩
      obtain ⟨R, hR1⟩ : ∃ R, R = delT T (l[i].s, l[i].i) := ⟨_, rfl⟩
      obtain ⟨V, hV1⟩ : ∃ V, V = takeR W l[i].s l[i].i L := ⟨_, rfl⟩
      have hRV : RelT R V := by rw [hR1, hV1, hL]; exact hR.take _ _
      have hVl : V.length ≤ i + 1 := by have := takeR_len W l[i].s l[i].i L; rw [hV1]; omega
      have hL8 : L.length ≤ 8 := by rw [hL]; exact hR.few _
      have V1 := tTakeN x12 T R l[i].s l[i].i L.length L hL.symm rfl hR1.symm
      have V2 := rTake b14 W l[i].s l[i].i L (by rw [hL]; exact hR.who _ _) (by omega) (by omega)
      rw [← hV1] at V2
      obtain ⟨b, hb⟩ : ∃ b, decide (l[i].o ∈ findT R (l[i].s, l[i].i)) = b := ⟨_, rfl⟩
      have V3 := tHasN x12 R l[i].s l[i].i l[i].o (hRV.ok.okL _) b hb
      have V4 := sHasB b14 R V l[i].s l[i].i l[i].o hRV (by omega) b hb
      have V5 := tLen x12 R
      have V6 := sLenN b14 R V hRV (by omega)
      have V7 := fun A B c d => sameRows A B L L L.length c L.length d rfl rfl (by omega)
      rw [decide_eq_true rfl] at V7
      refine go Try.tbs_ok 1000 ?_
      refine ev_stop (go_indexE (sz := 4) Try.tbs_ok (.inl 0) (i) rfl rfl rfl rfl rfl rfl (by omega) rfl (fun _ h => h) (fun g80 o82 e81 => ?_))
      subst e81
      refine go Try.tbs_ok 1000 ?_
      have l83 : i < (l).length := (by omega)
      refine ev_stop (go_loadE Try.tbs_ok (.inl 0) (i) 0 rfl rfl rfl rfl (fun _ h => h) (by omega) (fun _ => rfl) (by omega) l83 (by decide) ?_)
      refine go Try.tbs_ok 1000 ?_
      refine ev_new fun b84 => ?_
      refine ev_if_no (beq_eq_false_iff_ne.2 (show ¬l[i].k.tmod 4 = 0 from (by omega))) ?_
      refine go Try.tbs_ok 1000 ?_
      refine ev_if_no (beq_eq_false_iff_ne.2 (show ¬l[i].k.tmod 4 = 1 from (by omega))) ?_
      refine go Try.tbs_ok 1000 ?_
      refine ev_if_yes (beq_iff_eq.2 (show l[i].k.tmod 4 = 2 from (by omega))) ?_
      refine go Try.tbs_ok 1000 ?_
      refine ev_stop (go_draw Try.tbs_ok true [3] [(0,true),(1,true),(2,true),(3,true),(4,true),(6,true),(7,true),(8,true),(9,true),(10,true),(5,false),(11,false),(12,false),(13,true)] rfl ?_)
      refine go Try.tbs_ok 1000 ?_
      refine ev_need ⟨⟨(by repeat (first | exact trivial | refine ⟨rfl, ?_⟩)), rfl⟩, by kernel_rfl⟩ ?_
      refine ev_callF (V1 ) [0] [] rfl rfl (by decide) rfl (by simp) (fun _ => (by repeat (first | exact trivial | refine ⟨rfl, ?_⟩))) (fun ⟨x85, x86⟩ h87 => ?_)
      refine go Try.tbs_ok 1000 ?_
      refine ev_need ⟨⟨(by repeat (first | exact trivial | refine ⟨rfl, ?_⟩)), rfl⟩, by kernel_rfl⟩ ?_
      refine ev_callF (V2 ) [2] [] rfl rfl (by decide) rfl (by simp) (fun _ => (by repeat (first | exact trivial | refine ⟨rfl, ?_⟩))) (fun ⟨x88, x89⟩ h90 => ?_)
      refine go Try.tbs_ok 1000 ?_
      refine ev_need ⟨⟨(by repeat (first | exact trivial | refine ⟨rfl, ?_⟩)), rfl⟩, by kernel_rfl⟩ ?_
      refine ev_callF (V7 (x85) (x88) (x86) (x89)) [] [.inr 4, .inr 5] rfl rfl (by decide) rfl (by simp) (fun _ => (by repeat (first | exact trivial | refine ⟨rfl, ?_⟩))) (fun _ h91 => ?_)
      refine go Try.tbs_ok 1000 ?_
      refine ev_need ⟨⟨(by repeat (first | exact trivial | refine ⟨rfl, ?_⟩)), rfl⟩, by kernel_rfl⟩ ?_
      refine ev_if_no rfl ?_
      refine go Try.tbs_ok 1000 ?_
      refine ev_stop (go_draw Try.tbs_ok true [3] [(0,true),(2,true),(1,false),(3,false),(4,true),(5,true),(6,true),(7,true),(8,true),(9,true),(10,true),(11,true),(12,true),(14,true),(15,true),(16,true),(17,true),(18,true),(19,true),(20,true),(13,false),(21,false),(22,true),(23,true)] rfl ?_)
      refine go Try.tbs_ok 1000 ?_
      refine ev_need ⟨⟨(by repeat (first | exact trivial | refine ⟨rfl, ?_⟩)), rfl⟩, by kernel_rfl⟩ ?_
      refine ev_callF (V5 ) [0] [] rfl rfl (by decide) rfl (by simp) (fun _ => (by repeat (first | exact trivial | refine ⟨rfl, ?_⟩))) (fun _ h92 => ?_)
      refine go Try.tbs_ok 1000 ?_
      refine ev_need ⟨⟨(by repeat (first | exact trivial | refine ⟨rfl, ?_⟩)), rfl⟩, by kernel_rfl⟩ ?_
      refine ev_callF (V6 ) [2] [] rfl rfl (by decide) rfl (by simp) (fun _ => (by repeat (first | exact trivial | refine ⟨rfl, ?_⟩))) (fun _ h93 => ?_)
      refine go Try.tbs_ok 1000 ?_
      refine ev_need ⟨⟨(by repeat (first | exact trivial | refine ⟨rfl, ?_⟩)), rfl⟩, by kernel_rfl⟩ ?_
      refine ev_if_no (ne_no (show (↑(List.length R) : Int) = (↑(List.length R) : Int) from (by omega))) ?_
      refine go Try.tbs_ok 1000 ?_
      refine ev_need ⟨⟨(by repeat (first | exact trivial | refine ⟨rfl, ?_⟩)), rfl⟩, by kernel_rfl⟩ ?_
      refine ev_callF (V3 ) [0] [] rfl rfl (by decide) rfl (by simp) (fun _ => (by repeat (first | exact trivial | refine ⟨rfl, ?_⟩))) (fun _ h94 => ?_)
      refine go Try.tbs_ok 1000 ?_
      refine ev_need ⟨⟨(by repeat (first | exact trivial | refine ⟨rfl, ?_⟩)), rfl⟩, by kernel_rfl⟩ ?_
      refine ev_callF (V4 ) [2] [] rfl rfl (by decide) rfl (by simp) (fun _ => (by repeat (first | exact trivial | refine ⟨rfl, ?_⟩))) (fun _ h95 => ?_)
      refine go Try.tbs_ok 1000 ?_
      refine ev_need ⟨⟨(by repeat (first | exact trivial | refine ⟨rfl, ?_⟩)), rfl⟩, by kernel_rfl⟩ ?_
      refine ev_if_no (bq_no (by rfl)) ?_
      refine go Try.tbs_ok 1000 ?_
      refine ev_wrapN (i + 1) (by constructor <;> omega) (by rfl) ?_
      refine ev_fin (round_next ((i + 1, R, V)) (show i + 1 ≤ n ∧ RelT R V ∧ V.length ≤ i + 1 from (by (refine ⟨?_, ?_, ?_⟩ <;> first | assumption | omega | (simp only [List.length_set, List.length_append, List.length_cons, List.length_nil] <;> omega) | rfl))) (show n - (i + 1) < n - i from (by omega)) ⟨⟨by kernel_rfl, by kernel_rfl⟩, ⟨_, rfl⟩, ⟨_, rfl⟩, by kernel_rfl, by kernel_rfl⟩)
    · obtain ⟨R, hR1⟩ : ∃ R, R = dropT T (l[i].s, l[i].i) l[i].o := ⟨_, rfl⟩
      obtain ⟨V, hV1⟩ : ∃ V, V = dropR W ⟨l[i].s, l[i].i, l[i].o⟩ := ⟨_, rfl⟩
      have hRV : RelT R.1 V := by rw [hR1, hV1]; exact hR.drop _ _ _
      have hVl : V.length ≤ i + 1 := by
        have : (dropR W ⟨l[i].s, l[i].i, l[i].o⟩).length ≤ W.length := List.length_filter_le _ _
        rw [hV1]; omega
      have V1 := tDrop x12 T l[i].s l[i].i l[i].o (hR.ok.okL _) R hR1
      have V2 := sDropB b14 T W V l[i].s l[i].i l[i].o hR (by omega) R hR1 hV1
      obtain ⟨b, hb⟩ : ∃ b, decide (l[i].o ∈ findT R.1 (l[i].s, l[i].i)) = b := ⟨_, rfl⟩
      have V3 := tHasN x12 R.1 l[i].s l[i].i l[i].o (hRV.ok.okL _) b hb
      have V4 := sHasB b14 R.1 V l[i].s l[i].i l[i].o hRV (by omega) b hb
      have V5 := tLen x12 R.1
      have V6 := sLenN b14 R.1 V hRV (by omega)
      refine go Try.tbs_ok 1000 ?_
      refine ev_stop (go_indexE (sz := 4) Try.tbs_ok (.inl 0) (i) rfl rfl rfl rfl rfl rfl (by omega) rfl (fun _ h => h) (fun g140 o142 e141 => ?_))
      subst e141
      refine go Try.tbs_ok 1000 ?_
      have l143 : i < (l).length := (by omega)
      refine ev_stop (go_loadE Try.tbs_ok (.inl 0) (i) 0 rfl rfl rfl rfl (fun _ h => h) (by omega) (fun _ => rfl) (by omega) l143 (by decide) ?_)
      refine go Try.tbs_ok 1000 ?_
      refine ev_new fun b144 => ?_
      refine ev_if_no (beq_eq_false_iff_ne.2 (show ¬l[i].k.tmod 4 = 0 from (by omega))) ?_
      refine go Try.tbs_ok 1000 ?_
      refine ev_if_no (beq_eq_false_iff_ne.2 (show ¬l[i].k.tmod 4 = 1 from (by omega))) ?_
      refine go Try.tbs_ok 1000 ?_
      refine ev_if_no (beq_eq_false_iff_ne.2 (show ¬l[i].k.tmod 4 = 2 from (by omega))) ?_
      refine go Try.tbs_ok 1000 ?_
      refine ev_stop (go_draw Try.tbs_ok true [3] [(0,true),(1,true),(2,true),(3,true),(4,true),(5,true),(6,true),(8,true),(9,true),(10,true),(11,true),(12,true),(13,true),(14,true),(7,false),(15,false),(16,true)] rfl ?_)
      refine go Try.tbs_ok 1000 ?_
      refine ev_need ⟨⟨(by repeat (first | exact trivial | refine ⟨rfl, ?_⟩)), rfl⟩, by kernel_rfl⟩ ?_
      refine ev_callF (V1 ) [0] [] rfl rfl (by decide) rfl (by simp) (fun _ => (by repeat (first | exact trivial | refine ⟨rfl, ?_⟩))) (fun _ h145 => ?_)
      refine go Try.tbs_ok 1000 ?_
      refine ev_need ⟨⟨(by repeat (first | exact trivial | refine ⟨rfl, ?_⟩)), rfl⟩, by kernel_rfl⟩ ?_
      refine ev_callF (V2 ) [2] [] rfl rfl (by decide) rfl (by simp) (fun _ => (by repeat (first | exact trivial | refine ⟨rfl, ?_⟩))) (fun _ h146 => ?_)
      refine go Try.tbs_ok 1000 ?_
      refine ev_need ⟨⟨(by repeat (first | exact trivial | refine ⟨rfl, ?_⟩)), rfl⟩, by kernel_rfl⟩ ?_
      refine ev_if_no (bq_no (by rfl)) ?_
      refine go Try.tbs_ok 1000 ?_
      refine ev_stop (go_draw Try.tbs_ok true [3] [(0,true),(2,true),(1,false),(3,false),(4,true),(5,true),(6,true),(7,true),(8,true),(9,true),(10,true),(11,true),(12,true),(14,true),(15,true),(16,true),(17,true),(18,true),(19,true),(20,true),(13,false),(21,false),(22,true),(23,true)] rfl ?_)
      refine go Try.tbs_ok 1000 ?_
      refine ev_need ⟨⟨(by repeat (first | exact trivial | refine ⟨rfl, ?_⟩)), rfl⟩, by kernel_rfl⟩ ?_
      refine ev_callF (V5 ) [0] [] rfl rfl (by decide) rfl (by simp) (fun _ => (by repeat (first | exact trivial | refine ⟨rfl, ?_⟩))) (fun _ h147 => ?_)
      refine go Try.tbs_ok 1000 ?_
      refine ev_need ⟨⟨(by repeat (first | exact trivial | refine ⟨rfl, ?_⟩)), rfl⟩, by kernel_rfl⟩ ?_
      refine ev_callF (V6 ) [2] [] rfl rfl (by decide) rfl (by simp) (fun _ => (by repeat (first | exact trivial | refine ⟨rfl, ?_⟩))) (fun _ h148 => ?_)
      refine go Try.tbs_ok 1000 ?_
      refine ev_need ⟨⟨(by repeat (first | exact trivial | refine ⟨rfl, ?_⟩)), rfl⟩, by kernel_rfl⟩ ?_
      refine ev_if_no (ne_no (show (↑(List.length R.fst) : Int) = (↑(List.length R.fst) : Int) from (by omega))) ?_
      refine go Try.tbs_ok 1000 ?_
      refine ev_need ⟨⟨(by repeat (first | exact trivial | refine ⟨rfl, ?_⟩)), rfl⟩, by kernel_rfl⟩ ?_
      refine ev_callF (V3 ) [0] [] rfl rfl (by decide) rfl (by simp) (fun _ => (by repeat (first | exact trivial | refine ⟨rfl, ?_⟩))) (fun _ h149 => ?_)
      refine go Try.tbs_ok 1000 ?_
      refine ev_need ⟨⟨(by repeat (first | exact trivial | refine ⟨rfl, ?_⟩)), rfl⟩, by kernel_rfl⟩ ?_
      refine ev_callF (V4 ) [2] [] rfl rfl (by decide) rfl (by simp) (fun _ => (by repeat (first | exact trivial | refine ⟨rfl, ?_⟩))) (fun _ h150 => ?_)
      refine go Try.tbs_ok 1000 ?_
      refine ev_need ⟨⟨(by repeat (first | exact trivial | refine ⟨rfl, ?_⟩)), rfl⟩, by kernel_rfl⟩ ?_
      refine ev_if_no (bq_no (by rfl)) ?_
      refine go Try.tbs_ok 1000 ?_
      refine ev_wrapN (i + 1) (by constructor <;> omega) (by rfl) ?_
      refine ev_fin (round_next ((i + 1, R.fst, V)) (show i + 1 ≤ n ∧ RelT R.fst V ∧ V.length ≤ i + 1 from (by (refine ⟨?_, ?_, ?_⟩ <;> first | assumption | omega | (simp only [List.length_set, List.length_append, List.length_cons, List.length_nil] <;> omega) | rfl))) (show n - (i + 1) < n - i from (by omega)) ⟨⟨by kernel_rfl, by kernel_rfl⟩, ⟨_, rfl⟩, ⟨_, rfl⟩, by kernel_rfl, by kernel_rfl⟩)
  · refine go Try.tbs_ok 1000 ?_
    refine ev_fin (go Try.tbs_ok 1000 ?_)
    refine ev_callF (lives ) [] [] rfl rfl (by decide) rfl (by simp) (fun _ => (by repeat (first | exact trivial | refine ⟨rfl, ?_⟩))) (fun _ h200 => ?_)
    refine go Try.tbs_ok 1000 ?_
    refine ev_fin ⟨trivial, _, rfl, (()), rfl, (by trivial), Frm.nil _⟩
end Go.Proofs.Ytkjpfodnbjbmfaa
