/-
  What is proved: DiskRename's walk. Conditions: none.
-/
import Derived.Test.YthknokcgclcbmaaDS
namespace Go.Proofs.Ythknokcgclcbmaa
open Go.Sy

theorem oldR (A B : Option Addr) (L : List Fl) (N W : List ByteArray) (n c m d : Nat) (x : ByteArray) (hN : N = L.map nameEG) (hW : W = L.map datEG) (hn : n = L.length) (hm : m = L.length) (h1 : n ≤ 1000) (r : ByteArray × Bool) (hr : oldL L x = r) :
    Triple Try.prog 33 [.slice A n c, .slice B m d, .string x] [] [Row 9 1 A n c (N.flatMap encS), Row 9 1 B m d (W.flatMap encS)] Unit (fun _ => .tuple #[.string r.1, .bool r.2]) (fun _ => True) (fun _ => []) := by
  subst hN hW hr
  exact (oldT A B L n c m d x hn hm h1).reads fun X hX => by
    simp only [List.mem_cons, List.not_mem_nil, or_false] at hX
    rcases hX with rfl | rfl
    · exact ⟨_, List.mem_cons_self, fun _ q => Row.rd q⟩
    · exact ⟨_, List.mem_cons_of_mem _ List.mem_cons_self, fun _ q => Row.rd q⟩
theorem Acts.nil : (Acts []).holds Hp.emp := fun _ h => by cases h
set_option maxHeartbeats 8000000 in
set_option maxRecDepth 100000 in
theorem diskRename (A : Option Addr) (l : List ActD) (n c : Nat) (x y : ByteArray) (hn : n = l.length) (hn1 : n ≤ 9223372036854775807) (hl : ∀ x ∈ l, inA x) (hx1 : x.size ≤ 9223372036854775807) (hy1 : y.size ≤ 9223372036854775807) :
    Triple Try.prog 8 [.slice A n c, .string x, .string y] [] [Rd 6 A n (l.flatMap encA), Acts l] Unit (fun _ => .bool true) (fun _ => True) (fun _ => []) := by
  have T0 := greatT A l n c hn hn1
  refine triple_intro Try.tbs_ok Try.func8 rfl [.va (.slice A n c), .va (.string x), .va (.string y)] [] ⟨trivial, trivial, trivial, trivial⟩ rfl (by simp) ?_
  intro E
  refine go Try.tbs_ok 1000 ?_
  refine ev_callF (T0 ) [] [.inl 0] rfl rfl (by decide) rfl (by simp) (fun _ => (by repeat (first | exact trivial | refine ⟨rfl, ?_⟩))) (fun x0 h1 => ?_)
  refine go Try.tbs_ok 1000 ?_
  refine ev_if (fun h2 => ?_) (fun h2 => ?_)
  refine go Try.tbs_ok 1000 ?_
  refine ev_fin ⟨trivial, _, rfl, (()), rfl, (by trivial), Frm.nil _⟩
  refine go Try.tbs_ok 1000 ?_
  refine ev_if_lt (fun h3 => ?_) (fun h3 => ?_)
  refine go Try.tbs_ok 1000 ?_
  refine ev_fin ⟨trivial, _, rfl, (()), rfl, (by trivial), Frm.nil _⟩
  refine go Try.tbs_ok 1000 ?_
  refine ev_if_lt (fun h4 => ?_) (fun h4 => ?_)
  refine go Try.tbs_ok 1000 ?_
  refine ev_fin ⟨trivial, _, rfl, (()), rfl, (by trivial), Frm.nil _⟩
  refine go Try.tbs_ok 1000 ?_
  obtain ⟨hn150, hb⟩ := h1 h2
  have hF : ∀ x ∈ l, fineA x := fun x hx => fineA.of (hl x hx) (hb x hx)
  have TP := playedT 4000 A l n c (by decide) (by decide) hn (by omega) hF
  have hf := playD_fine (m := 1 + 4000 % 5000) (by decide) (by decide) hF n
  rw [List.take_of_length_le (by omega)] at hf
  have hcalm := play_calm (1 + 4000 % 5000) l
  obtain ⟨D0, eD0⟩ : ∃ D, D = playD (1 + 4000 % 5000) l := ⟨_, rfl⟩
  rw [← eD0] at TP hf hcalm
  have T1 := fun p => upsT p D0 hf.good hf.lo (by have := hf.hi; omega)
  have okU := upD_ok hf.good
  have uU := upD_up (D := D0)
  have fU := upD_fails hcalm
  obtain ⟨D1, eD1⟩ : ∃ D, D = upD D0 := ⟨_, rfl⟩
  rw [← eD1] at T1 okU uU fU
  have T2 := fun p => appM p D1 x ⟨#[122]⟩ okU (by decide)
  have okA := app_ok okU x ⟨#[122]⟩
  have hA : (appD D1 x ⟨#[122]⟩).1.down = false ∧ (appD D1 x ⟨#[122]⟩).1.fails = none := by
    unfold appD
    rw [uU]
    simp only [Bool.false_eq_true, if_false]
    split
    · exact ⟨uU, fU⟩
    · split
      · exact ⟨uU, fU⟩
      · rw [chg_none fU]
        exact ⟨uU, rfl⟩
  obtain ⟨R, eR⟩ : ∃ R, R = appD D1 x ⟨#[122]⟩ := ⟨_, rfl⟩
  rw [← eR] at T2 okA hA
  obtain ⟨D, eD⟩ : ∃ D, D = R.1 := ⟨_, rfl⟩
  rw [← eD] at T2 okA hA
  obtain ⟨uA, fA⟩ := hA
  obtain ⟨L, eL⟩ : ∃ L, L = D.files := ⟨_, rfl⟩
  obtain ⟨n1, en⟩ : ∃ n1, n1 = L.length := ⟨_, rfl⟩
  have V1 := fun p => namesM p D okA
  have V2 := fun p => leftM p D okA
  have V3 := fun p => bytesT p D L n1 eL en okA uA
  have hs := okA.rise
  have hfew := okA.few
  rw [← eL] at V1 V2 hfew hs
  rw [← en] at V1 V2 hfew
  obtain ⟨N1, eN1⟩ : ∃ N, N = L.map nameEG := ⟨_, rfl⟩
  obtain ⟨W1, eW1⟩ : ∃ W, W = L.map datEG := ⟨_, rfl⟩
  obtain ⟨Z1, eZ1⟩ : ∃ Z, Z = L.map leftEG := ⟨_, rfl⟩
  rw [← eN1] at V1
  rw [← eZ1] at V2
  rw [← eW1] at V3
  have hN1l : N1.length = n1 := by rw [eN1, List.length_map, en]
  have hW1l : W1.length = n1 := by rw [eW1, List.length_map, en]
  have hZ1l : Z1.length = n1 := by rw [eZ1, List.length_map, en]
  have V4 := fun p => renM p D x y okA
  have S1 := fun A B c d => sameTextsR A B N1 N1 n1 c n1 d hN1l.symm hN1l.symm (by omega)
  have S2 := fun A B c d => sameTextsR A B W1 W1 n1 c n1 d hW1l.symm hW1l.symm (by omega)
  rw [decide_eq_true rfl] at S1 S2
  have hold := old_has hs x
  cases hh : hasF L x with
  | false =>
    have e4 : renD D x y = (D, 4) := by unfold renD; rw [uA, ← eL, hh]; rfl
    rw [e4] at V4
    rw [hh] at hold
    have O1 := fun A B c d => oldR A B L N1 W1 n1 c n1 d x eN1 eW1 en en (by omega) _ rfl
    rw [hold] at O1
    refine ev_callF (TP ) [] [.inl 0, .inl 1] rfl rfl (by decide) rfl (by simp) (fun _ => (by repeat (first | exact trivial | refine ⟨rfl, ?_⟩))) (fun x20 h21 => ?_)
    refine go Try.tbs_ok 1000 ?_
    refine ev_callF (T1 (x20)) [0] [] rfl rfl (by decide) rfl (by simp) (fun _ => (by repeat (first | exact trivial | refine ⟨rfl, ?_⟩))) (fun _ h22 => ?_)
    refine go Try.tbs_ok 1000 ?_
    refine ev_callF (T2 (x20)) [0] [] rfl rfl (by decide) rfl (by simp) (fun _ => (by repeat (first | exact trivial | refine ⟨rfl, ?_⟩))) (fun _ h23 => ?_)
    refine go Try.tbs_ok 1000 ?_
    refine ev_callF (V1 (x20)) [0] [] rfl rfl (by decide) rfl (by simp) (fun _ => (by repeat (first | exact trivial | refine ⟨rfl, ?_⟩))) (fun ⟨x24, x25⟩ h26 => ?_)
    refine go Try.tbs_ok 1000 ?_
    refine ev_callF (V2 (x20)) [0] [] rfl rfl (by decide) rfl (by simp) (fun _ => (by repeat (first | exact trivial | refine ⟨rfl, ?_⟩))) (fun ⟨x27, x28⟩ h29 => ?_)
    refine go Try.tbs_ok 1000 ?_
    refine ev_callF (V3 (x20)) [0] [] rfl rfl (by decide) rfl (by simp) (fun _ => (by repeat (first | exact trivial | refine ⟨rfl, ?_⟩))) (fun ⟨x30, x31⟩ h32 => ?_)
    refine go Try.tbs_ok 1000 ?_
    refine ev_callF (V4 (x20)) [0] [] rfl rfl (by decide) rfl (by simp) (fun _ => (by repeat (first | exact trivial | refine ⟨rfl, ?_⟩))) (fun _ h33 => ?_)
    refine go Try.tbs_ok 1000 ?_
    refine ev_callF (V3 (x20)) [0] [] rfl rfl (by decide) rfl (by simp) (fun _ => (by repeat (first | exact trivial | refine ⟨rfl, ?_⟩))) (fun ⟨x34, x35⟩ h36 => ?_)
    refine go Try.tbs_ok 1000 ?_
    refine ev_if_no rfl ?_
    refine go Try.tbs_ok 1000 ?_
    refine ev_if_no rfl ?_
    refine go Try.tbs_ok 1000 ?_
    refine ev_callF (O1 (x24) (x30) (x25) (x31)) [] [.inr 1, .inr 3] rfl rfl (by decide) rfl (by simp) (fun _ => (by repeat (first | exact trivial | refine ⟨rfl, ?_⟩))) (fun _ h37 => ?_)
    refine go Try.tbs_ok 1000 ?_
    refine ev_if_yes rfl ?_
    refine go Try.tbs_ok 1000 ?_
    refine ev_if_yes rfl ?_
    refine go Try.tbs_ok 1000 ?_
    refine ev_if_yes rfl ?_
    refine go Try.tbs_ok 1000 ?_
    refine ev_callF (V1 (x20)) [0] [] rfl rfl (by decide) rfl (by simp) (fun _ => (by repeat (first | exact trivial | refine ⟨rfl, ?_⟩))) (fun ⟨x38, x39⟩ h40 => ?_)
    refine go Try.tbs_ok 1000 ?_
    refine ev_callF (S1 (x38) (x24) (x39) (x25)) [] [.inr 5, .inr 1] rfl rfl (by decide) rfl (by simp) (fun _ => (by repeat (first | exact trivial | refine ⟨rfl, ?_⟩))) (fun _ h41 => ?_)
    refine go Try.tbs_ok 1000 ?_
    refine ev_if_yes rfl ?_
    refine go Try.tbs_ok 1000 ?_
    refine ev_callF (S2 (x34) (x30) (x35) (x31)) [] [.inr 4, .inr 3] rfl rfl (by decide) rfl (by simp) (fun _ => (by repeat (first | exact trivial | refine ⟨rfl, ?_⟩))) (fun _ h42 => ?_)
    refine go Try.tbs_ok 1000 ?_
    refine ev_if_yes rfl ?_
    refine go Try.tbs_ok 1000 ?_
    refine ev_callF (works ) [] [] rfl rfl (by decide) rfl (by simp) (fun _ => (by repeat (first | exact trivial | refine ⟨rfl, ?_⟩))) (fun _ h43 => ?_)
    refine go Try.tbs_ok 1000 ?_
    refine ev_fin ⟨trivial, _, rfl, (()), rfl, (by trivial), Frm.nil _⟩
  | true =>
    obtain ⟨hp, ep⟩ := has_pos hs hh
    rw [hh] at hold
    have O1 := fun A B c d => oldR A B L N1 W1 n1 c n1 d x eN1 eW1 en en (by omega) _ rfl
    rw [hold] at O1
    cases ho : oddS y with
    | true =>
      have e4 : renD D x y = (D, 2) := by unfold renD; rw [uA, ← eL, hh, ho]; rfl
      rw [e4] at V4
      unfold oddS at ho
      rw [Bool.or_eq_true, decide_eq_true_iff, decide_eq_true_iff] at ho
      rcases ho with ho | ho
      · have ey := empty_iff.1 ho
        refine ev_callF (TP ) [] [.inl 0, .inl 1] rfl rfl (by decide) rfl (by simp) (fun _ => (by repeat (first | exact trivial | refine ⟨rfl, ?_⟩))) (fun x20 h21 => ?_)
        refine go Try.tbs_ok 1000 ?_
        refine ev_callF (T1 (x20)) [0] [] rfl rfl (by decide) rfl (by simp) (fun _ => (by repeat (first | exact trivial | refine ⟨rfl, ?_⟩))) (fun _ h22 => ?_)
        refine go Try.tbs_ok 1000 ?_
        refine ev_callF (T2 (x20)) [0] [] rfl rfl (by decide) rfl (by simp) (fun _ => (by repeat (first | exact trivial | refine ⟨rfl, ?_⟩))) (fun _ h23 => ?_)
        refine go Try.tbs_ok 1000 ?_
        refine ev_callF (V1 (x20)) [0] [] rfl rfl (by decide) rfl (by simp) (fun _ => (by repeat (first | exact trivial | refine ⟨rfl, ?_⟩))) (fun ⟨x24, x25⟩ h26 => ?_)
        refine go Try.tbs_ok 1000 ?_
        refine ev_callF (V2 (x20)) [0] [] rfl rfl (by decide) rfl (by simp) (fun _ => (by repeat (first | exact trivial | refine ⟨rfl, ?_⟩))) (fun ⟨x27, x28⟩ h29 => ?_)
        refine go Try.tbs_ok 1000 ?_
        refine ev_callF (V3 (x20)) [0] [] rfl rfl (by decide) rfl (by simp) (fun _ => (by repeat (first | exact trivial | refine ⟨rfl, ?_⟩))) (fun ⟨x30, x31⟩ h32 => ?_)
        refine go Try.tbs_ok 1000 ?_
        refine ev_callF (V4 (x20)) [0] [] rfl rfl (by decide) rfl (by simp) (fun _ => (by repeat (first | exact trivial | refine ⟨rfl, ?_⟩))) (fun _ h33 => ?_)
        refine go Try.tbs_ok 1000 ?_
        refine ev_callF (V3 (x20)) [0] [] rfl rfl (by decide) rfl (by simp) (fun _ => (by repeat (first | exact trivial | refine ⟨rfl, ?_⟩))) (fun ⟨x34, x35⟩ h36 => ?_)
        refine go Try.tbs_ok 1000 ?_
        refine ev_if_no rfl ?_
        refine go Try.tbs_ok 1000 ?_
        refine ev_if_no rfl ?_
        refine go Try.tbs_ok 1000 ?_
        refine ev_callF (O1 (x24) (x30) (x25) (x31)) [] [.inr 1, .inr 3] rfl rfl (by decide) rfl (by simp) (fun _ => (by repeat (first | exact trivial | refine ⟨rfl, ?_⟩))) (fun _ h37 => ?_)
        refine go Try.tbs_ok 1000 ?_
        refine ev_if_yes rfl ?_
        refine go Try.tbs_ok 1000 ?_
        refine ev_if_no rfl ?_
        refine go Try.tbs_ok 1000 ?_
        refine ev_if_yes rfl ?_
        refine go Try.tbs_ok 1000 ?_
        refine ev_if_yes rfl ?_
        refine go Try.tbs_ok 1000 ?_
        refine ev_if_yes (decide_eq_true (by with_reducible assumption)) ?_
        refine go Try.tbs_ok 1000 ?_
        refine ev_callF (V1 (x20)) [0] [] rfl rfl (by decide) rfl (by simp) (fun _ => (by repeat (first | exact trivial | refine ⟨rfl, ?_⟩))) (fun ⟨x38, x39⟩ h40 => ?_)
        refine go Try.tbs_ok 1000 ?_
        refine ev_callF (S1 (x38) (x24) (x39) (x25)) [] [.inr 5, .inr 1] rfl rfl (by decide) rfl (by simp) (fun _ => (by repeat (first | exact trivial | refine ⟨rfl, ?_⟩))) (fun _ h41 => ?_)
        refine go Try.tbs_ok 1000 ?_
        refine ev_if_yes rfl ?_
        refine go Try.tbs_ok 1000 ?_
        refine ev_callF (S2 (x34) (x30) (x35) (x31)) [] [.inr 4, .inr 3] rfl rfl (by decide) rfl (by simp) (fun _ => (by repeat (first | exact trivial | refine ⟨rfl, ?_⟩))) (fun _ h42 => ?_)
        refine go Try.tbs_ok 1000 ?_
        refine ev_if_yes rfl ?_
        refine go Try.tbs_ok 1000 ?_
        refine ev_callF (works ) [] [] rfl rfl (by decide) rfl (by simp) (fun _ => (by repeat (first | exact trivial | refine ⟨rfl, ?_⟩))) (fun _ h43 => ?_)
        refine go Try.tbs_ok 1000 ?_
        refine ev_fin ⟨trivial, _, rfl, (()), rfl, (by trivial), Frm.nil _⟩
      · refine ev_callF (TP ) [] [.inl 0, .inl 1] rfl rfl (by decide) rfl (by simp) (fun _ => (by repeat (first | exact trivial | refine ⟨rfl, ?_⟩))) (fun x120 h121 => ?_)
        refine go Try.tbs_ok 1000 ?_
        refine ev_callF (T1 (x120)) [0] [] rfl rfl (by decide) rfl (by simp) (fun _ => (by repeat (first | exact trivial | refine ⟨rfl, ?_⟩))) (fun _ h122 => ?_)
        refine go Try.tbs_ok 1000 ?_
        refine ev_callF (T2 (x120)) [0] [] rfl rfl (by decide) rfl (by simp) (fun _ => (by repeat (first | exact trivial | refine ⟨rfl, ?_⟩))) (fun _ h123 => ?_)
        refine go Try.tbs_ok 1000 ?_
        refine ev_callF (V1 (x120)) [0] [] rfl rfl (by decide) rfl (by simp) (fun _ => (by repeat (first | exact trivial | refine ⟨rfl, ?_⟩))) (fun ⟨x124, x125⟩ h126 => ?_)
        refine go Try.tbs_ok 1000 ?_
        refine ev_callF (V2 (x120)) [0] [] rfl rfl (by decide) rfl (by simp) (fun _ => (by repeat (first | exact trivial | refine ⟨rfl, ?_⟩))) (fun ⟨x127, x128⟩ h129 => ?_)
        refine go Try.tbs_ok 1000 ?_
        refine ev_callF (V3 (x120)) [0] [] rfl rfl (by decide) rfl (by simp) (fun _ => (by repeat (first | exact trivial | refine ⟨rfl, ?_⟩))) (fun ⟨x130, x131⟩ h132 => ?_)
        refine go Try.tbs_ok 1000 ?_
        refine ev_callF (V4 (x120)) [0] [] rfl rfl (by decide) rfl (by simp) (fun _ => (by repeat (first | exact trivial | refine ⟨rfl, ?_⟩))) (fun _ h133 => ?_)
        refine go Try.tbs_ok 1000 ?_
        refine ev_callF (V3 (x120)) [0] [] rfl rfl (by decide) rfl (by simp) (fun _ => (by repeat (first | exact trivial | refine ⟨rfl, ?_⟩))) (fun ⟨x134, x135⟩ h136 => ?_)
        refine go Try.tbs_ok 1000 ?_
        refine ev_if_no rfl ?_
        refine go Try.tbs_ok 1000 ?_
        refine ev_if_no rfl ?_
        refine go Try.tbs_ok 1000 ?_
        refine ev_callF (O1 (x124) (x130) (x125) (x131)) [] [.inr 1, .inr 3] rfl rfl (by decide) rfl (by simp) (fun _ => (by repeat (first | exact trivial | refine ⟨rfl, ?_⟩))) (fun _ h137 => ?_)
        refine go Try.tbs_ok 1000 ?_
        refine ev_if_yes rfl ?_
        refine go Try.tbs_ok 1000 ?_
        refine ev_if_no rfl ?_
        refine go Try.tbs_ok 1000 ?_
        refine ev_if_yes rfl ?_
        refine go Try.tbs_ok 1000 ?_
        refine ev_if_yes rfl ?_
        refine go Try.tbs_ok 1000 ?_
        refine ev_if_lt (fun h138 => ?_) (fun h138 => ?_)
        refine go Try.tbs_ok 1000 ?_
        refine ev_callF (V1 (x120)) [0] [] rfl rfl (by decide) rfl (by simp) (fun _ => (by repeat (first | exact trivial | refine ⟨rfl, ?_⟩))) (fun ⟨x139, x140⟩ h141 => ?_)
        refine go Try.tbs_ok 1000 ?_
        refine ev_callF (S1 (x139) (x124) (x140) (x125)) [] [.inr 5, .inr 1] rfl rfl (by decide) rfl (by simp) (fun _ => (by repeat (first | exact trivial | refine ⟨rfl, ?_⟩))) (fun _ h142 => ?_)
        refine go Try.tbs_ok 1000 ?_
        refine ev_if_yes rfl ?_
        refine go Try.tbs_ok 1000 ?_
        refine ev_callF (S2 (x134) (x130) (x135) (x131)) [] [.inr 4, .inr 3] rfl rfl (by decide) rfl (by simp) (fun _ => (by repeat (first | exact trivial | refine ⟨rfl, ?_⟩))) (fun _ h143 => ?_)
        refine go Try.tbs_ok 1000 ?_
        refine ev_if_yes rfl ?_
        refine go Try.tbs_ok 1000 ?_
        refine ev_callF (works ) [] [] rfl rfl (by decide) rfl (by simp) (fun _ => (by repeat (first | exact trivial | refine ⟨rfl, ?_⟩))) (fun _ h144 => ?_)
        refine go Try.tbs_ok 1000 ?_
        refine ev_fin ⟨trivial, _, rfl, (()), rfl, (by trivial), Frm.nil _⟩
        refine go Try.tbs_ok 1000 ?_
        refine ev_if_yes (decide_eq_true (show (↑y.size : Int) > 16 from (by omega))) ?_
        refine go Try.tbs_ok 1000 ?_
        refine ev_callF (V1 (x120)) [0] [] rfl rfl (by decide) rfl (by simp) (fun _ => (by repeat (first | exact trivial | refine ⟨rfl, ?_⟩))) (fun ⟨x145, x146⟩ h147 => ?_)
        refine go Try.tbs_ok 1000 ?_
        refine ev_callF (S1 (x145) (x124) (x146) (x125)) [] [.inr 5, .inr 1] rfl rfl (by decide) rfl (by simp) (fun _ => (by repeat (first | exact trivial | refine ⟨rfl, ?_⟩))) (fun _ h148 => ?_)
        refine go Try.tbs_ok 1000 ?_
        refine ev_if_yes rfl ?_
        refine go Try.tbs_ok 1000 ?_
        refine ev_callF (S2 (x134) (x130) (x135) (x131)) [] [.inr 4, .inr 3] rfl rfl (by decide) rfl (by simp) (fun _ => (by repeat (first | exact trivial | refine ⟨rfl, ?_⟩))) (fun _ h149 => ?_)
        refine go Try.tbs_ok 1000 ?_
        refine ev_if_yes rfl ?_
        refine go Try.tbs_ok 1000 ?_
        refine ev_callF (works ) [] [] rfl rfl (by decide) rfl (by simp) (fun _ => (by repeat (first | exact trivial | refine ⟨rfl, ?_⟩))) (fun _ h150 => ?_)
        refine go Try.tbs_ok 1000 ?_
        refine ev_fin ⟨trivial, _, rfl, (()), rfl, (by trivial), Frm.nil _⟩
    | false =>
      have e4 : renD D x y = (⟨D.most, D.starts, D.down, renF L x y, none, D.keep⟩, 0) := by unfold renD; rw [uA, ← eL, hh, ho, chg_none fA]; rw [uA]; rfl
      have okR := ren_ok okA x y
      rw [e4] at V4 okR
      obtain ⟨D2, eD2⟩ : ∃ D2 : DK, D2 = ⟨D.most, D.starts, D.down, renF L x y, none, D.keep⟩ := ⟨_, rfl⟩
      have uR : D2.down = false := by rw [eD2]; exact uA
      obtain ⟨M, eM⟩ : ∃ M, M = renF L x y := ⟨_, rfl⟩
      have eM2 : M = D2.files := by rw [eD2, eM]
      rw [← eD2] at V4 okR
      obtain ⟨n2, en2⟩ : ∃ n2, n2 = M.length := ⟨_, rfl⟩
      have U1 := fun p => namesM p D2 okR
      have U2 := fun p => leftM p D2 okR
      have U3 := fun p => bytesT p D2 M n2 eM2 en2 okR uR
      have hfew2 := okR.few
      rw [← eM2] at U1 U2 hfew2
      rw [← en2] at U1 U2 hfew2
      obtain ⟨N2, eN2⟩ : ∃ N, N = M.map nameEG := ⟨_, rfl⟩
      obtain ⟨W2, eW2⟩ : ∃ W, W = M.map datEG := ⟨_, rfl⟩
      obtain ⟨Z2, eZ2⟩ : ∃ Z, Z = M.map leftEG := ⟨_, rfl⟩
      rw [← eN2] at U1
      rw [← eZ2] at U2
      rw [← eW2] at U3
      have hN2l : N2.length = n2 := by rw [eN2, List.length_map, en2]
      have hW2l : W2.length = n2 := by rw [eW2, List.length_map, en2]
      have hZ2l : Z2.length = n2 := by rw [eZ2, List.length_map, en2]
      have hlen := ren_len (y := y) hs hp ep
      rw [← eM, ← en2, ← en] at hlen
      have hmem := fun f (hf : f ∈ M) => mem_ren (y := y) hs hp ep (by rw [eM] at hf; exact hf)
      have hox : oldL L x = (L[posF L x].d, true) := by
        have := old_at hs (List.getElem_mem hp)
        rwa [ep] at this
      refine ev_callF (TP ) [] [.inl 0, .inl 1] rfl rfl (by decide) rfl (by simp) (fun _ => (by repeat (first | exact trivial | refine ⟨rfl, ?_⟩))) (fun x20 h21 => ?_)
      refine go Try.tbs_ok 1000 ?_
      refine ev_callF (T1 (x20)) [0] [] rfl rfl (by decide) rfl (by simp) (fun _ => (by repeat (first | exact trivial | refine ⟨rfl, ?_⟩))) (fun _ h22 => ?_)
      refine go Try.tbs_ok 1000 ?_
      refine ev_callF (T2 (x20)) [0] [] rfl rfl (by decide) rfl (by simp) (fun _ => (by repeat (first | exact trivial | refine ⟨rfl, ?_⟩))) (fun _ h23 => ?_)
      refine go Try.tbs_ok 1000 ?_
      refine ev_callF (V1 (x20)) [0] [] rfl rfl (by decide) rfl (by simp) (fun _ => (by repeat (first | exact trivial | refine ⟨rfl, ?_⟩))) (fun ⟨x24, x25⟩ h26 => ?_)
      refine go Try.tbs_ok 1000 ?_
      refine ev_callF (V2 (x20)) [0] [] rfl rfl (by decide) rfl (by simp) (fun _ => (by repeat (first | exact trivial | refine ⟨rfl, ?_⟩))) (fun ⟨x27, x28⟩ h29 => ?_)
      refine go Try.tbs_ok 1000 ?_
      refine ev_callF (V3 (x20)) [0] [] rfl rfl (by decide) rfl (by simp) (fun _ => (by repeat (first | exact trivial | refine ⟨rfl, ?_⟩))) (fun ⟨x30, x31⟩ h32 => ?_)
      refine go Try.tbs_ok 1000 ?_
      refine ev_callF (V4 (x20)) [0] [] rfl rfl (by decide) rfl (by simp) (fun _ => (by repeat (first | exact trivial | refine ⟨rfl, ?_⟩))) (fun _ h33 => ?_)
      refine go Try.tbs_ok 1000 ?_
      refine ev_callF (U3 (x20)) [0] [] rfl rfl (by decide) rfl (by simp) (fun _ => (by repeat (first | exact trivial | refine ⟨rfl, ?_⟩))) (fun ⟨x34, x35⟩ h36 => ?_)
      refine go Try.tbs_ok 1000 ?_
      refine ev_if_no rfl ?_
      refine go Try.tbs_ok 1000 ?_
      refine ev_if_no rfl ?_
      refine go Try.tbs_ok 1000 ?_
      refine ev_callF (O1 (x24) (x30) (x25) (x31)) [] [.inr 1, .inr 3] rfl rfl (by decide) rfl (by simp) (fun _ => (by repeat (first | exact trivial | refine ⟨rfl, ?_⟩))) (fun _ h37 => ?_)
      refine go Try.tbs_ok 1000 ?_
      refine ev_if_no rfl ?_
      refine go Try.tbs_ok 1000 ?_
      refine ev_callF (U1 (x20)) [0] [] rfl rfl (by decide) rfl (by simp) (fun _ => (by repeat (first | exact trivial | refine ⟨rfl, ?_⟩))) (fun ⟨x38, x39⟩ h40 => ?_)
      refine go Try.tbs_ok 1000 ?_
      refine ev_callF (U2 (x20)) [0] [] rfl rfl (by decide) rfl (by simp) (fun _ => (by repeat (first | exact trivial | refine ⟨rfl, ?_⟩))) (fun ⟨x41, x42⟩ h43 => ?_)
      refine go Try.tbs_ok 1000 ?_
      refine ev_stop (go_loopR [6, 19, 20, 21, 22, 23, 44, 52, 54, 61, 63, 72, 76, 121, 122, 123, 124, 125, 126, 127, 128, 129, 130, 131, 132, 133, 134, 135, 136, 137, 138, 139, 140, 141, 142, 143, 144, 145, 146, 147, 148, 149, 150, 151, 152, 153, 154, 155, 156, 157, 158, 159, 160, 161, 162, 163, 164, 165, 166, 167, 168, 169, 170, 171, 172, 173, 174, 175, 176, 177, 178, 179, 180, 181, 182, 183, 184, 185, 186, 187, 188, 189, 190, 191, 192, 193, 194] (fun i => [(19, .va (.int .i64 (i : Nat)))]) (fun _ => []) (fun i => i ≤ n2) (fun i => n2 - i) (0 : Nat) (Nat.zero_le _) ⟨⟨by kernel_rfl, by kernel_rfl⟩, ⟨_, rfl⟩, ⟨_, rfl⟩, by kernel_rfl, by kernel_rfl⟩ (fun i hi => ?_))
      refine go Try.tbs_ok 1000 ?_
      refine ev_if_lt (fun hlt => ?_) (fun hge => ?_)
      · have hil : i < M.length := by
          have : (i : Int) < (n2 : Int) := hlt
          omega
        have fM : N2[i]'(by omega) = M[i].n := by simp only [eN2, List.getElem_map, nameEG]
        have fD : W2[i]'(by omega) = M[i].d := by simp only [eW2, List.getElem_map, datEG]
        have fE : Z2[i]'(by omega) = (M[i].d.size : Int) - M[i].s := by simp only [eZ2, List.getElem_map, leftEG]
        have O2 := fun A B c d => oldR A B L N1 W1 n1 c n1 d (N2[i]'(by omega)) eN1 eW1 en en (by omega) _ rfl
        rcases hmem _ (List.getElem_mem hil) with hm | hm
        · have gN : N2[i]'(by omega) = y := by rw [fM, hm]
          have gD : W2[i]'(by omega) = (oldL L x).1 := by rw [fD, hm, hox]
          by_cases hxy : x = y
          · have gX : N2[i]'(by omega) = x := by rw [gN, hxy]
            refine go Try.tbs_ok 1000 ?_
            refine ev_stop (go_index0 (sz := 1) Try.tbs_ok (.inr 5) (i) rfl rfl rfl rfl rfl rfl (by omega) rfl Row.at0 (fun g200 e201 => ?_))
            subst e201
            refine go Try.tbs_ok 1000 ?_
            have l202 : i < (N2).length := (by omega)
            refine ev_stop (go_loadE Try.tbs_ok (.inr 5) (i) 0 rfl rfl rfl rfl (fun _ h => Row.rd h) (by omega) (fun _ => rfl) (by omega) l202 (by decide) ?_)
            refine go Try.tbs_ok 1000 ?_
            refine ev_callF (O2 (x24) (x30) (x25) (x31)) [] [.inr 1, .inr 3] rfl rfl (by decide) rfl (by simp) (fun _ => (by repeat (first | exact trivial | refine ⟨rfl, ?_⟩))) (fun _ h203 => ?_)
            refine go Try.tbs_ok 1000 ?_
            refine ev_stop (go_atE (sz := 1) Try.tbs_ok (i) rfl rfl rfl rfl rfl rfl (by omega) ?_)
            refine go Try.tbs_ok 1000 ?_
            have l204 : i < (N2).length := (by omega)
            refine ev_stop (go_loadE Try.tbs_ok (.inr 5) (i) 0 rfl rfl rfl rfl (fun _ h => Row.rd h) (by omega) (fun _ => rfl) (by omega) l204 (by decide) ?_)
            refine go Try.tbs_ok 1000 ?_
            refine ev_stop (go_atE (sz := 1) Try.tbs_ok (i) rfl rfl rfl rfl rfl rfl (by omega) ?_)
            refine go Try.tbs_ok 1000 ?_
            have l205 : i < (N2).length := (by omega)
            refine ev_stop (go_loadE Try.tbs_ok (.inr 5) (i) 0 rfl rfl rfl rfl (fun _ h => Row.rd h) (by omega) (fun _ => rfl) (by omega) l205 (by decide) ?_)
            refine go Try.tbs_ok 1000 ?_
            refine ev_if_yes (decide_eq_true (by with_reducible assumption)) ?_
            refine go Try.tbs_ok 1000 ?_
            refine ev_stop (go_index0 (sz := 1) Try.tbs_ok (.inr 4) (i) rfl rfl rfl rfl rfl rfl (by omega) rfl Row.at0 (fun g206 e207 => ?_))
            subst e207
            refine go Try.tbs_ok 1000 ?_
            have l208 : i < (W2).length := (by omega)
            refine ev_stop (go_loadE Try.tbs_ok (.inr 4) (i) 0 rfl rfl rfl rfl (fun _ h => Row.rd h) (by omega) (fun _ => rfl) (by omega) l208 (by decide) ?_)
            refine go Try.tbs_ok 1000 ?_
            refine ev_if_no (dec_no (by with_reducible assumption)) ?_
            refine go Try.tbs_ok 1000 ?_
            refine ev_stop (go_atE (sz := 1) Try.tbs_ok (i) rfl rfl rfl rfl rfl rfl (by omega) ?_)
            refine go Try.tbs_ok 1000 ?_
            have l209 : i < (N2).length := (by omega)
            refine ev_stop (go_loadE Try.tbs_ok (.inr 5) (i) 0 rfl rfl rfl rfl (fun _ h => Row.rd h) (by omega) (fun _ => rfl) (by omega) l209 (by decide) ?_)
            refine go Try.tbs_ok 1000 ?_
            refine ev_if_yes (decide_eq_true (by with_reducible assumption)) ?_
            refine go Try.tbs_ok 1000 ?_
            refine ev_if_no (dec_no (by with_reducible assumption)) ?_
            refine go Try.tbs_ok 1000 ?_
            refine ev_stop (go_loopR [6, 23, 127, 134, 172, 173, 174, 175, 176, 177, 178, 179, 180, 181, 182, 183, 184, 185, 186, 187, 188, 189, 190, 191, 192, 193, 194] (fun k => [(23, .va (.int .i64 (k : Nat)))]) (fun _ => []) (fun k => k ≤ n1) (fun k => n1 - k) (0 : Nat) (Nat.zero_le _) ⟨⟨by kernel_rfl, by kernel_rfl⟩, ⟨_, rfl⟩, ⟨_, rfl⟩, by kernel_rfl, by kernel_rfl⟩ (fun k hk2 => ?_))
            refine go Try.tbs_ok 1000 ?_
            refine ev_if_lt (fun hlt => ?_) (fun hge => ?_)
            · have hkl : k < L.length := by
                have : (k : Int) < (n1 : Int) := hlt
                omega
              have fN : N1[k]'(by omega) = L[k].n := by simp only [eN1, List.getElem_map, nameEG]
              have fZ : Z1[k]'(by omega) = (L[k].d.size : Int) - L[k].s := by simp only [eZ1, List.getElem_map, leftEG]
              by_cases hq : N1[k]'(by omega) = x
              · have hz : Z1[k]'(by omega) = Z2[i]'(by omega) := by
                  have ek : k = posF L x := name_at hs hkl hp (by rw [← fN, hq, ep])
                  subst ek
                  rw [fZ, fE, hm]
                refine go Try.tbs_ok 1000 ?_
                refine ev_stop (go_draw Try.tbs_ok true [0, 1, 2, 3, 4, 5, 6] [(0,true),(1,true),(2,true),(3,true),(4,true),(5,true),(6,true),(7,true),(8,true),(9,true),(10,true),(11,true),(12,true),(13,true),(14,true),(15,true),(16,true)] rfl ?_)
                refine go Try.tbs_ok 1000 ?_
                refine ev_need ⟨⟨(by repeat (first | exact trivial | refine ⟨rfl, ?_⟩)), rfl⟩, by kernel_rfl⟩ ?_
                refine ev_stop (tk_index0 (sz := 1) Try.tbs_ok (.inr 1) (k) ⟨⟨(by repeat (first | exact trivial | refine ⟨rfl, ?_⟩)), rfl⟩, by kernel_rfl⟩ rfl rfl rfl rfl rfl rfl rfl (by omega) rfl Row.at0 (fun g320 e321 => ?_))
                subst e321
                refine go Try.tbs_ok 1000 ?_
                refine ev_need ⟨⟨(by repeat (first | exact trivial | refine ⟨rfl, ?_⟩)), rfl⟩, by kernel_rfl⟩ ?_
                have l322 : k < (N1).length := (by omega)
                refine ev_stop (tk_loadE Try.tbs_ok (.inr 1) (k) 0 ⟨⟨(by repeat (first | exact trivial | refine ⟨rfl, ?_⟩)), rfl⟩, by kernel_rfl⟩ rfl rfl rfl rfl rfl (fun _ h => Row.rd h) (by omega) (fun _ => rfl) (by omega) l322 (by decide) ?_)
                refine go Try.tbs_ok 1000 ?_
                refine ev_need ⟨⟨(by repeat (first | exact trivial | refine ⟨rfl, ?_⟩)), rfl⟩, by kernel_rfl⟩ ?_
                refine ev_if_yes (decide_eq_true (by with_reducible assumption)) ?_
                refine go Try.tbs_ok 1000 ?_
                refine ev_need ⟨⟨(by repeat (first | exact trivial | refine ⟨rfl, ?_⟩)), rfl⟩, by kernel_rfl⟩ ?_
                refine ev_stop (tk_index0 (sz := 1) Try.tbs_ok (.inr 2) (k) ⟨⟨(by repeat (first | exact trivial | refine ⟨rfl, ?_⟩)), rfl⟩, by kernel_rfl⟩ rfl rfl rfl rfl rfl rfl rfl (by omega) rfl Row.at0 (fun g323 e324 => ?_))
                subst e324
                refine go Try.tbs_ok 1000 ?_
                refine ev_need ⟨⟨(by repeat (first | exact trivial | refine ⟨rfl, ?_⟩)), rfl⟩, by kernel_rfl⟩ ?_
                have l325 : k < (Z1).length := (by omega)
                refine ev_stop (tk_loadE Try.tbs_ok (.inr 2) (k) 0 ⟨⟨(by repeat (first | exact trivial | refine ⟨rfl, ?_⟩)), rfl⟩, by kernel_rfl⟩ rfl rfl rfl rfl rfl (fun _ h => Row.rd h) (by omega) (fun _ => rfl) (by omega) l325 (by decide) ?_)
                refine go Try.tbs_ok 1000 ?_
                refine ev_need ⟨⟨(by repeat (first | exact trivial | refine ⟨rfl, ?_⟩)), rfl⟩, by kernel_rfl⟩ ?_
                refine ev_stop (tk_index0 (sz := 1) Try.tbs_ok (.inr 6) (i) ⟨⟨(by repeat (first | exact trivial | refine ⟨rfl, ?_⟩)), rfl⟩, by kernel_rfl⟩ rfl rfl rfl rfl rfl rfl rfl (by omega) rfl Row.at0 (fun g326 e327 => ?_))
                subst e327
                refine go Try.tbs_ok 1000 ?_
                refine ev_need ⟨⟨(by repeat (first | exact trivial | refine ⟨rfl, ?_⟩)), rfl⟩, by kernel_rfl⟩ ?_
                have l328 : i < (Z2).length := (by omega)
                refine ev_stop (tk_loadE Try.tbs_ok (.inr 6) (i) 0 ⟨⟨(by repeat (first | exact trivial | refine ⟨rfl, ?_⟩)), rfl⟩, by kernel_rfl⟩ rfl rfl rfl rfl rfl (fun _ h => Row.rd h) (by omega) (fun _ => rfl) (by omega) l328 (by decide) ?_)
                refine go Try.tbs_ok 1000 ?_
                refine ev_need ⟨⟨(by repeat (first | exact trivial | refine ⟨rfl, ?_⟩)), rfl⟩, by kernel_rfl⟩ ?_
                refine ev_if_no (ne_no (by with_reducible assumption)) ?_
                refine go Try.tbs_ok 1000 ?_
                refine ev_wrapN (k + 1) (by constructor <;> omega) (by rfl) ?_
                refine ev_fin (round_next (k + 1) (show k + 1 ≤ n1 from (by omega)) (show n1 - (k + 1) < n1 - k from (by omega)) ⟨⟨by kernel_rfl, by kernel_rfl⟩, ⟨_, rfl⟩, ⟨_, rfl⟩, by kernel_rfl, by kernel_rfl⟩)
              · refine go Try.tbs_ok 1000 ?_
                refine ev_stop (go_draw Try.tbs_ok true [0, 1, 2, 3, 4, 5, 6] [(0,true),(1,true),(2,true),(3,true),(4,true),(5,true),(6,true),(7,true),(8,true),(9,true),(10,true),(11,true),(12,true),(13,true),(14,true),(15,true),(16,true)] rfl ?_)
                refine go Try.tbs_ok 1000 ?_
                refine ev_need ⟨⟨(by repeat (first | exact trivial | refine ⟨rfl, ?_⟩)), rfl⟩, by kernel_rfl⟩ ?_
                refine ev_stop (tk_index0 (sz := 1) Try.tbs_ok (.inr 1) (k) ⟨⟨(by repeat (first | exact trivial | refine ⟨rfl, ?_⟩)), rfl⟩, by kernel_rfl⟩ rfl rfl rfl rfl rfl rfl rfl (by omega) rfl Row.at0 (fun g340 e341 => ?_))
                subst e341
                refine go Try.tbs_ok 1000 ?_
                refine ev_need ⟨⟨(by repeat (first | exact trivial | refine ⟨rfl, ?_⟩)), rfl⟩, by kernel_rfl⟩ ?_
                have l342 : k < (N1).length := (by omega)
                refine ev_stop (tk_loadE Try.tbs_ok (.inr 1) (k) 0 ⟨⟨(by repeat (first | exact trivial | refine ⟨rfl, ?_⟩)), rfl⟩, by kernel_rfl⟩ rfl rfl rfl rfl rfl (fun _ h => Row.rd h) (by omega) (fun _ => rfl) (by omega) l342 (by decide) ?_)
                refine go Try.tbs_ok 1000 ?_
                refine ev_need ⟨⟨(by repeat (first | exact trivial | refine ⟨rfl, ?_⟩)), rfl⟩, by kernel_rfl⟩ ?_
                refine ev_if_no (decide_eq_false (by with_reducible assumption)) ?_
                refine go Try.tbs_ok 1000 ?_
                refine ev_need ⟨⟨(by repeat (first | exact trivial | refine ⟨rfl, ?_⟩)), rfl⟩, by kernel_rfl⟩ ?_
                refine ev_wrapN (k + 1) (by constructor <;> omega) (by rfl) ?_
                refine ev_fin (round_next (k + 1) (show k + 1 ≤ n1 from (by omega)) (show n1 - (k + 1) < n1 - k from (by omega)) ⟨⟨by kernel_rfl, by kernel_rfl⟩, ⟨_, rfl⟩, ⟨_, rfl⟩, by kernel_rfl, by kernel_rfl⟩)
            · refine go Try.tbs_ok 1000 ?_
              refine ev_fin (go Try.tbs_ok 1000 ?_)
              refine ev_wrapN (i + 1) (by constructor <;> omega) (by rfl) ?_
              refine ev_fin (round_next (i + 1) (show i + 1 ≤ n2 from (by omega)) (show n2 - (i + 1) < n2 - i from (by omega)) ⟨⟨by kernel_rfl, by kernel_rfl⟩, ⟨_, rfl⟩, ⟨_, rfl⟩, by kernel_rfl, by kernel_rfl⟩)
          · have gX : N2[i]'(by omega) ≠ x := by rw [gN]; exact fun e => hxy e.symm
            refine go Try.tbs_ok 1000 ?_
            refine ev_stop (go_index0 (sz := 1) Try.tbs_ok (.inr 5) (i) rfl rfl rfl rfl rfl rfl (by omega) rfl Row.at0 (fun g400 e401 => ?_))
            subst e401
            refine go Try.tbs_ok 1000 ?_
            have l402 : i < (N2).length := (by omega)
            refine ev_stop (go_loadE Try.tbs_ok (.inr 5) (i) 0 rfl rfl rfl rfl (fun _ h => Row.rd h) (by omega) (fun _ => rfl) (by omega) l402 (by decide) ?_)
            refine go Try.tbs_ok 1000 ?_
            refine ev_callF (O2 (x24) (x30) (x25) (x31)) [] [.inr 1, .inr 3] rfl rfl (by decide) rfl (by simp) (fun _ => (by repeat (first | exact trivial | refine ⟨rfl, ?_⟩))) (fun _ h403 => ?_)
            refine go Try.tbs_ok 1000 ?_
            refine ev_stop (go_atE (sz := 1) Try.tbs_ok (i) rfl rfl rfl rfl rfl rfl (by omega) ?_)
            refine go Try.tbs_ok 1000 ?_
            have l404 : i < (N2).length := (by omega)
            refine ev_stop (go_loadE Try.tbs_ok (.inr 5) (i) 0 rfl rfl rfl rfl (fun _ h => Row.rd h) (by omega) (fun _ => rfl) (by omega) l404 (by decide) ?_)
            refine go Try.tbs_ok 1000 ?_
            refine ev_stop (go_atE (sz := 1) Try.tbs_ok (i) rfl rfl rfl rfl rfl rfl (by omega) ?_)
            refine go Try.tbs_ok 1000 ?_
            have l405 : i < (N2).length := (by omega)
            refine ev_stop (go_loadE Try.tbs_ok (.inr 5) (i) 0 rfl rfl rfl rfl (fun _ h => Row.rd h) (by omega) (fun _ => rfl) (by omega) l405 (by decide) ?_)
            refine go Try.tbs_ok 1000 ?_
            refine ev_if_yes (decide_eq_true (by with_reducible assumption)) ?_
            refine go Try.tbs_ok 1000 ?_
            refine ev_stop (go_index0 (sz := 1) Try.tbs_ok (.inr 4) (i) rfl rfl rfl rfl rfl rfl (by omega) rfl Row.at0 (fun g406 e407 => ?_))
            subst e407
            refine go Try.tbs_ok 1000 ?_
            have l408 : i < (W2).length := (by omega)
            refine ev_stop (go_loadE Try.tbs_ok (.inr 4) (i) 0 rfl rfl rfl rfl (fun _ h => Row.rd h) (by omega) (fun _ => rfl) (by omega) l408 (by decide) ?_)
            refine go Try.tbs_ok 1000 ?_
            refine ev_if_no (dec_no (by with_reducible assumption)) ?_
            refine go Try.tbs_ok 1000 ?_
            refine ev_stop (go_atE (sz := 1) Try.tbs_ok (i) rfl rfl rfl rfl rfl rfl (by omega) ?_)
            refine go Try.tbs_ok 1000 ?_
            have l409 : i < (N2).length := (by omega)
            refine ev_stop (go_loadE Try.tbs_ok (.inr 5) (i) 0 rfl rfl rfl rfl (fun _ h => Row.rd h) (by omega) (fun _ => rfl) (by omega) l409 (by decide) ?_)
            refine go Try.tbs_ok 1000 ?_
            refine ev_if_no (decide_eq_false (by with_reducible assumption)) ?_
            refine go Try.tbs_ok 1000 ?_
            refine ev_stop (go_loopR [6, 23, 127, 134, 172, 173, 174, 175, 176, 177, 178, 179, 180, 181, 182, 183, 184, 185, 186, 187, 188, 189, 190, 191, 192, 193, 194] (fun k => [(23, .va (.int .i64 (k : Nat)))]) (fun _ => []) (fun k => k ≤ n1) (fun k => n1 - k) (0 : Nat) (Nat.zero_le _) ⟨⟨by kernel_rfl, by kernel_rfl⟩, ⟨_, rfl⟩, ⟨_, rfl⟩, by kernel_rfl, by kernel_rfl⟩ (fun k hk2 => ?_))
            refine go Try.tbs_ok 1000 ?_
            refine ev_if_lt (fun hlt => ?_) (fun hge => ?_)
            · have hkl : k < L.length := by
                have : (k : Int) < (n1 : Int) := hlt
                omega
              have fN : N1[k]'(by omega) = L[k].n := by simp only [eN1, List.getElem_map, nameEG]
              have fZ : Z1[k]'(by omega) = (L[k].d.size : Int) - L[k].s := by simp only [eZ1, List.getElem_map, leftEG]
              by_cases hq : N1[k]'(by omega) = x
              · have hz : Z1[k]'(by omega) = Z2[i]'(by omega) := by
                  have ek : k = posF L x := name_at hs hkl hp (by rw [← fN, hq, ep])
                  subst ek
                  rw [fZ, fE, hm]
                refine go Try.tbs_ok 1000 ?_
                refine ev_stop (go_draw Try.tbs_ok true [0, 1, 2, 3, 4, 5, 6] [(0,true),(1,true),(2,true),(3,true),(4,true),(5,true),(6,true),(7,true),(8,true),(9,true),(10,true),(11,true),(12,true),(13,true),(14,true),(15,true),(16,true)] rfl ?_)
                refine go Try.tbs_ok 1000 ?_
                refine ev_need ⟨⟨(by repeat (first | exact trivial | refine ⟨rfl, ?_⟩)), rfl⟩, by kernel_rfl⟩ ?_
                refine ev_stop (tk_index0 (sz := 1) Try.tbs_ok (.inr 1) (k) ⟨⟨(by repeat (first | exact trivial | refine ⟨rfl, ?_⟩)), rfl⟩, by kernel_rfl⟩ rfl rfl rfl rfl rfl rfl rfl (by omega) rfl Row.at0 (fun g520 e521 => ?_))
                subst e521
                refine go Try.tbs_ok 1000 ?_
                refine ev_need ⟨⟨(by repeat (first | exact trivial | refine ⟨rfl, ?_⟩)), rfl⟩, by kernel_rfl⟩ ?_
                have l522 : k < (N1).length := (by omega)
                refine ev_stop (tk_loadE Try.tbs_ok (.inr 1) (k) 0 ⟨⟨(by repeat (first | exact trivial | refine ⟨rfl, ?_⟩)), rfl⟩, by kernel_rfl⟩ rfl rfl rfl rfl rfl (fun _ h => Row.rd h) (by omega) (fun _ => rfl) (by omega) l522 (by decide) ?_)
                refine go Try.tbs_ok 1000 ?_
                refine ev_need ⟨⟨(by repeat (first | exact trivial | refine ⟨rfl, ?_⟩)), rfl⟩, by kernel_rfl⟩ ?_
                refine ev_if_yes (decide_eq_true (by with_reducible assumption)) ?_
                refine go Try.tbs_ok 1000 ?_
                refine ev_need ⟨⟨(by repeat (first | exact trivial | refine ⟨rfl, ?_⟩)), rfl⟩, by kernel_rfl⟩ ?_
                refine ev_stop (tk_index0 (sz := 1) Try.tbs_ok (.inr 2) (k) ⟨⟨(by repeat (first | exact trivial | refine ⟨rfl, ?_⟩)), rfl⟩, by kernel_rfl⟩ rfl rfl rfl rfl rfl rfl rfl (by omega) rfl Row.at0 (fun g523 e524 => ?_))
                subst e524
                refine go Try.tbs_ok 1000 ?_
                refine ev_need ⟨⟨(by repeat (first | exact trivial | refine ⟨rfl, ?_⟩)), rfl⟩, by kernel_rfl⟩ ?_
                have l525 : k < (Z1).length := (by omega)
                refine ev_stop (tk_loadE Try.tbs_ok (.inr 2) (k) 0 ⟨⟨(by repeat (first | exact trivial | refine ⟨rfl, ?_⟩)), rfl⟩, by kernel_rfl⟩ rfl rfl rfl rfl rfl (fun _ h => Row.rd h) (by omega) (fun _ => rfl) (by omega) l525 (by decide) ?_)
                refine go Try.tbs_ok 1000 ?_
                refine ev_need ⟨⟨(by repeat (first | exact trivial | refine ⟨rfl, ?_⟩)), rfl⟩, by kernel_rfl⟩ ?_
                refine ev_stop (tk_index0 (sz := 1) Try.tbs_ok (.inr 6) (i) ⟨⟨(by repeat (first | exact trivial | refine ⟨rfl, ?_⟩)), rfl⟩, by kernel_rfl⟩ rfl rfl rfl rfl rfl rfl rfl (by omega) rfl Row.at0 (fun g526 e527 => ?_))
                subst e527
                refine go Try.tbs_ok 1000 ?_
                refine ev_need ⟨⟨(by repeat (first | exact trivial | refine ⟨rfl, ?_⟩)), rfl⟩, by kernel_rfl⟩ ?_
                have l528 : i < (Z2).length := (by omega)
                refine ev_stop (tk_loadE Try.tbs_ok (.inr 6) (i) 0 ⟨⟨(by repeat (first | exact trivial | refine ⟨rfl, ?_⟩)), rfl⟩, by kernel_rfl⟩ rfl rfl rfl rfl rfl (fun _ h => Row.rd h) (by omega) (fun _ => rfl) (by omega) l528 (by decide) ?_)
                refine go Try.tbs_ok 1000 ?_
                refine ev_need ⟨⟨(by repeat (first | exact trivial | refine ⟨rfl, ?_⟩)), rfl⟩, by kernel_rfl⟩ ?_
                refine ev_if_no (ne_no (by with_reducible assumption)) ?_
                refine go Try.tbs_ok 1000 ?_
                refine ev_wrapN (k + 1) (by constructor <;> omega) (by rfl) ?_
                refine ev_fin (round_next (k + 1) (show k + 1 ≤ n1 from (by omega)) (show n1 - (k + 1) < n1 - k from (by omega)) ⟨⟨by kernel_rfl, by kernel_rfl⟩, ⟨_, rfl⟩, ⟨_, rfl⟩, by kernel_rfl, by kernel_rfl⟩)
              · refine go Try.tbs_ok 1000 ?_
                refine ev_stop (go_draw Try.tbs_ok true [0, 1, 2, 3, 4, 5, 6] [(0,true),(1,true),(2,true),(3,true),(4,true),(5,true),(6,true),(7,true),(8,true),(9,true),(10,true),(11,true),(12,true),(13,true),(14,true),(15,true),(16,true)] rfl ?_)
                refine go Try.tbs_ok 1000 ?_
                refine ev_need ⟨⟨(by repeat (first | exact trivial | refine ⟨rfl, ?_⟩)), rfl⟩, by kernel_rfl⟩ ?_
                refine ev_stop (tk_index0 (sz := 1) Try.tbs_ok (.inr 1) (k) ⟨⟨(by repeat (first | exact trivial | refine ⟨rfl, ?_⟩)), rfl⟩, by kernel_rfl⟩ rfl rfl rfl rfl rfl rfl rfl (by omega) rfl Row.at0 (fun g540 e541 => ?_))
                subst e541
                refine go Try.tbs_ok 1000 ?_
                refine ev_need ⟨⟨(by repeat (first | exact trivial | refine ⟨rfl, ?_⟩)), rfl⟩, by kernel_rfl⟩ ?_
                have l542 : k < (N1).length := (by omega)
                refine ev_stop (tk_loadE Try.tbs_ok (.inr 1) (k) 0 ⟨⟨(by repeat (first | exact trivial | refine ⟨rfl, ?_⟩)), rfl⟩, by kernel_rfl⟩ rfl rfl rfl rfl rfl (fun _ h => Row.rd h) (by omega) (fun _ => rfl) (by omega) l542 (by decide) ?_)
                refine go Try.tbs_ok 1000 ?_
                refine ev_need ⟨⟨(by repeat (first | exact trivial | refine ⟨rfl, ?_⟩)), rfl⟩, by kernel_rfl⟩ ?_
                refine ev_if_no (decide_eq_false (by with_reducible assumption)) ?_
                refine go Try.tbs_ok 1000 ?_
                refine ev_need ⟨⟨(by repeat (first | exact trivial | refine ⟨rfl, ?_⟩)), rfl⟩, by kernel_rfl⟩ ?_
                refine ev_wrapN (k + 1) (by constructor <;> omega) (by rfl) ?_
                refine ev_fin (round_next (k + 1) (show k + 1 ≤ n1 from (by omega)) (show n1 - (k + 1) < n1 - k from (by omega)) ⟨⟨by kernel_rfl, by kernel_rfl⟩, ⟨_, rfl⟩, ⟨_, rfl⟩, by kernel_rfl, by kernel_rfl⟩)
            · refine go Try.tbs_ok 1000 ?_
              refine ev_fin (go Try.tbs_ok 1000 ?_)
              refine ev_wrapN (i + 1) (by constructor <;> omega) (by rfl) ?_
              refine ev_fin (round_next (i + 1) (show i + 1 ≤ n2 from (by omega)) (show n2 - (i + 1) < n2 - i from (by omega)) ⟨⟨by kernel_rfl, by kernel_rfl⟩, ⟨_, rfl⟩, ⟨_, rfl⟩, by kernel_rfl, by kernel_rfl⟩)
        · have gO : oldL L (N2[i]'(by omega)) = (W2[i]'(by omega), true) := by
            rw [fM, fD]
            exact old_at hs hm.1
          rw [gO] at O2
          have gN : N2[i]'(by omega) ≠ y := by rw [fM]; exact hm.2.1
          have gX : N2[i]'(by omega) ≠ x := by rw [fM]; exact hm.2.2
          refine go Try.tbs_ok 1000 ?_
          refine ev_stop (go_index0 (sz := 1) Try.tbs_ok (.inr 5) (i) rfl rfl rfl rfl rfl rfl (by omega) rfl Row.at0 (fun g600 e601 => ?_))
          subst e601
          refine go Try.tbs_ok 1000 ?_
          have l602 : i < (N2).length := (by omega)
          refine ev_stop (go_loadE Try.tbs_ok (.inr 5) (i) 0 rfl rfl rfl rfl (fun _ h => Row.rd h) (by omega) (fun _ => rfl) (by omega) l602 (by decide) ?_)
          refine go Try.tbs_ok 1000 ?_
          refine ev_callF (O2 (x24) (x30) (x25) (x31)) [] [.inr 1, .inr 3] rfl rfl (by decide) rfl (by simp) (fun _ => (by repeat (first | exact trivial | refine ⟨rfl, ?_⟩))) (fun _ h603 => ?_)
          refine go Try.tbs_ok 1000 ?_
          refine ev_stop (go_atE (sz := 1) Try.tbs_ok (i) rfl rfl rfl rfl rfl rfl (by omega) ?_)
          refine go Try.tbs_ok 1000 ?_
          have l604 : i < (N2).length := (by omega)
          refine ev_stop (go_loadE Try.tbs_ok (.inr 5) (i) 0 rfl rfl rfl rfl (fun _ h => Row.rd h) (by omega) (fun _ => rfl) (by omega) l604 (by decide) ?_)
          refine go Try.tbs_ok 1000 ?_
          refine ev_stop (go_atE (sz := 1) Try.tbs_ok (i) rfl rfl rfl rfl rfl rfl (by omega) ?_)
          refine go Try.tbs_ok 1000 ?_
          have l605 : i < (N2).length := (by omega)
          refine ev_stop (go_loadE Try.tbs_ok (.inr 5) (i) 0 rfl rfl rfl rfl (fun _ h => Row.rd h) (by omega) (fun _ => rfl) (by omega) l605 (by decide) ?_)
          refine go Try.tbs_ok 1000 ?_
          refine ev_if_no (decide_eq_false (by with_reducible assumption)) ?_
          refine go Try.tbs_ok 1000 ?_
          refine ev_if_no rfl ?_
          refine go Try.tbs_ok 1000 ?_
          refine ev_stop (go_index0 (sz := 1) Try.tbs_ok (.inr 4) (i) rfl rfl rfl rfl rfl rfl (by omega) rfl Row.at0 (fun g606 e607 => ?_))
          subst e607
          refine go Try.tbs_ok 1000 ?_
          have l608 : i < (W2).length := (by omega)
          refine ev_stop (go_loadE Try.tbs_ok (.inr 4) (i) 0 rfl rfl rfl rfl (fun _ h => Row.rd h) (by omega) (fun _ => rfl) (by omega) l608 (by decide) ?_)
          refine go Try.tbs_ok 1000 ?_
          refine ev_if_no (dec_no (by rfl)) ?_
          refine go Try.tbs_ok 1000 ?_
          refine ev_stop (go_atE (sz := 1) Try.tbs_ok (i) rfl rfl rfl rfl rfl rfl (by omega) ?_)
          refine go Try.tbs_ok 1000 ?_
          have l609 : i < (N2).length := (by omega)
          refine ev_stop (go_loadE Try.tbs_ok (.inr 5) (i) 0 rfl rfl rfl rfl (fun _ h => Row.rd h) (by omega) (fun _ => rfl) (by omega) l609 (by decide) ?_)
          refine go Try.tbs_ok 1000 ?_
          refine ev_if_no (decide_eq_false (by with_reducible assumption)) ?_
          refine go Try.tbs_ok 1000 ?_
          refine ev_stop (go_loopR [6, 23, 127, 134, 172, 173, 174, 175, 176, 177, 178, 179, 180, 181, 182, 183, 184, 185, 186, 187, 188, 189, 190, 191, 192, 193, 194] (fun k => [(23, .va (.int .i64 (k : Nat)))]) (fun _ => []) (fun k => k ≤ n1) (fun k => n1 - k) (0 : Nat) (Nat.zero_le _) ⟨⟨by kernel_rfl, by kernel_rfl⟩, ⟨_, rfl⟩, ⟨_, rfl⟩, by kernel_rfl, by kernel_rfl⟩ (fun k hk2 => ?_))
          refine go Try.tbs_ok 1000 ?_
          refine ev_if_lt (fun hlt => ?_) (fun hge => ?_)
          · have hkl : k < L.length := by
              have : (k : Int) < (n1 : Int) := hlt
              omega
            have fN : N1[k]'(by omega) = L[k].n := by simp only [eN1, List.getElem_map, nameEG]
            have fZ : Z1[k]'(by omega) = (L[k].d.size : Int) - L[k].s := by simp only [eZ1, List.getElem_map, leftEG]
            by_cases hq : N1[k]'(by omega) = N2[i]'(by omega)
            · have hz : Z1[k]'(by omega) = Z2[i]'(by omega) := by
                have ek := hq
                rw [fN, fM] at ek
                have em : L[k] = M[i] := by
                  obtain ⟨j, hj, ej⟩ := List.getElem_of_mem hm.1
                  have := name_at hs hkl hj (by rw [ek, ej])
                  subst this
                  exact ej
                rw [fZ, fE, em]
              refine go Try.tbs_ok 1000 ?_
              refine ev_stop (go_draw Try.tbs_ok true [0, 1, 2, 3, 4, 5, 6] [(0,true),(1,true),(2,true),(3,true),(4,true),(5,true),(6,true),(7,true),(8,true),(9,true),(10,true),(11,true),(12,true),(13,true),(14,true),(15,true),(16,true)] rfl ?_)
              refine go Try.tbs_ok 1000 ?_
              refine ev_need ⟨⟨(by repeat (first | exact trivial | refine ⟨rfl, ?_⟩)), rfl⟩, by kernel_rfl⟩ ?_
              refine ev_stop (tk_index0 (sz := 1) Try.tbs_ok (.inr 1) (k) ⟨⟨(by repeat (first | exact trivial | refine ⟨rfl, ?_⟩)), rfl⟩, by kernel_rfl⟩ rfl rfl rfl rfl rfl rfl rfl (by omega) rfl Row.at0 (fun g720 e721 => ?_))
              subst e721
              refine go Try.tbs_ok 1000 ?_
              refine ev_need ⟨⟨(by repeat (first | exact trivial | refine ⟨rfl, ?_⟩)), rfl⟩, by kernel_rfl⟩ ?_
              have l722 : k < (N1).length := (by omega)
              refine ev_stop (tk_loadE Try.tbs_ok (.inr 1) (k) 0 ⟨⟨(by repeat (first | exact trivial | refine ⟨rfl, ?_⟩)), rfl⟩, by kernel_rfl⟩ rfl rfl rfl rfl rfl (fun _ h => Row.rd h) (by omega) (fun _ => rfl) (by omega) l722 (by decide) ?_)
              refine go Try.tbs_ok 1000 ?_
              refine ev_need ⟨⟨(by repeat (first | exact trivial | refine ⟨rfl, ?_⟩)), rfl⟩, by kernel_rfl⟩ ?_
              refine ev_if_yes (decide_eq_true (by with_reducible assumption)) ?_
              refine go Try.tbs_ok 1000 ?_
              refine ev_need ⟨⟨(by repeat (first | exact trivial | refine ⟨rfl, ?_⟩)), rfl⟩, by kernel_rfl⟩ ?_
              refine ev_stop (tk_index0 (sz := 1) Try.tbs_ok (.inr 2) (k) ⟨⟨(by repeat (first | exact trivial | refine ⟨rfl, ?_⟩)), rfl⟩, by kernel_rfl⟩ rfl rfl rfl rfl rfl rfl rfl (by omega) rfl Row.at0 (fun g723 e724 => ?_))
              subst e724
              refine go Try.tbs_ok 1000 ?_
              refine ev_need ⟨⟨(by repeat (first | exact trivial | refine ⟨rfl, ?_⟩)), rfl⟩, by kernel_rfl⟩ ?_
              have l725 : k < (Z1).length := (by omega)
              refine ev_stop (tk_loadE Try.tbs_ok (.inr 2) (k) 0 ⟨⟨(by repeat (first | exact trivial | refine ⟨rfl, ?_⟩)), rfl⟩, by kernel_rfl⟩ rfl rfl rfl rfl rfl (fun _ h => Row.rd h) (by omega) (fun _ => rfl) (by omega) l725 (by decide) ?_)
              refine go Try.tbs_ok 1000 ?_
              refine ev_need ⟨⟨(by repeat (first | exact trivial | refine ⟨rfl, ?_⟩)), rfl⟩, by kernel_rfl⟩ ?_
              refine ev_stop (tk_index0 (sz := 1) Try.tbs_ok (.inr 6) (i) ⟨⟨(by repeat (first | exact trivial | refine ⟨rfl, ?_⟩)), rfl⟩, by kernel_rfl⟩ rfl rfl rfl rfl rfl rfl rfl (by omega) rfl Row.at0 (fun g726 e727 => ?_))
              subst e727
              refine go Try.tbs_ok 1000 ?_
              refine ev_need ⟨⟨(by repeat (first | exact trivial | refine ⟨rfl, ?_⟩)), rfl⟩, by kernel_rfl⟩ ?_
              have l728 : i < (Z2).length := (by omega)
              refine ev_stop (tk_loadE Try.tbs_ok (.inr 6) (i) 0 ⟨⟨(by repeat (first | exact trivial | refine ⟨rfl, ?_⟩)), rfl⟩, by kernel_rfl⟩ rfl rfl rfl rfl rfl (fun _ h => Row.rd h) (by omega) (fun _ => rfl) (by omega) l728 (by decide) ?_)
              refine go Try.tbs_ok 1000 ?_
              refine ev_need ⟨⟨(by repeat (first | exact trivial | refine ⟨rfl, ?_⟩)), rfl⟩, by kernel_rfl⟩ ?_
              refine ev_if_no (ne_no (by with_reducible assumption)) ?_
              refine go Try.tbs_ok 1000 ?_
              refine ev_wrapN (k + 1) (by constructor <;> omega) (by rfl) ?_
              refine ev_fin (round_next (k + 1) (show k + 1 ≤ n1 from (by omega)) (show n1 - (k + 1) < n1 - k from (by omega)) ⟨⟨by kernel_rfl, by kernel_rfl⟩, ⟨_, rfl⟩, ⟨_, rfl⟩, by kernel_rfl, by kernel_rfl⟩)
            · refine go Try.tbs_ok 1000 ?_
              refine ev_stop (go_draw Try.tbs_ok true [0, 1, 2, 3, 4, 5, 6] [(0,true),(1,true),(2,true),(3,true),(4,true),(5,true),(6,true),(7,true),(8,true),(9,true),(10,true),(11,true),(12,true),(13,true),(14,true),(15,true),(16,true)] rfl ?_)
              refine go Try.tbs_ok 1000 ?_
              refine ev_need ⟨⟨(by repeat (first | exact trivial | refine ⟨rfl, ?_⟩)), rfl⟩, by kernel_rfl⟩ ?_
              refine ev_stop (tk_index0 (sz := 1) Try.tbs_ok (.inr 1) (k) ⟨⟨(by repeat (first | exact trivial | refine ⟨rfl, ?_⟩)), rfl⟩, by kernel_rfl⟩ rfl rfl rfl rfl rfl rfl rfl (by omega) rfl Row.at0 (fun g740 e741 => ?_))
              subst e741
              refine go Try.tbs_ok 1000 ?_
              refine ev_need ⟨⟨(by repeat (first | exact trivial | refine ⟨rfl, ?_⟩)), rfl⟩, by kernel_rfl⟩ ?_
              have l742 : k < (N1).length := (by omega)
              refine ev_stop (tk_loadE Try.tbs_ok (.inr 1) (k) 0 ⟨⟨(by repeat (first | exact trivial | refine ⟨rfl, ?_⟩)), rfl⟩, by kernel_rfl⟩ rfl rfl rfl rfl rfl (fun _ h => Row.rd h) (by omega) (fun _ => rfl) (by omega) l742 (by decide) ?_)
              refine go Try.tbs_ok 1000 ?_
              refine ev_need ⟨⟨(by repeat (first | exact trivial | refine ⟨rfl, ?_⟩)), rfl⟩, by kernel_rfl⟩ ?_
              refine ev_if_no (decide_eq_false (by with_reducible assumption)) ?_
              refine go Try.tbs_ok 1000 ?_
              refine ev_need ⟨⟨(by repeat (first | exact trivial | refine ⟨rfl, ?_⟩)), rfl⟩, by kernel_rfl⟩ ?_
              refine ev_wrapN (k + 1) (by constructor <;> omega) (by rfl) ?_
              refine ev_fin (round_next (k + 1) (show k + 1 ≤ n1 from (by omega)) (show n1 - (k + 1) < n1 - k from (by omega)) ⟨⟨by kernel_rfl, by kernel_rfl⟩, ⟨_, rfl⟩, ⟨_, rfl⟩, by kernel_rfl, by kernel_rfl⟩)
          · refine go Try.tbs_ok 1000 ?_
            refine ev_fin (go Try.tbs_ok 1000 ?_)
            refine ev_wrapN (i + 1) (by constructor <;> omega) (by rfl) ?_
            refine ev_fin (round_next (i + 1) (show i + 1 ≤ n2 from (by omega)) (show n2 - (i + 1) < n2 - i from (by omega)) ⟨⟨by kernel_rfl, by kernel_rfl⟩, ⟨_, rfl⟩, ⟨_, rfl⟩, by kernel_rfl, by kernel_rfl⟩)
      · have hhad := old_has hs y
        have O3 := fun A B c d => oldR A B L N1 W1 n1 c n1 d y eN1 eW1 en en (by omega) _ rfl
        rw [hhad] at O3
        by_cases hc : hasF L y = true ∧ x ≠ y
        · rw [if_pos hc] at hlen
          obtain ⟨hc1, hc2⟩ := hc
          rw [hc1] at O3
          refine go Try.tbs_ok 1000 ?_
          refine ev_fin (go Try.tbs_ok 1000 ?_)
          refine ev_callF (O3 (x24) (x30) (x25) (x31)) [] [.inr 1, .inr 3] rfl rfl (by decide) rfl (by simp) (fun _ => (by repeat (first | exact trivial | refine ⟨rfl, ?_⟩))) (fun _ h800 => ?_)
          refine go Try.tbs_ok 1000 ?_
          refine ev_if_yes rfl ?_
          refine go Try.tbs_ok 1000 ?_
          refine ev_if_yes (dec_yes (by with_reducible assumption)) ?_
          refine go Try.tbs_ok 1000 ?_
          refine ev_wrapN (n1 - 1) (by constructor <;> omega) (by omega) ?_
          refine ev_if_yes rfl ?_
          refine go Try.tbs_ok 1000 ?_
          refine ev_if_yes (beq_iff_eq.2 (show (↑n2 : Int) = (↑(n1 - 1) : Int) from (by omega))) ?_
          refine go Try.tbs_ok 1000 ?_
          refine ev_callF (works ) [] [] rfl rfl (by decide) rfl (by simp) (fun _ => (by repeat (first | exact trivial | refine ⟨rfl, ?_⟩))) (fun _ h801 => ?_)
          refine go Try.tbs_ok 1000 ?_
          refine ev_fin ⟨trivial, _, rfl, (()), rfl, (by trivial), Frm.nil _⟩
        · rw [if_neg hc] at hlen
          refine go Try.tbs_ok 1000 ?_
          refine ev_fin (go Try.tbs_ok 1000 ?_)
          refine ev_callF (O3 (x24) (x30) (x25) (x31)) [] [.inr 1, .inr 3] rfl rfl (by decide) rfl (by simp) (fun _ => (by repeat (first | exact trivial | refine ⟨rfl, ?_⟩))) (fun _ h900 => ?_)
          refine go Try.tbs_ok 1000 ?_
          refine ev_if (fun h901 => ?_) (fun h901 => ?_)
          refine go Try.tbs_ok 1000 ?_
          refine ev_if_nd (fun h902 => ?_) (fun h902 => ?_)
          refine go Try.tbs_ok 1000 ?_
          refine ev_wrapN (n1 - 1) (by constructor <;> omega) (by omega) ?_
          refine ev_if_yes rfl ?_
          refine go Try.tbs_ok 1000 ?_
          refine ev_if_no (beq_eq_false_iff_ne.2 (show ¬(↑n2 : Int) = (↑(n1 - 1) : Int) from (by omega))) ?_
          refine go Try.tbs_ok 1000 ?_
          refine ev_fin ⟨trivial, _, rfl, (()), ?_, (by trivial), Frm.nil _⟩
          rotate_left
          refine go Try.tbs_ok 1000 ?_
          refine ev_if_yes rfl ?_
          refine go Try.tbs_ok 1000 ?_
          refine ev_if_yes (beq_iff_eq.2 (show (↑n2 : Int) = (↑n1 : Int) from (by omega))) ?_
          refine go Try.tbs_ok 1000 ?_
          refine ev_callF (works ) [] [] rfl rfl (by decide) rfl (by simp) (fun _ => (by repeat (first | exact trivial | refine ⟨rfl, ?_⟩))) (fun _ h903 => ?_)
          refine go Try.tbs_ok 1000 ?_
          refine ev_fin ⟨trivial, _, rfl, (()), rfl, (by trivial), Frm.nil _⟩
          refine go Try.tbs_ok 1000 ?_
          refine ev_if_yes rfl ?_
          refine go Try.tbs_ok 1000 ?_
          refine ev_if_yes (beq_iff_eq.2 (show (↑n2 : Int) = (↑n1 : Int) from (by omega))) ?_
          refine go Try.tbs_ok 1000 ?_
          refine ev_callF (works ) [] [] rfl rfl (by decide) rfl (by simp) (fun _ => (by repeat (first | exact trivial | refine ⟨rfl, ?_⟩))) (fun _ h904 => ?_)
          refine go Try.tbs_ok 1000 ?_
          refine ev_fin ⟨trivial, _, rfl, (()), rfl, (by trivial), Frm.nil _⟩
          exact absurd ⟨h901, h902⟩ hc
end Go.Proofs.Ythknokcgclcbmaa
