/-
  What is proved: DiskFail's walk. Conditions: none.
-/
import Derived.Test.YthknokcgclcbmaaDU
namespace Go.Proofs.Ythknokcgclcbmaa
open Go.Sy

theorem failing_ok {D : DK} (h : okD D) {q : Int} (h0 : 0 ≤ q) (h1 : q ≤ 9223372036854775807) (K : List Int) : okD (failing D q K) := okD.of h.most h.okL fun q' e => by cases e; exact ⟨h0, h1⟩
/-- what holds of both disks, act by act -/
structure twoD (k : Nat) (D : DK) : Prop where
  good : okD D
  up : D.down = false
  none : D.fails = none
  lo : 0 ≤ D.starts
  hi : D.starts ≤ k
theorem twoD.mono {k m : Nat} {D : DK} (h : twoD k D) (e : k ≤ m) : twoD m D := ⟨h.good, h.up, h.none, h.lo, by have := h.hi; omega⟩
set_option maxHeartbeats 16000000 in
set_option maxRecDepth 100000 in
theorem diskFail (A : Option Addr) (l : List ActD) (n c : Nat) (B : Option Addr) (mo : List ActD) (m d : Nat) (z : Int) (Q : Option Addr) (kq dq : Nat) (K : List Int) (hz : 0 ≤ z) (hz2 : z ≤ 255) (hn : n = l.length) (hn1 : n ≤ 9223372036854775807) (hl : ∀ x ∈ l, inA x) (hm : m = mo.length) (hm1 : m ≤ 9223372036854775807) (hmo : ∀ x ∈ mo, inA x) (hk : kq = K.length) (hk1 : kq ≤ 9223372036854775807) :
    Triple Try.prog 7 [.agg #[.slice A n c, .slice B m d], .int .u8 z, .slice Q kq dq] [] [Rd 6 A n (l.flatMap encA), Acts l, Rd 6 B m (mo.flatMap encA), Acts mo, Rd 1 Q kq (K.flatMap encN)] Unit (fun _ => .bool true) (fun _ => True) (fun _ => []) := by
  have T0 := greatT A l n c hn hn1
  have T00 := greatT B mo m d hm hm1
  refine triple_intro Try.tbs_ok Try.func7 rfl [.ag [.va (.slice A n c), .va (.slice B m d)], .va (.int .u8 z), .va (.slice Q kq dq)] [] ⟨by simp [SV.good, SV.goodL], trivial, trivial, trivial⟩ rfl (by simp) ?_
  intro E
  refine go Try.tbs_ok 1000 ?_
  refine ev_new fun b0 => ?_
  refine ev_stop (go_draw Try.tbs_ok false [0] [(0,true),(1,true),(2,true),(3,true),(4,false),(5,false)] rfl ?_)
  refine go Try.tbs_ok 1000 ?_
  refine ev_need ⟨⟨(by repeat (first | exact trivial | refine ⟨rfl, ?_⟩)), rfl⟩, by kernel_rfl⟩ ?_
  refine ev_need ⟨⟨(by repeat (first | exact trivial | refine ⟨rfl, ?_⟩)), rfl⟩, by kernel_rfl⟩ ?_
  refine ev_need (by kernel_rfl) ?_
  refine ev_callF (T0 ) [] [.inl 0] rfl rfl (by decide) rfl (by simp) (fun _ => (by repeat (first | exact trivial | refine ⟨rfl, ?_⟩))) (fun x1 h2 => ?_)
  refine go Try.tbs_ok 1000 ?_
  refine ev_if (fun h3 => ?_) (fun h3 => ?_)
  refine go Try.tbs_ok 1000 ?_
  refine ev_fin ⟨trivial, _, rfl, (()), rfl, (by trivial), Frm.nil _⟩
  refine go Try.tbs_ok 1000 ?_
  refine ev_callF (T00 ) [] [.inl 2] rfl rfl (by decide) rfl (by simp) (fun _ => (by repeat (first | exact trivial | refine ⟨rfl, ?_⟩))) (fun x4 h5 => ?_)
  refine go Try.tbs_ok 1000 ?_
  refine ev_if (fun h6 => ?_) (fun h6 => ?_)
  refine go Try.tbs_ok 1000 ?_
  refine ev_fin ⟨trivial, _, rfl, (()), rfl, (by trivial), Frm.nil _⟩
  refine go Try.tbs_ok 1000 ?_
  refine ev_if_lt (fun h7 => ?_) (fun h7 => ?_)
  refine go Try.tbs_ok 1000 ?_
  refine ev_fin ⟨trivial, _, rfl, (()), rfl, (by trivial), Frm.nil _⟩
  refine go Try.tbs_ok 1000 ?_
  refine ev_if_lt (fun h8 => ?_) (fun h8 => ?_)
  refine go Try.tbs_ok 1000 ?_
  refine ev_fin ⟨trivial, _, rfl, (()), rfl, (by trivial), Frm.nil _⟩
  refine go Try.tbs_ok 1000 ?_
  obtain ⟨hn150, hb⟩ := h2 h3
  obtain ⟨hm150, hbm⟩ := h5 h6
  have hF : ∀ x ∈ l, fineA x := fun x hx => fineA.of (hl x hx) (hb x hx)
  have hG : ∀ x ∈ mo, fineA x := fun x hx => fineA.of (hmo x hx) (hbm x hx)
  have TP := playedT 4000 A l n c (by decide) (by decide) hn (by omega) hF
  have hf := playD_fine (m := 1 + 4000 % 5000) (by decide) (by decide) hF n
  rw [List.take_of_length_le (by omega)] at hf
  have hcalm := play_calm (1 + 4000 % 5000) l
  obtain ⟨D0, eD0⟩ : ∃ D, D = playD (1 + 4000 % 5000) l := ⟨_, rfl⟩
  rw [← eD0] at TP hf hcalm
  have T1 := fun p => upsT p D0 hf.good hf.lo (by have := hf.hi; omega)
  have h2D : twoD 151 (upD D0) := ⟨upD_ok hf.good, upD_up, upD_fails hcalm, by have := upD_starts D0; have := hf.lo; omega, by have := upD_starts D0; have := hf.hi; omega⟩
  obtain ⟨D1, eD1⟩ : ∃ D, D = upD D0 := ⟨_, rfl⟩
  rw [← eD1] at T1 h2D
  obtain ⟨N, eN⟩ : ∃ N : Nat, z.tmod 20 = N := ⟨(z.tmod 20).toNat, by have := Int.tmod_eq_emod_of_nonneg (b := 20) hz; omega⟩
  have hN : N < 20 := by have := Int.tmod_eq_emod_of_nonneg (b := 20) hz; omega
  have T2 := fun p => failM p D1 (z.tmod 20) Q kq dq K h2D.good hk (by omega)
  have e2 : failD D1 (z.tmod 20) K = (failing D1 ((N : Int) - ((0 : Nat) : Int)) K, 0) := by
    unfold failD
    rw [h2D.up, eN]
    simp only [Bool.false_eq_true, if_false]
    rw [if_neg (by omega)]
    simp only [failing, h2D.up, Int.natCast_zero, Int.sub_zero]
  rw [e2] at T2
  refine ev_callF (TP ) [] [.inl 0, .inl 1] rfl rfl (by decide) rfl (by simp) (fun _ => (by repeat (first | exact trivial | refine ⟨rfl, ?_⟩))) (fun x40 h41 => ?_)
  refine go Try.tbs_ok 1000 ?_
  refine ev_callF (TP ) [] [.inl 0, .inl 1] rfl rfl (by decide) rfl (by simp) (fun _ => (by repeat (first | exact trivial | refine ⟨rfl, ?_⟩))) (fun x42 h43 => ?_)
  refine go Try.tbs_ok 1000 ?_
  refine ev_callF (T1 (x40)) [1] [] rfl rfl (by decide) rfl (by simp) (fun _ => (by repeat (first | exact trivial | refine ⟨rfl, ?_⟩))) (fun _ h44 => ?_)
  refine go Try.tbs_ok 1000 ?_
  refine ev_callF (T1 (x42)) [2] [] rfl rfl (by decide) rfl (by simp) (fun _ => (by repeat (first | exact trivial | refine ⟨rfl, ?_⟩))) (fun _ h45 => ?_)
  refine go Try.tbs_ok 1000 ?_
  refine ev_w64 (by constructor <;> omega) ?_
  refine ev_callF (T2 (x40)) [1] [.inl 4] rfl rfl (by decide) rfl (by simp) (fun _ => (by repeat (first | exact trivial | refine ⟨rfl, ?_⟩))) (fun _ h46 => ?_)
  refine go Try.tbs_ok 1000 ?_
  refine ev_if_no rfl ?_
  refine go Try.tbs_ok 1000 ?_
  refine ev_stop (go_loopR [0, 6, 11, 12, 13, 14, 15, 16, 17, 18, 19, 20, 21, 22, 23, 59, 61, 69, 70, 71, 72, 73, 74, 75, 76, 77, 78, 79, 80, 81, 82, 83, 84, 85, 86, 87, 88, 89, 90, 91, 92, 93, 94, 95, 96, 97, 98, 99, 100, 101, 102, 103, 104, 105, 106, 107, 108, 109, 110, 111, 112, 113, 114, 115, 116, 117, 118, 119, 120, 121, 122, 123, 124, 125, 126, 127, 128, 129, 130, 131, 132, 133, 134, 135, 136, 137, 138, 139, 140, 141, 142, 143, 144, 145, 146, 147, 148, 149, 150, 151, 152, 153, 154, 155, 156, 157, 158, 159, 160, 161, 162, 163, 164, 165, 166, 167, 168, 169, 170, 171, 172, 173, 174, 175, 176, 177, 178, 179, 180, 181, 182, 183, 184, 185, 186, 187, 188, 189, 190, 191, 192, 193] (fun (i, q, _) => [(11, .va (.int .i64 (q : Nat))), (12, .va (.int .i64 (i : Nat)))]) (fun (_, q, D) => [(1, .fact (DiskM x40 (failing D ((N : Int) - (q : Nat)) K))), (2, .fact (DiskM x42 D))]) (fun (i, q, D) => i ≤ m ∧ q ≤ i ∧ q ≤ N ∧ twoD (151 + i) D) (fun (i, _, _) => m - i) ((0, 0, D1) : Nat × Nat × DK) ⟨Nat.zero_le _, Nat.le_refl _, Nat.zero_le _, h2D⟩ ⟨⟨by kernel_rfl, by kernel_rfl⟩, ⟨_, rfl⟩, ⟨_, rfl⟩, by kernel_rfl, by kernel_rfl⟩ (fun x_ h_ => ?_))
  obtain ⟨i, q, D⟩ := x_
  obtain ⟨hi, hqi, hqN, hD⟩ := h_
  refine go Try.tbs_ok 1000 ?_
  refine ev_if_lt (fun hlt => ?_) (fun hge => ?_)
  · have hil : i < mo.length := by
      have : (i : Int) < (m : Int) := hlt
      omega
    have hx := hG _ (List.getElem_mem hil)
    have hk12 : mo[i].k.tmod 12 = mo[i].k % 12 := Int.tmod_eq_emod_of_nonneg hx.k.1
    have okA := failing_ok hD.good (q := (N : Int) - (q : Nat)) (by omega) (by omega) K
    obtain ⟨L, eL⟩ : ∃ L, L = D.files := ⟨_, rfl⟩
    obtain ⟨n1, en⟩ : ∃ n1, n1 = L.length := ⟨_, rfl⟩
    have X1 := bytesT x42 D L n1 eL en hD.good hD.up
    have X2 := namesM x42 D hD.good
    have hs := hD.good.rise
    have hfew := hD.good.few
    have hsure := hD.good.sure
    rw [← eL] at X2 hs hfew hsure
    rw [← en] at X2 hfew
    refine go_more 3 (Acts mo) (Rd 1 mo[i].A mo[i].K.length (mo[i].K.flatMap encN)) rfl (fun h p => p _ (List.getElem_mem hil)) ?_
    have Ta := doesT x40 (failing D ((N : Int) - (q : Nat)) K) mo[i] okA hx hD.lo (by have := hD.hi; simp only [failing]; omega)
    have Tb := doesT x42 D mo[i] hD.good hx hD.lo (by have := hD.hi; omega)
    have okB := does_ok hD.good hx
    by_cases h8 : mo[i].k % 12 < 8
    · have ea := does_new (D := failing D ((N : Int) - (q : Nat)) K) rfl h8
      have eb := does_new hD.up h8
      rw [show (failing D ((N : Int) - (q : Nat)) K).most = D.most from rfl, show (failing D ((N : Int) - (q : Nat)) K).files = D.files from rfl, ← eL] at ea
      rw [← eL] at eb
      cases hnf : newF D.most L mo[i] with
      | inr e =>
        rw [hnf] at ea eb
        have he := newF_err hnf
        rw [ea] at Ta
        rw [eb] at Tb
        simp only at Ta Tb
        refine go Try.tbs_ok 1000 ?_
        refine ev_stop (go_indexE (sz := 6) Try.tbs_ok (.inl 2) (i) rfl rfl rfl rfl rfl rfl (by omega) rfl (fun _ h => h) (fun g100 o102 e101 => ?_))
        subst e101
        refine go Try.tbs_ok 1000 ?_
        have l103 : i < (mo).length := (by omega)
        refine ev_stop (go_loadE Try.tbs_ok (.inl 2) (i) 0 rfl rfl rfl rfl (fun _ h => h) (by omega) (fun _ => rfl) (by omega) l103 (by decide) ?_)
        refine go Try.tbs_ok 1000 ?_
        refine ev_new fun b104 => ?_
        refine ev_if_no (decide_eq_false (show ¬mo[i].k.tmod 12 ≥ 8 from (by omega))) ?_
        refine go Try.tbs_ok 1000 ?_
        refine ev_callF (X1 ) [2] [] rfl rfl (by decide) rfl (by simp) (fun _ => (by repeat (first | exact trivial | refine ⟨rfl, ?_⟩))) (fun ⟨x105, x106⟩ h107 => ?_)
        refine go Try.tbs_ok 1000 ?_
        refine ev_callF (X2 ) [2] [] rfl rfl (by decide) rfl (by simp) (fun _ => (by repeat (first | exact trivial | refine ⟨rfl, ?_⟩))) (fun ⟨x108, x109⟩ h110 => ?_)
        refine go Try.tbs_ok 1000 ?_
        refine ev_if_no rfl ?_
        refine go Try.tbs_ok 1000 ?_
        refine ev_stop (go_draw Try.tbs_ok false [3] [(0,true),(1,true),(3,true),(4,true),(2,false),(5,false),(6,false),(7,false)] rfl ?_)
        refine go Try.tbs_ok 1000 ?_
        refine ev_need ⟨⟨(by repeat (first | exact trivial | refine ⟨rfl, ?_⟩)), rfl⟩, by kernel_rfl⟩ ?_
        refine ev_callF (Ta ) [1] [.inl 5] rfl rfl (by decide) rfl (by simp) (fun _ => (by repeat (first | exact trivial | refine ⟨rfl, ?_⟩))) (fun _ h111 => ?_)
        refine go Try.tbs_ok 1000 ?_
        refine ev_need ⟨⟨(by repeat (first | exact trivial | refine ⟨rfl, ?_⟩)), rfl⟩, by kernel_rfl⟩ ?_
        refine ev_callF (Tb ) [2] [.inl 5] rfl rfl (by decide) rfl (by simp) (fun _ => (by repeat (first | exact trivial | refine ⟨rfl, ?_⟩))) (fun _ h112 => ?_)
        refine go Try.tbs_ok 1000 ?_
        refine ev_need ⟨⟨(by repeat (first | exact trivial | refine ⟨rfl, ?_⟩)), rfl⟩, by kernel_rfl⟩ ?_
        refine ev_need ⟨⟨(by repeat (first | exact trivial | refine ⟨rfl, ?_⟩)), rfl⟩, by kernel_rfl⟩ ?_
        refine ev_need (by kernel_rfl) ?_
        refine ev_w64 (by constructor <;> omega) ?_
        refine ev_if_lt (fun h113 => ?_) (fun h113 => ?_)
        refine go Try.tbs_ok 1000 ?_
        refine ev_if_no (ne_no (show e = e from (by omega))) ?_
        refine go Try.tbs_ok 1000 ?_
        refine ev_if_no (beq_eq_false_iff_ne.2 (by with_reducible assumption)) ?_
        refine go Try.tbs_ok 1000 ?_
        refine ev_wrapN (i + 1) (by constructor <;> omega) (by rfl) ?_
        refine ev_fin (round_next ((i + 1, q, D)) (?_ : i + 1 ≤ m ∧ q ≤ i + 1 ∧ q ≤ N ∧ twoD (151 + (i + 1)) D) (show m - (i + 1) < m - i from (by omega)) ⟨⟨by kernel_rfl, by kernel_rfl⟩, ⟨_, rfl⟩, ⟨_, rfl⟩, by kernel_rfl, by kernel_rfl⟩)
        rotate_left
        refine go Try.tbs_ok 1000 ?_
        refine ev_if_yes (ne_yes (by with_reducible assumption)) ?_
        refine go Try.tbs_ok 1000 ?_
        refine ev_if_no (ne_no (show e = e from (by omega))) ?_
        refine go Try.tbs_ok 1000 ?_
        refine ev_if_no (beq_eq_false_iff_ne.2 (by with_reducible assumption)) ?_
        refine go Try.tbs_ok 1000 ?_
        refine ev_wrapN (i + 1) (by constructor <;> omega) (by rfl) ?_
        refine ev_fin (round_next ((i + 1, q, D)) (?_ : i + 1 ≤ m ∧ q ≤ i + 1 ∧ q ≤ N ∧ twoD (151 + (i + 1)) D) (show m - (i + 1) < m - i from (by omega)) ⟨⟨by kernel_rfl, by kernel_rfl⟩, ⟨_, rfl⟩, ⟨_, rfl⟩, by kernel_rfl, by kernel_rfl⟩)
        rotate_left
        · exact ⟨by omega, by omega, by omega, hD.mono (by omega)⟩
        · exact ⟨by omega, by omega, by omega, hD.mono (by omega)⟩
      | inl L2 =>
        rw [hnf] at ea eb
        simp only [chg_none hD.none] at eb
        rw [eb] at Tb okB
        obtain ⟨D2, eD2⟩ : ∃ D2 : DK, D2 = ⟨D.most, D.starts, D.down, L2, none, D.keep⟩ := ⟨_, rfl⟩
        have h2 : twoD (151 + (i + 1)) D2 := ⟨by rw [eD2]; exact okB, by rw [eD2]; exact hD.up, by rw [eD2], by rw [eD2]; exact hD.lo, by rw [eD2]; have := hD.hi; simp only; omega⟩
        by_cases hq : q < N
        · have ea2 : chg (failing D ((N : Int) - (q : Nat)) K) (decide (mo[i].k % 12 < 4)) L2 = (failing D2 ((N : Int) - ((q + 1 : Nat) : Int)) K, 0) := by
            unfold chg failing
            simp only
            rw [if_pos (by omega), eD2]
            simp only [Prod.mk.injEq, DK.mk.injEq, Option.some.injEq, and_true, true_and]
            omega
          simp only [ea2] at ea
          rw [ea] at Ta
          rw [← eD2] at Tb
          simp only at Ta Tb
          refine go Try.tbs_ok 1000 ?_
          refine ev_stop (go_indexE (sz := 6) Try.tbs_ok (.inl 2) (i) rfl rfl rfl rfl rfl rfl (by omega) rfl (fun _ h => h) (fun g200 o202 e201 => ?_))
          subst e201
          refine go Try.tbs_ok 1000 ?_
          have l203 : i < (mo).length := (by omega)
          refine ev_stop (go_loadE Try.tbs_ok (.inl 2) (i) 0 rfl rfl rfl rfl (fun _ h => h) (by omega) (fun _ => rfl) (by omega) l203 (by decide) ?_)
          refine go Try.tbs_ok 1000 ?_
          refine ev_new fun b204 => ?_
          refine ev_if_no (decide_eq_false (show ¬mo[i].k.tmod 12 ≥ 8 from (by omega))) ?_
          refine go Try.tbs_ok 1000 ?_
          refine ev_callF (X1 ) [2] [] rfl rfl (by decide) rfl (by simp) (fun _ => (by repeat (first | exact trivial | refine ⟨rfl, ?_⟩))) (fun ⟨x205, x206⟩ h207 => ?_)
          refine go Try.tbs_ok 1000 ?_
          refine ev_callF (X2 ) [2] [] rfl rfl (by decide) rfl (by simp) (fun _ => (by repeat (first | exact trivial | refine ⟨rfl, ?_⟩))) (fun ⟨x208, x209⟩ h210 => ?_)
          refine go Try.tbs_ok 1000 ?_
          refine ev_if_no rfl ?_
          refine go Try.tbs_ok 1000 ?_
          refine ev_stop (go_draw Try.tbs_ok false [3] [(0,true),(1,true),(3,true),(4,true),(2,false),(5,false),(6,false),(7,false)] rfl ?_)
          refine go Try.tbs_ok 1000 ?_
          refine ev_need ⟨⟨(by repeat (first | exact trivial | refine ⟨rfl, ?_⟩)), rfl⟩, by kernel_rfl⟩ ?_
          refine ev_callF (Ta ) [1] [.inl 5] rfl rfl (by decide) rfl (by simp) (fun _ => (by repeat (first | exact trivial | refine ⟨rfl, ?_⟩))) (fun _ h211 => ?_)
          refine go Try.tbs_ok 1000 ?_
          refine ev_need ⟨⟨(by repeat (first | exact trivial | refine ⟨rfl, ?_⟩)), rfl⟩, by kernel_rfl⟩ ?_
          refine ev_callF (Tb ) [2] [.inl 5] rfl rfl (by decide) rfl (by simp) (fun _ => (by repeat (first | exact trivial | refine ⟨rfl, ?_⟩))) (fun _ h212 => ?_)
          refine go Try.tbs_ok 1000 ?_
          refine ev_need ⟨⟨(by repeat (first | exact trivial | refine ⟨rfl, ?_⟩)), rfl⟩, by kernel_rfl⟩ ?_
          refine ev_need ⟨⟨(by repeat (first | exact trivial | refine ⟨rfl, ?_⟩)), rfl⟩, by kernel_rfl⟩ ?_
          refine ev_need (by kernel_rfl) ?_
          refine ev_w64 (by constructor <;> omega) ?_
          refine ev_if_yes (decide_eq_true (show (↑q : Int) < z.tmod 20 from (by omega))) ?_
          refine go Try.tbs_ok 1000 ?_
          refine ev_if_no rfl ?_
          refine go Try.tbs_ok 1000 ?_
          refine ev_if_yes rfl ?_
          refine go Try.tbs_ok 1000 ?_
          refine ev_wrapN (q + 1) (by constructor <;> omega) (by rfl) ?_
          refine ev_wrapN (i + 1) (by constructor <;> omega) (by rfl) ?_
          refine ev_fin (round_next ((i + 1, q + 1, D2)) (show i + 1 ≤ m ∧ q + 1 ≤ i + 1 ∧ q + 1 ≤ N ∧ twoD (151 + (i + 1)) D2 from (by (refine ⟨?_, ?_, ?_, ?_⟩ <;> first | assumption | omega | (simp only [List.length_set, List.length_append, List.length_cons, List.length_nil] <;> omega) | rfl))) (show m - (i + 1) < m - i from (by omega)) ⟨⟨by kernel_rfl, by kernel_rfl⟩, ⟨_, rfl⟩, ⟨_, rfl⟩, by kernel_rfl, by kernel_rfl⟩)
        · obtain ⟨C, eC⟩ : ∃ C, C = failF L mo[i] L2 K := ⟨_, rfl⟩
          have ea2 : chg (failing D ((N : Int) - (q : Nat)) K) (decide (mo[i].k % 12 < 4)) L2 = (⟨D.most, D.starts, true, C, none, K⟩, 41) := by
            unfold chg failing
            simp only
            rw [if_neg (by omega), eC, failF, eL]
            by_cases h4 : mo[i].k % 12 < 4
            · simp [h4]
            · simp [h4]
          simp only [ea2] at ea
          have okC := does_ok okA hx
          rw [ea] at Ta okC
          simp only at Ta Tb okC
          obtain ⟨D3, eD3⟩ : ∃ D3 : DK, D3 = ⟨D.most, D.starts, true, C, none, K⟩ := ⟨_, rfl⟩
          rw [← eD3] at Ta okC
          have uC : D3.down = true := by rw [eD3]
          have Tu := upM x40 D3 okC
          rw [uC] at Tu
          have Ts := startM x40 D3 okC (by rw [eD3]; exact hD.lo) (by rw [eD3]; have := hD.hi; simp only; omega)
          rw [startD_down uC] at Ts
          have okS := started_ok okC uC
          have eCs : C = (started D3).files := by rw [eD3]; rfl
          obtain ⟨n2, en2⟩ : ∃ n2, n2 = C.length := ⟨_, rfl⟩
          have X3 := bytesT x40 (started D3) C n2 eCs en2 okS rfl
          have X4 := namesM x40 (started D3) okS
          have hfew2 := okS.few
          rw [← eCs] at X4 hfew2
          rw [← en2] at X4 hfew2
          have hsure2 : ∀ f ∈ L2, 0 ≤ f.s ∧ f.s ≤ f.d.size := okB.sure
          have hlaw := fun f (hf : f ∈ C) => fail_law hs hsure hsure2 hnf (K := K) (f := f) (by rw [eC] at hf; exact hf)
          obtain ⟨N1, eN1⟩ : ∃ N, N = L.map nameEG := ⟨_, rfl⟩
          obtain ⟨W1, eW1⟩ : ∃ W, W = L.map datEG := ⟨_, rfl⟩
          obtain ⟨N2, eN2⟩ : ∃ N, N = C.map nameEG := ⟨_, rfl⟩
          obtain ⟨W2, eW2⟩ : ∃ W, W = C.map datEG := ⟨_, rfl⟩
          rw [← eN1] at X2
          rw [← eW1] at X1
          rw [← eN2] at X4
          rw [← eW2] at X3
          have hN2l : N2.length = n2 := by rw [eN2, List.length_map, en2]
          have hW2l : W2.length = n2 := by rw [eW2, List.length_map, en2]
          refine go Try.tbs_ok 1000 ?_
          refine ev_stop (go_indexE (sz := 6) Try.tbs_ok (.inl 2) (i) rfl rfl rfl rfl rfl rfl (by omega) rfl (fun _ h => h) (fun g300 o302 e301 => ?_))
          subst e301
          refine go Try.tbs_ok 1000 ?_
          have l303 : i < (mo).length := (by omega)
          refine ev_stop (go_loadE Try.tbs_ok (.inl 2) (i) 0 rfl rfl rfl rfl (fun _ h => h) (by omega) (fun _ => rfl) (by omega) l303 (by decide) ?_)
          refine go Try.tbs_ok 1000 ?_
          refine ev_new fun b304 => ?_
          refine ev_if_no (decide_eq_false (show ¬mo[i].k.tmod 12 ≥ 8 from (by omega))) ?_
          refine go Try.tbs_ok 1000 ?_
          refine ev_callF (X1 ) [2] [] rfl rfl (by decide) rfl (by simp) (fun _ => (by repeat (first | exact trivial | refine ⟨rfl, ?_⟩))) (fun ⟨x305, x306⟩ h307 => ?_)
          refine go Try.tbs_ok 1000 ?_
          refine ev_callF (X2 ) [2] [] rfl rfl (by decide) rfl (by simp) (fun _ => (by repeat (first | exact trivial | refine ⟨rfl, ?_⟩))) (fun ⟨x308, x309⟩ h310 => ?_)
          refine go Try.tbs_ok 1000 ?_
          refine ev_if_no rfl ?_
          refine go Try.tbs_ok 1000 ?_
          refine ev_stop (go_draw Try.tbs_ok false [3] [(0,true),(1,true),(3,true),(4,true),(2,false),(5,false),(6,false),(7,false)] rfl ?_)
          refine go Try.tbs_ok 1000 ?_
          refine ev_need ⟨⟨(by repeat (first | exact trivial | refine ⟨rfl, ?_⟩)), rfl⟩, by kernel_rfl⟩ ?_
          refine ev_callF (Ta ) [1] [.inl 5] rfl rfl (by decide) rfl (by simp) (fun _ => (by repeat (first | exact trivial | refine ⟨rfl, ?_⟩))) (fun _ h311 => ?_)
          refine go Try.tbs_ok 1000 ?_
          refine ev_need ⟨⟨(by repeat (first | exact trivial | refine ⟨rfl, ?_⟩)), rfl⟩, by kernel_rfl⟩ ?_
          refine ev_callF (Tb ) [2] [.inl 5] rfl rfl (by decide) rfl (by simp) (fun _ => (by repeat (first | exact trivial | refine ⟨rfl, ?_⟩))) (fun _ h312 => ?_)
          refine go Try.tbs_ok 1000 ?_
          refine ev_need ⟨⟨(by repeat (first | exact trivial | refine ⟨rfl, ?_⟩)), rfl⟩, by kernel_rfl⟩ ?_
          refine ev_need ⟨⟨(by repeat (first | exact trivial | refine ⟨rfl, ?_⟩)), rfl⟩, by kernel_rfl⟩ ?_
          refine ev_need (by kernel_rfl) ?_
          refine ev_w64 (by constructor <;> omega) ?_
          refine ev_if_no (decide_eq_false (show ¬(↑q : Int) < z.tmod 20 from (by omega))) ?_
          refine go Try.tbs_ok 1000 ?_
          refine ev_if_no rfl ?_
          refine go Try.tbs_ok 1000 ?_
          refine ev_if_no rfl ?_
          refine go Try.tbs_ok 1000 ?_
          refine ev_callF (Tu ) [1] [] rfl rfl (by decide) rfl (by simp) (fun _ => (by repeat (first | exact trivial | refine ⟨rfl, ?_⟩))) (fun _ h313 => ?_)
          refine go Try.tbs_ok 1000 ?_
          refine ev_if_no rfl ?_
          refine go Try.tbs_ok 1000 ?_
          refine ev_callF (Ts ) [1] [] rfl rfl (by decide) rfl (by simp) (fun _ => (by repeat (first | exact trivial | refine ⟨rfl, ?_⟩))) (fun _ h314 => ?_)
          refine go Try.tbs_ok 1000 ?_
          refine ev_if_no rfl ?_
          refine go Try.tbs_ok 1000 ?_
          refine ev_callF (X3 ) [1] [] rfl rfl (by decide) rfl (by simp) (fun _ => (by repeat (first | exact trivial | refine ⟨rfl, ?_⟩))) (fun ⟨x315, x316⟩ h317 => ?_)
          refine go Try.tbs_ok 1000 ?_
          refine ev_if_no rfl ?_
          refine go Try.tbs_ok 1000 ?_
          refine ev_callF (X4 ) [1] [] rfl rfl (by decide) rfl (by simp) (fun _ => (by repeat (first | exact trivial | refine ⟨rfl, ?_⟩))) (fun ⟨x318, x319⟩ h320 => ?_)
          refine go Try.tbs_ok 1000 ?_
          refine ev_stop (go_loopR [6, 21, 22, 23, 78, 83, 85, 93, 96, 125, 127, 134, 135, 136, 137, 138, 139, 140, 141, 142, 143, 144, 145, 146, 147, 148, 149, 150, 151, 152, 153, 154, 155, 156, 157, 158, 159, 160, 161, 162, 163, 164, 165, 166, 167, 168, 169, 170, 171, 172, 173, 174, 175, 176, 177, 178, 179, 180, 181, 182, 183, 184, 185, 186, 187, 188, 189, 190, 191, 192] (fun k => [(21, .va (.int .i64 (k : Nat)))]) (fun _ => []) (fun k => k ≤ n2) (fun k => n2 - k) (0 : Nat) (Nat.zero_le _) ⟨⟨by kernel_rfl, by kernel_rfl⟩, ⟨_, rfl⟩, ⟨_, rfl⟩, by kernel_rfl, by kernel_rfl⟩ (fun k hk2 => ?_))
          refine go Try.tbs_ok 1000 ?_
          refine ev_if_lt (fun hlt => ?_) (fun hge => ?_)
          · have hkl : k < C.length := by
              have : (k : Int) < (n2 : Int) := hlt
              omega
            have fN : N2[k]'(by omega) = C[k].n := by simp only [eN2, List.getElem_map, nameEG]
            have fW : W2[k]'(by omega) = C[k].d := by simp only [eW2, List.getElem_map, datEG]
            have hlk := hlaw _ (List.getElem_mem hkl)
            rw [← fN, ← fW] at hlk
            obtain ⟨y, ey⟩ : ∃ y, oldL L (N2[k]'(by omega)) = y := ⟨_, rfl⟩
            have O1 := fun A B c d => oldR A B L N1 W1 n1 c n1 d (N2[k]'(by omega)) eN1 eW1 en en (by omega) y ey
            have hW2 : (W2[k]'(by omega)).size ≤ 1000000000 := by
              rw [fW]
              have h1 := sumD_mem (List.getElem_mem hkl)
              have h2 := okS.room
              rw [← eCs] at h2
              have h3 := okS.most.2
              omega
            have hys : y.1.size ≤ 1000000000 := by
              rw [← ey]
              unfold oldL
              split
              · rename_i f hf
                have h1 := sumD_mem (List.mem_of_find?_eq_some hf)
                have h2 := hD.good.room
                rw [← eL] at h2
                have h3 := hD.good.most.2
                simp only
                omega
              · decide
            have hxd := hx.d
            unfold mayBe at hlk
            by_cases h4 : mo[i].k % 12 < 4 ∧ N2[k]'(by omega) = mo[i].n
            · rw [if_pos h4, ey] at hlk
              obtain ⟨h5, h6⟩ := h4
              obtain ⟨_, g1, g2⟩ := hlk
              have hap := ByteArray.size_append (a := y.1) (b := mo[i].d)
              refine go Try.tbs_ok 1000 ?_
              refine ev_stop (go_index0 (sz := 1) Try.tbs_ok (.inr 7) (k) rfl rfl rfl rfl rfl rfl (by omega) rfl Row.at0 (fun g400 e401 => ?_))
              subst e401
              refine go Try.tbs_ok 1000 ?_
              have l402 : k < (N2).length := (by omega)
              refine ev_stop (go_loadE Try.tbs_ok (.inr 7) (k) 0 rfl rfl rfl rfl (fun _ h => Row.rd h) (by omega) (fun _ => rfl) (by omega) l402 (by decide) ?_)
              refine go Try.tbs_ok 1000 ?_
              refine ev_callF (O1 (x308) (x305) (x309) (x306)) [] [.inr 5, .inr 4] rfl rfl (by decide) rfl (by simp) (fun _ => (by repeat (first | exact trivial | refine ⟨rfl, ?_⟩))) (fun _ h403 => ?_)
              refine go Try.tbs_ok 1000 ?_
              refine ev_stop (go_draw Try.tbs_ok true [0, 1, 2, 3, 4, 5, 6, 7] [(0,true),(1,true),(2,true),(3,true),(4,true),(5,true),(6,true),(7,true),(8,true),(9,true),(10,true),(11,true),(12,true)] rfl ?_)
              refine go Try.tbs_ok 1000 ?_
              refine ev_need ⟨⟨(by repeat (first | exact trivial | refine ⟨rfl, ?_⟩)), rfl⟩, by kernel_rfl⟩ ?_
              refine ev_if_yes (decide_eq_true (show mo[i].k.tmod 12 < 4 from (by omega))) ?_
              refine go Try.tbs_ok 1000 ?_
              refine ev_need ⟨⟨(by repeat (first | exact trivial | refine ⟨rfl, ?_⟩)), rfl⟩, by kernel_rfl⟩ ?_
              refine ev_stop (tk_atE (sz := 1) Try.tbs_ok (k) ⟨⟨(by repeat (first | exact trivial | refine ⟨rfl, ?_⟩)), rfl⟩, by kernel_rfl⟩ rfl rfl rfl rfl rfl rfl rfl (by omega) ?_)
              refine go Try.tbs_ok 1000 ?_
              refine ev_need ⟨⟨(by repeat (first | exact trivial | refine ⟨rfl, ?_⟩)), rfl⟩, by kernel_rfl⟩ ?_
              have l404 : k < (N2).length := (by omega)
              refine ev_stop (tk_loadE Try.tbs_ok (.inr 7) (k) 0 ⟨⟨(by repeat (first | exact trivial | refine ⟨rfl, ?_⟩)), rfl⟩, by kernel_rfl⟩ rfl rfl rfl rfl rfl (fun _ h => Row.rd h) (by omega) (fun _ => rfl) (by omega) l404 (by decide) ?_)
              refine go Try.tbs_ok 1000 ?_
              refine ev_need ⟨⟨(by repeat (first | exact trivial | refine ⟨rfl, ?_⟩)), rfl⟩, by kernel_rfl⟩ ?_
              refine ev_if_yes (decide_eq_true (by with_reducible assumption)) ?_
              refine go Try.tbs_ok 1000 ?_
              refine ev_stop (go_bin (.va _) trivial rfl rfl rfl rfl rfl (by decide) (by decide) (fun w => cat_run (by omega) w) ?_)
              refine go Try.tbs_ok 1000 ?_
              refine ev_stop (go_draw Try.tbs_ok true [0, 1, 2, 3, 4, 5, 6, 7] [(0,true),(1,true),(2,true),(3,true),(4,true),(5,true),(6,true),(7,true),(8,true),(9,true),(10,true),(11,true),(12,true),(13,true),(14,true),(15,true),(16,true),(17,true),(18,true),(19,true),(20,true),(21,true),(22,true),(23,true),(24,true),(25,true)] rfl ?_)
              refine go Try.tbs_ok 1000 ?_
              refine ev_need ⟨⟨(by repeat (first | exact trivial | refine ⟨rfl, ?_⟩)), rfl⟩, by kernel_rfl⟩ ?_
              refine ev_stop (tk_index0 (sz := 1) Try.tbs_ok (.inr 6) (k) ⟨⟨(by repeat (first | exact trivial | refine ⟨rfl, ?_⟩)), rfl⟩, by kernel_rfl⟩ rfl rfl rfl rfl rfl rfl rfl (by omega) rfl Row.at0 (fun g405 e406 => ?_))
              subst e406
              refine go Try.tbs_ok 1000 ?_
              refine ev_need ⟨⟨(by repeat (first | exact trivial | refine ⟨rfl, ?_⟩)), rfl⟩, by kernel_rfl⟩ ?_
              have l407 : k < (W2).length := (by omega)
              refine ev_stop (tk_loadE Try.tbs_ok (.inr 6) (k) 0 ⟨⟨(by repeat (first | exact trivial | refine ⟨rfl, ?_⟩)), rfl⟩, by kernel_rfl⟩ rfl rfl rfl rfl rfl (fun _ h => Row.rd h) (by omega) (fun _ => rfl) (by omega) l407 (by decide) ?_)
              refine go Try.tbs_ok 1000 ?_
              refine ev_need ⟨⟨(by repeat (first | exact trivial | refine ⟨rfl, ?_⟩)), rfl⟩, by kernel_rfl⟩ ?_
              refine ev_if_no (decide_eq_false (show ¬(↑W2[k].size : Int) > (↑(y.fst ++ mo[i].d).size : Int) from (by omega))) ?_
              refine go Try.tbs_ok 1000 ?_
              refine ev_need ⟨⟨(by repeat (first | exact trivial | refine ⟨rfl, ?_⟩)), rfl⟩, by kernel_rfl⟩ ?_
              refine ev_stop (tk_atE (sz := 1) Try.tbs_ok (k) ⟨⟨(by repeat (first | exact trivial | refine ⟨rfl, ?_⟩)), rfl⟩, by kernel_rfl⟩ rfl rfl rfl rfl rfl rfl rfl (by omega) ?_)
              refine go Try.tbs_ok 1000 ?_
              refine ev_need ⟨⟨(by repeat (first | exact trivial | refine ⟨rfl, ?_⟩)), rfl⟩, by kernel_rfl⟩ ?_
              have l408 : k < (W2).length := (by omega)
              refine ev_stop (tk_loadE Try.tbs_ok (.inr 6) (k) 0 ⟨⟨(by repeat (first | exact trivial | refine ⟨rfl, ?_⟩)), rfl⟩, by kernel_rfl⟩ rfl rfl rfl rfl rfl (fun _ h => Row.rd h) (by omega) (fun _ => rfl) (by omega) l408 (by decide) ?_)
              refine go Try.tbs_ok 1000 ?_
              refine ev_need ⟨⟨(by repeat (first | exact trivial | refine ⟨rfl, ?_⟩)), rfl⟩, by kernel_rfl⟩ ?_
              refine ev_stop (tk_sliceS Try.tbs_ok (0) (W2[k].size) ⟨⟨(by repeat (first | exact trivial | refine ⟨rfl, ?_⟩)), rfl⟩, by kernel_rfl⟩ rfl rfl rfl rfl rfl rfl ⟨_, rfl⟩ (by omega) (by omega) ?_)
              refine go Try.tbs_ok 1000 ?_
              refine ev_need ⟨⟨(by repeat (first | exact trivial | refine ⟨rfl, ?_⟩)), rfl⟩, by kernel_rfl⟩ ?_
              refine ev_stop (tk_atE (sz := 1) Try.tbs_ok (k) ⟨⟨(by repeat (first | exact trivial | refine ⟨rfl, ?_⟩)), rfl⟩, by kernel_rfl⟩ rfl rfl rfl rfl rfl rfl rfl (by omega) ?_)
              refine go Try.tbs_ok 1000 ?_
              refine ev_need ⟨⟨(by repeat (first | exact trivial | refine ⟨rfl, ?_⟩)), rfl⟩, by kernel_rfl⟩ ?_
              have l409 : k < (W2).length := (by omega)
              refine ev_stop (tk_loadE Try.tbs_ok (.inr 6) (k) 0 ⟨⟨(by repeat (first | exact trivial | refine ⟨rfl, ?_⟩)), rfl⟩, by kernel_rfl⟩ rfl rfl rfl rfl rfl (fun _ h => Row.rd h) (by omega) (fun _ => rfl) (by omega) l409 (by decide) ?_)
              refine go Try.tbs_ok 1000 ?_
              refine ev_need ⟨⟨(by repeat (first | exact trivial | refine ⟨rfl, ?_⟩)), rfl⟩, by kernel_rfl⟩ ?_
              refine ev_if_no (dec_no (by with_reducible assumption)) ?_
              refine go Try.tbs_ok 1000 ?_
              refine ev_wrapN (k + 1) (by constructor <;> omega) (by rfl) ?_
              refine ev_fin (round_next (k + 1) (show k + 1 ≤ n2 from (by omega)) (show n2 - (k + 1) < n2 - k from (by omega)) ⟨⟨by kernel_rfl, by kernel_rfl⟩, ⟨_, rfl⟩, ⟨_, rfl⟩, by kernel_rfl, by kernel_rfl⟩)
            · rw [if_neg h4, ey] at hlk
              obtain ⟨g0, g1, g2⟩ := hlk
              have g0 : y.2 = true := g0.resolve_left h4
              by_cases h5 : mo[i].k % 12 < 4
              · have h6 : N2[k]'(by omega) ≠ mo[i].n := fun e => h4 ⟨h5, e⟩
                refine go Try.tbs_ok 1000 ?_
                refine ev_stop (go_index0 (sz := 1) Try.tbs_ok (.inr 7) (k) rfl rfl rfl rfl rfl rfl (by omega) rfl Row.at0 (fun g430 e431 => ?_))
                subst e431
                refine go Try.tbs_ok 1000 ?_
                have l432 : k < (N2).length := (by omega)
                refine ev_stop (go_loadE Try.tbs_ok (.inr 7) (k) 0 rfl rfl rfl rfl (fun _ h => Row.rd h) (by omega) (fun _ => rfl) (by omega) l432 (by decide) ?_)
                refine go Try.tbs_ok 1000 ?_
                refine ev_callF (O1 (x308) (x305) (x309) (x306)) [] [.inr 5, .inr 4] rfl rfl (by decide) rfl (by simp) (fun _ => (by repeat (first | exact trivial | refine ⟨rfl, ?_⟩))) (fun _ h433 => ?_)
                refine go Try.tbs_ok 1000 ?_
                refine ev_stop (go_draw Try.tbs_ok true [0, 1, 2, 3, 4, 5, 6, 7] [(0,true),(1,true),(2,true),(3,true),(4,true),(5,true),(6,true),(7,true),(8,true),(9,true),(10,true),(11,true),(12,true)] rfl ?_)
                refine go Try.tbs_ok 1000 ?_
                refine ev_need ⟨⟨(by repeat (first | exact trivial | refine ⟨rfl, ?_⟩)), rfl⟩, by kernel_rfl⟩ ?_
                refine ev_if_yes (decide_eq_true (show mo[i].k.tmod 12 < 4 from (by omega))) ?_
                refine go Try.tbs_ok 1000 ?_
                refine ev_need ⟨⟨(by repeat (first | exact trivial | refine ⟨rfl, ?_⟩)), rfl⟩, by kernel_rfl⟩ ?_
                refine ev_stop (tk_atE (sz := 1) Try.tbs_ok (k) ⟨⟨(by repeat (first | exact trivial | refine ⟨rfl, ?_⟩)), rfl⟩, by kernel_rfl⟩ rfl rfl rfl rfl rfl rfl rfl (by omega) ?_)
                refine go Try.tbs_ok 1000 ?_
                refine ev_need ⟨⟨(by repeat (first | exact trivial | refine ⟨rfl, ?_⟩)), rfl⟩, by kernel_rfl⟩ ?_
                have l434 : k < (N2).length := (by omega)
                refine ev_stop (tk_loadE Try.tbs_ok (.inr 7) (k) 0 ⟨⟨(by repeat (first | exact trivial | refine ⟨rfl, ?_⟩)), rfl⟩, by kernel_rfl⟩ rfl rfl rfl rfl rfl (fun _ h => Row.rd h) (by omega) (fun _ => rfl) (by omega) l434 (by decide) ?_)
                refine go Try.tbs_ok 1000 ?_
                refine ev_need ⟨⟨(by repeat (first | exact trivial | refine ⟨rfl, ?_⟩)), rfl⟩, by kernel_rfl⟩ ?_
                refine ev_if_no (decide_eq_false (by with_reducible assumption)) ?_
                refine go Try.tbs_ok 1000 ?_
                refine ev_stop (go_draw Try.tbs_ok true [0, 1, 2, 3, 4, 5, 6, 7] [(0,true),(1,true),(2,true),(3,true),(4,true),(5,true),(6,true),(7,true),(8,true),(9,true),(10,true),(11,true),(12,true),(13,true),(14,true),(15,true),(16,true),(17,true),(18,true),(19,true),(20,true),(21,true),(22,true),(23,true),(24,true),(25,true)] rfl ?_)
                refine go Try.tbs_ok 1000 ?_
                refine ev_need ⟨⟨(by repeat (first | exact trivial | refine ⟨rfl, ?_⟩)), rfl⟩, by kernel_rfl⟩ ?_
                refine ev_if_no (by simp [*]) ?_
                refine go Try.tbs_ok 1000 ?_
                refine ev_need ⟨⟨(by repeat (first | exact trivial | refine ⟨rfl, ?_⟩)), rfl⟩, by kernel_rfl⟩ ?_
                refine ev_stop (tk_index0 (sz := 1) Try.tbs_ok (.inr 6) (k) ⟨⟨(by repeat (first | exact trivial | refine ⟨rfl, ?_⟩)), rfl⟩, by kernel_rfl⟩ rfl rfl rfl rfl rfl rfl rfl (by omega) rfl Row.at0 (fun g435 e436 => ?_))
                subst e436
                refine go Try.tbs_ok 1000 ?_
                refine ev_need ⟨⟨(by repeat (first | exact trivial | refine ⟨rfl, ?_⟩)), rfl⟩, by kernel_rfl⟩ ?_
                have l437 : k < (W2).length := (by omega)
                refine ev_stop (tk_loadE Try.tbs_ok (.inr 6) (k) 0 ⟨⟨(by repeat (first | exact trivial | refine ⟨rfl, ?_⟩)), rfl⟩, by kernel_rfl⟩ rfl rfl rfl rfl rfl (fun _ h => Row.rd h) (by omega) (fun _ => rfl) (by omega) l437 (by decide) ?_)
                refine go Try.tbs_ok 1000 ?_
                refine ev_need ⟨⟨(by repeat (first | exact trivial | refine ⟨rfl, ?_⟩)), rfl⟩, by kernel_rfl⟩ ?_
                refine ev_if_no (decide_eq_false (show ¬(↑W2[k].size : Int) > (↑y.fst.size : Int) from (by omega))) ?_
                refine go Try.tbs_ok 1000 ?_
                refine ev_need ⟨⟨(by repeat (first | exact trivial | refine ⟨rfl, ?_⟩)), rfl⟩, by kernel_rfl⟩ ?_
                refine ev_stop (tk_atE (sz := 1) Try.tbs_ok (k) ⟨⟨(by repeat (first | exact trivial | refine ⟨rfl, ?_⟩)), rfl⟩, by kernel_rfl⟩ rfl rfl rfl rfl rfl rfl rfl (by omega) ?_)
                refine go Try.tbs_ok 1000 ?_
                refine ev_need ⟨⟨(by repeat (first | exact trivial | refine ⟨rfl, ?_⟩)), rfl⟩, by kernel_rfl⟩ ?_
                have l438 : k < (W2).length := (by omega)
                refine ev_stop (tk_loadE Try.tbs_ok (.inr 6) (k) 0 ⟨⟨(by repeat (first | exact trivial | refine ⟨rfl, ?_⟩)), rfl⟩, by kernel_rfl⟩ rfl rfl rfl rfl rfl (fun _ h => Row.rd h) (by omega) (fun _ => rfl) (by omega) l438 (by decide) ?_)
                refine go Try.tbs_ok 1000 ?_
                refine ev_need ⟨⟨(by repeat (first | exact trivial | refine ⟨rfl, ?_⟩)), rfl⟩, by kernel_rfl⟩ ?_
                refine ev_stop (tk_sliceS Try.tbs_ok (0) (W2[k].size) ⟨⟨(by repeat (first | exact trivial | refine ⟨rfl, ?_⟩)), rfl⟩, by kernel_rfl⟩ rfl rfl rfl rfl rfl rfl ⟨_, rfl⟩ (by omega) (by omega) ?_)
                refine go Try.tbs_ok 1000 ?_
                refine ev_need ⟨⟨(by repeat (first | exact trivial | refine ⟨rfl, ?_⟩)), rfl⟩, by kernel_rfl⟩ ?_
                refine ev_stop (tk_atE (sz := 1) Try.tbs_ok (k) ⟨⟨(by repeat (first | exact trivial | refine ⟨rfl, ?_⟩)), rfl⟩, by kernel_rfl⟩ rfl rfl rfl rfl rfl rfl rfl (by omega) ?_)
                refine go Try.tbs_ok 1000 ?_
                refine ev_need ⟨⟨(by repeat (first | exact trivial | refine ⟨rfl, ?_⟩)), rfl⟩, by kernel_rfl⟩ ?_
                have l439 : k < (W2).length := (by omega)
                refine ev_stop (tk_loadE Try.tbs_ok (.inr 6) (k) 0 ⟨⟨(by repeat (first | exact trivial | refine ⟨rfl, ?_⟩)), rfl⟩, by kernel_rfl⟩ rfl rfl rfl rfl rfl (fun _ h => Row.rd h) (by omega) (fun _ => rfl) (by omega) l439 (by decide) ?_)
                refine go Try.tbs_ok 1000 ?_
                refine ev_need ⟨⟨(by repeat (first | exact trivial | refine ⟨rfl, ?_⟩)), rfl⟩, by kernel_rfl⟩ ?_
                refine ev_if_no (dec_no (by with_reducible assumption)) ?_
                refine go Try.tbs_ok 1000 ?_
                refine ev_wrapN (k + 1) (by constructor <;> omega) (by rfl) ?_
                refine ev_fin (round_next (k + 1) (show k + 1 ≤ n2 from (by omega)) (show n2 - (k + 1) < n2 - k from (by omega)) ⟨⟨by kernel_rfl, by kernel_rfl⟩, ⟨_, rfl⟩, ⟨_, rfl⟩, by kernel_rfl, by kernel_rfl⟩)
              · refine go Try.tbs_ok 1000 ?_
                refine ev_stop (go_index0 (sz := 1) Try.tbs_ok (.inr 7) (k) rfl rfl rfl rfl rfl rfl (by omega) rfl Row.at0 (fun g450 e451 => ?_))
                subst e451
                refine go Try.tbs_ok 1000 ?_
                have l452 : k < (N2).length := (by omega)
                refine ev_stop (go_loadE Try.tbs_ok (.inr 7) (k) 0 rfl rfl rfl rfl (fun _ h => Row.rd h) (by omega) (fun _ => rfl) (by omega) l452 (by decide) ?_)
                refine go Try.tbs_ok 1000 ?_
                refine ev_callF (O1 (x308) (x305) (x309) (x306)) [] [.inr 5, .inr 4] rfl rfl (by decide) rfl (by simp) (fun _ => (by repeat (first | exact trivial | refine ⟨rfl, ?_⟩))) (fun _ h453 => ?_)
                refine go Try.tbs_ok 1000 ?_
                refine ev_stop (go_draw Try.tbs_ok true [0, 1, 2, 3, 4, 5, 6, 7] [(0,true),(1,true),(2,true),(3,true),(4,true),(5,true),(6,true),(7,true),(8,true),(9,true),(10,true),(11,true),(12,true)] rfl ?_)
                refine go Try.tbs_ok 1000 ?_
                refine ev_need ⟨⟨(by repeat (first | exact trivial | refine ⟨rfl, ?_⟩)), rfl⟩, by kernel_rfl⟩ ?_
                refine ev_if_no (decide_eq_false (show ¬mo[i].k.tmod 12 < 4 from (by omega))) ?_
                refine go Try.tbs_ok 1000 ?_
                refine ev_need ⟨⟨(by repeat (first | exact trivial | refine ⟨rfl, ?_⟩)), rfl⟩, by kernel_rfl⟩ ?_
                refine ev_stop (go_draw Try.tbs_ok true [0, 1, 2, 3, 4, 5, 6, 7] [(0,true),(1,true),(2,true),(3,true),(4,true),(5,true),(6,true),(7,true),(8,true),(9,true),(10,true),(11,true),(12,true),(13,true),(14,true),(15,true),(16,true),(17,true),(18,true),(19,true),(20,true),(21,true),(22,true),(23,true),(24,true),(25,true)] rfl ?_)
                refine go Try.tbs_ok 1000 ?_
                refine ev_need ⟨⟨(by repeat (first | exact trivial | refine ⟨rfl, ?_⟩)), rfl⟩, by kernel_rfl⟩ ?_
                refine ev_if_no (by simp [*]) ?_
                refine go Try.tbs_ok 1000 ?_
                refine ev_need ⟨⟨(by repeat (first | exact trivial | refine ⟨rfl, ?_⟩)), rfl⟩, by kernel_rfl⟩ ?_
                refine ev_stop (tk_index0 (sz := 1) Try.tbs_ok (.inr 6) (k) ⟨⟨(by repeat (first | exact trivial | refine ⟨rfl, ?_⟩)), rfl⟩, by kernel_rfl⟩ rfl rfl rfl rfl rfl rfl rfl (by omega) rfl Row.at0 (fun g454 e455 => ?_))
                subst e455
                refine go Try.tbs_ok 1000 ?_
                refine ev_need ⟨⟨(by repeat (first | exact trivial | refine ⟨rfl, ?_⟩)), rfl⟩, by kernel_rfl⟩ ?_
                have l456 : k < (W2).length := (by omega)
                refine ev_stop (tk_loadE Try.tbs_ok (.inr 6) (k) 0 ⟨⟨(by repeat (first | exact trivial | refine ⟨rfl, ?_⟩)), rfl⟩, by kernel_rfl⟩ rfl rfl rfl rfl rfl (fun _ h => Row.rd h) (by omega) (fun _ => rfl) (by omega) l456 (by decide) ?_)
                refine go Try.tbs_ok 1000 ?_
                refine ev_need ⟨⟨(by repeat (first | exact trivial | refine ⟨rfl, ?_⟩)), rfl⟩, by kernel_rfl⟩ ?_
                refine ev_if_no (decide_eq_false (show ¬(↑W2[k].size : Int) > (↑y.fst.size : Int) from (by omega))) ?_
                refine go Try.tbs_ok 1000 ?_
                refine ev_need ⟨⟨(by repeat (first | exact trivial | refine ⟨rfl, ?_⟩)), rfl⟩, by kernel_rfl⟩ ?_
                refine ev_stop (tk_atE (sz := 1) Try.tbs_ok (k) ⟨⟨(by repeat (first | exact trivial | refine ⟨rfl, ?_⟩)), rfl⟩, by kernel_rfl⟩ rfl rfl rfl rfl rfl rfl rfl (by omega) ?_)
                refine go Try.tbs_ok 1000 ?_
                refine ev_need ⟨⟨(by repeat (first | exact trivial | refine ⟨rfl, ?_⟩)), rfl⟩, by kernel_rfl⟩ ?_
                have l457 : k < (W2).length := (by omega)
                refine ev_stop (tk_loadE Try.tbs_ok (.inr 6) (k) 0 ⟨⟨(by repeat (first | exact trivial | refine ⟨rfl, ?_⟩)), rfl⟩, by kernel_rfl⟩ rfl rfl rfl rfl rfl (fun _ h => Row.rd h) (by omega) (fun _ => rfl) (by omega) l457 (by decide) ?_)
                refine go Try.tbs_ok 1000 ?_
                refine ev_need ⟨⟨(by repeat (first | exact trivial | refine ⟨rfl, ?_⟩)), rfl⟩, by kernel_rfl⟩ ?_
                refine ev_stop (tk_sliceS Try.tbs_ok (0) (W2[k].size) ⟨⟨(by repeat (first | exact trivial | refine ⟨rfl, ?_⟩)), rfl⟩, by kernel_rfl⟩ rfl rfl rfl rfl rfl rfl ⟨_, rfl⟩ (by omega) (by omega) ?_)
                refine go Try.tbs_ok 1000 ?_
                refine ev_need ⟨⟨(by repeat (first | exact trivial | refine ⟨rfl, ?_⟩)), rfl⟩, by kernel_rfl⟩ ?_
                refine ev_stop (tk_atE (sz := 1) Try.tbs_ok (k) ⟨⟨(by repeat (first | exact trivial | refine ⟨rfl, ?_⟩)), rfl⟩, by kernel_rfl⟩ rfl rfl rfl rfl rfl rfl rfl (by omega) ?_)
                refine go Try.tbs_ok 1000 ?_
                refine ev_need ⟨⟨(by repeat (first | exact trivial | refine ⟨rfl, ?_⟩)), rfl⟩, by kernel_rfl⟩ ?_
                have l458 : k < (W2).length := (by omega)
                refine ev_stop (tk_loadE Try.tbs_ok (.inr 6) (k) 0 ⟨⟨(by repeat (first | exact trivial | refine ⟨rfl, ?_⟩)), rfl⟩, by kernel_rfl⟩ rfl rfl rfl rfl rfl (fun _ h => Row.rd h) (by omega) (fun _ => rfl) (by omega) l458 (by decide) ?_)
                refine go Try.tbs_ok 1000 ?_
                refine ev_need ⟨⟨(by repeat (first | exact trivial | refine ⟨rfl, ?_⟩)), rfl⟩, by kernel_rfl⟩ ?_
                refine ev_if_no (dec_no (by with_reducible assumption)) ?_
                refine go Try.tbs_ok 1000 ?_
                refine ev_wrapN (k + 1) (by constructor <;> omega) (by rfl) ?_
                refine ev_fin (round_next (k + 1) (show k + 1 ≤ n2 from (by omega)) (show n2 - (k + 1) < n2 - k from (by omega)) ⟨⟨by kernel_rfl, by kernel_rfl⟩, ⟨_, rfl⟩, ⟨_, rfl⟩, by kernel_rfl, by kernel_rfl⟩)
          · refine go Try.tbs_ok 1000 ?_
            refine ev_fin (go Try.tbs_ok 1000 ?_)
            refine ev_callF (works ) [] [] rfl rfl (by decide) rfl (by simp) (fun _ => (by repeat (first | exact trivial | refine ⟨rfl, ?_⟩))) (fun _ h480 => ?_)
            refine go Try.tbs_ok 1000 ?_
            refine ev_fin ⟨trivial, _, rfl, (()), rfl, (by trivial), Frm.nil _⟩
    · refine go Try.tbs_ok 1000 ?_
      refine ev_stop (go_indexE (sz := 6) Try.tbs_ok (.inl 2) (i) rfl rfl rfl rfl rfl rfl (by omega) rfl (fun _ h => h) (fun g500 o502 e501 => ?_))
      subst e501
      refine go Try.tbs_ok 1000 ?_
      have l503 : i < (mo).length := (by omega)
      refine ev_stop (go_loadE Try.tbs_ok (.inl 2) (i) 0 rfl rfl rfl rfl (fun _ h => h) (by omega) (fun _ => rfl) (by omega) l503 (by decide) ?_)
      refine go Try.tbs_ok 1000 ?_
      refine ev_new fun b504 => ?_
      refine ev_if_yes (decide_eq_true (show mo[i].k.tmod 12 ≥ 8 from (by omega))) ?_
      refine go Try.tbs_ok 1000 ?_
      refine ev_wrapN (i + 1) (by constructor <;> omega) (by rfl) ?_
      refine ev_fin (round_next ((i + 1, q, D)) (?_ : i + 1 ≤ m ∧ q ≤ i + 1 ∧ q ≤ N ∧ twoD (151 + (i + 1)) D) (show m - (i + 1) < m - i from (by omega)) ⟨⟨by kernel_rfl, by kernel_rfl⟩, ⟨_, rfl⟩, ⟨_, rfl⟩, by kernel_rfl, by kernel_rfl⟩)
      exact ⟨by omega, by omega, by omega, hD.mono (by omega)⟩
  · have okA := failing_ok hD.good (q := (N : Int) - (q : Nat)) (by omega) (by omega) K
    obtain ⟨L, eL⟩ : ∃ L, L = D.files := ⟨_, rfl⟩
    obtain ⟨n1, en⟩ : ∃ n1, n1 = L.length := ⟨_, rfl⟩
    have eL2 : L = (failing D ((N : Int) - (q : Nat)) K).files := eL
    have Y1 := bytesT x42 D L n1 eL en hD.good hD.up
    have Y2 := namesM x42 D hD.good
    have Y3 := leftM x42 D hD.good
    have Y4 := bytesT x40 (failing D ((N : Int) - (q : Nat)) K) L n1 eL2 en okA rfl
    have Y5 := namesM x40 (failing D ((N : Int) - (q : Nat)) K) okA
    have Y6 := leftM x40 (failing D ((N : Int) - (q : Nat)) K) okA
    have hfew := hD.good.few
    rw [← eL] at Y2 Y3 hfew
    rw [← eL2] at Y5 Y6
    rw [← en] at Y2 Y3 Y5 Y6 hfew
    have S1 := fun A B c d => sameTextsR A B (L.map nameEG) (L.map nameEG) n1 c n1 d (by simp [en]) (by simp [en]) (by omega)
    have S2 := fun A B c d => sameTextsR A B (L.map datEG) (L.map datEG) n1 c n1 d (by simp [en]) (by simp [en]) (by omega)
    have S3 := fun A B c d => sameIntsR A B (L.map leftEG) (L.map leftEG) n1 c n1 d (by simp [en]) (by simp [en]) (by omega)
    rw [decide_eq_true rfl] at S1 S2 S3
    refine go Try.tbs_ok 1000 ?_
    refine ev_fin (go Try.tbs_ok 1000 ?_)
    refine ev_callF (Y4 ) [1] [] rfl rfl (by decide) rfl (by simp) (fun _ => (by repeat (first | exact trivial | refine ⟨rfl, ?_⟩))) (fun ⟨x600, x601⟩ h602 => ?_)
    refine go Try.tbs_ok 1000 ?_
    refine ev_callF (Y1 ) [2] [] rfl rfl (by decide) rfl (by simp) (fun _ => (by repeat (first | exact trivial | refine ⟨rfl, ?_⟩))) (fun ⟨x603, x604⟩ h605 => ?_)
    refine go Try.tbs_ok 1000 ?_
    refine ev_if_yes rfl ?_
    refine go Try.tbs_ok 1000 ?_
    refine ev_if_yes rfl ?_
    refine go Try.tbs_ok 1000 ?_
    refine ev_callF (Y5 ) [1] [] rfl rfl (by decide) rfl (by simp) (fun _ => (by repeat (first | exact trivial | refine ⟨rfl, ?_⟩))) (fun ⟨x606, x607⟩ h608 => ?_)
    refine go Try.tbs_ok 1000 ?_
    refine ev_callF (Y2 ) [2] [] rfl rfl (by decide) rfl (by simp) (fun _ => (by repeat (first | exact trivial | refine ⟨rfl, ?_⟩))) (fun ⟨x609, x610⟩ h611 => ?_)
    refine go Try.tbs_ok 1000 ?_
    refine ev_callF (S1 (x606) (x609) (x607) (x610)) [] [.inr 5, .inr 6] rfl rfl (by decide) rfl (by simp) (fun _ => (by repeat (first | exact trivial | refine ⟨rfl, ?_⟩))) (fun _ h612 => ?_)
    refine go Try.tbs_ok 1000 ?_
    refine ev_if_yes rfl ?_
    refine go Try.tbs_ok 1000 ?_
    refine ev_callF (S2 (x600) (x603) (x601) (x604)) [] [.inr 3, .inr 4] rfl rfl (by decide) rfl (by simp) (fun _ => (by repeat (first | exact trivial | refine ⟨rfl, ?_⟩))) (fun _ h613 => ?_)
    refine go Try.tbs_ok 1000 ?_
    refine ev_if_yes rfl ?_
    refine go Try.tbs_ok 1000 ?_
    refine ev_callF (Y6 ) [1] [] rfl rfl (by decide) rfl (by simp) (fun _ => (by repeat (first | exact trivial | refine ⟨rfl, ?_⟩))) (fun ⟨x614, x615⟩ h616 => ?_)
    refine go Try.tbs_ok 1000 ?_
    refine ev_callF (Y3 ) [2] [] rfl rfl (by decide) rfl (by simp) (fun _ => (by repeat (first | exact trivial | refine ⟨rfl, ?_⟩))) (fun ⟨x617, x618⟩ h619 => ?_)
    refine go Try.tbs_ok 1000 ?_
    refine ev_callF (S3 (x614) (x617) (x615) (x618)) [] [.inr 7, .inr 8] rfl rfl (by decide) rfl (by simp) (fun _ => (by repeat (first | exact trivial | refine ⟨rfl, ?_⟩))) (fun _ h620 => ?_)
    refine go Try.tbs_ok 1000 ?_
    refine ev_if_yes rfl ?_
    refine go Try.tbs_ok 1000 ?_
    refine ev_callF (works ) [] [] rfl rfl (by decide) rfl (by simp) (fun _ => (by repeat (first | exact trivial | refine ⟨rfl, ?_⟩))) (fun _ h621 => ?_)
    refine go Try.tbs_ok 1000 ?_
    refine ev_fin ⟨trivial, _, rfl, (()), rfl, (by trivial), Frm.nil _⟩
end Go.Proofs.Ythknokcgclcbmaa
