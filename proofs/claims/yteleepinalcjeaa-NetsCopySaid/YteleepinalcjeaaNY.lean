/-
  What is proved: NetsNone. Conditions: none.
-/
import Derived.Test.YteleepinalcjeaaNX
namespace Go.Proofs.Yteleepinalcjeaa
open Go.Sy

theorem greatOne (b : Nat) (k : Int) (s : MailS) (a : Option Addr) (n d : Nat) (i : Int) :
    Triple Try.prog 9 [.slice (some ⟨b, 0, none⟩) 1 1] [] [Pt b 38 (actL k s a n d i)] Unit (fun _ => .bool (decide (3999 < n))) (fun _ => True) (fun _ => []) := by
  have T := great (some ⟨b, 0, none⟩) [⟨k, ⟨s, List.replicate n (0, 0, 0, 0, 0, 0), a, d⟩, i⟩] 1
  refine (T.imp fun _ _ => ⟨(), ?_, trivial, fun _ q => q⟩).reads fun A hA => ?_
  · simp only [costs, cost, List.map_cons, List.map_nil, List.sum_cons, List.sum_nil, List.length_replicate, List.length_cons, List.length_nil]
    have : (decide (4000 < 1 + min n 100000 + 0) || decide (800 < 0 + 1)) = decide (3999 < n) := by
      rw [decide_eq_false (by omega : ¬ 800 < 0 + 1), Bool.or_false]
      exact decide_eq_decide.2 (by omega)
    rw [this]
  · rw [List.mem_singleton.1 hA]
    refine ⟨_, List.mem_singleton.2 rfl, fun _ p => ?_⟩
    have e : List.flatMap encA [(⟨k, ⟨s, List.replicate n (0, 0, 0, 0, 0, 0), a, d⟩, i⟩ : ActI)] = actL k s a n d i := by
      simp [encA, encI, actL]
    rw [e]
    exact Pt.rd p rfl
set_option maxHeartbeats 4000000 in
set_option maxRecDepth 100000 in
theorem netsNone (k : Int) (s : MailS) (a : Option Addr) (n d : Nat) (i : Int) (hk : 0 ≤ k ∧ k < 256) :
    Triple Try.prog 4 [.agg (actL k s a n d i).toArray] [] [] Unit (fun _ => .bool true) (fun _ => True) (fun _ => []) := by
  refine triple_intro Try.tbs_ok Try.func4 rfl [.ag (actSVL k s a n d i)] [] ⟨by simp [SV.good, SV.goodL, mailSV, actSVL], trivial⟩ rfl (by simp) ?_
  intro E
  refine go Try.tbs_ok 1000 ?_
  refine ev_new fun b0 => ?_
  refine ev_new fun b1 => ?_
  refine ev_callF (greatOne (b1) (k) (s) (a) (n) (d) (i)) [] [.inr 1] rfl rfl (by decide) rfl (by simp) (fun _ => (by repeat (first | exact trivial | refine ⟨rfl, ?_⟩))) (fun _ h2 => ?_)
  refine go Try.tbs_ok 1000 ?_
  refine ev_if_lt (fun h3 => ?_) (fun h3 => ?_)
  refine go Try.tbs_ok 1000 ?_
  refine ev_fin ⟨trivial, _, rfl, (()), rfl, (by trivial), Frm.nil _⟩
  refine go Try.tbs_ok 1000 ?_
  refine ev_stop (go_rounds 2 ?_)
  refine go Try.tbs_ok 1000 ?_
  refine ev_if_yes rfl ?_
  refine go Try.tbs_ok 1000 ?_
  refine ev_if_no rfl ?_
  refine go Try.tbs_ok 1000 ?_
  refine ev_stop (go_loopR [0, 2, 5, 6, 7, 8, 19, 20, 21, 22, 23, 24, 25, 26, 27, 28, 29, 30, 31, 32, 33, 34, 35, 36, 37, 38] (fun (q, _) => [(5, .va (.int .i64 (q : Nat)))]) (fun (_, kk) => [(0, .box b0 38 (.va (.int .u8 kk) :: (mailSV s a n d ++ [.va (.int .i64 i)])))]) (fun (q, kk) => q ≤ 9 ∧ 0 ≤ kk ∧ kk < 256) (fun (q, _) => 9 - q) ((0, k) : Nat × Int) ⟨Nat.zero_le _, hk⟩ ⟨⟨by kernel_rfl, by kernel_rfl⟩, ⟨_, rfl⟩, ⟨_, rfl⟩, by kernel_rfl, by kernel_rfl⟩ (fun x_ h_ => ?_))
  obtain ⟨q, kk⟩ := x_
  obtain ⟨hq, hkk⟩ := h_
  refine go Try.tbs_ok 1000 ?_
  refine ev_if_lt (fun h30 => ?_) (fun h30 => ?_)
  refine go Try.tbs_ok 1000 ?_
  refine ev_wu8 (show 0 ≤ (↑q : Int) ∧ (↑q : Int) < 256 from (by constructor <;> omega)) ?_
  refine ev_callF (doesN_nil (↑q : Int) (s) (a) (n) (d) (i) (show 0 ≤ (↑q : Int) ∧ (↑q : Int) < 256 from (by omega))) [] [] rfl rfl (by decide) rfl (by simp) (fun _ => (by repeat (first | exact trivial | refine ⟨rfl, ?_⟩))) (fun _ h31 => ?_)
  refine go Try.tbs_ok 1000 ?_
  refine ev_new fun b32 => ?_
  refine ev_if_no rfl ?_
  refine go Try.tbs_ok 1000 ?_
  refine ev_callF (same_bare (noM.at none).s (noM.at none).a (none)) [] [] rfl rfl (by decide) rfl (by simp) (fun _ => (by repeat (first | exact trivial | refine ⟨rfl, ?_⟩))) (fun _ h33 => ?_)
  refine go Try.tbs_ok 1000 ?_
  refine ev_if_no rfl ?_
  refine go Try.tbs_ok 1000 ?_
  refine ev_wrapN (q + 1) (by constructor <;> omega) (by rfl) ?_
  refine ev_fin (round_next ((q + 1, (↑q : Int))) (show q + 1 ≤ 9 ∧ 0 ≤ (↑q : Int) ∧ (↑q : Int) < 256 from (by omega)) (show 9 - (q + 1) < 9 - q from (by omega)) ⟨⟨by kernel_rfl, by kernel_rfl⟩, ⟨_, rfl⟩, ⟨_, rfl⟩, by kernel_rfl, by kernel_rfl⟩)
  refine go Try.tbs_ok 1000 ?_
  refine ev_fin (go Try.tbs_ok 1000 ?_)
  refine ev_callF (lenN_nil ) [] [] rfl rfl (by decide) rfl (by simp) (fun _ => (by repeat (first | exact trivial | refine ⟨rfl, ?_⟩))) (fun _ h34 => ?_)
  refine go Try.tbs_ok 1000 ?_
  refine ev_if_no rfl ?_
  refine go Try.tbs_ok 1000 ?_
  refine ev_callF (allN_nil ) [] [] rfl rfl (by decide) rfl (by simp) (fun _ => (by repeat (first | exact trivial | refine ⟨rfl, ?_⟩))) (fun _ h35 => ?_)
  refine go Try.tbs_ok 1000 ?_
  refine ev_if_no rfl ?_
  refine go Try.tbs_ok 1000 ?_
  refine ev_wrapN (0 + 1) (by constructor <;> omega) (by rfl) ?_
  refine ev_fin (go Try.tbs_ok 1000 ?_)
  refine ev_if_yes rfl ?_
  refine go Try.tbs_ok 1000 ?_
  refine ev_if_yes rfl ?_
  refine go Try.tbs_ok 1000 ?_
  refine ev_new fun b36 => ?_
  refine ev_stop (go_loopR [2, 5, 6, 7, 17, 19, 20, 21, 22, 23, 24, 25, 26, 27, 28, 29, 30, 31, 32, 33, 34, 35, 36, 37, 38] (fun (q, _) => [(5, .va (.int .i64 (q : Nat)))]) (fun (_, kk) => [(0, .box b0 38 (.va (.int .u8 kk) :: (mailSV s a n d ++ [.va (.int .i64 i)])))]) (fun (q, kk) => q ≤ 9 ∧ 0 ≤ kk ∧ kk < 256) (fun (q, _) => 9 - q) ((0, kk) : Nat × Int) ⟨Nat.zero_le _, hkk⟩ ⟨⟨by kernel_rfl, by kernel_rfl⟩, ⟨_, rfl⟩, ⟨_, rfl⟩, by kernel_rfl, by kernel_rfl⟩ (fun x_ h_ => ?_))
  obtain ⟨q2, kk2⟩ := x_
  obtain ⟨hq2, hkk2⟩ := h_
  refine go Try.tbs_ok 1000 ?_
  refine ev_if_lt (fun h60 => ?_) (fun h60 => ?_)
  refine go Try.tbs_ok 1000 ?_
  refine ev_wu8 (show 0 ≤ (↑q2 : Int) ∧ (↑q2 : Int) < 256 from (by constructor <;> omega)) ?_
  refine ev_call (doesN_zero (b36) (↑q2 : Int) (s) (a) (n) (d) (i) (show 0 ≤ (↑q2 : Int) ∧ (↑q2 : Int) < 256 from (by omega))) [2] [] (fun v0_ => [.box (b36) 52 [.bl false, .va (Value.slice none 0 0)]]) rfl rfl (by decide) rfl (by simp) (fun _ => rfl) (fun _ => (newsOk_box (by simp [SV.good, SV.goodL]) (newsOk_nil _))) (fun _ => (by repeat (first | exact trivial | refine ⟨rfl, ?_⟩))) (fun _ h61 => ?_)
  refine go Try.tbs_ok 1000 ?_
  refine ev_new fun b62 => ?_
  refine ev_if_no rfl ?_
  refine go Try.tbs_ok 1000 ?_
  refine ev_callF (same_bare (noM.at none).s (noM.at none).a (none)) [] [] rfl rfl (by decide) rfl (by simp) (fun _ => (by repeat (first | exact trivial | refine ⟨rfl, ?_⟩))) (fun _ h63 => ?_)
  refine go Try.tbs_ok 1000 ?_
  refine ev_if_no rfl ?_
  refine go Try.tbs_ok 1000 ?_
  refine ev_wrapN (q2 + 1) (by constructor <;> omega) (by rfl) ?_
  refine ev_fin (round_next ((q2 + 1, (↑q2 : Int))) (show q2 + 1 ≤ 9 ∧ 0 ≤ (↑q2 : Int) ∧ (↑q2 : Int) < 256 from (by omega)) (show 9 - (q2 + 1) < 9 - q2 from (by omega)) ⟨⟨by kernel_rfl, by kernel_rfl⟩, ⟨_, rfl⟩, ⟨_, rfl⟩, by kernel_rfl, by kernel_rfl⟩)
  refine go Try.tbs_ok 1000 ?_
  refine ev_fin (go Try.tbs_ok 1000 ?_)
  refine ev_call (lenN_zero (b36)) [2] [] (fun v0_ => [.box (b36) 52 [.bl false, .va (Value.slice none 0 0)]]) rfl rfl (by decide) rfl (by simp) (fun _ => rfl) (fun _ => (newsOk_box (by simp [SV.good, SV.goodL]) (newsOk_nil _))) (fun _ => (by repeat (first | exact trivial | refine ⟨rfl, ?_⟩))) (fun _ h64 => ?_)
  refine go Try.tbs_ok 1000 ?_
  refine ev_if_no rfl ?_
  refine go Try.tbs_ok 1000 ?_
  refine ev_call (allN_zero (b36)) [2] [] (fun v0_ => [.box (b36) 52 [.bl false, .va (Value.slice none 0 0)]]) rfl rfl (by decide) rfl (by simp) (fun _ => rfl) (fun _ => (newsOk_box (by simp [SV.good, SV.goodL]) (newsOk_nil _))) (fun _ => (by repeat (first | exact trivial | refine ⟨rfl, ?_⟩))) (fun _ h65 => ?_)
  refine go Try.tbs_ok 1000 ?_
  refine ev_if_no rfl ?_
  refine go Try.tbs_ok 1000 ?_
  refine ev_wrapN (0 + 1 + 1) (by constructor <;> omega) (by rfl) ?_
  refine ev_fin (go Try.tbs_ok 1000 ?_)
  refine ev_if_no rfl ?_
  refine go Try.tbs_ok 1000 ?_
  refine ev_fin (go Try.tbs_ok 1000 ?_)
  refine ev_callF (works ) [] [] rfl rfl (by decide) rfl (by simp) (fun _ => (by repeat (first | exact trivial | refine ⟨rfl, ?_⟩))) (fun _ h66 => ?_)
  refine go Try.tbs_ok 1000 ?_
  refine ev_fin ⟨trivial, _, rfl, (()), rfl, (by trivial), Frm.nil _⟩
end Go.Proofs.Yteleepinalcjeaa
