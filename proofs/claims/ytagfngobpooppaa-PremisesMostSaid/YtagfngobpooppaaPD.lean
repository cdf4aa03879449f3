/-
  What is proved: who is up, by the program and by the chapter. Conditions: none.
-/
import Derived.Test.YtagfngobpooppaaPC
import Derived.Test.YtagfngobpooppaaSyn
namespace Go.Proofs.Ytagfngobpooppaa
open Go.Sy

set_option maxRecDepth 100000 in
theorem mul64 (b : Nat) (hb : b ≤ 7) : Triple Try.prog 25 [.int .u64 1, .int .u64 b] [] [] Unit (fun _ => .tuple #[.int .u64 0, .int .u64 b]) (fun _ => True) (fun _ => []) := by
  obtain rfl | rfl | rfl | rfl | rfl | rfl | rfl | rfl : b = 0 ∨ b = 1 ∨ b = 2 ∨ b = 3 ∨ b = 4 ∨ b = 5 ∨ b = 6 ∨ b = 7 := by omega
  · refine triple_intro Try.tbs_ok Try.func25 rfl [.va (.int .u64 1), .va (.int .u64 0)] [] ⟨trivial, trivial, trivial⟩ rfl (by simp) ?_
    intro E
    refine go Try.tbs_ok 1000 ?_
    refine ev_stop (go_bin (.va _) trivial rfl rfl rfl rfl rfl (by decide) (by decide) (fun w => bits_run (by decide) w) ?_)
    refine go Try.tbs_ok 1000 ?_
    refine ev_stop (go_bin (.va _) trivial rfl rfl rfl rfl rfl (by decide) (by decide) (fun w => shr_run (show 0 ≤ 32 from (by omega)) w) ?_)
    refine go Try.tbs_ok 1000 ?_
    refine ev_stop (go_bin (.va _) trivial rfl rfl rfl rfl rfl (by decide) (by decide) (fun w => bits_run (by decide) w) ?_)
    refine go Try.tbs_ok 1000 ?_
    refine ev_stop (go_bin (.va _) trivial rfl rfl rfl rfl rfl (by decide) (by decide) (fun w => shr_run (show 0 ≤ 32 from (by omega)) w) ?_)
    refine go Try.tbs_ok 1000 ?_
    refine ev_mu64 ?_
    refine ev_mu64 ?_
    refine ev_stop (go_bin (.va _) trivial rfl rfl rfl rfl rfl (by decide) (by decide) (fun w => shr_run (show 0 ≤ 32 from (by omega)) w) ?_)
    refine go Try.tbs_ok 1000 ?_
    refine ev_mu64 ?_
    refine ev_stop (go_bin (.va _) trivial rfl rfl rfl rfl rfl (by decide) (by decide) (fun w => bits_run (by decide) w) ?_)
    refine go Try.tbs_ok 1000 ?_
    refine ev_stop (go_bin (.va _) trivial rfl rfl rfl rfl rfl (by decide) (by decide) (fun w => shr_run (show 0 ≤ 32 from (by omega)) w) ?_)
    refine go Try.tbs_ok 1000 ?_
    refine ev_mu64 ?_
    refine ev_mu64 ?_
    refine ev_mu64 ?_
    refine ev_mu64 ?_
    refine ev_stop (go_bin (.va _) trivial rfl rfl rfl rfl rfl (by decide) (by decide) (fun w => shr_run (show 0 ≤ 32 from (by omega)) w) ?_)
    refine go Try.tbs_ok 1000 ?_
    refine ev_mu64 ?_
    refine ev_wu64 (show 0 ≤ 1 * 0 ∧ 1 * 0 < 18446744073709551616 from (by constructor <;> omega)) ?_
    refine ev_fin ⟨trivial, _, rfl, (()), rfl, (by trivial), Frm.nil _⟩
  · refine triple_intro Try.tbs_ok Try.func25 rfl [.va (.int .u64 1), .va (.int .u64 1)] [] ⟨trivial, trivial, trivial⟩ rfl (by simp) ?_
    intro E
    refine go Try.tbs_ok 1000 ?_
    refine ev_stop (go_bin (.va _) trivial rfl rfl rfl rfl rfl (by decide) (by decide) (fun w => bits_run (by decide) w) ?_)
    refine go Try.tbs_ok 1000 ?_
    refine ev_stop (go_bin (.va _) trivial rfl rfl rfl rfl rfl (by decide) (by decide) (fun w => shr_run (show 0 ≤ 32 from (by omega)) w) ?_)
    refine go Try.tbs_ok 1000 ?_
    refine ev_stop (go_bin (.va _) trivial rfl rfl rfl rfl rfl (by decide) (by decide) (fun w => bits_run (by decide) w) ?_)
    refine go Try.tbs_ok 1000 ?_
    refine ev_stop (go_bin (.va _) trivial rfl rfl rfl rfl rfl (by decide) (by decide) (fun w => shr_run (show 0 ≤ 32 from (by omega)) w) ?_)
    refine go Try.tbs_ok 1000 ?_
    refine ev_mu64 ?_
    refine ev_mu64 ?_
    refine ev_stop (go_bin (.va _) trivial rfl rfl rfl rfl rfl (by decide) (by decide) (fun w => shr_run (show 0 ≤ 32 from (by omega)) w) ?_)
    refine go Try.tbs_ok 1000 ?_
    refine ev_mu64 ?_
    refine ev_stop (go_bin (.va _) trivial rfl rfl rfl rfl rfl (by decide) (by decide) (fun w => bits_run (by decide) w) ?_)
    refine go Try.tbs_ok 1000 ?_
    refine ev_stop (go_bin (.va _) trivial rfl rfl rfl rfl rfl (by decide) (by decide) (fun w => shr_run (show 0 ≤ 32 from (by omega)) w) ?_)
    refine go Try.tbs_ok 1000 ?_
    refine ev_mu64 ?_
    refine ev_mu64 ?_
    refine ev_mu64 ?_
    refine ev_mu64 ?_
    refine ev_stop (go_bin (.va _) trivial rfl rfl rfl rfl rfl (by decide) (by decide) (fun w => shr_run (show 0 ≤ 32 from (by omega)) w) ?_)
    refine go Try.tbs_ok 1000 ?_
    refine ev_mu64 ?_
    refine ev_wu64 (show 0 ≤ 1 * 1 ∧ 1 * 1 < 18446744073709551616 from (by constructor <;> omega)) ?_
    refine ev_fin ⟨trivial, _, rfl, (()), rfl, (by trivial), Frm.nil _⟩
  · refine triple_intro Try.tbs_ok Try.func25 rfl [.va (.int .u64 1), .va (.int .u64 2)] [] ⟨trivial, trivial, trivial⟩ rfl (by simp) ?_
    intro E
    refine go Try.tbs_ok 1000 ?_
    refine ev_stop (go_bin (.va _) trivial rfl rfl rfl rfl rfl (by decide) (by decide) (fun w => bits_run (by decide) w) ?_)
    refine go Try.tbs_ok 1000 ?_
    refine ev_stop (go_bin (.va _) trivial rfl rfl rfl rfl rfl (by decide) (by decide) (fun w => shr_run (show 0 ≤ 32 from (by omega)) w) ?_)
    refine go Try.tbs_ok 1000 ?_
    refine ev_stop (go_bin (.va _) trivial rfl rfl rfl rfl rfl (by decide) (by decide) (fun w => bits_run (by decide) w) ?_)
    refine go Try.tbs_ok 1000 ?_
    refine ev_stop (go_bin (.va _) trivial rfl rfl rfl rfl rfl (by decide) (by decide) (fun w => shr_run (show 0 ≤ 32 from (by omega)) w) ?_)
    refine go Try.tbs_ok 1000 ?_
    refine ev_mu64 ?_
    refine ev_mu64 ?_
    refine ev_stop (go_bin (.va _) trivial rfl rfl rfl rfl rfl (by decide) (by decide) (fun w => shr_run (show 0 ≤ 32 from (by omega)) w) ?_)
    refine go Try.tbs_ok 1000 ?_
    refine ev_mu64 ?_
    refine ev_stop (go_bin (.va _) trivial rfl rfl rfl rfl rfl (by decide) (by decide) (fun w => bits_run (by decide) w) ?_)
    refine go Try.tbs_ok 1000 ?_
    refine ev_stop (go_bin (.va _) trivial rfl rfl rfl rfl rfl (by decide) (by decide) (fun w => shr_run (show 0 ≤ 32 from (by omega)) w) ?_)
    refine go Try.tbs_ok 1000 ?_
    refine ev_mu64 ?_
    refine ev_mu64 ?_
    refine ev_mu64 ?_
    refine ev_mu64 ?_
    refine ev_stop (go_bin (.va _) trivial rfl rfl rfl rfl rfl (by decide) (by decide) (fun w => shr_run (show 0 ≤ 32 from (by omega)) w) ?_)
    refine go Try.tbs_ok 1000 ?_
    refine ev_mu64 ?_
    refine ev_wu64 (show 0 ≤ 1 * 2 ∧ 1 * 2 < 18446744073709551616 from (by constructor <;> omega)) ?_
    refine ev_fin ⟨trivial, _, rfl, (()), rfl, (by trivial), Frm.nil _⟩
  · refine triple_intro Try.tbs_ok Try.func25 rfl [.va (.int .u64 1), .va (.int .u64 3)] [] ⟨trivial, trivial, trivial⟩ rfl (by simp) ?_
    intro E
    refine go Try.tbs_ok 1000 ?_
    refine ev_stop (go_bin (.va _) trivial rfl rfl rfl rfl rfl (by decide) (by decide) (fun w => bits_run (by decide) w) ?_)
    refine go Try.tbs_ok 1000 ?_
    refine ev_stop (go_bin (.va _) trivial rfl rfl rfl rfl rfl (by decide) (by decide) (fun w => shr_run (show 0 ≤ 32 from (by omega)) w) ?_)
    refine go Try.tbs_ok 1000 ?_
    refine ev_stop (go_bin (.va _) trivial rfl rfl rfl rfl rfl (by decide) (by decide) (fun w => bits_run (by decide) w) ?_)
    refine go Try.tbs_ok 1000 ?_
    refine ev_stop (go_bin (.va _) trivial rfl rfl rfl rfl rfl (by decide) (by decide) (fun w => shr_run (show 0 ≤ 32 from (by omega)) w) ?_)
    refine go Try.tbs_ok 1000 ?_
    refine ev_mu64 ?_
    refine ev_mu64 ?_
    refine ev_stop (go_bin (.va _) trivial rfl rfl rfl rfl rfl (by decide) (by decide) (fun w => shr_run (show 0 ≤ 32 from (by omega)) w) ?_)
    refine go Try.tbs_ok 1000 ?_
    refine ev_mu64 ?_
    refine ev_stop (go_bin (.va _) trivial rfl rfl rfl rfl rfl (by decide) (by decide) (fun w => bits_run (by decide) w) ?_)
    refine go Try.tbs_ok 1000 ?_
    refine ev_stop (go_bin (.va _) trivial rfl rfl rfl rfl rfl (by decide) (by decide) (fun w => shr_run (show 0 ≤ 32 from (by omega)) w) ?_)
    refine go Try.tbs_ok 1000 ?_
    refine ev_mu64 ?_
    refine ev_mu64 ?_
    refine ev_mu64 ?_
    refine ev_mu64 ?_
    refine ev_stop (go_bin (.va _) trivial rfl rfl rfl rfl rfl (by decide) (by decide) (fun w => shr_run (show 0 ≤ 32 from (by omega)) w) ?_)
    refine go Try.tbs_ok 1000 ?_
    refine ev_mu64 ?_
    refine ev_wu64 (show 0 ≤ 1 * 3 ∧ 1 * 3 < 18446744073709551616 from (by constructor <;> omega)) ?_
    refine ev_fin ⟨trivial, _, rfl, (()), rfl, (by trivial), Frm.nil _⟩
  · refine triple_intro Try.tbs_ok Try.func25 rfl [.va (.int .u64 1), .va (.int .u64 4)] [] ⟨trivial, trivial, trivial⟩ rfl (by simp) ?_
    intro E
    refine go Try.tbs_ok 1000 ?_
    refine ev_stop (go_bin (.va _) trivial rfl rfl rfl rfl rfl (by decide) (by decide) (fun w => bits_run (by decide) w) ?_)
    refine go Try.tbs_ok 1000 ?_
    refine ev_stop (go_bin (.va _) trivial rfl rfl rfl rfl rfl (by decide) (by decide) (fun w => shr_run (show 0 ≤ 32 from (by omega)) w) ?_)
    refine go Try.tbs_ok 1000 ?_
    refine ev_stop (go_bin (.va _) trivial rfl rfl rfl rfl rfl (by decide) (by decide) (fun w => bits_run (by decide) w) ?_)
    refine go Try.tbs_ok 1000 ?_
    refine ev_stop (go_bin (.va _) trivial rfl rfl rfl rfl rfl (by decide) (by decide) (fun w => shr_run (show 0 ≤ 32 from (by omega)) w) ?_)
    refine go Try.tbs_ok 1000 ?_
    refine ev_mu64 ?_
    refine ev_mu64 ?_
    refine ev_stop (go_bin (.va _) trivial rfl rfl rfl rfl rfl (by decide) (by decide) (fun w => shr_run (show 0 ≤ 32 from (by omega)) w) ?_)
    refine go Try.tbs_ok 1000 ?_
    refine ev_mu64 ?_
    refine ev_stop (go_bin (.va _) trivial rfl rfl rfl rfl rfl (by decide) (by decide) (fun w => bits_run (by decide) w) ?_)
    refine go Try.tbs_ok 1000 ?_
    refine ev_stop (go_bin (.va _) trivial rfl rfl rfl rfl rfl (by decide) (by decide) (fun w => shr_run (show 0 ≤ 32 from (by omega)) w) ?_)
    refine go Try.tbs_ok 1000 ?_
    refine ev_mu64 ?_
    refine ev_mu64 ?_
    refine ev_mu64 ?_
    refine ev_mu64 ?_
    refine ev_stop (go_bin (.va _) trivial rfl rfl rfl rfl rfl (by decide) (by decide) (fun w => shr_run (show 0 ≤ 32 from (by omega)) w) ?_)
    refine go Try.tbs_ok 1000 ?_
    refine ev_mu64 ?_
    refine ev_wu64 (show 0 ≤ 1 * 4 ∧ 1 * 4 < 18446744073709551616 from (by constructor <;> omega)) ?_
    refine ev_fin ⟨trivial, _, rfl, (()), rfl, (by trivial), Frm.nil _⟩
  · refine triple_intro Try.tbs_ok Try.func25 rfl [.va (.int .u64 1), .va (.int .u64 5)] [] ⟨trivial, trivial, trivial⟩ rfl (by simp) ?_
    intro E
    refine go Try.tbs_ok 1000 ?_
    refine ev_stop (go_bin (.va _) trivial rfl rfl rfl rfl rfl (by decide) (by decide) (fun w => bits_run (by decide) w) ?_)
    refine go Try.tbs_ok 1000 ?_
    refine ev_stop (go_bin (.va _) trivial rfl rfl rfl rfl rfl (by decide) (by decide) (fun w => shr_run (show 0 ≤ 32 from (by omega)) w) ?_)
    refine go Try.tbs_ok 1000 ?_
    refine ev_stop (go_bin (.va _) trivial rfl rfl rfl rfl rfl (by decide) (by decide) (fun w => bits_run (by decide) w) ?_)
    refine go Try.tbs_ok 1000 ?_
    refine ev_stop (go_bin (.va _) trivial rfl rfl rfl rfl rfl (by decide) (by decide) (fun w => shr_run (show 0 ≤ 32 from (by omega)) w) ?_)
    refine go Try.tbs_ok 1000 ?_
    refine ev_mu64 ?_
    refine ev_mu64 ?_
    refine ev_stop (go_bin (.va _) trivial rfl rfl rfl rfl rfl (by decide) (by decide) (fun w => shr_run (show 0 ≤ 32 from (by omega)) w) ?_)
    refine go Try.tbs_ok 1000 ?_
    refine ev_mu64 ?_
    refine ev_stop (go_bin (.va _) trivial rfl rfl rfl rfl rfl (by decide) (by decide) (fun w => bits_run (by decide) w) ?_)
    refine go Try.tbs_ok 1000 ?_
    refine ev_stop (go_bin (.va _) trivial rfl rfl rfl rfl rfl (by decide) (by decide) (fun w => shr_run (show 0 ≤ 32 from (by omega)) w) ?_)
    refine go Try.tbs_ok 1000 ?_
    refine ev_mu64 ?_
    refine ev_mu64 ?_
    refine ev_mu64 ?_
    refine ev_mu64 ?_
    refine ev_stop (go_bin (.va _) trivial rfl rfl rfl rfl rfl (by decide) (by decide) (fun w => shr_run (show 0 ≤ 32 from (by omega)) w) ?_)
    refine go Try.tbs_ok 1000 ?_
    refine ev_mu64 ?_
    refine ev_wu64 (show 0 ≤ 1 * 5 ∧ 1 * 5 < 18446744073709551616 from (by constructor <;> omega)) ?_
    refine ev_fin ⟨trivial, _, rfl, (()), rfl, (by trivial), Frm.nil _⟩
  · refine triple_intro Try.tbs_ok Try.func25 rfl [.va (.int .u64 1), .va (.int .u64 6)] [] ⟨trivial, trivial, trivial⟩ rfl (by simp) ?_
    intro E
    refine go Try.tbs_ok 1000 ?_
    refine ev_stop (go_bin (.va _) trivial rfl rfl rfl rfl rfl (by decide) (by decide) (fun w => bits_run (by decide) w) ?_)
    refine go Try.tbs_ok 1000 ?_
    refine ev_stop (go_bin (.va _) trivial rfl rfl rfl rfl rfl (by decide) (by decide) (fun w => shr_run (show 0 ≤ 32 from (by omega)) w) ?_)
    refine go Try.tbs_ok 1000 ?_
    refine ev_stop (go_bin (.va _) trivial rfl rfl rfl rfl rfl (by decide) (by decide) (fun w => bits_run (by decide) w) ?_)
    refine go Try.tbs_ok 1000 ?_
    refine ev_stop (go_bin (.va _) trivial rfl rfl rfl rfl rfl (by decide) (by decide) (fun w => shr_run (show 0 ≤ 32 from (by omega)) w) ?_)
    refine go Try.tbs_ok 1000 ?_
    refine ev_mu64 ?_
    refine ev_mu64 ?_
    refine ev_stop (go_bin (.va _) trivial rfl rfl rfl rfl rfl (by decide) (by decide) (fun w => shr_run (show 0 ≤ 32 from (by omega)) w) ?_)
    refine go Try.tbs_ok 1000 ?_
    refine ev_mu64 ?_
    refine ev_stop (go_bin (.va _) trivial rfl rfl rfl rfl rfl (by decide) (by decide) (fun w => bits_run (by decide) w) ?_)
    refine go Try.tbs_ok 1000 ?_
    refine ev_stop (go_bin (.va _) trivial rfl rfl rfl rfl rfl (by decide) (by decide) (fun w => shr_run (show 0 ≤ 32 from (by omega)) w) ?_)
    refine go Try.tbs_ok 1000 ?_
    refine ev_mu64 ?_
    refine ev_mu64 ?_
    refine ev_mu64 ?_
    refine ev_mu64 ?_
    refine ev_stop (go_bin (.va _) trivial rfl rfl rfl rfl rfl (by decide) (by decide) (fun w => shr_run (show 0 ≤ 32 from (by omega)) w) ?_)
    refine go Try.tbs_ok 1000 ?_
    refine ev_mu64 ?_
    refine ev_wu64 (show 0 ≤ 1 * 6 ∧ 1 * 6 < 18446744073709551616 from (by constructor <;> omega)) ?_
    refine ev_fin ⟨trivial, _, rfl, (()), rfl, (by trivial), Frm.nil _⟩
  · refine triple_intro Try.tbs_ok Try.func25 rfl [.va (.int .u64 1), .va (.int .u64 7)] [] ⟨trivial, trivial, trivial⟩ rfl (by simp) ?_
    intro E
    refine go Try.tbs_ok 1000 ?_
    refine ev_stop (go_bin (.va _) trivial rfl rfl rfl rfl rfl (by decide) (by decide) (fun w => bits_run (by decide) w) ?_)
    refine go Try.tbs_ok 1000 ?_
    refine ev_stop (go_bin (.va _) trivial rfl rfl rfl rfl rfl (by decide) (by decide) (fun w => shr_run (show 0 ≤ 32 from (by omega)) w) ?_)
    refine go Try.tbs_ok 1000 ?_
    refine ev_stop (go_bin (.va _) trivial rfl rfl rfl rfl rfl (by decide) (by decide) (fun w => bits_run (by decide) w) ?_)
    refine go Try.tbs_ok 1000 ?_
    refine ev_stop (go_bin (.va _) trivial rfl rfl rfl rfl rfl (by decide) (by decide) (fun w => shr_run (show 0 ≤ 32 from (by omega)) w) ?_)
    refine go Try.tbs_ok 1000 ?_
    refine ev_mu64 ?_
    refine ev_mu64 ?_
    refine ev_stop (go_bin (.va _) trivial rfl rfl rfl rfl rfl (by decide) (by decide) (fun w => shr_run (show 0 ≤ 32 from (by omega)) w) ?_)
    refine go Try.tbs_ok 1000 ?_
    refine ev_mu64 ?_
    refine ev_stop (go_bin (.va _) trivial rfl rfl rfl rfl rfl (by decide) (by decide) (fun w => bits_run (by decide) w) ?_)
    refine go Try.tbs_ok 1000 ?_
    refine ev_stop (go_bin (.va _) trivial rfl rfl rfl rfl rfl (by decide) (by decide) (fun w => shr_run (show 0 ≤ 32 from (by omega)) w) ?_)
    refine go Try.tbs_ok 1000 ?_
    refine ev_mu64 ?_
    refine ev_mu64 ?_
    refine ev_mu64 ?_
    refine ev_mu64 ?_
    refine ev_stop (go_bin (.va _) trivial rfl rfl rfl rfl rfl (by decide) (by decide) (fun w => shr_run (show 0 ≤ 32 from (by omega)) w) ?_)
    refine go Try.tbs_ok 1000 ?_
    refine ev_mu64 ?_
    refine ev_wu64 (show 0 ≤ 1 * 7 ∧ 1 * 7 < 18446744073709551616 from (by constructor <;> omega)) ?_
    refine ev_fin ⟨trivial, _, rfl, (()), rfl, (by trivial), Frm.nil _⟩
set_option maxRecDepth 100000 in
theorem mulB (b : Nat) (hb : b ≤ 7) : Triple Try.prog 22 [.int .u64 1, .int .u64 b] [] [] Unit (fun _ => .tuple #[.int .u64 0, .int .u64 b]) (fun _ => True) (fun _ => []) := by
  refine triple_intro Try.tbs_ok Try.func22 rfl [.va (.int .u64 1), .va (.int .u64 b)] [] ⟨trivial, trivial, trivial⟩ rfl (by simp) ?_
  intro E
  refine go Try.tbs_ok 1000 ?_
  refine ev_callF (mul64 (b) (by with_reducible assumption)) [] [] rfl rfl (by decide) rfl (by simp) (fun _ => (by repeat (first | exact trivial | refine ⟨rfl, ?_⟩))) (fun _ h0 => ?_)
  refine go Try.tbs_ok 1000 ?_
  refine ev_fin ⟨trivial, _, rfl, (()), rfl, (by trivial), Frm.nil _⟩
theorem rep_start (m : Nat) : (List.replicate m false).take 0 ++ [true].take (Nat.min 1 m) ++ (List.replicate m false).drop (0 + Nat.min 1 m) = List.replicate (Nat.min 1 m) true ++ List.replicate (m - Nat.min 1 m) false := by
  rw [show Nat.min 1 m = min 1 m from rfl]
  cases m with
  | zero => rfl
  | succ m => rw [show min 1 (m + 1) = 1 by omega]; simp
theorem rep_step {m k : Nat} {L : List Bool} (hk : k < m) (hL : L = List.replicate k true ++ List.replicate (m - k) false) :
    L.take k ++ (L.take k).take (k.min (m - k)) ++ L.drop (k + k.min (m - k)) = List.replicate (k + k.min (m - k)) true ++ List.replicate (m - (k + k.min (m - k))) false := by
  obtain ⟨q, hq⟩ : ∃ q, q = k.min (m - k) := ⟨_, rfl⟩
  have q1 : q ≤ m - k := by rw [hq]; exact Nat.min_le_right _ _
  have q2 : q ≤ k := by rw [hq]; exact Nat.min_le_left _ _
  rw [← hq]
  have h1 : L.take k = List.replicate k true := by rw [hL, List.take_append_of_le_length (by simp)]; simp
  have h2 : L.drop (k + q) = List.replicate (m - (k + q)) false := by
    rw [hL, List.drop_append, List.drop_of_length_le (by simp)]
    simp
    omega
  rw [h1, h2, List.take_replicate, Nat.min_eq_left q2, List.replicate_append_replicate]
set_option maxRecDepth 100000 in
theorem repeatB (A : Option Addr) (c m : Nat) (hm : m ≤ 7) : Triple Try.prog 20 [.slice A 1 c, .int .i64 m] [] [Rd 1 A 1 ([true].flatMap encB)] Nat (fun b => .slice (some ⟨b, 0, none⟩) m m) (fun _ => True)
    (fun b => [Row 4 1 (some ⟨b, 0, none⟩) m m ((List.replicate m true).flatMap encB)]) := by
  refine triple_intro Try.tbs_ok Try.func20 rfl [.va (.slice A 1 c), .va (.int .i64 m)] [] ⟨trivial, trivial, trivial⟩ rfl (by simp) ?_
  intro E
  refine go Try.tbs_ok 1000 ?_
  refine ev_if_no rfl ?_
  refine go Try.tbs_ok 1000 ?_
  refine ev_wu64 (show 0 ≤ (↑1 : Int) ∧ (↑1 : Int) < 18446744073709551616 from (by constructor <;> omega)) ?_
  refine ev_wu64 (show 0 ≤ (↑m : Int) ∧ (↑m : Int) < 18446744073709551616 from (by constructor <;> omega)) ?_
  refine ev_callF (mulB (m) (by with_reducible assumption)) [] [] rfl rfl (by decide) rfl (by simp) (fun _ => (by repeat (first | exact trivial | refine ⟨rfl, ?_⟩))) (fun _ h0 => ?_)
  refine go Try.tbs_ok 1000 ?_
  refine ev_if_no rfl ?_
  refine go Try.tbs_ok 1000 ?_
  refine ev_if_no (decide_eq_false (show ¬(↑m : Int) > 9223372036854775807 from (by omega))) ?_
  refine go Try.tbs_ok 1000 ?_
  refine ev_wrapN (m) (by constructor <;> omega) (by rfl) ?_
  refine ev_stop (go_makeE (sz := 1) (enc := encB) Try.tbs_ok (m) (m) (false) rfl rfl rfl rfl rfl rfl rfl rfl rfl rfl (by omega) (le_max (by omega)) (le_bytes (by omega) (by decide)) (fun _ => (by repeat (first | exact trivial | refine ⟨rfl, ?_⟩))) (fun b1 => ?_))
  refine go Try.tbs_ok 1000 ?_
  refine ev_stop (go_copyE (sz := 1) (enc := encB) Try.tbs_ok 0 (0) (Nat.min 1 m) (.inl 0) (List.replicate m false) ([true]) ((List.replicate m false).take (0) ++ ([true]).take (Nat.min 1 m) ++ (List.replicate m false).drop ((0) + (Nat.min 1 m))) rfl rfl rfl rfl rfl rfl rfl (by decide) rfl rfl rfl (fun _ h => h) (fun _ => rfl) (by first | rfl | (show _ = min _ _; omega)) (by omega) rfl ?_)
  refine go Try.tbs_ok 1000 ?_
  refine ev_stop (go_loopR [8, 12, 18, 34, 35, 36, 37, 38, 39, 40, 41, 42, 43, 44, 45, 46] (fun (k, _) => [(8, .va (.int .i64 (k : Nat)))]) (fun (_, L) => [(0, .fact (Row 4 1 (some ⟨b1, 0, none⟩) m m (L.flatMap encB)))]) (fun (k, L) => k ≤ m ∧ (0 < m → 0 < k) ∧ L = List.replicate k true ++ List.replicate (m - k) false) (fun (k, _) => m - k) ((Nat.min 1 m, (List.replicate m false).take 0 ++ [true].take (Nat.min 1 m) ++ (List.replicate m false).drop (0 + Nat.min 1 m)) : Nat × List Bool) ⟨Nat.min_le_right _ _, (fun h => by show 0 < min 1 m; omega), rep_start m⟩ ⟨⟨by kernel_rfl, by kernel_rfl⟩, ⟨_, rfl⟩, ⟨_, rfl⟩, by kernel_rfl, by kernel_rfl⟩ (fun x_ h_ => ?_))
  obtain ⟨k, L⟩ := x_
  obtain ⟨hk, h0k, hL⟩ := h_
  have hLl : L.length = m := by rw [hL]; simp; omega
  refine go Try.tbs_ok 1000 ?_
  refine ev_if_lt (fun hlt => ?_) (fun hge => ?_)
  · have hkm : k < m := by
      have : (k : Int) < (m : Int) := hlt
      omega
    have q1 : k.min (m - k) ≤ m - k := Nat.min_le_right _ _
    have q2 : k.min (m - k) ≤ k := Nat.min_le_left _ _
    have q3 : 0 < k.min (m - k) := by show 0 < min _ _; omega
    refine go Try.tbs_ok 1000 ?_
    refine ev_stop (go_draw Try.tbs_ok false [] [(0,true),(1,true),(2,true),(3,true),(4,true),(5,true),(6,true),(7,false),(8,true),(9,false)] rfl ?_)
    refine go Try.tbs_ok 1000 ?_
    refine ev_need ⟨⟨(by repeat (first | exact trivial | refine ⟨rfl, ?_⟩)), rfl⟩, by kernel_rfl⟩ ?_
    refine ev_stop (tk_back Try.tbs_ok (k) (m) (m) ⟨⟨(by repeat (first | exact trivial | refine ⟨rfl, ?_⟩)), rfl⟩, by kernel_rfl⟩ rfl rfl rfl rfl rfl rfl ⟨_, rfl⟩ rfl rfl (by decide) (by omega) (by omega) (by omega) ?_)
    refine go Try.tbs_ok 1000 ?_
    refine ev_need ⟨⟨(by repeat (first | exact trivial | refine ⟨rfl, ?_⟩)), rfl⟩, by kernel_rfl⟩ ?_
    refine ev_stop (tk_front Try.tbs_ok (k) (m) ⟨⟨(by repeat (first | exact trivial | refine ⟨rfl, ?_⟩)), rfl⟩, by kernel_rfl⟩ rfl rfl rfl rfl rfl rfl rfl ⟨_, rfl⟩ rfl (by decide) (by omega) (by omega) ?_)
    refine go Try.tbs_ok 1000 ?_
    refine ev_need ⟨⟨(by repeat (first | exact trivial | refine ⟨rfl, ?_⟩)), rfl⟩, by kernel_rfl⟩ ?_
    refine ev_stop (go_copyE (sz := 1) (enc := encB) Try.tbs_ok 0 (k) (k.min (m - k)) (.inr 0) (L) (((L).take (k))) ((L).take (k) ++ (((L).take (k))).take (k.min (m - k)) ++ (L).drop ((k) + (k.min (m - k)))) rfl rfl rfl rfl rfl rfl rfl (by decide) rfl (backA_at (by omega)) rfl (fun _ h => rd_take (k := k) (fun _ => rfl) (Row.rd h) (by omega)) (fun _ => rfl) (by first | rfl | (show _ = min _ _; omega)) (by omega) rfl ?_)
    refine go Try.tbs_ok 1000 ?_
    refine ev_need ⟨⟨(by repeat (first | exact trivial | refine ⟨rfl, ?_⟩)), rfl⟩, by kernel_rfl⟩ ?_
    refine ev_wrapN (k + k.min (m - k)) (by constructor <;> omega) (by rfl) ?_
    refine ev_need (by kernel_rfl) ?_
    refine ev_fin (round_next ((k + k.min (m - k), List.take k L ++ List.take (k.min (m - k)) (List.take k L) ++ List.drop (k + k.min (m - k)) L)) (?_ : k + k.min (m - k) ≤ m ∧ (0 < m → 0 < k + k.min (m - k)) ∧ List.take k L ++ List.take (k.min (m - k)) (List.take k L) ++ List.drop (k + k.min (m - k)) L = List.replicate (k + k.min (m - k)) true ++ List.replicate (m - (k + k.min (m - k))) false) (show m - (k + k.min (m - k)) < m - k from (by omega)) ⟨⟨by kernel_rfl, by kernel_rfl⟩, ⟨_, rfl⟩, ⟨_, rfl⟩, by kernel_rfl, by kernel_rfl⟩)
    exact ⟨by omega, by omega, rep_step hkm hL⟩
  · have hkm : k = m := by
      have : ¬ (k : Int) < (m : Int) := hge
      omega
    have hL2 : L = List.replicate m true := by rw [hL, hkm]; simp
    clear hL
    subst hL2
    refine go Try.tbs_ok 1000 ?_
    refine ev_fin (go Try.tbs_ok 1000 ?_)
    refine ev_fin ⟨trivial, _, rfl, (b1), rfl, (by trivial), Frm.sel [0] rfl (by decide)⟩
set_option maxRecDepth 100000 in
theorem repeatL (b0 m : Nat) (hm : m ≤ 7) : Triple Try.prog 20 [.slice (some ⟨b0, 0, none⟩) 1 1, .int .i64 m] [] [Pt b0 4 [.bool true]] Nat (fun b => .slice (some ⟨b, 0, none⟩) m m) (fun _ => True)
    (fun b => [Row 4 1 (some ⟨b, 0, none⟩) m m ((List.replicate m true).flatMap encB)]) :=
  (repeatB (some ⟨b0, 0, none⟩) 1 m hm).reads fun X hX => by
    rw [List.mem_singleton.1 hX]
    exact ⟨_, List.mem_singleton.2 rfl, fun _ q => Pt.rd q rfl⟩
end Go.Proofs.Ytagfngobpooppaa
