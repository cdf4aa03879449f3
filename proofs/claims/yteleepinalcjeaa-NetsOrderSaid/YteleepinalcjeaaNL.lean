/-
  What is proved: NetsFull comes out true. Conditions: none.
-/
import Derived.Test.YteleepinalcjeaaNK
namespace Go.Proofs.Yteleepinalcjeaa
open Go.Sy

/-- a message with another stamp -/
def stampM (m : MailS) (s : Int) : MailS := { m with stamp := s }
def stamped (m : MailS) (i : Nat) : List Msg := (List.range i).map fun (j : Nat) => (⟨stampM m (j : Int), []⟩ : Msg)
theorem stamped_len (m : MailS) (i : Nat) : (stamped m i).length = i := by simp [stamped]
theorem stamped_get (m : MailS) (i j : Nat) (h : j < (stamped m i).length) : (stamped m i)[j] = ⟨stampM m j, []⟩ := by simp [stamped]
theorem stamped_succ (m : MailS) (i : Nat) : stamped m (i + 1) = stamped m i ++ [⟨stampM m i, []⟩] := by simp [stamped, List.range_succ]
theorem stamped_few (m : MailS) (i : Nat) : fewM (stamped m i) := fun x hx => by
  obtain ⟨j, _, rfl⟩ := List.mem_map.1 hx
  simp
theorem few_sub {l k : List Msg} (h : k.Sublist l) (hl : fewM l) : fewM k := fun x hx => hl x (h.subset hx)
theorem great_lit (b : Nat) (x : ActI) (hx : 3999 < x.m.es.length) :
    Triple Try.prog 9 [.slice (some ⟨b, 0, none⟩) 1 1] [] [Pt b 38 (encA x)] Unit (fun _ => .bool true) (fun _ => True) (fun _ => []) :=
  ((great (some ⟨b, 0, none⟩) [x] 1).imp fun _ _ => ⟨(), by rw [decide_eq_true (show 4000 < costs [x] by simp [costs, cost]; omega)]; rfl, trivial, fun _ q => q⟩).reads fun A hA => by
    rw [List.mem_singleton.1 hA]
    exact ⟨_, List.mem_singleton.2 rfl, fun _ p => by
      rw [show List.flatMap encA [x] = encA x by simp]
      exact Pt.rd p rfl⟩
theorem small_lit (b : Nat) (x : ActI) (hx : ¬ 3999 < x.m.es.length) :
    Triple Try.prog 9 [.slice (some ⟨b, 0, none⟩) 1 1] [] [Pt b 38 (encA x)] Unit (fun _ => .bool false) (fun _ => True) (fun _ => []) :=
  ((great (some ⟨b, 0, none⟩) [x] 1).imp fun _ _ => ⟨(), by rw [decide_eq_false (show ¬ 4000 < costs [x] by simp [costs, cost]; omega)]; rfl, trivial, fun _ q => q⟩).reads fun A hA => by
    rw [List.mem_singleton.1 hA]
    exact ⟨_, List.mem_singleton.2 rfl, fun _ p => by
      rw [show List.flatMap encA [x] = encA x by simp]
      exact Pt.rd p rfl⟩
set_option maxRecDepth 100000 in
set_option maxHeartbeats 4000000 in
theorem netsFull (m : MailS) (A : Option Addr) (es : List Ent) (c : Nat) (at' : Nat) (hat : at' < 65536) :
    Triple Try.prog 7 [mailV m A es.length c, .int .u16 at'] [] [] Unit (fun _ => .bool true) (fun _ => True) (fun _ => []) := by
  refine triple_intro Try.tbs_ok Try.func7 rfl [.ag (mailSV m A es.length c), .va (.int .u16 at')] [] ⟨by simp [SV.good, SV.goodL, mailSV], trivial, trivial⟩ rfl (by simp) ?_
  intro E
  refine go Try.tbs_ok 1000 ?_
  refine ev_new fun b0 => ?_
  refine ev_new fun b1 => ?_
  rcases Nat.lt_or_ge 3999 es.length with hg | hg
  · refine ev_call (great_lit b1 ⟨0, ⟨m, es, A, c⟩, 0⟩ hg) [] [.inr 1] (fun _ => []) rfl rfl (by decide) rfl (by simp) (fun x => rfl) (fun x => newsOk_nil _) (fun x => by repeat (first | exact trivial | refine ⟨rfl, ?_⟩)) (fun _ _ => ?_)
    refine go Try.tbs_ok 1000 ?_
    refine ev_if_yes rfl ?_
    refine go Try.tbs_ok 1000 ?_
    exact ev_fin ⟨trivial, _, rfl, (), rfl, trivial, Frm.nil _⟩
  refine ev_call (small_lit b1 ⟨0, ⟨m, es, A, c⟩, 0⟩ (Nat.not_lt.2 hg)) [] [.inr 1] (fun _ => []) rfl rfl (by decide) rfl (by simp) (fun x => rfl) (fun x => newsOk_nil _) (fun x => by repeat (first | exact trivial | refine ⟨rfl, ?_⟩)) (fun _ _ => ?_)
  refine go Try.tbs_ok 1000 ?_
  refine ev_if_no rfl ?_
  refine go Try.tbs_ok 1000 ?_
  refine ev_call mNew [] [] (fun p => [.fact (NetM p [])]) rfl rfl (by decide) rfl (by simp) (fun x => rfl) (fun x => newsOk_fact (newsOk_nil _)) (fun x => by repeat (first | exact trivial | refine ⟨rfl, ?_⟩)) (fun p _ => ?_)
  refine go Try.tbs_ok 1000 ?_
  refine ev_stop (go_loop (ι := Nat × Int) [0, 6, 12, 13, 14, 18, 19, 20, 21, 22, 23, 24, 25, 26, 27] (fun x => [(6, .va (.int .i64 x.1))]) (fun x => [.box b0 36 (mailSV (stampM m x.2) none 0 0), .box b1 38 (.va (.int .u8 0) :: (mailSV m A es.length c ++ [.va (.int .i64 0)])), .fact (NetM p (stamped m x.1))]) (fun x => x.1 ≤ 512 ∧ (x.1 = 512 → x.2 = 511)) (fun x => 512 - x.1) (0, m.stamp) ⟨Nat.zero_le _, by simp⟩ ⟨⟨by kernel_rfl, by kernel_rfl⟩, ⟨_, rfl⟩, ⟨_, rfl⟩, by kernel_rfl, by kernel_rfl⟩ ?_)
  rintro ⟨i, s⟩ ⟨hi, hs⟩
  have hi : i ≤ 512 := hi
  have hs : i = 512 → s = 511 := hs
  refine go Try.tbs_ok 1000 ?_
  refine ev_if_lt (fun hlt => ?_) (fun hge => ?_)
  · have hlt : i < 512 := by
      have : (i : Int) < 512 := hlt
      omega
    refine go Try.tbs_ok 1000 ?_
    refine ev_call (send_bare p (stamped m i) (by rw [stamped_len]; exact hlt) (stampM m i)) [2] [] (fun _ => [.fact (NetM p (stamped m i ++ [⟨stampM m i, []⟩]))]) rfl rfl (by decide) rfl (by simp) (fun x => rfl) (fun x => newsOk_fact (newsOk_nil _)) (fun x => by repeat (first | exact trivial | refine ⟨rfl, ?_⟩)) (fun _ _ => ?_)
    rw [← stamped_succ]
    refine go Try.tbs_ok 1000 ?_
    refine ev_if_no rfl ?_
    refine go Try.tbs_ok 1000 ?_
    refine ev_w64 (by constructor <;> omega) ?_
    refine ev_fin (round_next (i + 1, (i : Int)) ⟨hlt, fun h => ?_⟩ ?_ ⟨⟨by kernel_rfl, by kernel_rfl⟩, ⟨_, rfl⟩, ⟨_, rfl⟩, by kernel_rfl, by kernel_rfl⟩)
    · have h : i + 1 = 512 := h
      omega
    · show 512 - (i + 1) < 512 - i
      omega
  · have hge : i = 512 := by
      have : ¬ (i : Int) < 512 := hge
      omega
    subst hge
    obtain rfl := hs rfl
    refine go Try.tbs_ok 1000 ?_
    refine ev_fin (go Try.tbs_ok 1000 ?_)
    refine ev_w64 (by constructor <;> omega) ?_
    have hk : at' % 512 < (stamped m 512).length := by rw [stamped_len]; omega
    have hfull : 512 ≤ (stamped m 512).length := by rw [stamped_len]; exact Nat.le_refl _
    have hT := mTake p (stamped m 512) (stamped_few m 512) (by rw [stamped_len]; decide) (at' % 512) hk
    rw [stamped_get] at hT
    refine ev_call (mSend_full p (stamped m 512) hfull (stampM m 511) none 0 0) [2] [] (fun _ => [.fact (NetM p (stamped m 512))]) rfl rfl (by decide) rfl (by simp) (fun x => rfl) (fun x => newsOk_fact (newsOk_nil _)) (fun x => by repeat (first | exact trivial | refine ⟨rfl, ?_⟩)) (fun _ _ => ?_)
    refine go Try.tbs_ok 1000 ?_
    refine ev_if_no rfl ?_
    refine go Try.tbs_ok 1000 ?_
    refine ev_call (mCopy_full p (stamped m 512) (stamped_few m 512) hfull (at' % 512) hk) [2] [] (fun _ => [.fact (NetM p (stamped m 512))]) rfl rfl (by decide) rfl (by simp) (fun x => rfl) (fun x => newsOk_fact (newsOk_nil _)) (fun x => by repeat (first | exact trivial | refine ⟨rfl, ?_⟩)) (fun _ _ => ?_)
    refine go Try.tbs_ok 1000 ?_
    refine ev_if_no rfl ?_
    refine go Try.tbs_ok 1000 ?_
    refine ev_call (mLen p (stamped m 512)) [2] [] (fun _ => [.fact (NetM p (stamped m 512))]) rfl rfl (by decide) rfl (by simp) (fun x => rfl) (fun x => newsOk_fact (newsOk_nil _)) (fun x => by repeat (first | exact trivial | refine ⟨rfl, ?_⟩)) (fun _ _ => ?_)
    refine go Try.tbs_ok 1000 ?_
    refine ev_if_no (by rw [stamped_len]; rfl) ?_
    refine go Try.tbs_ok 1000 ?_
    refine ev_call (hT) [2] [] (fun X => [.fact (NetM p ((stamped m 512).eraseIdx (at' % 512))), .fact ((⟨stampM m ((at' % 512 : Nat) : Int), []⟩ : Msg).at X).own]) rfl rfl (by decide) rfl (by simp) (fun x => rfl) (fun x => newsOk_fact (newsOk_fact (newsOk_nil _))) (fun x => by repeat (first | exact trivial | refine ⟨rfl, ?_⟩)) (fun X _ => ?_)
    refine go Try.tbs_ok 1000 ?_
    refine ev_new fun b2 => ?_
    have he : ((stamped m 512).eraseIdx (at' % 512)).length = 511 := by rw [List.length_eraseIdx, if_pos hk, stamped_len]
    have hf : fewM ((stamped m 512).eraseIdx (at' % 512)) := few_sub (List.eraseIdx_sublist _ _) (stamped_few m 512)
    rcases Nat.lt_or_ge (at' % 512) 511 with h5 | h5
    · have hL := mLook p ((stamped m 512).eraseIdx (at' % 512)) hf (at' % 512) (by omega)
      rw [List.getElem_eraseIdx_of_ge (by omega) (Nat.le_refl _), stamped_get] at hL
      refine ev_call (hL) [2] [] (fun X2 => [.fact (NetM p ((stamped m 512).eraseIdx (at' % 512))), .fact ((⟨stampM m ((at' % 512 + 1 : Nat) : Int), []⟩ : Msg).at X2).own]) rfl rfl (by decide) rfl (by simp) (fun x => rfl) (fun x => newsOk_fact (newsOk_fact (newsOk_nil _))) (fun x => by repeat (first | exact trivial | refine ⟨rfl, ?_⟩)) (fun X2 _ => ?_)
      refine go Try.tbs_ok 1000 ?_
      refine ev_new fun b3 => ?_
      refine ev_if_no rfl ?_
      refine go Try.tbs_ok 1000 ?_
      refine ev_if_no (by show (!(((at' % 512 : Nat) : Int) == ((at' % 512 : Nat) : Int))) = false; simp) ?_
      refine go Try.tbs_ok 1000 ?_
      refine ev_if_no (by show (!(true == decide (((at' % 512 : Nat) : Int) < 511))) = false; rw [decide_eq_true (by omega)]; rfl) ?_
      refine go Try.tbs_ok 1000 ?_
      refine ev_if_yes rfl ?_
      refine go Try.tbs_ok 1000 ?_
      refine ev_wrap (z := ((at' % 512 + 1 : Nat) : Int)) (by show IntKind.i64.wrap (((at' % 512 : Nat) : Int) + 1) = _; rw [wrap64 (by constructor <;> omega)]; rfl) ?_
      refine ev_if_no (by show (!(((at' % 512 + 1 : Nat) : Int) == ((at' % 512 + 1 : Nat) : Int))) = false; simp) ?_
      refine go Try.tbs_ok 1000 ?_
      refine ev_call (send_bare p ((stamped m 512).eraseIdx (at' % 512)) (by omega) (stampM m 511)) [2] [] (fun _ => [.fact (NetM p (((stamped m 512).eraseIdx (at' % 512)) ++ [⟨stampM m 511, []⟩]))]) rfl rfl (by decide) rfl (by simp) (fun x => rfl) (fun x => newsOk_fact (newsOk_nil _)) (fun x => by repeat (first | exact trivial | refine ⟨rfl, ?_⟩)) (fun _ _ => ?_)
      refine go Try.tbs_ok 1000 ?_
      refine ev_if_yes rfl ?_
      refine go Try.tbs_ok 1000 ?_
      refine ev_call (mSend_full p (((stamped m 512).eraseIdx (at' % 512)) ++ [⟨stampM m 511, []⟩]) (by simp only [List.length_append, he, List.length_singleton]; omega) (stampM m 511) none 0 0) [2] [] (fun _ => [.fact (NetM p (((stamped m 512).eraseIdx (at' % 512)) ++ [⟨stampM m 511, []⟩]))]) rfl rfl (by decide) rfl (by simp) (fun x => rfl) (fun x => newsOk_fact (newsOk_nil _)) (fun x => by repeat (first | exact trivial | refine ⟨rfl, ?_⟩)) (fun _ _ => ?_)
      refine go Try.tbs_ok 1000 ?_
      refine ev_if_yes rfl ?_
      refine go Try.tbs_ok 1000 ?_
      refine ev_call (mLen p (((stamped m 512).eraseIdx (at' % 512)) ++ [⟨stampM m 511, []⟩])) [2] [] (fun _ => [.fact (NetM p (((stamped m 512).eraseIdx (at' % 512)) ++ [⟨stampM m 511, []⟩]))]) rfl rfl (by decide) rfl (by simp) (fun x => rfl) (fun x => newsOk_fact (newsOk_nil _)) (fun x => by repeat (first | exact trivial | refine ⟨rfl, ?_⟩)) (fun _ _ => ?_)
      refine go Try.tbs_ok 1000 ?_
      refine ev_if_yes (by simp only [List.length_append, he]; rfl) ?_
      refine go Try.tbs_ok 1000 ?_
      refine ev_call (works) [] [] (fun _ => []) rfl rfl (by decide) rfl (by simp) (fun x => rfl) (fun x => newsOk_nil _) (fun x => by repeat (first | exact trivial | refine ⟨rfl, ?_⟩)) (fun _ _ => ?_)
      refine go Try.tbs_ok 1000 ?_
      exact ev_fin ⟨trivial, _, rfl, (), rfl, trivial, Frm.nil _⟩
    · have hL := mLook_out p ((stamped m 512).eraseIdx (at' % 512)) ((at' % 512 : Nat) : Int) (.inr (by omega))
      refine ev_call (hL) [2] [] (fun _ => [.fact (NetM p ((stamped m 512).eraseIdx (at' % 512)))]) rfl rfl (by decide) rfl (by simp) (fun x => rfl) (fun x => newsOk_fact (newsOk_nil _)) (fun x => by repeat (first | exact trivial | refine ⟨rfl, ?_⟩)) (fun _ _ => ?_)
      refine go Try.tbs_ok 1000 ?_
      refine ev_new fun b3 => ?_
      refine ev_if_no rfl ?_
      refine go Try.tbs_ok 1000 ?_
      refine ev_if_no (by show (!(((at' % 512 : Nat) : Int) == ((at' % 512 : Nat) : Int))) = false; simp) ?_
      refine go Try.tbs_ok 1000 ?_
      refine ev_if_no (by show (!(false == decide (((at' % 512 : Nat) : Int) < 511))) = false; rw [decide_eq_false (by omega)]; rfl) ?_
      refine go Try.tbs_ok 1000 ?_
      refine ev_if_no rfl ?_
      refine go Try.tbs_ok 1000 ?_
      refine ev_call (send_bare p ((stamped m 512).eraseIdx (at' % 512)) (by omega) (stampM m 511)) [2] [] (fun _ => [.fact (NetM p (((stamped m 512).eraseIdx (at' % 512)) ++ [⟨stampM m 511, []⟩]))]) rfl rfl (by decide) rfl (by simp) (fun x => rfl) (fun x => newsOk_fact (newsOk_nil _)) (fun x => by repeat (first | exact trivial | refine ⟨rfl, ?_⟩)) (fun _ _ => ?_)
      refine go Try.tbs_ok 1000 ?_
      refine ev_if_yes rfl ?_
      refine go Try.tbs_ok 1000 ?_
      refine ev_call (mSend_full p (((stamped m 512).eraseIdx (at' % 512)) ++ [⟨stampM m 511, []⟩]) (by simp only [List.length_append, he, List.length_singleton]; omega) (stampM m 511) none 0 0) [2] [] (fun _ => [.fact (NetM p (((stamped m 512).eraseIdx (at' % 512)) ++ [⟨stampM m 511, []⟩]))]) rfl rfl (by decide) rfl (by simp) (fun x => rfl) (fun x => newsOk_fact (newsOk_nil _)) (fun x => by repeat (first | exact trivial | refine ⟨rfl, ?_⟩)) (fun _ _ => ?_)
      refine go Try.tbs_ok 1000 ?_
      refine ev_if_yes rfl ?_
      refine go Try.tbs_ok 1000 ?_
      refine ev_call (mLen p (((stamped m 512).eraseIdx (at' % 512)) ++ [⟨stampM m 511, []⟩])) [2] [] (fun _ => [.fact (NetM p (((stamped m 512).eraseIdx (at' % 512)) ++ [⟨stampM m 511, []⟩]))]) rfl rfl (by decide) rfl (by simp) (fun x => rfl) (fun x => newsOk_fact (newsOk_nil _)) (fun x => by repeat (first | exact trivial | refine ⟨rfl, ?_⟩)) (fun _ _ => ?_)
      refine go Try.tbs_ok 1000 ?_
      refine ev_if_yes (by simp only [List.length_append, he]; rfl) ?_
      refine go Try.tbs_ok 1000 ?_
      refine ev_call (works) [] [] (fun _ => []) rfl rfl (by decide) rfl (by simp) (fun x => rfl) (fun x => newsOk_nil _) (fun x => by repeat (first | exact trivial | refine ⟨rfl, ?_⟩)) (fun _ _ => ?_)
      refine go Try.tbs_ok 1000 ?_
      exact ev_fin ⟨trivial, _, rfl, (), rfl, trivial, Frm.nil _⟩
end Go.Proofs.Yteleepinalcjeaa
