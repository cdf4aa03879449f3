/-
  What is proved: DiskRoom's walk. Conditions: none.
-/
import Derived.Test.YthknokcgclcbmaaDO
namespace Go.Proofs.Ythknokcgclcbmaa
open Go.Sy

theorem chg_no40 (D : DK) (late : Bool) (L2 : List Fl) : (chg D late L2).2 ≠ 40 := by
  unfold chg
  split
  · simp
  · split <;> simp
theorem does_full {D : DK} {x : ActD} (h : (doesD D x).2 = 40) : (doesD D x).1 = D := by
  have hc := chg_no40 D
  revert h
  unfold doesD syncD truncD renD remD crashD startD failD appD
  repeat' split
  all_goals first | exact fun _ => rfl | (intro h; exact absurd h (hc _ _)) | (intro h; simp at h)
theorem sameTextsR (A B : Option Addr) (L M : List ByteArray) (m c n d : Nat) (hm : m = L.length) (hn : n = M.length) (h1 : m ≤ 1000000) :
    Triple Try.prog 14 [.slice A m c, .slice B n d] [] [Row 9 1 A m c (L.flatMap encS), Row 9 1 B n d (M.flatMap encS)] Unit (fun _ => .bool (decide (L = M))) (fun _ => True) (fun _ => []) :=
  (sameTexts A B L M m c n d hm hn h1).reads fun X hX => by
    simp only [List.mem_cons, List.not_mem_nil, or_false] at hX
    rcases hX with rfl | rfl
    · exact ⟨_, List.mem_cons_self, fun _ q => Row.rd q⟩
    · exact ⟨_, List.mem_cons_of_mem _ List.mem_cons_self, fun _ q => Row.rd q⟩
theorem sameIntsR (A B : Option Addr) (L M : List Int) (m c n d : Nat) (hm : m = L.length) (hn : n = M.length) (h1 : m ≤ 1000000) :
    Triple Try.prog 19 [.slice A m c, .slice B n d] [] [Row 3 1 A m c (L.flatMap encN), Row 3 1 B n d (M.flatMap encN)] Unit (fun _ => .bool (decide (L = M))) (fun _ => True) (fun _ => []) :=
  (sameInts A B L M m c n d hm hn h1).reads fun X hX => by
    simp only [List.mem_cons, List.not_mem_nil, or_false] at hX
    rcases hX with rfl | rfl
    · exact ⟨_, List.mem_cons_self, fun _ q => Row.rd q⟩
    · exact ⟨_, List.mem_cons_of_mem _ List.mem_cons_self, fun _ q => Row.rd q⟩
theorem name_len {x : ByteArray} (h : oddS x = false) : 1 ≤ x.size ∧ x.size ≤ 16 := by
  unfold oddS at h
  simp only [Bool.or_eq_false_iff, decide_eq_false_iff_not] at h
  omega
/-- an act, as it is handed in -/
structure inA (x : ActD) : Prop where
  k : 0 ≤ x.k ∧ x.k < 256
  z : x.z ≤ 9223372036854775807
theorem fineA.of {x : ActD} (h : inA x) (b : boundA x) : fineA x := ⟨h.k, h.z, b.1, b.2.1, b.2.2.1, b.2.2.2⟩
set_option maxHeartbeats 4000000 in
set_option maxRecDepth 100000 in
theorem diskRoom (z : Int) (A : Option Addr) (l : List ActD) (n c : Nat) (hz : 0 ≤ z) (hz2 : z ≤ 65535) (hn : n = l.length) (hn1 : n ≤ 9223372036854775807) (hl : ∀ x ∈ l, inA x) :
    Triple Try.prog 3 [.int .u16 z, .slice A n c] [] [Rd 6 A n (l.flatMap encA), Acts l] Unit (fun _ => .bool true) (fun _ => True) (fun _ => []) := by
  have hz5 : z.tmod 5000 = z % 5000 := Int.tmod_eq_emod_of_nonneg hz
  obtain ⟨m, hm⟩ : ∃ m, m = 1 + z.tmod 5000 := ⟨_, rfl⟩
  have T0 := greatT A l n c hn hn1
  have T1 := newM (1 + z.tmod 5000) (by omega) (by omega)
  refine triple_intro Try.tbs_ok Try.func3 rfl [.va (.int .u16 z), .va (.slice A n c)] [] ⟨trivial, trivial, trivial⟩ rfl (by simp) ?_
  intro E
  refine go Try.tbs_ok 1000 ?_
  refine ev_callF (T0 ) [] [.inl 0] rfl rfl (by decide) rfl (by simp) (fun _ => (by repeat (first | exact trivial | refine ⟨rfl, ?_⟩))) (fun x0 h1 => ?_)
  refine go Try.tbs_ok 1000 ?_
  refine ev_if (fun h2 => ?_) (fun h2 => ?_)
  refine go Try.tbs_ok 1000 ?_
  refine ev_fin ⟨trivial, _, rfl, (()), rfl, (by trivial), Frm.nil _⟩
  refine go Try.tbs_ok 1000 ?_
  refine ev_w64 (by constructor <;> omega) ?_
  refine ev_w64 (by constructor <;> omega) ?_
  refine ev_callF (T1 ) [] [] rfl rfl (by decide) rfl (by simp) (fun _ => (by repeat (first | exact trivial | refine ⟨rfl, ?_⟩))) (fun x3 h4 => ?_)
  refine go Try.tbs_ok 1000 ?_
  refine ev_if_no rfl ?_
  refine go Try.tbs_ok 1000 ?_
  obtain ⟨hn150, hb⟩ := h1 h2
  have hF : ∀ x ∈ l, fineA x := fun x hx => fineA.of (hl x hx) (hb x hx)
  refine ev_stop (go_loopR [4, 8, 9, 10, 11, 12, 13, 20, 22, 27, 28, 29, 30, 31, 32, 33, 34, 35, 36, 37, 38, 39, 40, 41, 42, 43, 44, 45, 46, 47, 48, 49, 50, 51, 52, 53, 54, 55, 56, 57, 58, 59, 60, 61, 62, 63, 64, 65, 66, 67, 68, 69, 70, 71, 72, 73, 74, 75, 76, 77, 78, 79, 80, 81, 82, 83, 84, 85, 86, 87, 88, 89, 90, 91, 92, 93, 94, 95, 96, 97, 98, 99, 100, 101, 102, 103, 104, 105, 106, 107, 108, 109, 110, 111] (fun (i, _) => [(8, .va (.int .i64 (i : Nat)))]) (fun (_, D) => [(0, .fact (DiskM x3 D))]) (fun (i, D) => i ≤ n ∧ D = playD (1 + z.tmod 5000) (l.take i)) (fun (i, _) => n - i) ((0, ⟨1 + z.tmod 5000, 0, false, [], none, []⟩) : Nat × DK) ⟨Nat.zero_le _, rfl⟩ ⟨⟨by kernel_rfl, by kernel_rfl⟩, ⟨_, rfl⟩, ⟨_, rfl⟩, by kernel_rfl, by kernel_rfl⟩ (fun x_ h_ => ?_))
  obtain ⟨i, D⟩ := x_
  obtain ⟨hi, eD⟩ := h_
  refine go Try.tbs_ok 1000 ?_
  refine ev_if_lt (fun hlt => ?_) (fun hge => ?_)
  · have hil : i < l.length := by
      have : (i : Int) < (n : Int) := hlt
      omega
    have hf := playD_fine (m := 1 + z.tmod 5000) (by omega) (by omega) hF i
    have hstep := playD_step (m := 1 + z.tmod 5000) hil
    rw [← eD] at hf hstep
    refine go_more 1 (Acts l) (Rd 1 l[i].A l[i].K.length (l[i].K.flatMap encN)) rfl (fun h p => p _ (List.getElem_mem hil)) ?_
    have T2 := doesT x3 D l[i] hf.good (hF _ (List.getElem_mem hil)) hf.lo (by have := hf.hi; omega)
    have hD2 := does_ok hf.good (hF _ (List.getElem_mem hil))
    have hmost := (does_starts D l[i]).2.2
    have h40 := does_full (D := D) (x := l[i])
    have hm2 := hf.most
    have hD1 := hf.good
    obtain ⟨R, eR⟩ : ∃ R, R = doesD D l[i] := ⟨_, rfl⟩
    rw [← eR] at T2 hD2 hmost hstep h40
    have T3 := sizeM x3 D hD1
    have T4 := namesM x3 D hD1
    have T5 := namesM x3 R.1 hD2
    have T6 := sizeM x3 R.1 hD2
    have T7 := leftM x3 R.1 hD2
    have hr := hD2.room
    have hw := hD2.few
    have hrise := hD2.rise
    have hnm := hD2.names
    obtain ⟨L, eL⟩ : ∃ L, L = R.1.files := ⟨_, rfl⟩
    obtain ⟨q, eq⟩ : ∃ q, q = L.length := ⟨_, rfl⟩
    by_cases h4 : R.2 = 40
    · have e4 := h40 h4
      rw [e4] at T2 T5 T6 T7 hr hw hrise hnm eL hstep
      rw [← eL] at T4 T5 T7 hw hrise hnm
      rw [← eq] at T4 T5 T7 hw
      have T8 := fun A B c d => sameTextsR A B (L.map nameEG) (L.map nameEG) q c q d (by simp [eq]) (by simp [eq]) (by omega)
      rw [decide_eq_true rfl] at T8
      refine go Try.tbs_ok 1000 ?_
      refine ev_callF (T3 ) [0] [] rfl rfl (by decide) rfl (by simp) (fun _ => (by repeat (first | exact trivial | refine ⟨rfl, ?_⟩))) (fun _ h30 => ?_)
      refine go Try.tbs_ok 1000 ?_
      refine ev_callF (T4 ) [0] [] rfl rfl (by decide) rfl (by simp) (fun _ => (by repeat (first | exact trivial | refine ⟨rfl, ?_⟩))) (fun ⟨x31, x32⟩ h33 => ?_)
      refine go Try.tbs_ok 1000 ?_
      refine ev_stop (go_indexE (sz := 6) Try.tbs_ok (.inl 0) (i) rfl rfl rfl rfl rfl rfl (by omega) rfl (fun _ h => h) (fun g34 o36 e35 => ?_))
      subst e35
      refine go Try.tbs_ok 1000 ?_
      have l37 : i < (l).length := (by omega)
      refine ev_stop (go_loadE Try.tbs_ok (.inl 0) (i) 0 rfl rfl rfl rfl (fun _ h => h) (by omega) (fun _ => rfl) (by omega) l37 (by decide) ?_)
      refine go Try.tbs_ok 1000 ?_
      refine ev_callF (T2 ) [0] [.inl 2] rfl rfl (by decide) rfl (by simp) (fun _ => (by repeat (first | exact trivial | refine ⟨rfl, ?_⟩))) (fun _ h38 => ?_)
      refine go Try.tbs_ok 1000 ?_
      refine ev_callF (T4 ) [0] [] rfl rfl (by decide) rfl (by simp) (fun _ => (by repeat (first | exact trivial | refine ⟨rfl, ?_⟩))) (fun ⟨x39, x40⟩ h41 => ?_)
      refine go Try.tbs_ok 1000 ?_
      refine ev_if_yes (beq_iff_eq.2 (by with_reducible assumption)) ?_
      refine go Try.tbs_ok 1000 ?_
      refine ev_callF (T3 ) [0] [] rfl rfl (by decide) rfl (by simp) (fun _ => (by repeat (first | exact trivial | refine ⟨rfl, ?_⟩))) (fun _ h42 => ?_)
      refine go Try.tbs_ok 1000 ?_
      refine ev_if_no (ne_no (show (↑(sumD D.files) : Int) = (↑(sumD D.files) : Int) from (by omega))) ?_
      refine go Try.tbs_ok 1000 ?_
      refine ev_callF (T8 (x39) (x31) (x40) (x32)) [] [.inr 2, .inr 1] rfl rfl (by decide) rfl (by simp) (fun _ => (by repeat (first | exact trivial | refine ⟨rfl, ?_⟩))) (fun _ h43 => ?_)
      refine go Try.tbs_ok 1000 ?_
      refine ev_if_no rfl ?_
      refine go Try.tbs_ok 1000 ?_
      refine ev_callF (T3 ) [0] [] rfl rfl (by decide) rfl (by simp) (fun _ => (by repeat (first | exact trivial | refine ⟨rfl, ?_⟩))) (fun _ h44 => ?_)
      refine go Try.tbs_ok 1000 ?_
      refine ev_if_no (decide_eq_false (show ¬(↑(sumD D.files) : Int) > 1 + z.tmod 5000 from (by omega))) ?_
      refine go Try.tbs_ok 1000 ?_
      refine ev_if_no (decide_eq_false (show ¬(↑q : Int) > 16 from (by omega))) ?_
      refine go Try.tbs_ok 1000 ?_
      refine ev_callF (T7 ) [0] [] rfl rfl (by decide) rfl (by simp) (fun _ => (by repeat (first | exact trivial | refine ⟨rfl, ?_⟩))) (fun ⟨x45, x46⟩ h47 => ?_)
      refine go Try.tbs_ok 1000 ?_
      refine ev_if_no (ne_no (show (↑q : Int) = (↑q : Int) from (by omega))) ?_
      refine go Try.tbs_ok 1000 ?_
      refine ev_stop (go_loopR [4, 13, 41, 76, 77, 78, 79, 80, 81, 82, 83, 84, 85, 86, 87, 88, 89, 90, 91, 92, 93, 94, 95, 96, 97, 98, 99, 100, 101, 102, 103, 104, 105, 106, 107, 108, 109, 110, 111] (fun k => [(13, .va (.int .i64 (k : Nat)))]) (fun _ => []) (fun k => k ≤ q) (fun k => q - k) (0 : Nat) (Nat.zero_le _) ⟨⟨by kernel_rfl, by kernel_rfl⟩, ⟨_, rfl⟩, ⟨_, rfl⟩, by kernel_rfl, by kernel_rfl⟩ (fun k hkq => ?_))
      refine go Try.tbs_ok 1000 ?_
      refine ev_if_lt (fun hlt2 => ?_) (fun hge2 => ?_)
      · have hkl : k < L.length := by
          have : (k : Int) < (q : Int) := hlt2
          omega
        have hs1 := name_len (hnm _ (List.getElem_mem hkl))
        have hg : (L.map nameEG)[k]'(by simpa using hkl) = L[k].n := by simp [nameEG]
        rw [← hg] at hs1
        obtain ⟨hs1, hs2⟩ := hs1
        cases k with
        | zero => refine go Try.tbs_ok 1000 ?_
                  refine ev_stop (go_draw Try.tbs_ok true [0, 1, 2, 3] [(0,true),(1,true),(2,true),(3,true),(4,true),(5,true),(6,true),(7,true),(8,true),(9,true),(10,true),(11,true),(12,true),(13,true),(14,true),(15,true),(16,true),(17,true),(18,true),(19,true),(20,true),(21,true),(22,true),(23,true),(24,true),(25,true),(26,true),(27,true),(28,true),(29,true)] rfl ?_)
                  refine go Try.tbs_ok 1000 ?_
                  refine ev_need ⟨⟨(by repeat (first | exact trivial | refine ⟨rfl, ?_⟩)), rfl⟩, by kernel_rfl⟩ ?_
                  refine ev_stop (tk_index0 (sz := 1) Try.tbs_ok (.inr 2) (0) ⟨⟨(by repeat (first | exact trivial | refine ⟨rfl, ?_⟩)), rfl⟩, by kernel_rfl⟩ rfl rfl rfl rfl rfl rfl rfl (by omega) rfl Row.at0 (fun g200 e201 => ?_))
                  subst e201
                  refine go Try.tbs_ok 1000 ?_
                  refine ev_need ⟨⟨(by repeat (first | exact trivial | refine ⟨rfl, ?_⟩)), rfl⟩, by kernel_rfl⟩ ?_
                  have l202 : 0 < (List.map nameEG L).length := (by (simp only [List.length_map] <;> omega))
                  refine ev_stop (tk_loadE Try.tbs_ok (.inr 2) (0) 0 ⟨⟨(by repeat (first | exact trivial | refine ⟨rfl, ?_⟩)), rfl⟩, by kernel_rfl⟩ rfl rfl rfl rfl rfl (fun _ h => Row.rd h) (by omega) (fun _ => rfl) (by omega) l202 (by decide) ?_)
                  refine go Try.tbs_ok 1000 ?_
                  refine ev_need ⟨⟨(by repeat (first | exact trivial | refine ⟨rfl, ?_⟩)), rfl⟩, by kernel_rfl⟩ ?_
                  refine ev_if_no (decide_eq_false (show ¬(↑(List.map nameEG L)[0].size : Int) < 1 from (by omega))) ?_
                  refine go Try.tbs_ok 1000 ?_
                  refine ev_need ⟨⟨(by repeat (first | exact trivial | refine ⟨rfl, ?_⟩)), rfl⟩, by kernel_rfl⟩ ?_
                  refine ev_stop (tk_atE (sz := 1) Try.tbs_ok (0) ⟨⟨(by repeat (first | exact trivial | refine ⟨rfl, ?_⟩)), rfl⟩, by kernel_rfl⟩ rfl rfl rfl rfl rfl rfl rfl (by omega) ?_)
                  refine go Try.tbs_ok 1000 ?_
                  refine ev_need ⟨⟨(by repeat (first | exact trivial | refine ⟨rfl, ?_⟩)), rfl⟩, by kernel_rfl⟩ ?_
                  have l203 : 0 < (List.map nameEG L).length := (by omega)
                  refine ev_stop (tk_loadE Try.tbs_ok (.inr 2) (0) 0 ⟨⟨(by repeat (first | exact trivial | refine ⟨rfl, ?_⟩)), rfl⟩, by kernel_rfl⟩ rfl rfl rfl rfl rfl (fun _ h => Row.rd h) (by omega) (fun _ => rfl) (by omega) l203 (by decide) ?_)
                  refine go Try.tbs_ok 1000 ?_
                  refine ev_need ⟨⟨(by repeat (first | exact trivial | refine ⟨rfl, ?_⟩)), rfl⟩, by kernel_rfl⟩ ?_
                  refine ev_if_no (decide_eq_false (show ¬(↑(List.map nameEG L)[0].size : Int) > 16 from (by omega))) ?_
                  refine go Try.tbs_ok 1000 ?_
                  refine ev_need ⟨⟨(by repeat (first | exact trivial | refine ⟨rfl, ?_⟩)), rfl⟩, by kernel_rfl⟩ ?_
                  refine ev_if_no rfl ?_
                  refine go Try.tbs_ok 1000 ?_
                  refine ev_need ⟨⟨(by repeat (first | exact trivial | refine ⟨rfl, ?_⟩)), rfl⟩, by kernel_rfl⟩ ?_
                  refine ev_wrapN (0 + 1) (by constructor <;> omega) (by rfl) ?_
                  refine ev_fin (round_next (0 + 1) (show 0 + 1 ≤ q from (by omega)) (show q - (0 + 1) < q - 0 from (by omega)) ⟨⟨by kernel_rfl, by kernel_rfl⟩, ⟨_, rfl⟩, ⟨_, rfl⟩, by kernel_rfl, by kernel_rfl⟩)
        | succ k =>
          have hlt3 : ltS ((L.map nameEG)[k]'(by simp; omega)) ((L.map nameEG)[k + 1]'(by simpa using hkl)) := by
            simp only [List.getElem_map, nameEG]
            exact List.pairwise_iff_getElem.1 hrise _ _ (by omega) hkl (by omega)
          refine go Try.tbs_ok 1000 ?_
          refine ev_stop (go_draw Try.tbs_ok true [0, 1, 2, 3] [(0,true),(1,true),(2,true),(3,true),(4,true),(5,true),(6,true),(7,true),(8,true),(9,true),(10,true),(11,true),(12,true),(13,true),(14,true),(15,true),(16,true),(17,true),(18,true),(19,true),(20,true),(21,true),(22,true),(23,true),(24,true),(25,true),(26,true),(27,true),(28,true),(29,true)] rfl ?_)
          refine go Try.tbs_ok 1000 ?_
          refine ev_need ⟨⟨(by repeat (first | exact trivial | refine ⟨rfl, ?_⟩)), rfl⟩, by kernel_rfl⟩ ?_
          refine ev_stop (tk_index0 (sz := 1) Try.tbs_ok (.inr 2) (k + 1) ⟨⟨(by repeat (first | exact trivial | refine ⟨rfl, ?_⟩)), rfl⟩, by kernel_rfl⟩ rfl rfl rfl rfl rfl rfl rfl (by omega) rfl Row.at0 (fun g200 e201 => ?_))
          subst e201
          refine go Try.tbs_ok 1000 ?_
          refine ev_need ⟨⟨(by repeat (first | exact trivial | refine ⟨rfl, ?_⟩)), rfl⟩, by kernel_rfl⟩ ?_
          have l202 : k + 1 < (List.map nameEG L).length := (by (simp only [List.length_map] <;> omega))
          refine ev_stop (tk_loadE Try.tbs_ok (.inr 2) (k + 1) 0 ⟨⟨(by repeat (first | exact trivial | refine ⟨rfl, ?_⟩)), rfl⟩, by kernel_rfl⟩ rfl rfl rfl rfl rfl (fun _ h => Row.rd h) (by omega) (fun _ => rfl) (by omega) l202 (by decide) ?_)
          refine go Try.tbs_ok 1000 ?_
          refine ev_need ⟨⟨(by repeat (first | exact trivial | refine ⟨rfl, ?_⟩)), rfl⟩, by kernel_rfl⟩ ?_
          refine ev_if_no (decide_eq_false (show ¬(↑(List.map nameEG L)[k + 1].size : Int) < 1 from (by omega))) ?_
          refine go Try.tbs_ok 1000 ?_
          refine ev_need ⟨⟨(by repeat (first | exact trivial | refine ⟨rfl, ?_⟩)), rfl⟩, by kernel_rfl⟩ ?_
          refine ev_stop (tk_atE (sz := 1) Try.tbs_ok (k + 1) ⟨⟨(by repeat (first | exact trivial | refine ⟨rfl, ?_⟩)), rfl⟩, by kernel_rfl⟩ rfl rfl rfl rfl rfl rfl rfl (by omega) ?_)
          refine go Try.tbs_ok 1000 ?_
          refine ev_need ⟨⟨(by repeat (first | exact trivial | refine ⟨rfl, ?_⟩)), rfl⟩, by kernel_rfl⟩ ?_
          have l203 : k + 1 < (List.map nameEG L).length := (by omega)
          refine ev_stop (tk_loadE Try.tbs_ok (.inr 2) (k + 1) 0 ⟨⟨(by repeat (first | exact trivial | refine ⟨rfl, ?_⟩)), rfl⟩, by kernel_rfl⟩ rfl rfl rfl rfl rfl (fun _ h => Row.rd h) (by omega) (fun _ => rfl) (by omega) l203 (by decide) ?_)
          refine go Try.tbs_ok 1000 ?_
          refine ev_need ⟨⟨(by repeat (first | exact trivial | refine ⟨rfl, ?_⟩)), rfl⟩, by kernel_rfl⟩ ?_
          refine ev_if_no (decide_eq_false (show ¬(↑(List.map nameEG L)[k + 1].size : Int) > 16 from (by omega))) ?_
          refine go Try.tbs_ok 1000 ?_
          refine ev_need ⟨⟨(by repeat (first | exact trivial | refine ⟨rfl, ?_⟩)), rfl⟩, by kernel_rfl⟩ ?_
          refine ev_if_yes (decide_eq_true (show (↑(k + 1) : Int) > 0 from (by omega))) ?_
          refine go Try.tbs_ok 1000 ?_
          refine ev_need ⟨⟨(by repeat (first | exact trivial | refine ⟨rfl, ?_⟩)), rfl⟩, by kernel_rfl⟩ ?_
          refine ev_stop (tk_atE (sz := 1) Try.tbs_ok (k + 1) ⟨⟨(by repeat (first | exact trivial | refine ⟨rfl, ?_⟩)), rfl⟩, by kernel_rfl⟩ rfl rfl rfl rfl rfl rfl rfl (by omega) ?_)
          refine go Try.tbs_ok 1000 ?_
          refine ev_need ⟨⟨(by repeat (first | exact trivial | refine ⟨rfl, ?_⟩)), rfl⟩, by kernel_rfl⟩ ?_
          have l204 : k + 1 < (List.map nameEG L).length := (by omega)
          refine ev_stop (tk_loadE Try.tbs_ok (.inr 2) (k + 1) 0 ⟨⟨(by repeat (first | exact trivial | refine ⟨rfl, ?_⟩)), rfl⟩, by kernel_rfl⟩ rfl rfl rfl rfl rfl (fun _ h => Row.rd h) (by omega) (fun _ => rfl) (by omega) l204 (by decide) ?_)
          refine go Try.tbs_ok 1000 ?_
          refine ev_need ⟨⟨(by repeat (first | exact trivial | refine ⟨rfl, ?_⟩)), rfl⟩, by kernel_rfl⟩ ?_
          refine ev_wrapN (k + 1 - 1) (by constructor <;> omega) (by omega) ?_
          refine ev_stop (tk_atE (sz := 1) Try.tbs_ok (k + 1 - 1) ⟨⟨(by repeat (first | exact trivial | refine ⟨rfl, ?_⟩)), rfl⟩, by kernel_rfl⟩ rfl rfl rfl rfl rfl rfl rfl (by omega) ?_)
          refine go Try.tbs_ok 1000 ?_
          refine ev_need ⟨⟨(by repeat (first | exact trivial | refine ⟨rfl, ?_⟩)), rfl⟩, by kernel_rfl⟩ ?_
          have l205 : k + 1 - 1 < (List.map nameEG L).length := (by omega)
          refine ev_stop (tk_loadE Try.tbs_ok (.inr 2) (k + 1 - 1) 0 ⟨⟨(by repeat (first | exact trivial | refine ⟨rfl, ?_⟩)), rfl⟩, by kernel_rfl⟩ rfl rfl rfl rfl rfl (fun _ h => Row.rd h) (by omega) (fun _ => rfl) (by omega) l205 (by decide) ?_)
          refine go Try.tbs_ok 1000 ?_
          refine ev_need ⟨⟨(by repeat (first | exact trivial | refine ⟨rfl, ?_⟩)), rfl⟩, by kernel_rfl⟩ ?_
          refine ev_stop (tk_bin (.bq (decide (¬ ltS ((List.map nameEG L)[k + 1 - 1]) ((List.map nameEG L)[k + 1])))) trivial ⟨⟨(by repeat (first | exact trivial | refine ⟨rfl, ?_⟩)), rfl⟩, by kernel_rfl⟩ rfl rfl rfl rfl rfl rfl (by decide) (by decide) (fun w => leq_runS w) ?_)
          refine go Try.tbs_ok 1000 ?_
          refine ev_need ⟨⟨(by repeat (first | exact trivial | refine ⟨rfl, ?_⟩)), rfl⟩, by kernel_rfl⟩ ?_
          refine ev_if_lt (fun h206 => ?_) (fun h206 => ?_)
          refine go Try.tbs_ok 1000 ?_
          refine ev_fin ⟨trivial, _, rfl, (()), ?_, (by trivial), Frm.nil _⟩
          rotate_left
          refine go Try.tbs_ok 1000 ?_
          refine ev_wrapN (k + 1 + 1) (by constructor <;> omega) (by rfl) ?_
          refine ev_fin (round_next (k + 1 + 1) (show k + 1 + 1 ≤ q from (by omega)) (show q - (k + 1 + 1) < q - (k + 1) from (by omega)) ⟨⟨by kernel_rfl, by kernel_rfl⟩, ⟨_, rfl⟩, ⟨_, rfl⟩, by kernel_rfl, by kernel_rfl⟩)
          exact absurd hlt3 h206
      · refine go Try.tbs_ok 1000 ?_
        refine ev_fin (go Try.tbs_ok 1000 ?_)
        refine ev_wrapN (i + 1) (by constructor <;> omega) (by rfl) ?_
        refine ev_fin (round_next ((i + 1, D)) (?_ : i + 1 ≤ n ∧ D = playD (1 + z.tmod 5000) (List.take (i + 1) l)) (show n - (i + 1) < n - i from (by omega)) ⟨⟨by kernel_rfl, by kernel_rfl⟩, ⟨_, rfl⟩, ⟨_, rfl⟩, by kernel_rfl, by kernel_rfl⟩)
        exact ⟨by omega, hstep.symm⟩
    · rw [← eL] at T5 T7 hw hrise hnm
      rw [← eq] at T5 T7 hw
      refine go Try.tbs_ok 1000 ?_
      refine ev_callF (T3 ) [0] [] rfl rfl (by decide) rfl (by simp) (fun _ => (by repeat (first | exact trivial | refine ⟨rfl, ?_⟩))) (fun _ h30 => ?_)
      refine go Try.tbs_ok 1000 ?_
      refine ev_callF (T4 ) [0] [] rfl rfl (by decide) rfl (by simp) (fun _ => (by repeat (first | exact trivial | refine ⟨rfl, ?_⟩))) (fun ⟨x31, x32⟩ h33 => ?_)
      refine go Try.tbs_ok 1000 ?_
      refine ev_stop (go_indexE (sz := 6) Try.tbs_ok (.inl 0) (i) rfl rfl rfl rfl rfl rfl (by omega) rfl (fun _ h => h) (fun g34 o36 e35 => ?_))
      subst e35
      refine go Try.tbs_ok 1000 ?_
      have l37 : i < (l).length := (by omega)
      refine ev_stop (go_loadE Try.tbs_ok (.inl 0) (i) 0 rfl rfl rfl rfl (fun _ h => h) (by omega) (fun _ => rfl) (by omega) l37 (by decide) ?_)
      refine go Try.tbs_ok 1000 ?_
      refine ev_callF (T2 ) [0] [.inl 2] rfl rfl (by decide) rfl (by simp) (fun _ => (by repeat (first | exact trivial | refine ⟨rfl, ?_⟩))) (fun _ h38 => ?_)
      refine go Try.tbs_ok 1000 ?_
      refine ev_callF (T5 ) [0] [] rfl rfl (by decide) rfl (by simp) (fun _ => (by repeat (first | exact trivial | refine ⟨rfl, ?_⟩))) (fun ⟨x39, x40⟩ h41 => ?_)
      refine go Try.tbs_ok 1000 ?_
      refine ev_if_no (beq_eq_false_iff_ne.2 (by with_reducible assumption)) ?_
      refine go Try.tbs_ok 1000 ?_
      refine ev_callF (T6 ) [0] [] rfl rfl (by decide) rfl (by simp) (fun _ => (by repeat (first | exact trivial | refine ⟨rfl, ?_⟩))) (fun _ h42 => ?_)
      refine go Try.tbs_ok 1000 ?_
      refine ev_if_no (decide_eq_false (show ¬(↑(sumD R.fst.files) : Int) > 1 + z.tmod 5000 from (by omega))) ?_
      refine go Try.tbs_ok 1000 ?_
      refine ev_if_no (decide_eq_false (show ¬(↑q : Int) > 16 from (by omega))) ?_
      refine go Try.tbs_ok 1000 ?_
      refine ev_callF (T7 ) [0] [] rfl rfl (by decide) rfl (by simp) (fun _ => (by repeat (first | exact trivial | refine ⟨rfl, ?_⟩))) (fun ⟨x43, x44⟩ h45 => ?_)
      refine go Try.tbs_ok 1000 ?_
      refine ev_if_no (ne_no (show (↑q : Int) = (↑q : Int) from (by omega))) ?_
      refine go Try.tbs_ok 1000 ?_
      refine ev_stop (go_loopR [4, 13, 41, 76, 77, 78, 79, 80, 81, 82, 83, 84, 85, 86, 87, 88, 89, 90, 91, 92, 93, 94, 95, 96, 97, 98, 99, 100, 101, 102, 103, 104, 105, 106, 107, 108, 109, 110, 111] (fun k => [(13, .va (.int .i64 (k : Nat)))]) (fun _ => []) (fun k => k ≤ q) (fun k => q - k) (0 : Nat) (Nat.zero_le _) ⟨⟨by kernel_rfl, by kernel_rfl⟩, ⟨_, rfl⟩, ⟨_, rfl⟩, by kernel_rfl, by kernel_rfl⟩ (fun k hkq => ?_))
      refine go Try.tbs_ok 1000 ?_
      refine ev_if_lt (fun hlt2 => ?_) (fun hge2 => ?_)
      · have hkl : k < L.length := by
          have : (k : Int) < (q : Int) := hlt2
          omega
        have hs1 := name_len (hnm _ (List.getElem_mem hkl))
        have hg : (L.map nameEG)[k]'(by simpa using hkl) = L[k].n := by simp [nameEG]
        rw [← hg] at hs1
        obtain ⟨hs1, hs2⟩ := hs1
        cases k with
        | zero => refine go Try.tbs_ok 1000 ?_
                  refine ev_stop (go_draw Try.tbs_ok true [0, 1, 2, 3] [(0,true),(1,true),(2,true),(3,true),(4,true),(5,true),(6,true),(7,true),(8,true),(9,true),(10,true),(11,true),(12,true),(13,true),(14,true),(15,true),(16,true),(17,true),(18,true),(19,true),(20,true),(21,true),(22,true),(23,true),(24,true),(25,true),(26,true),(27,true),(28,true),(29,true)] rfl ?_)
                  refine go Try.tbs_ok 1000 ?_
                  refine ev_need ⟨⟨(by repeat (first | exact trivial | refine ⟨rfl, ?_⟩)), rfl⟩, by kernel_rfl⟩ ?_
                  refine ev_stop (tk_index0 (sz := 1) Try.tbs_ok (.inr 2) (0) ⟨⟨(by repeat (first | exact trivial | refine ⟨rfl, ?_⟩)), rfl⟩, by kernel_rfl⟩ rfl rfl rfl rfl rfl rfl rfl (by omega) rfl Row.at0 (fun g200 e201 => ?_))
                  subst e201
                  refine go Try.tbs_ok 1000 ?_
                  refine ev_need ⟨⟨(by repeat (first | exact trivial | refine ⟨rfl, ?_⟩)), rfl⟩, by kernel_rfl⟩ ?_
                  have l202 : 0 < (List.map nameEG L).length := (by (simp only [List.length_map] <;> omega))
                  refine ev_stop (tk_loadE Try.tbs_ok (.inr 2) (0) 0 ⟨⟨(by repeat (first | exact trivial | refine ⟨rfl, ?_⟩)), rfl⟩, by kernel_rfl⟩ rfl rfl rfl rfl rfl (fun _ h => Row.rd h) (by omega) (fun _ => rfl) (by omega) l202 (by decide) ?_)
                  refine go Try.tbs_ok 1000 ?_
                  refine ev_need ⟨⟨(by repeat (first | exact trivial | refine ⟨rfl, ?_⟩)), rfl⟩, by kernel_rfl⟩ ?_
                  refine ev_if_no (decide_eq_false (show ¬(↑(List.map nameEG L)[0].size : Int) < 1 from (by omega))) ?_
                  refine go Try.tbs_ok 1000 ?_
                  refine ev_need ⟨⟨(by repeat (first | exact trivial | refine ⟨rfl, ?_⟩)), rfl⟩, by kernel_rfl⟩ ?_
                  refine ev_stop (tk_atE (sz := 1) Try.tbs_ok (0) ⟨⟨(by repeat (first | exact trivial | refine ⟨rfl, ?_⟩)), rfl⟩, by kernel_rfl⟩ rfl rfl rfl rfl rfl rfl rfl (by omega) ?_)
                  refine go Try.tbs_ok 1000 ?_
                  refine ev_need ⟨⟨(by repeat (first | exact trivial | refine ⟨rfl, ?_⟩)), rfl⟩, by kernel_rfl⟩ ?_
                  have l203 : 0 < (List.map nameEG L).length := (by omega)
                  refine ev_stop (tk_loadE Try.tbs_ok (.inr 2) (0) 0 ⟨⟨(by repeat (first | exact trivial | refine ⟨rfl, ?_⟩)), rfl⟩, by kernel_rfl⟩ rfl rfl rfl rfl rfl (fun _ h => Row.rd h) (by omega) (fun _ => rfl) (by omega) l203 (by decide) ?_)
                  refine go Try.tbs_ok 1000 ?_
                  refine ev_need ⟨⟨(by repeat (first | exact trivial | refine ⟨rfl, ?_⟩)), rfl⟩, by kernel_rfl⟩ ?_
                  refine ev_if_no (decide_eq_false (show ¬(↑(List.map nameEG L)[0].size : Int) > 16 from (by omega))) ?_
                  refine go Try.tbs_ok 1000 ?_
                  refine ev_need ⟨⟨(by repeat (first | exact trivial | refine ⟨rfl, ?_⟩)), rfl⟩, by kernel_rfl⟩ ?_
                  refine ev_if_no rfl ?_
                  refine go Try.tbs_ok 1000 ?_
                  refine ev_need ⟨⟨(by repeat (first | exact trivial | refine ⟨rfl, ?_⟩)), rfl⟩, by kernel_rfl⟩ ?_
                  refine ev_wrapN (0 + 1) (by constructor <;> omega) (by rfl) ?_
                  refine ev_fin (round_next (0 + 1) (show 0 + 1 ≤ q from (by omega)) (show q - (0 + 1) < q - 0 from (by omega)) ⟨⟨by kernel_rfl, by kernel_rfl⟩, ⟨_, rfl⟩, ⟨_, rfl⟩, by kernel_rfl, by kernel_rfl⟩)
        | succ k =>
          have hlt3 : ltS ((L.map nameEG)[k]'(by simp; omega)) ((L.map nameEG)[k + 1]'(by simpa using hkl)) := by
            simp only [List.getElem_map, nameEG]
            exact List.pairwise_iff_getElem.1 hrise _ _ (by omega) hkl (by omega)
          refine go Try.tbs_ok 1000 ?_
          refine ev_stop (go_draw Try.tbs_ok true [0, 1, 2, 3] [(0,true),(1,true),(2,true),(3,true),(4,true),(5,true),(6,true),(7,true),(8,true),(9,true),(10,true),(11,true),(12,true),(13,true),(14,true),(15,true),(16,true),(17,true),(18,true),(19,true),(20,true),(21,true),(22,true),(23,true),(24,true),(25,true),(26,true),(27,true),(28,true),(29,true)] rfl ?_)
          refine go Try.tbs_ok 1000 ?_
          refine ev_need ⟨⟨(by repeat (first | exact trivial | refine ⟨rfl, ?_⟩)), rfl⟩, by kernel_rfl⟩ ?_
          refine ev_stop (tk_index0 (sz := 1) Try.tbs_ok (.inr 2) (k + 1) ⟨⟨(by repeat (first | exact trivial | refine ⟨rfl, ?_⟩)), rfl⟩, by kernel_rfl⟩ rfl rfl rfl rfl rfl rfl rfl (by omega) rfl Row.at0 (fun g200 e201 => ?_))
          subst e201
          refine go Try.tbs_ok 1000 ?_
          refine ev_need ⟨⟨(by repeat (first | exact trivial | refine ⟨rfl, ?_⟩)), rfl⟩, by kernel_rfl⟩ ?_
          have l202 : k + 1 < (List.map nameEG L).length := (by (simp only [List.length_map] <;> omega))
          refine ev_stop (tk_loadE Try.tbs_ok (.inr 2) (k + 1) 0 ⟨⟨(by repeat (first | exact trivial | refine ⟨rfl, ?_⟩)), rfl⟩, by kernel_rfl⟩ rfl rfl rfl rfl rfl (fun _ h => Row.rd h) (by omega) (fun _ => rfl) (by omega) l202 (by decide) ?_)
          refine go Try.tbs_ok 1000 ?_
          refine ev_need ⟨⟨(by repeat (first | exact trivial | refine ⟨rfl, ?_⟩)), rfl⟩, by kernel_rfl⟩ ?_
          refine ev_if_no (decide_eq_false (show ¬(↑(List.map nameEG L)[k + 1].size : Int) < 1 from (by omega))) ?_
          refine go Try.tbs_ok 1000 ?_
          refine ev_need ⟨⟨(by repeat (first | exact trivial | refine ⟨rfl, ?_⟩)), rfl⟩, by kernel_rfl⟩ ?_
          refine ev_stop (tk_atE (sz := 1) Try.tbs_ok (k + 1) ⟨⟨(by repeat (first | exact trivial | refine ⟨rfl, ?_⟩)), rfl⟩, by kernel_rfl⟩ rfl rfl rfl rfl rfl rfl rfl (by omega) ?_)
          refine go Try.tbs_ok 1000 ?_
          refine ev_need ⟨⟨(by repeat (first | exact trivial | refine ⟨rfl, ?_⟩)), rfl⟩, by kernel_rfl⟩ ?_
          have l203 : k + 1 < (List.map nameEG L).length := (by omega)
          refine ev_stop (tk_loadE Try.tbs_ok (.inr 2) (k + 1) 0 ⟨⟨(by repeat (first | exact trivial | refine ⟨rfl, ?_⟩)), rfl⟩, by kernel_rfl⟩ rfl rfl rfl rfl rfl (fun _ h => Row.rd h) (by omega) (fun _ => rfl) (by omega) l203 (by decide) ?_)
          refine go Try.tbs_ok 1000 ?_
          refine ev_need ⟨⟨(by repeat (first | exact trivial | refine ⟨rfl, ?_⟩)), rfl⟩, by kernel_rfl⟩ ?_
          refine ev_if_no (decide_eq_false (show ¬(↑(List.map nameEG L)[k + 1].size : Int) > 16 from (by omega))) ?_
          refine go Try.tbs_ok 1000 ?_
          refine ev_need ⟨⟨(by repeat (first | exact trivial | refine ⟨rfl, ?_⟩)), rfl⟩, by kernel_rfl⟩ ?_
          refine ev_if_yes (decide_eq_true (show (↑(k + 1) : Int) > 0 from (by omega))) ?_
          refine go Try.tbs_ok 1000 ?_
          refine ev_need ⟨⟨(by repeat (first | exact trivial | refine ⟨rfl, ?_⟩)), rfl⟩, by kernel_rfl⟩ ?_
          refine ev_stop (tk_atE (sz := 1) Try.tbs_ok (k + 1) ⟨⟨(by repeat (first | exact trivial | refine ⟨rfl, ?_⟩)), rfl⟩, by kernel_rfl⟩ rfl rfl rfl rfl rfl rfl rfl (by omega) ?_)
          refine go Try.tbs_ok 1000 ?_
          refine ev_need ⟨⟨(by repeat (first | exact trivial | refine ⟨rfl, ?_⟩)), rfl⟩, by kernel_rfl⟩ ?_
          have l204 : k + 1 < (List.map nameEG L).length := (by omega)
          refine ev_stop (tk_loadE Try.tbs_ok (.inr 2) (k + 1) 0 ⟨⟨(by repeat (first | exact trivial | refine ⟨rfl, ?_⟩)), rfl⟩, by kernel_rfl⟩ rfl rfl rfl rfl rfl (fun _ h => Row.rd h) (by omega) (fun _ => rfl) (by omega) l204 (by decide) ?_)
          refine go Try.tbs_ok 1000 ?_
          refine ev_need ⟨⟨(by repeat (first | exact trivial | refine ⟨rfl, ?_⟩)), rfl⟩, by kernel_rfl⟩ ?_
          refine ev_wrapN (k + 1 - 1) (by constructor <;> omega) (by omega) ?_
          refine ev_stop (tk_atE (sz := 1) Try.tbs_ok (k + 1 - 1) ⟨⟨(by repeat (first | exact trivial | refine ⟨rfl, ?_⟩)), rfl⟩, by kernel_rfl⟩ rfl rfl rfl rfl rfl rfl rfl (by omega) ?_)
          refine go Try.tbs_ok 1000 ?_
          refine ev_need ⟨⟨(by repeat (first | exact trivial | refine ⟨rfl, ?_⟩)), rfl⟩, by kernel_rfl⟩ ?_
          have l205 : k + 1 - 1 < (List.map nameEG L).length := (by omega)
          refine ev_stop (tk_loadE Try.tbs_ok (.inr 2) (k + 1 - 1) 0 ⟨⟨(by repeat (first | exact trivial | refine ⟨rfl, ?_⟩)), rfl⟩, by kernel_rfl⟩ rfl rfl rfl rfl rfl (fun _ h => Row.rd h) (by omega) (fun _ => rfl) (by omega) l205 (by decide) ?_)
          refine go Try.tbs_ok 1000 ?_
          refine ev_need ⟨⟨(by repeat (first | exact trivial | refine ⟨rfl, ?_⟩)), rfl⟩, by kernel_rfl⟩ ?_
          refine ev_stop (tk_bin (.bq (decide (¬ ltS ((List.map nameEG L)[k + 1 - 1]) ((List.map nameEG L)[k + 1])))) trivial ⟨⟨(by repeat (first | exact trivial | refine ⟨rfl, ?_⟩)), rfl⟩, by kernel_rfl⟩ rfl rfl rfl rfl rfl rfl (by decide) (by decide) (fun w => leq_runS w) ?_)
          refine go Try.tbs_ok 1000 ?_
          refine ev_need ⟨⟨(by repeat (first | exact trivial | refine ⟨rfl, ?_⟩)), rfl⟩, by kernel_rfl⟩ ?_
          refine ev_if_lt (fun h206 => ?_) (fun h206 => ?_)
          refine go Try.tbs_ok 1000 ?_
          refine ev_fin ⟨trivial, _, rfl, (()), ?_, (by trivial), Frm.nil _⟩
          rotate_left
          refine go Try.tbs_ok 1000 ?_
          refine ev_wrapN (k + 1 + 1) (by constructor <;> omega) (by rfl) ?_
          refine ev_fin (round_next (k + 1 + 1) (show k + 1 + 1 ≤ q from (by omega)) (show q - (k + 1 + 1) < q - (k + 1) from (by omega)) ⟨⟨by kernel_rfl, by kernel_rfl⟩, ⟨_, rfl⟩, ⟨_, rfl⟩, by kernel_rfl, by kernel_rfl⟩)
          exact absurd hlt3 h206
      · refine go Try.tbs_ok 1000 ?_
        refine ev_fin (go Try.tbs_ok 1000 ?_)
        refine ev_wrapN (i + 1) (by constructor <;> omega) (by rfl) ?_
        refine ev_fin (round_next ((i + 1, R.fst)) (?_ : i + 1 ≤ n ∧ R.fst = playD (1 + z.tmod 5000) (List.take (i + 1) l)) (show n - (i + 1) < n - i from (by omega)) ⟨⟨by kernel_rfl, by kernel_rfl⟩, ⟨_, rfl⟩, ⟨_, rfl⟩, by kernel_rfl, by kernel_rfl⟩)
        exact ⟨by omega, hstep.symm⟩
  · refine go Try.tbs_ok 1000 ?_
    refine ev_fin (go Try.tbs_ok 1000 ?_)
    refine ev_callF (works ) [] [] rfl rfl (by decide) rfl (by simp) (fun _ => (by repeat (first | exact trivial | refine ⟨rfl, ?_⟩))) (fun _ h400 => ?_)
    refine go Try.tbs_ok 1000 ?_
    refine ev_fin ⟨trivial, _, rfl, (()), rfl, (by trivial), Frm.nil _⟩
end Go.Proofs.Ythknokcgclcbmaa
