/-
  What is proved: the texts of this claim, part 7 of 7, each text behind the other. Conditions: none.
-/
import Derived.WideKeyArr2
import Derived.Test.YthknokcgclcbmaaPl6
namespace Go.Proofs.Ythknokcgclcbmaa
open Go.Sy
set_option maxRecDepth 100000 in
theorem didT (p : Nat) (D : DK) (x : ActD) (hD : okD D) (hx : fineA x) (h0 : 0 ≤ D.starts) (h1 : D.starts ≤ 1000000000) :
    Triple Try.prog 18 [.pointer (some ⟨p, 0, none⟩), .agg #[.int .u8 x.k, .string x.n, .string x.o, .string x.d, .int .i64 x.z, .slice x.A x.K.length x.c]] [RefD p D] [Rd 1 x.A x.K.length (x.K.flatMap encN)] Unit (fun _ => .int .i64 (doesD D x).2) (fun _ => True) (fun _ => [RefD p (doesD D x).1]) := by
  have hk := hx.k
  have h12 : x.k.tmod 12 = x.k % 12 := Int.tmod_eq_emod_of_nonneg hk.1
  have T1 := qSync p D x.n hD
  have T2 := qTrunc p D x.n x.z hD
  have T3 := qRen p D x.n x.o hD
  have T4 := qRem p D x.n hD
  have T5 := qCrash p D x.A x.K.length x.c x.K hD rfl
  have T6 := qStart p D h0 h1
  have T7 := qFail p D x.z x.A x.K.length x.c x.K rfl (Nat.le_trans hx.K (by decide))
  have T8 := qApp p D x.n x.d hD (Nat.le_trans hx.d (by decide))
  refine triple_intro Try.tbs_ok Try.func18 rfl [.va (.pointer (some ⟨p, 0, none⟩)), .ag [.va (.int .u8 x.k), .va (.string x.n), .va (.string x.o), .va (.string x.d), .va (.int .i64 x.z), .va (.slice x.A x.K.length x.c)]] [.fact (RefD p D)] ⟨trivial, by simp [SV.good, SV.goodL], trivial⟩ rfl (by simp [SV.good, SV.goodL]) ?_
  intro E
  rcases show x.k % 12 = 4 ∨ x.k % 12 = 5 ∨ x.k % 12 = 6 ∨ x.k % 12 = 7 ∨ x.k % 12 = 8 ∨ (x.k % 12 = 9 ∨ x.k % 12 = 10) ∨ x.k % 12 = 11 ∨ x.k % 12 < 4 by omega with h | h | h | h | h | h | h | h
  · have e : doesD D x = syncD D x.n := by unfold doesD; rw [if_pos h]
    rw [e]
    refine go Try.tbs_ok 1000 ?_
    refine ev_new fun b20 => ?_
    refine ev_if_yes (beq_iff_eq.2 (show x.k.tmod 12 = 4 from (by omega))) ?_
    refine go Try.tbs_ok 1000 ?_
    refine ev_callF (T1 ) [0] [] rfl rfl (by decide) rfl (by simp) (fun _ => (by repeat (first | exact trivial | refine ⟨rfl, ?_⟩))) (fun _ h21 => ?_)
    refine go Try.tbs_ok 1000 ?_
    refine ev_fin ⟨trivial, _, rfl, (()), rfl, (by trivial), Frm.sel [0] rfl (by decide)⟩
  · have e : doesD D x = truncD D x.n x.z := by unfold doesD; rw [if_neg (by omega), if_pos h]
    rw [e]
    refine go Try.tbs_ok 1000 ?_
    refine ev_new fun b20 => ?_
    refine ev_if_no (beq_eq_false_iff_ne.2 (show ¬x.k.tmod 12 = 4 from (by omega))) ?_
    refine go Try.tbs_ok 1000 ?_
    refine ev_if_yes (beq_iff_eq.2 (show x.k.tmod 12 = 5 from (by omega))) ?_
    refine go Try.tbs_ok 1000 ?_
    refine ev_callF (T2 ) [0] [] rfl rfl (by decide) rfl (by simp) (fun _ => (by repeat (first | exact trivial | refine ⟨rfl, ?_⟩))) (fun _ h21 => ?_)
    refine go Try.tbs_ok 1000 ?_
    refine ev_fin ⟨trivial, _, rfl, (()), rfl, (by trivial), Frm.sel [0] rfl (by decide)⟩
  · have e : doesD D x = renD D x.n x.o := by unfold doesD; rw [if_neg (by omega), if_neg (by omega), if_pos h]
    rw [e]
    refine go Try.tbs_ok 1000 ?_
    refine ev_new fun b20 => ?_
    refine ev_if_no (beq_eq_false_iff_ne.2 (show ¬x.k.tmod 12 = 4 from (by omega))) ?_
    refine go Try.tbs_ok 1000 ?_
    refine ev_if_no (beq_eq_false_iff_ne.2 (show ¬x.k.tmod 12 = 5 from (by omega))) ?_
    refine go Try.tbs_ok 1000 ?_
    refine ev_if_yes (beq_iff_eq.2 (show x.k.tmod 12 = 6 from (by omega))) ?_
    refine go Try.tbs_ok 1000 ?_
    refine ev_callF (T3 ) [0] [] rfl rfl (by decide) rfl (by simp) (fun _ => (by repeat (first | exact trivial | refine ⟨rfl, ?_⟩))) (fun _ h21 => ?_)
    refine go Try.tbs_ok 1000 ?_
    refine ev_fin ⟨trivial, _, rfl, (()), rfl, (by trivial), Frm.sel [0] rfl (by decide)⟩
  · have e : doesD D x = remD D x.n := by unfold doesD; rw [if_neg (by omega), if_neg (by omega), if_neg (by omega), if_pos h]
    rw [e]
    refine go Try.tbs_ok 1000 ?_
    refine ev_new fun b20 => ?_
    refine ev_if_no (beq_eq_false_iff_ne.2 (show ¬x.k.tmod 12 = 4 from (by omega))) ?_
    refine go Try.tbs_ok 1000 ?_
    refine ev_if_no (beq_eq_false_iff_ne.2 (show ¬x.k.tmod 12 = 5 from (by omega))) ?_
    refine go Try.tbs_ok 1000 ?_
    refine ev_if_no (beq_eq_false_iff_ne.2 (show ¬x.k.tmod 12 = 6 from (by omega))) ?_
    refine go Try.tbs_ok 1000 ?_
    refine ev_if_yes (beq_iff_eq.2 (show x.k.tmod 12 = 7 from (by omega))) ?_
    refine go Try.tbs_ok 1000 ?_
    refine ev_callF (T4 ) [0] [] rfl rfl (by decide) rfl (by simp) (fun _ => (by repeat (first | exact trivial | refine ⟨rfl, ?_⟩))) (fun _ h21 => ?_)
    refine go Try.tbs_ok 1000 ?_
    refine ev_fin ⟨trivial, _, rfl, (()), rfl, (by trivial), Frm.sel [0] rfl (by decide)⟩
  · have e : doesD D x = crashD D x.K := by unfold doesD; rw [if_neg (by omega), if_neg (by omega), if_neg (by omega), if_neg (by omega), if_pos h]
    rw [e]
    refine go Try.tbs_ok 1000 ?_
    refine ev_new fun b20 => ?_
    refine ev_if_no (beq_eq_false_iff_ne.2 (show ¬x.k.tmod 12 = 4 from (by omega))) ?_
    refine go Try.tbs_ok 1000 ?_
    refine ev_if_no (beq_eq_false_iff_ne.2 (show ¬x.k.tmod 12 = 5 from (by omega))) ?_
    refine go Try.tbs_ok 1000 ?_
    refine ev_if_no (beq_eq_false_iff_ne.2 (show ¬x.k.tmod 12 = 6 from (by omega))) ?_
    refine go Try.tbs_ok 1000 ?_
    refine ev_if_no (beq_eq_false_iff_ne.2 (show ¬x.k.tmod 12 = 7 from (by omega))) ?_
    refine go Try.tbs_ok 1000 ?_
    refine ev_if_yes (beq_iff_eq.2 (show x.k.tmod 12 = 8 from (by omega))) ?_
    refine go Try.tbs_ok 1000 ?_
    refine ev_callF (T5 ) [0] [.inl 0] rfl rfl (by decide) rfl (by simp) (fun _ => (by repeat (first | exact trivial | refine ⟨rfl, ?_⟩))) (fun _ h21 => ?_)
    refine go Try.tbs_ok 1000 ?_
    refine ev_fin ⟨trivial, _, rfl, (()), rfl, (by trivial), Frm.sel [0] rfl (by decide)⟩
  · have e : doesD D x = startD D := by unfold doesD; rw [if_neg (by omega), if_neg (by omega), if_neg (by omega), if_neg (by omega), if_neg (by omega), if_pos h]
    rw [e]
    refine go Try.tbs_ok 1000 ?_
    refine ev_new fun b20 => ?_
    refine ev_if_no (beq_eq_false_iff_ne.2 (show ¬x.k.tmod 12 = 4 from (by omega))) ?_
    refine go Try.tbs_ok 1000 ?_
    refine ev_if_no (beq_eq_false_iff_ne.2 (show ¬x.k.tmod 12 = 5 from (by omega))) ?_
    refine go Try.tbs_ok 1000 ?_
    refine ev_if_no (beq_eq_false_iff_ne.2 (show ¬x.k.tmod 12 = 6 from (by omega))) ?_
    refine go Try.tbs_ok 1000 ?_
    refine ev_if_no (beq_eq_false_iff_ne.2 (show ¬x.k.tmod 12 = 7 from (by omega))) ?_
    refine go Try.tbs_ok 1000 ?_
    refine ev_if_no (beq_eq_false_iff_ne.2 (show ¬x.k.tmod 12 = 8 from (by omega))) ?_
    refine go Try.tbs_ok 1000 ?_
    refine ev_if_eq (fun h21 => ?_) (fun h21 => ?_)
    refine go Try.tbs_ok 1000 ?_
    refine ev_if_yes (beq_iff_eq.2 (by with_reducible assumption)) ?_
    refine go Try.tbs_ok 1000 ?_
    refine ev_callF (T6 ) [0] [] rfl rfl (by decide) rfl (by simp) (fun _ => (by repeat (first | exact trivial | refine ⟨rfl, ?_⟩))) (fun _ h22 => ?_)
    refine go Try.tbs_ok 1000 ?_
    refine ev_fin ⟨trivial, _, rfl, (()), rfl, (by trivial), Frm.sel [0] rfl (by decide)⟩
    refine go Try.tbs_ok 1000 ?_
    refine ev_if_yes (beq_iff_eq.2 (show x.k.tmod 12 = 10 from (by omega))) ?_
    refine go Try.tbs_ok 1000 ?_
    refine ev_callF (T6 ) [0] [] rfl rfl (by decide) rfl (by simp) (fun _ => (by repeat (first | exact trivial | refine ⟨rfl, ?_⟩))) (fun _ h23 => ?_)
    refine go Try.tbs_ok 1000 ?_
    refine ev_fin ⟨trivial, _, rfl, (()), rfl, (by trivial), Frm.sel [0] rfl (by decide)⟩
  · have e : doesD D x = failD D x.z x.K := by unfold doesD; rw [if_neg (by omega), if_neg (by omega), if_neg (by omega), if_neg (by omega), if_neg (by omega), if_neg (by omega), if_pos h]
    rw [e]
    refine go Try.tbs_ok 1000 ?_
    refine ev_new fun b20 => ?_
    refine ev_if_no (beq_eq_false_iff_ne.2 (show ¬x.k.tmod 12 = 4 from (by omega))) ?_
    refine go Try.tbs_ok 1000 ?_
    refine ev_if_no (beq_eq_false_iff_ne.2 (show ¬x.k.tmod 12 = 5 from (by omega))) ?_
    refine go Try.tbs_ok 1000 ?_
    refine ev_if_no (beq_eq_false_iff_ne.2 (show ¬x.k.tmod 12 = 6 from (by omega))) ?_
    refine go Try.tbs_ok 1000 ?_
    refine ev_if_no (beq_eq_false_iff_ne.2 (show ¬x.k.tmod 12 = 7 from (by omega))) ?_
    refine go Try.tbs_ok 1000 ?_
    refine ev_if_no (beq_eq_false_iff_ne.2 (show ¬x.k.tmod 12 = 8 from (by omega))) ?_
    refine go Try.tbs_ok 1000 ?_
    refine ev_if_no (beq_eq_false_iff_ne.2 (show ¬x.k.tmod 12 = 9 from (by omega))) ?_
    refine go Try.tbs_ok 1000 ?_
    refine ev_if_no (beq_eq_false_iff_ne.2 (show ¬x.k.tmod 12 = 10 from (by omega))) ?_
    refine go Try.tbs_ok 1000 ?_
    refine ev_if_yes (beq_iff_eq.2 (show x.k.tmod 12 = 11 from (by omega))) ?_
    refine go Try.tbs_ok 1000 ?_
    refine ev_callF (T7 ) [0] [.inl 0] rfl rfl (by decide) rfl (by simp) (fun _ => (by repeat (first | exact trivial | refine ⟨rfl, ?_⟩))) (fun _ h21 => ?_)
    refine go Try.tbs_ok 1000 ?_
    refine ev_fin ⟨trivial, _, rfl, (()), rfl, (by trivial), Frm.sel [0] rfl (by decide)⟩
  · have e : doesD D x = appD D x.n x.d := by unfold doesD; rw [if_neg (by omega), if_neg (by omega), if_neg (by omega), if_neg (by omega), if_neg (by omega), if_neg (by omega), if_neg (by omega)]
    rw [e]
    refine go Try.tbs_ok 1000 ?_
    refine ev_new fun b20 => ?_
    refine ev_if_no (beq_eq_false_iff_ne.2 (show ¬x.k.tmod 12 = 4 from (by omega))) ?_
    refine go Try.tbs_ok 1000 ?_
    refine ev_if_no (beq_eq_false_iff_ne.2 (show ¬x.k.tmod 12 = 5 from (by omega))) ?_
    refine go Try.tbs_ok 1000 ?_
    refine ev_if_no (beq_eq_false_iff_ne.2 (show ¬x.k.tmod 12 = 6 from (by omega))) ?_
    refine go Try.tbs_ok 1000 ?_
    refine ev_if_no (beq_eq_false_iff_ne.2 (show ¬x.k.tmod 12 = 7 from (by omega))) ?_
    refine go Try.tbs_ok 1000 ?_
    refine ev_if_no (beq_eq_false_iff_ne.2 (show ¬x.k.tmod 12 = 8 from (by omega))) ?_
    refine go Try.tbs_ok 1000 ?_
    refine ev_if_no (beq_eq_false_iff_ne.2 (show ¬x.k.tmod 12 = 9 from (by omega))) ?_
    refine go Try.tbs_ok 1000 ?_
    refine ev_if_no (beq_eq_false_iff_ne.2 (show ¬x.k.tmod 12 = 10 from (by omega))) ?_
    refine go Try.tbs_ok 1000 ?_
    refine ev_if_no (beq_eq_false_iff_ne.2 (show ¬x.k.tmod 12 = 11 from (by omega))) ?_
    refine go Try.tbs_ok 1000 ?_
    refine ev_callF (T8 ) [0] [] rfl rfl (by decide) rfl (by simp) (fun _ => (by repeat (first | exact trivial | refine ⟨rfl, ?_⟩))) (fun _ h21 => ?_)
    refine go Try.tbs_ok 1000 ?_
    refine ev_fin ⟨trivial, _, rfl, (()), rfl, (by trivial), Frm.sel [0] rfl (by decide)⟩
/-- what is read of the document's disk itself -/
def encH (D : DK) : List Value := [.int .i64 D.most, .int .i64 D.starts, .bool D.down]
theorem RefD.peek {r : Nat} {D : DK} {h : Hp} (q : (RefD r D).holds h) : (Rd 3 (some ⟨r, 0, none⟩) 1 ([D].flatMap encH)).holds h := by
  obtain ⟨x, q⟩ := q
  obtain ⟨h1, h2, d, a, b, p, q⟩ := star_holds.1 q
  have p1 := Asn.mono _ a p
  refine ⟨rfl, fun v hv => ?_, fun _ => ⟨r, 0, _, _, _, rfl, p1.1, rfl⟩⟩
  simp only [List.flatMap_cons, List.flatMap_nil, List.append_nil, encH, List.mem_cons, List.not_mem_nil, or_false] at hv
  rcases hv with rfl | rfl | rfl <;> rfl
set_option maxHeartbeats 16000000 in
set_option maxRecDepth 100000 in
theorem diskPlays (z : Int) (A : Option Addr) (l : List ActD) (n c : Nat) (hn : n = l.length) (hn1 : n ≤ 9223372036854775807) (hl : ∀ x ∈ l, inA x) :
    Triple Try.prog 4 [.int .i64 z, .slice A n c] [] [Rd 6 A n (l.flatMap encA), Acts l] Unit (fun _ => .bool true) (fun _ => True) (fun _ => []) := by
  have T0 := greatT A l n c hn hn1
  refine triple_intro Try.tbs_ok Try.func4 rfl [.va (.int .i64 z), .va (.slice A n c)] [] ⟨trivial, trivial, trivial⟩ rfl (by simp) ?_
  intro E
  by_cases hz : z < 1 ∨ 1048576 < z
  · have T1 := newErr z hz
    have T2 := rNewErr z hz
    refine go Try.tbs_ok 1000 ?_
    refine ev_callF (T0 ) [] [.inl 0] rfl rfl (by decide) rfl (by simp) (fun _ => (by repeat (first | exact trivial | refine ⟨rfl, ?_⟩))) (fun x10 h11 => ?_)
    refine go Try.tbs_ok 1000 ?_
    refine ev_if (fun h12 => ?_) (fun h12 => ?_)
    refine go Try.tbs_ok 1000 ?_
    refine ev_fin ⟨trivial, _, rfl, (()), rfl, (by trivial), Frm.nil _⟩
    refine go Try.tbs_ok 1000 ?_
    refine ev_callF (T1 ) [] [] rfl rfl (by decide) rfl (by simp) (fun _ => (by repeat (first | exact trivial | refine ⟨rfl, ?_⟩))) (fun _ h13 => ?_)
    refine go Try.tbs_ok 1000 ?_
    refine ev_callF (T2 ) [] [] rfl rfl (by decide) rfl (by simp) (fun _ => (by repeat (first | exact trivial | refine ⟨rfl, ?_⟩))) (fun _ h14 => ?_)
    refine go Try.tbs_ok 1000 ?_
    refine ev_if_no rfl ?_
    refine go Try.tbs_ok 1000 ?_
    refine ev_if_no rfl ?_
    refine go Try.tbs_ok 1000 ?_
    refine ev_if_yes rfl ?_
    refine go Try.tbs_ok 1000 ?_
    refine ev_callF (works ) [] [] rfl rfl (by decide) rfl (by simp) (fun _ => (by repeat (first | exact trivial | refine ⟨rfl, ?_⟩))) (fun _ h15 => ?_)
    refine go Try.tbs_ok 1000 ?_
    refine ev_fin ⟨trivial, _, rfl, (()), rfl, (by trivial), Frm.nil _⟩
  · have T1 := newM z (by omega) (by omega)
    have T2 := qNew z (by omega) (by omega)
    refine go Try.tbs_ok 1000 ?_
    refine ev_callF (T0 ) [] [.inl 0] rfl rfl (by decide) rfl (by simp) (fun _ => (by repeat (first | exact trivial | refine ⟨rfl, ?_⟩))) (fun x10 h11 => ?_)
    refine go Try.tbs_ok 1000 ?_
    refine ev_if (fun h12 => ?_) (fun h12 => ?_)
    refine go Try.tbs_ok 1000 ?_
    refine ev_fin ⟨trivial, _, rfl, (()), rfl, (by trivial), Frm.nil _⟩
    refine go Try.tbs_ok 1000 ?_
    refine ev_callF (T1 ) [] [] rfl rfl (by decide) rfl (by simp) (fun _ => (by repeat (first | exact trivial | refine ⟨rfl, ?_⟩))) (fun x13 h14 => ?_)
    refine go Try.tbs_ok 1000 ?_
    refine ev_callF (T2 ) [] [] rfl rfl (by decide) rfl (by simp) (fun _ => (by repeat (first | exact trivial | refine ⟨rfl, ?_⟩))) (fun x15 h16 => ?_)
    refine go Try.tbs_ok 1000 ?_
    refine ev_if_no rfl ?_
    refine go Try.tbs_ok 1000 ?_
    refine ev_if_no rfl ?_
    refine go Try.tbs_ok 1000 ?_
    refine ev_if_no rfl ?_
    refine go Try.tbs_ok 1000 ?_
    refine ev_stop (go_loopR [4, 9, 10, 11, 12, 13, 14, 15, 16, 17, 18, 19, 20, 23, 25, 28, 30, 46, 47, 48, 49, 50, 51, 52, 53, 54, 55, 56, 57, 58, 59, 60, 61, 62, 63, 64, 65, 66, 67, 68, 69, 70, 71, 72, 73, 74, 75, 76, 77, 78, 79, 80, 81, 82, 83, 84, 85, 86, 87, 88, 89, 90, 91, 92, 93, 94, 95, 96, 97, 98, 99, 100, 101, 102, 103, 104, 105, 106, 107, 108, 109, 110, 111, 112, 113, 114, 115, 116, 117, 118, 119, 120, 121, 122, 123, 124, 125, 126, 127, 128, 129, 130, 131, 132, 133, 134, 135, 136, 137, 138, 139, 140, 141, 142, 143, 144, 145, 146, 147, 148, 149, 150, 151, 152, 153, 154, 155, 156, 157, 158, 159, 160, 161, 162, 163, 164, 165, 166, 167, 168, 169, 170, 171, 172, 173, 174, 175, 176, 177, 178, 179, 180, 181, 182, 183, 184, 185, 186, 187, 188, 189, 190, 191, 192, 193, 194, 195, 196, 197, 198, 199, 200, 201, 202, 203, 204, 205, 206, 207, 208, 209, 210, 211, 212, 213, 214, 215, 216, 217, 218, 219] (fun (i, _) => [(9, .va (.int .i64 (i : Nat)))]) (fun (_, D) => [(0, .fact (DiskM x13 D)), (1, .fact (RefD x15 D))]) (fun (i, D) => i ≤ n ∧ fineD z i D) (fun (i, _) => n - i) ((0, ⟨z, 0, false, [], none, []⟩) : Nat × DK) ⟨Nat.zero_le _, new_ok (by omega) (by omega), rfl, Int.le_refl _, Int.le_refl _⟩ ⟨⟨by kernel_rfl, by kernel_rfl⟩, ⟨_, rfl⟩, ⟨_, rfl⟩, by kernel_rfl, by kernel_rfl⟩ (fun x_ h_ => ?_))
    obtain ⟨i, D⟩ := x_
    obtain ⟨hi, hf⟩ := h_
    refine go Try.tbs_ok 1000 ?_
    refine ev_if_lt (fun hlt => ?_) (fun hge => ?_)
    · have hil : i < l.length := by
        have : (i : Int) < (n : Int) := hlt
        omega
      obtain ⟨hn150, hb⟩ := h11 h12
      have hx := fineA.of (hl _ (List.getElem_mem hil)) (hb _ (List.getElem_mem hil))
      have hKl := hx.K
      refine go_more 1 (Acts l) (Rd 1 l[i].A l[i].K.length (l[i].K.flatMap encN)) rfl (fun h p => p _ (List.getElem_mem hil)) ?_
      refine go Try.tbs_ok 1000 ?_
      refine ev_stop (go_indexE (sz := 6) Try.tbs_ok (.inl 0) (i) rfl rfl rfl rfl rfl rfl (by omega) rfl (fun _ h => h) (fun g50 o52 e51 => ?_))
      subst e51
      refine go Try.tbs_ok 1000 ?_
      have l53 : i < (l).length := (by omega)
      refine ev_stop (go_loadE Try.tbs_ok (.inl 0) (i) 0 rfl rfl rfl rfl (fun _ h => h) (by omega) (fun _ => rfl) (by omega) l53 (by decide) ?_)
      refine go Try.tbs_ok 1000 ?_
      refine ev_new fun b54 => ?_
      refine ev_stop (go_fact (Row 3 1 none 0 0 (([] : List Int).flatMap encN)) (Row.nilE _ _) ?_)
      refine go Try.tbs_ok 1000 ?_
      refine ev_stop (go_joinR [55, 56, 57, 58, 59, 60, 61, 62, 63, 64, 65, 66, 67, 68, 69, 70, 71, 72, 73, 74, 75, 76, 77, 78, 79] (fun (_ : Option Addr × Nat) => []) (fun ((B, e) : Option Addr × Nat) => [(2, .box b54 35 [.va (.int .u8 l[i].k), .va (.string l[i].n), .va (.string l[i].o), .va (.string l[i].d), .va (.int .i64 l[i].z), .va (.slice B l[i].K.length e)]), (3, .fact (Row 3 1 B (l[i].K.length + 1) e ((l[i].K ++ [-70]).flatMap encN)))]) (fun (B, e) => l[i].K.length + 1 ≤ e) ?_ (fun x_ h_ => ?_))
      · refine go Try.tbs_ok 1000 ?_
        refine ev_stop (go_draw Try.tbs_ok false [] [(0,true),(1,true),(2,true),(3,true),(4,true),(5,true),(6,true),(8,true),(9,true),(10,true),(11,true),(12,true),(16,true),(17,true),(18,true),(19,true),(20,true),(21,true),(99,false),(0,true),(0,true),(0,true),(0,true),(0,true),(0,true)] rfl ?_)
        refine go Try.tbs_ok 1000 ?_
        refine ev_need ⟨⟨(by repeat (first | exact trivial | refine ⟨rfl, ?_⟩)), rfl⟩, by kernel_rfl⟩ ?_
        refine ev_stop (tk_atE (sz := 6) Try.tbs_ok (i) ⟨⟨(by repeat (first | exact trivial | refine ⟨rfl, ?_⟩)), rfl⟩, by kernel_rfl⟩ rfl rfl rfl rfl rfl rfl rfl (by omega) ?_)
        refine go Try.tbs_ok 1000 ?_
        refine ev_need ⟨⟨(by repeat (first | exact trivial | refine ⟨rfl, ?_⟩)), rfl⟩, by kernel_rfl⟩ ?_
        have l60 : i < (l).length := (by omega)
        refine ev_stop (tk_loadE Try.tbs_ok (.inl 0) (i) 5 ⟨⟨(by repeat (first | exact trivial | refine ⟨rfl, ?_⟩)), rfl⟩, by kernel_rfl⟩ rfl rfl rfl rfl rfl (fun _ h => h) (by omega) (fun _ => rfl) (by omega) l60 (by decide) ?_)
        refine go Try.tbs_ok 1000 ?_
        refine ev_need ⟨⟨(by repeat (first | exact trivial | refine ⟨rfl, ?_⟩)), rfl⟩, by kernel_rfl⟩ ?_
        refine ev_wrapN (l[i].K.length + 1) (by constructor <;> omega) (by rfl) ?_
        refine ev_stop (tk_atE (sz := 6) Try.tbs_ok (i) ⟨⟨(by repeat (first | exact trivial | refine ⟨rfl, ?_⟩)), rfl⟩, by kernel_rfl⟩ rfl rfl rfl rfl rfl rfl rfl (by omega) ?_)
        refine go Try.tbs_ok 1000 ?_
        refine ev_need ⟨⟨(by repeat (first | exact trivial | refine ⟨rfl, ?_⟩)), rfl⟩, by kernel_rfl⟩ ?_
        have l61 : i < (l).length := (by omega)
        refine ev_stop (tk_loadE Try.tbs_ok (.inl 0) (i) 5 ⟨⟨(by repeat (first | exact trivial | refine ⟨rfl, ?_⟩)), rfl⟩, by kernel_rfl⟩ rfl rfl rfl rfl rfl (fun _ h => h) (by omega) (fun _ => rfl) (by omega) l61 (by decide) ?_)
        refine go Try.tbs_ok 1000 ?_
        refine ev_need ⟨⟨(by repeat (first | exact trivial | refine ⟨rfl, ?_⟩)), rfl⟩, by kernel_rfl⟩ ?_
        refine ev_stop (tk_atE (sz := 6) Try.tbs_ok (i) ⟨⟨(by repeat (first | exact trivial | refine ⟨rfl, ?_⟩)), rfl⟩, by kernel_rfl⟩ rfl rfl rfl rfl rfl rfl rfl (by omega) ?_)
        refine go Try.tbs_ok 1000 ?_
        refine ev_need ⟨⟨(by repeat (first | exact trivial | refine ⟨rfl, ?_⟩)), rfl⟩, by kernel_rfl⟩ ?_
        have l62 : i < (l).length := (by omega)
        refine ev_stop (tk_loadE Try.tbs_ok (.inl 0) (i) 5 ⟨⟨(by repeat (first | exact trivial | refine ⟨rfl, ?_⟩)), rfl⟩, by kernel_rfl⟩ rfl rfl rfl rfl rfl (fun _ h => h) (by omega) (fun _ => rfl) (by omega) l62 (by decide) ?_)
        refine go Try.tbs_ok 1000 ?_
        refine ev_need ⟨⟨(by repeat (first | exact trivial | refine ⟨rfl, ?_⟩)), rfl⟩, by kernel_rfl⟩ ?_
        refine ev_stop (go_fork 7 14 [(99,false),(0,true),(0,true),(0,true),(0,true),(0,true)] [(7,false),(13,false),(15,false),(22,false),(23,false),(24,false)] _ _ ⟨(by repeat (first | exact trivial | refine ⟨rfl, ?_⟩)), rfl⟩ (by kernel_rfl) rfl rfl rfl rfl ?_ ?_)
        refine go Try.tbs_ok 1000 ?_
        refine ev_stop (go_makeE (sz := 1) (enc := encN) Try.tbs_ok (0) (l[i].K.length + 1) (0) rfl rfl rfl rfl rfl rfl rfl rfl rfl rfl (by omega) (le_max (by omega)) (le_bytes (by omega) (by decide)) (fun _ => (by repeat (first | exact trivial | refine ⟨rfl, ?_⟩))) (fun b63 => ?_))
        refine go Try.tbs_ok 1000 ?_
        refine ev_need ⟨⟨(by repeat (first | exact trivial | refine ⟨rfl, ?_⟩)), rfl⟩, by kernel_rfl⟩ ?_
        refine ev_stop (go_fork 13 14 [(14,false),(15,false),(22,false),(23,false),(24,false)] [(13,false),(15,false),(22,false),(23,false),(24,false)] _ _ ⟨(by repeat (first | exact trivial | refine ⟨rfl, ?_⟩)), rfl⟩ (by kernel_rfl) rfl rfl rfl rfl ?_ ?_)
        refine go Try.tbs_ok 1000 ?_
        refine ev_stop (go_appendE (sz := 1) (M := [_]) (enc := encN) Try.tbs_ok [4] [] (.inl 2) ([]) (l[i].K) (l[i].K) (l[i].K.length) rfl rfl rfl rfl rfl rfl rfl (by decide) rfl (by decide) (fun _ p => starH_one.1 p) rfl (fun _ h => h) (by first | rfl | simp) (by first | rfl | omega) (le_app (s := l[i].K.length) (by omega) (by first | rfl | omega)) (le_appb (s := l[i].K.length) (by omega) (by first | rfl | omega) (by decide)) (fun _ _ => (by repeat (first | exact trivial | refine ⟨rfl, ?_⟩))) (fun A64 c65 h66 => ?_))
        refine go Try.tbs_ok 1000 ?_
        refine ev_need ⟨⟨(by repeat (first | exact trivial | refine ⟨rfl, ?_⟩)), rfl⟩, by kernel_rfl⟩ ?_
        refine ev_new fun b67 => ?_
        refine ev_need ⟨⟨(by repeat (first | exact trivial | refine ⟨rfl, ?_⟩)), rfl⟩, by kernel_rfl⟩ ?_
        refine ev_stop (go_appendE (sz := 1) (M := [_]) (enc := encN) Try.tbs_ok [4] [] (.inr 5) (l[i].K) ([-70]) ((l[i].K) ++ ([-70])) (l[i].K.length + 1) rfl rfl rfl rfl rfl rfl rfl (by decide) rfl (by decide) (fun _ p => starH_one.1 p) rfl (fun _ p => Pt.rd p rfl) (by first | rfl | simp) (by first | rfl | omega) (le_app (s := l[i].K.length + 1) (by omega) (by first | rfl | omega)) (le_appb (s := l[i].K.length + 1) (by omega) (by first | rfl | omega) (by decide)) (fun _ _ => (by repeat (first | exact trivial | refine ⟨rfl, ?_⟩))) (fun A68 c69 h70 => ?_))
        refine go Try.tbs_ok 1000 ?_
        refine ev_need ⟨⟨(by repeat (first | exact trivial | refine ⟨rfl, ?_⟩)), rfl⟩, by kernel_rfl⟩ ?_
        refine ev_stop (go_front Try.tbs_ok (l[i].K.length) (c69) rfl rfl rfl rfl rfl rfl ⟨_, rfl⟩ rfl (by decide) (by omega) (by omega) ?_)
        refine go Try.tbs_ok 1000 ?_
        refine ev_need ⟨⟨(by repeat (first | exact trivial | refine ⟨rfl, ?_⟩)), rfl⟩, by kernel_rfl⟩ ?_
        refine ev_need ⟨⟨(by repeat (first | exact trivial | refine ⟨rfl, ?_⟩)), rfl⟩, by kernel_rfl⟩ ?_
        refine ev_need (by kernel_rfl) ?_
        refine ev_moveJ 3 4 (by decide) rfl rfl (by repeat (first | exact trivial | refine ⟨rfl, ?_⟩)) ?_
        refine ev_fin (join_next ((A68, c69)) (show l[i].K.length + 1 ≤ c69 from (by assumption))  ⟨⟨by kernel_rfl, by kernel_rfl⟩, ⟨_, rfl⟩, ⟨_, rfl⟩, by kernel_rfl, by kernel_rfl⟩)
        refine go Try.tbs_ok 1000 ?_
        refine ev_new fun b71 => ?_
        refine ev_need ⟨⟨(by repeat (first | exact trivial | refine ⟨rfl, ?_⟩)), rfl⟩, by kernel_rfl⟩ ?_
        refine ev_stop (go_appendE (sz := 1) (M := [_]) (enc := encN) Try.tbs_ok [4] [] (.inl 2) ([]) (l[i].K) (l[i].K) (l[i].K.length) rfl rfl rfl rfl rfl rfl rfl (by decide) rfl (by decide) (fun _ p => starH_one.1 p) rfl (fun _ h => h) (by first | rfl | simp) (by first | rfl | omega) (le_app (s := l[i].K.length) (by omega) (by first | rfl | omega)) (le_appb (s := l[i].K.length) (by omega) (by first | rfl | omega) (by decide)) (fun _ _ => (by repeat (first | exact trivial | refine ⟨rfl, ?_⟩))) (fun A72 c73 h74 => ?_))
        refine go Try.tbs_ok 1000 ?_
        refine ev_need ⟨⟨(by repeat (first | exact trivial | refine ⟨rfl, ?_⟩)), rfl⟩, by kernel_rfl⟩ ?_
        refine ev_stop (go_appendE (sz := 1) (M := [_]) (enc := encN) Try.tbs_ok [4] [] (.inr 5) (l[i].K) ([-70]) ((l[i].K) ++ ([-70])) (l[i].K.length + 1) rfl rfl rfl rfl rfl rfl rfl (by decide) rfl (by decide) (fun _ p => starH_one.1 p) rfl (fun _ p => Pt.rd p rfl) (by first | rfl | simp) (by first | rfl | omega) (le_app (s := l[i].K.length + 1) (by omega) (by first | rfl | omega)) (le_appb (s := l[i].K.length + 1) (by omega) (by first | rfl | omega) (by decide)) (fun _ _ => (by repeat (first | exact trivial | refine ⟨rfl, ?_⟩))) (fun A75 c76 h77 => ?_))
        refine go Try.tbs_ok 1000 ?_
        refine ev_need ⟨⟨(by repeat (first | exact trivial | refine ⟨rfl, ?_⟩)), rfl⟩, by kernel_rfl⟩ ?_
        refine ev_stop (go_front Try.tbs_ok (l[i].K.length) (c76) rfl rfl rfl rfl rfl rfl ⟨_, rfl⟩ rfl (by decide) (by omega) (by omega) ?_)
        refine go Try.tbs_ok 1000 ?_
        refine ev_need ⟨⟨(by repeat (first | exact trivial | refine ⟨rfl, ?_⟩)), rfl⟩, by kernel_rfl⟩ ?_
        refine ev_need ⟨⟨(by repeat (first | exact trivial | refine ⟨rfl, ?_⟩)), rfl⟩, by kernel_rfl⟩ ?_
        refine ev_need (by kernel_rfl) ?_
        refine ev_moveJ 3 4 (by decide) rfl rfl (by repeat (first | exact trivial | refine ⟨rfl, ?_⟩)) ?_
        refine ev_fin (join_next ((A75, c76)) (show l[i].K.length + 1 ≤ c76 from (by assumption))  ⟨⟨by kernel_rfl, by kernel_rfl⟩, ⟨_, rfl⟩, ⟨_, rfl⟩, by kernel_rfl, by kernel_rfl⟩)
        refine go Try.tbs_ok 1000 ?_
        refine ev_new fun b78 => ?_
        refine ev_need ⟨⟨(by repeat (first | exact trivial | refine ⟨rfl, ?_⟩)), rfl⟩, by kernel_rfl⟩ ?_
        refine ev_stop (go_makeE (sz := 1) (enc := encN) Try.tbs_ok (0) (l[i].K.length + 1) (0) rfl rfl rfl rfl rfl rfl rfl rfl rfl rfl (by omega) (le_max (by omega)) (le_bytes (by omega) (by decide)) (fun _ => (by repeat (first | exact trivial | refine ⟨rfl, ?_⟩))) (fun b79 => ?_))
        refine go Try.tbs_ok 1000 ?_
        refine ev_need ⟨⟨(by repeat (first | exact trivial | refine ⟨rfl, ?_⟩)), rfl⟩, by kernel_rfl⟩ ?_
        refine ev_stop (go_appendE (sz := 1) (M := [_]) (enc := encN) Try.tbs_ok [5] [] (.inl 2) ([]) (l[i].K) (l[i].K) (l[i].K.length) rfl rfl rfl rfl rfl rfl rfl (by decide) rfl (by decide) (fun _ p => starH_one.1 p) rfl (fun _ h => h) (by first | rfl | simp) (by first | rfl | omega) (le_app (s := l[i].K.length) (by omega) (by first | rfl | omega)) (le_appb (s := l[i].K.length) (by omega) (by first | rfl | omega) (by decide)) (fun _ _ => (by repeat (first | exact trivial | refine ⟨rfl, ?_⟩))) (fun A80 c81 h82 => ?_))
        refine go Try.tbs_ok 1000 ?_
        refine ev_need ⟨⟨(by repeat (first | exact trivial | refine ⟨rfl, ?_⟩)), rfl⟩, by kernel_rfl⟩ ?_
        refine ev_stop (go_appendE (sz := 1) (M := [_]) (enc := encN) Try.tbs_ok [5] [] (.inr 4) (l[i].K) ([-70]) ((l[i].K) ++ ([-70])) (l[i].K.length + 1) rfl rfl rfl rfl rfl rfl rfl (by decide) rfl (by decide) (fun _ p => starH_one.1 p) rfl (fun _ p => Pt.rd p rfl) (by first | rfl | simp) (by first | rfl | omega) (le_app (s := l[i].K.length + 1) (by omega) (by first | rfl | omega)) (le_appb (s := l[i].K.length + 1) (by omega) (by first | rfl | omega) (by decide)) (fun _ _ => (by repeat (first | exact trivial | refine ⟨rfl, ?_⟩))) (fun A83 c84 h85 => ?_))
        refine go Try.tbs_ok 1000 ?_
        refine ev_need ⟨⟨(by repeat (first | exact trivial | refine ⟨rfl, ?_⟩)), rfl⟩, by kernel_rfl⟩ ?_
        refine ev_stop (go_front Try.tbs_ok (l[i].K.length) (c84) rfl rfl rfl rfl rfl rfl ⟨_, rfl⟩ rfl (by decide) (by omega) (by omega) ?_)
        refine go Try.tbs_ok 1000 ?_
        refine ev_need ⟨⟨(by repeat (first | exact trivial | refine ⟨rfl, ?_⟩)), rfl⟩, by kernel_rfl⟩ ?_
        refine ev_need ⟨⟨(by repeat (first | exact trivial | refine ⟨rfl, ?_⟩)), rfl⟩, by kernel_rfl⟩ ?_
        refine ev_need (by kernel_rfl) ?_
        refine ev_moveJ 3 5 (by decide) rfl rfl (by repeat (first | exact trivial | refine ⟨rfl, ?_⟩)) ?_
        refine ev_fin (join_next ((A83, c84)) (show l[i].K.length + 1 ≤ c84 from (by assumption))  ⟨⟨by kernel_rfl, by kernel_rfl⟩, ⟨_, rfl⟩, ⟨_, rfl⟩, by kernel_rfl, by kernel_rfl⟩)
      obtain ⟨B, e⟩ := x_
      refine go_know (.inr 3) (Row 3 1 B (l[i].K.length + 1) e _) rfl (p := ∃ g, B = some ⟨g, 0, none⟩) (fun h p => Row.at0 h p (by omega)) ?_
      rintro ⟨B, rfl⟩
      obtain ⟨y, ey⟩ : ∃ y : ActD, y = ⟨l[i].k, l[i].n, l[i].o, l[i].d, l[i].z, l[i].K, some ⟨B, 0, none⟩, e⟩ := ⟨_, rfl⟩
      obtain ⟨m, em⟩ : ∃ m, m = l[i].K.length := ⟨_, rfl⟩
      have hy : fineA y := by rw [ey]; exact ⟨hx.k, hx.z, hx.n, hx.o, hx.d, hx.K⟩
      have T3 := doesT x13 D y hf.good hy hf.lo (by have := hf.hi; omega)
      have T4 := didT x15 D l[i] hf.good hx hf.lo (by have := hf.hi; omega)
      have eR : doesD D y = doesD D l[i] := by rw [ey]; rfl
      rw [eR, ey] at T3
      have hD2 := does_ok hf.good hx
      have hst := does_starts D l[i]
      obtain ⟨R, eR2⟩ : ∃ R, R = doesD D l[i] := ⟨_, rfl⟩
      rw [← eR2] at T3 T4 hD2 hst
      have hR : fineD z (i + 1) R.1 := ⟨hD2, by rw [hst.2.2]; exact hf.most, by have := hf.lo; omega, by have := hf.hi; omega⟩
      have hrd : ∀ h, (Row 3 1 (some ⟨B, 0, none⟩) (l[i].K.length + 1) e ((l[i].K ++ [-70]).flatMap encN)).holds h → (Rd 1 (some ⟨B, 0, none⟩) l[i].K.length (l[i].K.flatMap encN)).holds h := fun h q => by
        have := rd_take (enc := encN) (k := l[i].K.length) (sz := 1) (fun _ => rfl) (Row.rd q) (by omega)
        rwa [List.take_append_of_le_length (Nat.le_refl _), List.take_length] at this
      have T5 := T3.reads (N' := [Row 3 1 (some ⟨B, 0, none⟩) (l[i].K.length + 1) e ((l[i].K ++ [-70]).flatMap encN)]) (fun X hX => ⟨_, List.mem_cons_self, fun h q => by rw [List.mem_singleton.1 hX]; exact hrd h q⟩)
      have T6 := (sameInts (some ⟨B, 0, none⟩) l[i].A l[i].K l[i].K l[i].K.length e l[i].K.length l[i].c rfl rfl (by omega)).reads (N' := [Row 3 1 (some ⟨B, 0, none⟩) (l[i].K.length + 1) e ((l[i].K ++ [-70]).flatMap encN), Rd 1 l[i].A l[i].K.length (l[i].K.flatMap encN)]) (fun X hX => by
        simp only [List.mem_cons, List.not_mem_nil, or_false] at hX
        rcases hX with rfl | rfl
        · exact ⟨_, List.mem_cons_self, fun h q => hrd h q⟩
        · exact ⟨_, List.mem_cons_of_mem _ List.mem_cons_self, fun _ q => q⟩)
      rw [decide_eq_true rfl] at T6
      have hlast : (l[i].K ++ [-70])[l[i].K.length]'(by simp) = -70 := by simp
      refine go Try.tbs_ok 1000 ?_
      refine ev_stop (go_draw Try.tbs_ok false [2] [(0,true),(1,true),(3,true),(4,true),(5,true),(6,true),(7,true),(2,false),(8,false),(9,false),(10,false)] rfl ?_)
      refine go Try.tbs_ok 1000 ?_
      refine ev_need ⟨⟨(by repeat (first | exact trivial | refine ⟨rfl, ?_⟩)), rfl⟩, by kernel_rfl⟩ ?_
      refine ev_stop (tk_atE (sz := 6) Try.tbs_ok (i) ⟨⟨(by repeat (first | exact trivial | refine ⟨rfl, ?_⟩)), rfl⟩, by kernel_rfl⟩ rfl rfl rfl rfl rfl rfl rfl (by omega) ?_)
      refine go Try.tbs_ok 1000 ?_
      refine ev_need ⟨⟨(by repeat (first | exact trivial | refine ⟨rfl, ?_⟩)), rfl⟩, by kernel_rfl⟩ ?_
      have l100 : i < (l).length := (by omega)
      refine ev_stop (tk_loadE Try.tbs_ok (.inl 0) (i) 0 ⟨⟨(by repeat (first | exact trivial | refine ⟨rfl, ?_⟩)), rfl⟩, by kernel_rfl⟩ rfl rfl rfl rfl rfl (fun _ h => h) (by omega) (fun _ => rfl) (by omega) l100 (by decide) ?_)
      refine go Try.tbs_ok 1000 ?_
      refine ev_need ⟨⟨(by repeat (first | exact trivial | refine ⟨rfl, ?_⟩)), rfl⟩, by kernel_rfl⟩ ?_
      refine ev_callF (T5 ) [0] [.inr 3] rfl rfl (by decide) rfl (by simp) (fun _ => (by repeat (first | exact trivial | refine ⟨rfl, ?_⟩))) (fun _ h101 => ?_)
      refine go Try.tbs_ok 1000 ?_
      refine ev_need ⟨⟨(by repeat (first | exact trivial | refine ⟨rfl, ?_⟩)), rfl⟩, by kernel_rfl⟩ ?_
      refine ev_callF (T4 ) [1] [.inl 2] rfl rfl (by decide) rfl (by simp) (fun _ => (by repeat (first | exact trivial | refine ⟨rfl, ?_⟩))) (fun _ h102 => ?_)
      refine go Try.tbs_ok 1000 ?_
      refine ev_need ⟨⟨(by repeat (first | exact trivial | refine ⟨rfl, ?_⟩)), rfl⟩, by kernel_rfl⟩ ?_
      refine ev_need ⟨⟨(by repeat (first | exact trivial | refine ⟨rfl, ?_⟩)), rfl⟩, by kernel_rfl⟩ ?_
      refine ev_need (by kernel_rfl) ?_
      refine ev_stop (go_draw Try.tbs_ok true [2] [(0,true),(1,true),(2,true),(3,true),(4,true),(5,true),(6,true),(7,true),(8,true),(9,true),(10,true),(11,false),(12,false),(13,false),(14,false),(15,true),(16,true),(17,true),(18,true),(19,true),(20,true),(21,true),(22,false),(23,false),(24,false),(25,false),(26,false),(27,false),(28,false)] rfl ?_)
      refine go Try.tbs_ok 1000 ?_
      refine ev_need ⟨⟨(by repeat (first | exact trivial | refine ⟨rfl, ?_⟩)), rfl⟩, by kernel_rfl⟩ ?_
      refine ev_if_no (ne_no (show R.snd = R.snd from (by omega))) ?_
      refine go Try.tbs_ok 1000 ?_
      refine ev_need ⟨⟨(by repeat (first | exact trivial | refine ⟨rfl, ?_⟩)), rfl⟩, by kernel_rfl⟩ ?_
      refine ev_stop (tk_atE (sz := 6) Try.tbs_ok (i) ⟨⟨(by repeat (first | exact trivial | refine ⟨rfl, ?_⟩)), rfl⟩, by kernel_rfl⟩ rfl rfl rfl rfl rfl rfl rfl (by omega) ?_)
      refine go Try.tbs_ok 1000 ?_
      refine ev_need ⟨⟨(by repeat (first | exact trivial | refine ⟨rfl, ?_⟩)), rfl⟩, by kernel_rfl⟩ ?_
      have l103 : i < (l).length := (by omega)
      refine ev_stop (tk_loadE Try.tbs_ok (.inl 0) (i) 5 ⟨⟨(by repeat (first | exact trivial | refine ⟨rfl, ?_⟩)), rfl⟩, by kernel_rfl⟩ rfl rfl rfl rfl rfl (fun _ h => h) (by omega) (fun _ => rfl) (by omega) l103 (by decide) ?_)
      refine go Try.tbs_ok 1000 ?_
      refine ev_need ⟨⟨(by repeat (first | exact trivial | refine ⟨rfl, ?_⟩)), rfl⟩, by kernel_rfl⟩ ?_
      refine ev_callF (T6 ) [] [.inr 3, .inl 2] rfl rfl (by decide) rfl (by simp) (fun _ => (by repeat (first | exact trivial | refine ⟨rfl, ?_⟩))) (fun _ h104 => ?_)
      refine go Try.tbs_ok 1000 ?_
      refine ev_need ⟨⟨(by repeat (first | exact trivial | refine ⟨rfl, ?_⟩)), rfl⟩, by kernel_rfl⟩ ?_
      refine ev_need ⟨⟨(by repeat (first | exact trivial | refine ⟨rfl, ?_⟩)), rfl⟩, by kernel_rfl⟩ ?_
      refine ev_need ⟨⟨(by repeat (first | exact trivial | refine ⟨rfl, ?_⟩)), rfl⟩, by kernel_rfl⟩ ?_
      refine ev_need ⟨⟨(by repeat (first | exact trivial | refine ⟨rfl, ?_⟩)), rfl⟩, by kernel_rfl⟩ ?_
      refine ev_if_no rfl ?_
      refine go Try.tbs_ok 1000 ?_
      refine ev_need ⟨⟨(by repeat (first | exact trivial | refine ⟨rfl, ?_⟩)), rfl⟩, by kernel_rfl⟩ ?_
      refine ev_wrapN (l[i].K.length + 1) (by constructor <;> omega) (by rfl) ?_
      refine ev_stop (tk_front Try.tbs_ok (l[i].K.length + 1) (e) ⟨⟨(by repeat (first | exact trivial | refine ⟨rfl, ?_⟩)), rfl⟩, by kernel_rfl⟩ rfl rfl rfl rfl rfl rfl rfl ⟨_, rfl⟩ rfl (by decide) (by omega) (by omega) ?_)
      refine go Try.tbs_ok 1000 ?_
      refine ev_need ⟨⟨(by repeat (first | exact trivial | refine ⟨rfl, ?_⟩)), rfl⟩, by kernel_rfl⟩ ?_
      refine ev_need ⟨⟨(by repeat (first | exact trivial | refine ⟨rfl, ?_⟩)), rfl⟩, by kernel_rfl⟩ ?_
      refine ev_need ⟨⟨(by repeat (first | exact trivial | refine ⟨rfl, ?_⟩)), rfl⟩, by kernel_rfl⟩ ?_
      refine ev_need ⟨⟨(by repeat (first | exact trivial | refine ⟨rfl, ?_⟩)), rfl⟩, by kernel_rfl⟩ ?_
      refine ev_stop (go_atE (sz := 1) Try.tbs_ok (l[i].K.length) rfl rfl rfl rfl rfl rfl (by omega) ?_)
      refine go Try.tbs_ok 1000 ?_
      refine ev_need ⟨⟨(by repeat (first | exact trivial | refine ⟨rfl, ?_⟩)), rfl⟩, by kernel_rfl⟩ ?_
      have l105 : l[i].K.length < (l[i].K ++ [-70]).length := (by (simp only [List.length_append, List.length_cons, List.length_nil]; omega))
      refine ev_stop (go_loadE Try.tbs_ok (.inr 3) (l[i].K.length) 0 rfl rfl rfl rfl (fun _ h => Row.rd h) (by omega) (fun _ => rfl) (by omega) l105 (by decide) ?_)
      refine go Try.tbs_ok 1000 ?_
      refine ev_need ⟨⟨(by repeat (first | exact trivial | refine ⟨rfl, ?_⟩)), rfl⟩, by kernel_rfl⟩ ?_
      refine ev_need ⟨⟨(by repeat (first | exact trivial | refine ⟨rfl, ?_⟩)), rfl⟩, by kernel_rfl⟩ ?_
      refine ev_need ⟨⟨(by repeat (first | exact trivial | refine ⟨rfl, ?_⟩)), rfl⟩, by kernel_rfl⟩ ?_
      refine ev_if_no (ne_no (by with_reducible assumption)) ?_
      refine go Try.tbs_ok 1000 ?_
      have hturn : ∀ h, (Row 3 1 (some ⟨B, 0, none⟩) (l[i].K.length + 1) e ((l[i].K ++ [-70]).flatMap encN)).holds h → (Row 3 1 (some ⟨B, 0, none⟩) (m + 1) e ((l[i].K ++ [-70]).flatMap encN)).holds h := fun h q => by rw [em]; exact q
      refine ev_stop (go_turn 3 (Row 3 1 (some ⟨B, 0, none⟩) (l[i].K.length + 1) e _) (fun x : {J : List Int // J.length = m + 1} => Row 3 1 (some ⟨B, 0, none⟩) (m + 1) e (x.1.flatMap encN)) rfl (fun h q => ⟨⟨l[i].K ++ [-70], by rw [em]; exact List.length_append⟩, hturn h q⟩) (fun ⟨K1, hK1⟩ => ?_))
      refine go Try.tbs_ok 1000 ?_
      refine ev_stop (go_loopR [13, 81, 87, 118, 119, 120, 121, 122, 123, 124, 125, 126, 127, 128] (fun (k, _) => [(13, .va (.int .i64 (k : Nat)))]) (fun (_, J) => [(3, .fact (Row 3 1 (some ⟨B, 0, none⟩) (m + 1) e (J.flatMap encN)))]) (fun (k, J) => k ≤ m ∧ J.length = m + 1) (fun (k, _) => m - k) ((0, K1) : Nat × List Int) ⟨Nat.zero_le _, hK1⟩ ⟨⟨by kernel_rfl, by kernel_rfl⟩, ⟨_, rfl⟩, ⟨_, rfl⟩, by kernel_rfl, by kernel_rfl⟩ (fun x_ h_ => ?_))
      obtain ⟨k, J⟩ := x_
      obtain ⟨hk, hJ⟩ := h_
      refine go Try.tbs_ok 1000 ?_
      refine ev_if_lt (fun hlt => ?_) (fun hge => ?_)
      · refine go Try.tbs_ok 1000 ?_
        refine ev_stop (go_atE (sz := 1) Try.tbs_ok (k) rfl rfl rfl rfl rfl rfl (by omega) ?_)
        refine go Try.tbs_ok 1000 ?_
        have l150 : k < (J).length := (by omega)
        refine ev_stop (go_storeR Try.tbs_ok 3 (k) 0 (7) rfl rfl rfl rfl rfl (by omega) (fun _ => rfl) (ones_of rfl) (by omega) l150 rfl (by decide) (ones_of rfl) rfl ?_)
        refine go Try.tbs_ok 1000 ?_
        refine ev_wrapN (k + 1) (by constructor <;> omega) (by rfl) ?_
        refine ev_fin (round_next ((k + 1, J.set k 7)) (show k + 1 ≤ m ∧ (J.set k 7).length = m + 1 from (by (refine ⟨?_, ?_⟩ <;> first | assumption | omega | (simp only [List.length_set, List.length_append, List.length_cons, List.length_nil] <;> omega) | rfl))) (show m - (k + 1) < m - k from (by omega)) ⟨⟨by kernel_rfl, by kernel_rfl⟩, ⟨_, rfl⟩, ⟨_, rfl⟩, by kernel_rfl, by kernel_rfl⟩)
      · obtain ⟨L, eL⟩ : ∃ L, L = R.1.files := ⟨_, rfl⟩
        obtain ⟨q, eq⟩ : ∃ q, q = L.length := ⟨_, rfl⟩
        have U1 := readM x13 R.1 l[i].n hD2
        have U2 := qRead x15 R.1 l[i].n hD2
        have U3 := namesM x13 R.1 hD2
        have U4 := leftM x13 R.1 hD2
        have U5 := qNames x15 R.1 hD2
        have U6 := qLeft x15 R.1 hD2
        have U7 := sizeM x13 R.1 hD2
        have U8 := qSize x15 R.1 hD2
        have U9 := upM x13 R.1 hD2
        have Ua := startsM x13 R.1 hD2
        have hfew := hD2.few
        rw [← eL] at U3 U4 U5 U6 U7 U8 hfew
        rw [← eq] at U3 U4 U5 U6 hfew
        obtain ⟨N, eN⟩ : ∃ N, N = L.map nameEG := ⟨_, rfl⟩
        obtain ⟨V, eV⟩ : ∃ V, V = L.map leftEG := ⟨_, rfl⟩
        rw [← eN] at U3 U5
        rw [← eV] at U4 U6
        have hNl : N.length = q := by rw [eN, List.length_map, eq]
        have hVl : V.length = q := by rw [eV, List.length_map, eq]
        have S1 := fun A B c d => sameTextsR A B N N q c q d hNl.symm hNl.symm (by omega)
        have S2 := fun A B c d => sameIntsR A B V V q c q d hVl.symm hVl.symm (by omega)
        rw [decide_eq_true rfl] at S1 S2
        obtain ⟨Y, eY⟩ : ∃ Y, Y = readD R.1 l[i].n := ⟨_, rfl⟩
        rw [← eY] at U1 U2
        refine go Try.tbs_ok 1000 ?_
        refine ev_fin (go Try.tbs_ok 1000 ?_)
        refine ev_callF (U1 ) [0] [] rfl rfl (by decide) rfl (by simp) (fun _ => (by repeat (first | exact trivial | refine ⟨rfl, ?_⟩))) (fun _ h200 => ?_)
        refine go Try.tbs_ok 1000 ?_
        refine ev_callF (U2 ) [1] [] rfl rfl (by decide) rfl (by simp) (fun _ => (by repeat (first | exact trivial | refine ⟨rfl, ?_⟩))) (fun _ h201 => ?_)
        refine go Try.tbs_ok 1000 ?_
        refine ev_callF (U3 ) [0] [] rfl rfl (by decide) rfl (by simp) (fun _ => (by repeat (first | exact trivial | refine ⟨rfl, ?_⟩))) (fun ⟨x202, x203⟩ h204 => ?_)
        refine go Try.tbs_ok 1000 ?_
        refine ev_callF (U4 ) [0] [] rfl rfl (by decide) rfl (by simp) (fun _ => (by repeat (first | exact trivial | refine ⟨rfl, ?_⟩))) (fun ⟨x205, x206⟩ h207 => ?_)
        refine go Try.tbs_ok 1000 ?_
        refine ev_stop (go_draw Try.tbs_ok true [1] [(0,true),(1,true),(2,true),(3,true),(4,true),(5,true),(6,true),(7,true),(8,true),(9,true),(10,true),(11,false),(12,false),(13,false),(14,false),(15,false),(16,true),(17,false),(18,false),(19,false),(20,false),(21,false),(22,false),(23,true),(25,true),(24,false),(26,false),(27,false),(28,false),(29,false),(30,true),(32,true),(33,true),(34,true),(35,true),(31,false),(36,false),(37,false),(38,false),(39,true),(41,true),(42,true),(43,true),(44,true),(40,false),(45,false),(46,false)] rfl ?_)
        refine go Try.tbs_ok 1000 ?_
        refine ev_need ⟨⟨(by repeat (first | exact trivial | refine ⟨rfl, ?_⟩)), rfl⟩, by kernel_rfl⟩ ?_
        refine ev_if_no (dec_no (by rfl)) ?_
        refine go Try.tbs_ok 1000 ?_
        refine ev_need ⟨⟨(by repeat (first | exact trivial | refine ⟨rfl, ?_⟩)), rfl⟩, by kernel_rfl⟩ ?_
        refine ev_if_no (ne_no (show Y.snd = Y.snd from (by omega))) ?_
        refine go Try.tbs_ok 1000 ?_
        refine ev_need ⟨⟨(by repeat (first | exact trivial | refine ⟨rfl, ?_⟩)), rfl⟩, by kernel_rfl⟩ ?_
        refine ev_callF (U5 ) [1] [] rfl rfl (by decide) rfl (by simp) (fun _ => (by repeat (first | exact trivial | refine ⟨rfl, ?_⟩))) (fun ⟨x208, x209⟩ h210 => ?_)
        refine go Try.tbs_ok 1000 ?_
        refine ev_need ⟨⟨(by repeat (first | exact trivial | refine ⟨rfl, ?_⟩)), rfl⟩, by kernel_rfl⟩ ?_
        refine ev_callF (S1 (x202) (x208) (x203) (x209)) [] [.inr 4, .inr 6] rfl rfl (by decide) rfl (by simp) (fun _ => (by repeat (first | exact trivial | refine ⟨rfl, ?_⟩))) (fun _ h211 => ?_)
        refine go Try.tbs_ok 1000 ?_
        refine ev_need ⟨⟨(by repeat (first | exact trivial | refine ⟨rfl, ?_⟩)), rfl⟩, by kernel_rfl⟩ ?_
        refine ev_need ⟨⟨(by repeat (first | exact trivial | refine ⟨rfl, ?_⟩)), rfl⟩, by kernel_rfl⟩ ?_
        refine ev_need ⟨⟨(by repeat (first | exact trivial | refine ⟨rfl, ?_⟩)), rfl⟩, by kernel_rfl⟩ ?_
        refine ev_need ⟨⟨(by repeat (first | exact trivial | refine ⟨rfl, ?_⟩)), rfl⟩, by kernel_rfl⟩ ?_
        refine ev_if_no rfl ?_
        refine go Try.tbs_ok 1000 ?_
        refine ev_need ⟨⟨(by repeat (first | exact trivial | refine ⟨rfl, ?_⟩)), rfl⟩, by kernel_rfl⟩ ?_
        refine ev_need ⟨⟨(by repeat (first | exact trivial | refine ⟨rfl, ?_⟩)), rfl⟩, by kernel_rfl⟩ ?_
        refine ev_callF (U6 ) [1] [] rfl rfl (by decide) rfl (by simp) (fun _ => (by repeat (first | exact trivial | refine ⟨rfl, ?_⟩))) (fun ⟨x212, x213⟩ h214 => ?_)
        refine go Try.tbs_ok 1000 ?_
        refine ev_need ⟨⟨(by repeat (first | exact trivial | refine ⟨rfl, ?_⟩)), rfl⟩, by kernel_rfl⟩ ?_
        refine ev_callF (S2 (x205) (x212) (x206) (x213)) [] [.inr 5, .inr 7] rfl rfl (by decide) rfl (by simp) (fun _ => (by repeat (first | exact trivial | refine ⟨rfl, ?_⟩))) (fun _ h215 => ?_)
        refine go Try.tbs_ok 1000 ?_
        refine ev_need ⟨⟨(by repeat (first | exact trivial | refine ⟨rfl, ?_⟩)), rfl⟩, by kernel_rfl⟩ ?_
        refine ev_need ⟨⟨(by repeat (first | exact trivial | refine ⟨rfl, ?_⟩)), rfl⟩, by kernel_rfl⟩ ?_
        refine ev_need ⟨⟨(by repeat (first | exact trivial | refine ⟨rfl, ?_⟩)), rfl⟩, by kernel_rfl⟩ ?_
        refine ev_need ⟨⟨(by repeat (first | exact trivial | refine ⟨rfl, ?_⟩)), rfl⟩, by kernel_rfl⟩ ?_
        refine ev_if_no rfl ?_
        refine go Try.tbs_ok 1000 ?_
        refine ev_need ⟨⟨(by repeat (first | exact trivial | refine ⟨rfl, ?_⟩)), rfl⟩, by kernel_rfl⟩ ?_
        refine ev_callF (U7 ) [0] [] rfl rfl (by decide) rfl (by simp) (fun _ => (by repeat (first | exact trivial | refine ⟨rfl, ?_⟩))) (fun _ h216 => ?_)
        refine go Try.tbs_ok 1000 ?_
        refine ev_need ⟨⟨(by repeat (first | exact trivial | refine ⟨rfl, ?_⟩)), rfl⟩, by kernel_rfl⟩ ?_
        refine ev_callF (U8 ) [1] [] rfl rfl (by decide) rfl (by simp) (fun _ => (by repeat (first | exact trivial | refine ⟨rfl, ?_⟩))) (fun _ h217 => ?_)
        refine go Try.tbs_ok 1000 ?_
        refine ev_need ⟨⟨(by repeat (first | exact trivial | refine ⟨rfl, ?_⟩)), rfl⟩, by kernel_rfl⟩ ?_
        refine ev_need ⟨⟨(by repeat (first | exact trivial | refine ⟨rfl, ?_⟩)), rfl⟩, by kernel_rfl⟩ ?_
        refine ev_need ⟨⟨(by repeat (first | exact trivial | refine ⟨rfl, ?_⟩)), rfl⟩, by kernel_rfl⟩ ?_
        refine ev_need ⟨⟨(by repeat (first | exact trivial | refine ⟨rfl, ?_⟩)), rfl⟩, by kernel_rfl⟩ ?_
        refine ev_if_no (ne_no (show (↑(sumD L) : Int) = (↑(sumD L) : Int) from (by omega))) ?_
        refine go Try.tbs_ok 1000 ?_
        refine ev_need ⟨⟨(by repeat (first | exact trivial | refine ⟨rfl, ?_⟩)), rfl⟩, by kernel_rfl⟩ ?_
        have l218 : 0 < ([R.fst]).length := by simp
        refine ev_stop (tk_loadE Try.tbs_ok (.inr 0) 0 2 ⟨⟨(by repeat (first | exact trivial | refine ⟨rfl, ?_⟩)), rfl⟩, by kernel_rfl⟩ rfl rfl rfl rfl rfl (fun _ h => RefD.peek h) (by omega) (fun _ => rfl) (by omega) l218 (by decide) ?_)
        refine go Try.tbs_ok 1000 ?_
        refine ev_need ⟨⟨(by repeat (first | exact trivial | refine ⟨rfl, ?_⟩)), rfl⟩, by kernel_rfl⟩ ?_
        refine ev_callF (U9 ) [0] [] rfl rfl (by decide) rfl (by simp) (fun _ => (by repeat (first | exact trivial | refine ⟨rfl, ?_⟩))) (fun _ h219 => ?_)
        refine go Try.tbs_ok 1000 ?_
        refine ev_need ⟨⟨(by repeat (first | exact trivial | refine ⟨rfl, ?_⟩)), rfl⟩, by kernel_rfl⟩ ?_
        refine ev_need ⟨⟨(by repeat (first | exact trivial | refine ⟨rfl, ?_⟩)), rfl⟩, by kernel_rfl⟩ ?_
        refine ev_need ⟨⟨(by repeat (first | exact trivial | refine ⟨rfl, ?_⟩)), rfl⟩, by kernel_rfl⟩ ?_
        refine ev_need ⟨⟨(by repeat (first | exact trivial | refine ⟨rfl, ?_⟩)), rfl⟩, by kernel_rfl⟩ ?_
        refine ev_if_no (by simp [*]) ?_
        refine go Try.tbs_ok 1000 ?_
        refine ev_need ⟨⟨(by repeat (first | exact trivial | refine ⟨rfl, ?_⟩)), rfl⟩, by kernel_rfl⟩ ?_
        have l220 : 0 < ([R.fst]).length := by simp
        refine ev_stop (tk_loadE Try.tbs_ok (.inr 0) 0 1 ⟨⟨(by repeat (first | exact trivial | refine ⟨rfl, ?_⟩)), rfl⟩, by kernel_rfl⟩ rfl rfl rfl rfl rfl (fun _ h => RefD.peek h) (by omega) (fun _ => rfl) (by omega) l220 (by decide) ?_)
        refine go Try.tbs_ok 1000 ?_
        refine ev_need ⟨⟨(by repeat (first | exact trivial | refine ⟨rfl, ?_⟩)), rfl⟩, by kernel_rfl⟩ ?_
        refine ev_callF (Ua ) [0] [] rfl rfl (by decide) rfl (by simp) (fun _ => (by repeat (first | exact trivial | refine ⟨rfl, ?_⟩))) (fun _ h221 => ?_)
        refine go Try.tbs_ok 1000 ?_
        refine ev_need ⟨⟨(by repeat (first | exact trivial | refine ⟨rfl, ?_⟩)), rfl⟩, by kernel_rfl⟩ ?_
        refine ev_need ⟨⟨(by repeat (first | exact trivial | refine ⟨rfl, ?_⟩)), rfl⟩, by kernel_rfl⟩ ?_
        refine ev_need ⟨⟨(by repeat (first | exact trivial | refine ⟨rfl, ?_⟩)), rfl⟩, by kernel_rfl⟩ ?_
        refine ev_if_no (ne_no (show R.fst.starts = [R.fst][0].starts from (by (simp; done)))) ?_
        refine go Try.tbs_ok 1000 ?_
        refine ev_stop (go_loopR [20, 129, 133, 136, 140, 194, 195, 196, 197, 198, 199, 200, 201, 202, 203, 204, 205] (fun (k, _, _) => [(20, .va (.int .i64 (k : Nat)))]) (fun (_, U, W) => [(4, .fact (Row 9 1 x202 q x203 (U.flatMap encS))), (5, .fact (Row 3 1 x205 q x206 (W.flatMap encN)))]) (fun (k, U, W) => k ≤ q ∧ U.length = q ∧ W.length = q) (fun (k, _, _) => q - k) ((0, N, V) : Nat × List ByteArray × List Int) ⟨Nat.zero_le _, hNl, hVl⟩ ⟨⟨by kernel_rfl, by kernel_rfl⟩, ⟨_, rfl⟩, ⟨_, rfl⟩, by kernel_rfl, by kernel_rfl⟩ (fun x_ h_ => ?_))
        obtain ⟨k2, U, W⟩ := x_
        obtain ⟨hk2, hU, hW⟩ := h_
        refine go Try.tbs_ok 1000 ?_
        refine ev_if_lt (fun hlt => ?_) (fun hge => ?_)
        · refine go Try.tbs_ok 1000 ?_
          refine ev_stop (go_index0 (sz := 1) Try.tbs_ok (.inr 4) (k2) rfl rfl rfl rfl rfl rfl (by omega) rfl Row.at0 (fun g260 e261 => ?_))
          subst e261
          refine go Try.tbs_ok 1000 ?_
          have l262 : k2 < (U).length := (by omega)
          refine ev_stop (go_storeR Try.tbs_ok 4 (k2) 0 ({ data := #[63] : ByteArray }) rfl rfl rfl rfl rfl (by omega) (fun _ => rfl) (ones_of rfl) (by omega) l262 rfl (by decide) (ones_of rfl) rfl ?_)
          refine go Try.tbs_ok 1000 ?_
          refine ev_stop (go_index0 (sz := 1) Try.tbs_ok (.inr 5) (k2) rfl rfl rfl rfl rfl rfl (by omega) rfl Row.at0 (fun g263 e264 => ?_))
          subst e264
          refine go Try.tbs_ok 1000 ?_
          have l265 : k2 < (W).length := (by omega)
          refine ev_stop (go_storeR Try.tbs_ok 5 (k2) 0 (-9) rfl rfl rfl rfl rfl (by omega) (fun _ => rfl) (ones_of rfl) (by omega) l265 rfl (by decide) (ones_of rfl) rfl ?_)
          refine go Try.tbs_ok 1000 ?_
          refine ev_wrapN (k2 + 1) (by constructor <;> omega) (by rfl) ?_
          refine ev_fin (round_next ((k2 + 1, U.set k2 { data := #[63] : ByteArray }, W.set k2 (-9))) (show k2 + 1 ≤ q ∧ (U.set k2 { data := #[63] : ByteArray }).length = q ∧ (W.set k2 (-9)).length = q from (by (refine ⟨?_, ?_⟩ <;> first | assumption | omega | (simp only [List.length_set, List.length_append, List.length_cons, List.length_nil] <;> omega) | rfl))) (show q - (k2 + 1) < q - k2 from (by omega)) ⟨⟨by kernel_rfl, by kernel_rfl⟩, ⟨_, rfl⟩, ⟨_, rfl⟩, by kernel_rfl, by kernel_rfl⟩)
        · refine go Try.tbs_ok 1000 ?_
          refine ev_fin (go Try.tbs_ok 1000 ?_)
          refine ev_callF (U3 ) [0] [] rfl rfl (by decide) rfl (by simp) (fun _ => (by repeat (first | exact trivial | refine ⟨rfl, ?_⟩))) (fun ⟨x280, x281⟩ h282 => ?_)
          refine go Try.tbs_ok 1000 ?_
          refine ev_callF (U5 ) [1] [] rfl rfl (by decide) rfl (by simp) (fun _ => (by repeat (first | exact trivial | refine ⟨rfl, ?_⟩))) (fun ⟨x283, x284⟩ h285 => ?_)
          refine go Try.tbs_ok 1000 ?_
          refine ev_callF (S1 (x280) (x283) (x281) (x284)) [] [.inr 8, .inr 9] rfl rfl (by decide) rfl (by simp) (fun _ => (by repeat (first | exact trivial | refine ⟨rfl, ?_⟩))) (fun _ h286 => ?_)
          refine go Try.tbs_ok 1000 ?_
          refine ev_if_no rfl ?_
          refine go Try.tbs_ok 1000 ?_
          refine ev_callF (U4 ) [0] [] rfl rfl (by decide) rfl (by simp) (fun _ => (by repeat (first | exact trivial | refine ⟨rfl, ?_⟩))) (fun ⟨x287, x288⟩ h289 => ?_)
          refine go Try.tbs_ok 1000 ?_
          refine ev_callF (U6 ) [1] [] rfl rfl (by decide) rfl (by simp) (fun _ => (by repeat (first | exact trivial | refine ⟨rfl, ?_⟩))) (fun ⟨x290, x291⟩ h292 => ?_)
          refine go Try.tbs_ok 1000 ?_
          refine ev_callF (S2 (x287) (x290) (x288) (x291)) [] [.inr 10, .inr 11] rfl rfl (by decide) rfl (by simp) (fun _ => (by repeat (first | exact trivial | refine ⟨rfl, ?_⟩))) (fun _ h293 => ?_)
          refine go Try.tbs_ok 1000 ?_
          refine ev_if_no rfl ?_
          refine go Try.tbs_ok 1000 ?_
          refine ev_wrapN (i + 1) (by constructor <;> omega) (by rfl) ?_
          refine ev_fin (round_next ((i + 1, R.fst)) (show i + 1 ≤ n ∧ fineD z (i + 1) R.fst from (by (refine ⟨?_, ?_⟩ <;> first | assumption | omega | (simp only [List.length_set, List.length_append, List.length_cons, List.length_nil] <;> omega) | rfl))) (show n - (i + 1) < n - i from (by omega)) ⟨⟨by kernel_rfl, by kernel_rfl⟩, ⟨_, rfl⟩, ⟨_, rfl⟩, by kernel_rfl, by kernel_rfl⟩)
    · refine go Try.tbs_ok 1000 ?_
      refine ev_fin (go Try.tbs_ok 1000 ?_)
      refine ev_callF (works ) [] [] rfl rfl (by decide) rfl (by simp) (fun _ => (by repeat (first | exact trivial | refine ⟨rfl, ?_⟩))) (fun _ h300 => ?_)
      refine go Try.tbs_ok 1000 ?_
      refine ev_fin ⟨trivial, _, rfl, (()), rfl, (by trivial), Frm.nil _⟩
end Go.Proofs.Ythknokcgclcbmaa
namespace Go.Proofs.Ythknokcgclcbmaa
open Go.Sy Go.RowKit Go.ChangeShapes Go.WideShapes
theorem Try.own : ownKnob Try.prog.godebug = none := by kernel_rfl
theorem Try.laidOut : laidOutB Try.prog = true := by kernel_rfl
end Go.Proofs.Ythknokcgclcbmaa
namespace Go.Proofs.Ythknokcgclcbmaa
open Go.Sy Go.RowKit Go.ChangeShapes Go.WideShapes
theorem int_dec {w : World} {F : Nat} {vs : List Value} (hl : vs.length = 1) (h : Sees Try.tab w (F + 1) 3 vs) : ∃ x : Int, vs = encN x ∧ True := by
  obtain ⟨n0, e0, _⟩ := leaf_int (F := F) (d := 0) (k := .i64) (u := 3) rfl rfl h 0 (by decide)
  exact ⟨n0, eq_of_at hl (And.intro e0 trivial), trivial⟩
theorem actD_dec {w : World} {F : Nat} {vs : List Value} (hl : vs.length = 6) (h : Sees Try.tab w (F + 1 + 1 + 1) 35 vs) : ∃ x : ActD, vs = encA x ∧ (x.rd.holds (hp w) ∧ inA x) := by
  obtain ⟨n0, e0, w0⟩ := leaf_int (F := F + 1) (d := 1) (k := .u8) (u := 5) rfl rfl h 0 (by decide)
  obtain ⟨n1, e1, w1⟩ := leaf_string (F := F + 1) (d := 1) (u := 9) rfl rfl h 1 (by decide)
  obtain ⟨n2, e2, w2⟩ := leaf_string (F := F + 1) (d := 1) (u := 9) rfl rfl h 2 (by decide)
  obtain ⟨n3, e3, w3⟩ := leaf_string (F := F + 1) (d := 1) (u := 9) rfl rfl h 3 (by decide)
  obtain ⟨n4, e4, w4⟩ := leaf_int (F := F + 1) (d := 1) (k := .i64) (u := 3) rfl rfl h 4 (by decide)
  obtain ⟨A5, n5, c5, l5, e5, hn5, hc5, hm5, hr5, hg5⟩ := leaf_slice (F := F + 1) (d := 1) (u := 33) (el := 3) (enc := encN) (G := fun _ => True) rfl rfl (by decide) encN_len (fun _ => rfl) (fun vs hl h => int_dec hl h) rfl h 5 (by decide)
  subst hn5
  exact ⟨⟨n0, n1, n2, n3, n4, l5, A5, c5⟩, eq_of_at hl (And.intro e0 (And.intro e1 (And.intro e2 (And.intro e3 (And.intro e4 (And.intro e5 trivial)))))), hr5, ⟨wf_u8 w0, (wf_i64 w4).2⟩⟩
theorem acts_in {w : World} {l : List ActD} (h : ∀ x ∈ l, x.rd.holds (hp w) ∧ inA x) : (Acts l).holds (hp w) ∧ ∀ x ∈ l, inA x := ⟨fun x hx => (h x hx).1, fun x hx => (h x hx).2⟩
theorem maxLen_le {n c : Nat} (h : n ≤ c) (h2 : c ≤ maxLen) : n ≤ 9223372036854775807 := Nat.le_trans h h2
end Go.Proofs.Ythknokcgclcbmaa
namespace Go.Proofs.Ythknokcgclcbmaa
open Go.Sy Go.RowKit Go.ChangeShapes Go.WideShapes
theorem diskPlays_lifted (os : Os) (started : os.Started) (H : Type) (enc : TypeId × Value → H) :
    ReturnsInHanded {} Try.checked os 4 .any (Rows.diskPlaysSpec.pre6 enc Try.prog Try.f4 Rows.diskPlaysRow.domain Rows.diskPlaysRow.apart) (Rows.diskPlaysSpec.post enc Try.prog Try.f4 Rows.diskPlaysRow.apart Rows.diskPlaysRow.fresh Rows.diskPlaysRow.handsOn Rows.diskPlaysRow.again) := by
  refine returnsInHanded_of_change (C := Try.checked) Try.own started (by kernel_rfl) Try.func4 (ChangeSpec.witness6 (enc := enc) (C := Try.checked) false ⟨#[], #[.int .i64 0, .slice none 0 0], []⟩ 8 (by kernel_rfl) (by kernel_rfl) (by kernel_rfl) (by kernel_rfl)) ?_
  intro W base args ds gs before hval hW hcnd _
  obtain ⟨p, q, hA, hV, _, _, _⟩ := id hW
  obtain ⟨rfl, _⟩ := trodVars_none hV
  have hpar : Try.f4.params = #[3, 23] := by kernel_rfl
  rw [hpar] at hA hval
  obtain ⟨v0, v1, d0, d1, p0, p1, rfl, rfl, _, ⟨fuel0, hf0⟩, ⟨fuel1, hf1⟩⟩ := trodAll_two hA
  obtain ⟨m0, rfl, _, _, w0⟩ := open_int (P := Try.prog) (t := 3) (k := .i64) (by kernel_rfl) (hval 0 _ _ rfl rfl) ⟨fuel0, hf0⟩
  obtain ⟨A1, n1, c1, rfl⟩ := okWide_slice (P := Try.prog) (t := 23) (e := 35) (by kernel_rfl) (hval 1 _ _ rfl rfl)
  obtain ⟨A1', n1', c1', l1, hl1, hln1, hc1, hm1, hr1, hg1⟩ := list_of_sees (F := 0 + 1 + 1 + 1) (t := 23) (el := 35) (enc := encA) (G := fun x => x.rd.holds (hp W) ∧ inA x) rfl rfl (by decide) encA_len (fun _ => rfl) (fun vs hl h => actD_dec hl h) (sees_of_trod Try.tbs_ok.tab 4 fuel1 _ _ _ hf1)
  cases hl1
  obtain ⟨ha1, hin1⟩ := acts_in hg1
  refine (diskPlays m0 A1 l1 n1 c1 hln1.symm (maxLen_le hc1 hm1) hin1 W Hp.emp (hp W) (Hp.emp_le _) (Hp.le_refl _) (Hp.emp_dis _) trivial (fun X hX => ?_)).mono fun e W' ⟨_, _, he, _, _, _, hext, _⟩ => ?_
  · simp only [List.mem_cons, List.not_mem_nil, or_false] at hX
    rcases hX with rfl | rfl
    · exact hr1
    · exact ha1
  · exact ⟨.bool true, he, post_true Try.laidOut (by kernel_rfl) rfl (rt := 4) (by kernel_rfl) (by kernel_rfl) hW hext.below rfl rfl rfl⟩
theorem diskPlays_holds : Rows.DiskPlaysSaid :=
  OpenClaim.holds_of_wide 4 Try.f4 rfl rfl rfl rfl rfl rfl rfl ⟨rfl, rfl, rfl, rfl, rfl⟩ rfl rfl rfl rfl rfl (by kernel_rfl) Try.func4 (by kernel_rfl)
    (of_decide_eq_true (by kernel_rfl)) (by unfold Func.isWrapper; rw [if_neg (by decide +kernel)]; exact ⟨rfl, rfl⟩)
    (fun os started H enc _ => diskPlays_lifted os started H enc)
end Go.Proofs.Ythknokcgclcbmaa
