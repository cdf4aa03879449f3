/-
  What is proved: RoutesOnce's walk. Conditions: none.
-/
import Derived.Test.YtkjpfodnbjbmfaaRL
namespace Go.Proofs.Ytkjpfodnbjbmfaa
open Go.Sy

/-- an act -/
structure ActR where
  k : Int
  s : Int
  i : Int
  o : Int
def encR (x : ActR) : List Value := [.int .u8 x.k, .int .i64 x.s, .int .i64 x.i, .int .i64 x.o]
theorem encR_len (x : ActR) : (encR x).length = 4 := rfl
instance : Inhabited ActR := ⟨⟨0, 0, 0, 0⟩⟩
theorem wait_len (T : WT) (k : Key) (o : Int) : (waitT T k o).1.length ≤ T.length + 1 := by
  unfold waitT
  split
  · simp
  · split
    · simp
    · split
      · simp
      · simp only [put_len]
        split <;> omega
theorem del_le (T : WT) (k : Key) : (delT T k).length ≤ T.length := by
  rw [del_len]
  split <;> omega
theorem drop_len (T : WT) (k : Key) (o : Int) : (dropT T k o).1.length ≤ T.length + 1 := by
  unfold dropT
  split
  · simp only []
    split
    · have := del_le T k; omega
    · rw [put_len]; split <;> omega
  · simp
theorem del_none {T : WT} {k : Key} (h : k ∉ T.map (·.1)) : delT T k = T := by
  unfold delT
  rw [ixOf_none.2 h]
theorem tHasN (p : Nat) (T : WT) (s i o : Int) (hT : okL T (s, i)) (b : Bool) (hb : decide (o ∈ findT T (s, i)) = b) : Triple Try.prog 19 [.pointer (some ⟨p, 0, none⟩), .int .i64 s, .int .i64 i, .int .i64 o] [TabM p T] [] Unit (fun _ => .bool b) (fun _ => True) (fun _ => [TabM p T]) := hb ▸ tHas p T s i o hT
set_option maxHeartbeats 8000000 in
set_option maxRecDepth 100000 in
theorem routesOnce (A : Option Addr) (l : List ActR) (c : Nat) (a b d : Int) (hk : ∀ x ∈ l, 0 ≤ x.k ∧ x.k < 256) :
    Triple Try.prog 7 [.slice A l.length c, .agg #[.int .i64 a, .int .i64 b, .int .i64 d]] [] [Rd 4 A l.length (l.flatMap encR)] Unit (fun _ => .bool true) (fun _ => True) (fun _ => []) := by
  refine triple_intro Try.tbs_ok Try.func7 rfl [.va (.slice A l.length c), .ag [.va (.int .i64 a), .va (.int .i64 b), .va (.int .i64 d)]] [] ⟨trivial, by simp [SV.good, SV.goodL], trivial⟩ rfl (by simp) ?_
  intro E
  obtain ⟨q, hq⟩ : ∃ q : Nat, q = (d % 18446744073709551616).toNat % 8 := ⟨_, rfl⟩
  have hq8 : q < 8 := by omega
  have eq : (d % 18446744073709551616).tmod 8 = ((q : Nat) : Int) := by
    rw [Int.tmod_eq_emod_of_nonneg (by omega)]
    omega
  obtain ⟨o, ho⟩ : ∃ o : Int, o = (q : Int) - 1 := ⟨_, rfl⟩
  have ho7 : -1 ≤ o ∧ o < 7 := by omega
  have W0 := fun p => tWait p [] a b o ⟨List.Pairwise.nil, by simp [findT, ixOf]⟩ ([((a, b), [o])], 0) (by
    unfold waitT
    rw [show findT [] (a, b) = [] from rfl, if_neg (by omega), if_neg (by simp), if_neg (by simp)]
    rfl)
  have ok0 : OkT [((a, b), [o])] := put_ok OkT.nil (a, b) (l := [o]) (by simp) (by simp; omega) (by simp)
  have f0 : findT [((a, b), [o])] (a, b) = [o] := findT_of ok0 (by simp)
  refine go Try.tbs_ok 1000 ?_
  refine ev_new fun b0 => ?_
  refine ev_stop (go_draw Try.tbs_ok false [0] [(0,true),(1,true),(2,true),(3,true),(4,false),(5,false)] rfl ?_)
  refine go Try.tbs_ok 1000 ?_
  refine ev_need ⟨⟨(by repeat (first | exact trivial | refine ⟨rfl, ?_⟩)), rfl⟩, by kernel_rfl⟩ ?_
  refine ev_need ⟨⟨(by repeat (first | exact trivial | refine ⟨rfl, ?_⟩)), rfl⟩, by kernel_rfl⟩ ?_
  refine ev_need (by kernel_rfl) ?_
  refine ev_if_lt (fun h1 => ?_) (fun h1 => ?_)
  refine go Try.tbs_ok 1000 ?_
  refine ev_callF (lives ) [] [] rfl rfl (by decide) rfl (by simp) (fun _ => (by repeat (first | exact trivial | refine ⟨rfl, ?_⟩))) (fun _ h2 => ?_)
  refine go Try.tbs_ok 1000 ?_
  refine ev_fin ⟨trivial, _, rfl, (()), rfl, (by trivial), Frm.nil _⟩
  refine go Try.tbs_ok 1000 ?_
  refine ev_mu64 ?_
  refine ev_w64 (by constructor <;> omega) ?_
  refine ev_w64 (by constructor <;> omega) ?_
  refine ev_callF (tNew ) [] [] rfl rfl (by decide) rfl (by simp) (fun _ => (by repeat (first | exact trivial | refine ⟨rfl, ?_⟩))) (fun x3 h4 => ?_)
  refine go Try.tbs_ok 1000 ?_
  rw [show (d % 18446744073709551616).tmod 8 - 1 = o by rw [ho, eq]]
  refine ev_callF (W0 (x3)) [1] [] rfl rfl (by decide) rfl (by simp) (fun _ => (by repeat (first | exact trivial | refine ⟨rfl, ?_⟩))) (fun _ h0 => ?_)
  refine go Try.tbs_ok 1000 ?_
  refine ev_if_no rfl ?_
  refine go Try.tbs_ok 1000 ?_
  refine ev_stop (go_loopR [1, 4, 9, 10, 33, 34, 35, 36, 37, 38, 39, 40, 41, 42, 43, 44, 45, 46, 47, 48, 49, 50, 51, 52, 53, 54, 55, 56, 57, 58, 59, 60, 61, 62, 63, 64, 65, 66, 67, 68, 69, 70, 71, 72, 73, 74, 75, 76, 77, 78, 79, 80, 81, 82, 83, 84, 85, 86, 87, 88] (fun (i, _) => [(9, .va (.int .i64 (i : Nat)))]) (fun (_, T) => [(1, .fact (TabM x3 T))]) (fun (i, T) => i ≤ l.length ∧ OkT T ∧ findT T (a, b) = [o] ∧ T.length ≤ i + 1) (fun (i, _) => l.length - i) ((0, [((a, b), [o])]) : Nat × WT) ⟨Nat.zero_le _, ok0, f0, Nat.le_refl _⟩ ⟨⟨by kernel_rfl, by kernel_rfl⟩, ⟨_, rfl⟩, ⟨_, rfl⟩, by kernel_rfl, by kernel_rfl⟩ (fun x_ h_ => ?_))
  obtain ⟨i, T⟩ := x_
  obtain ⟨hi, hT, hf, hl⟩ := h_
  have hmem : decide (o ∈ findT T (a, b)) = true := by rw [hf]; simp
  refine go Try.tbs_ok 1000 ?_
  refine ev_if_lt (fun hlt => ?_) (fun hge => ?_)
  · have hil : i < l.length := by
      have : (i : Int) < (l.length : Int) := hlt
      omega
    have hki := hk _ (List.getElem_mem hil)
    have h4 : l[i].k.tmod 4 = l[i].k % 4 := Int.tmod_eq_emod_of_nonneg hki.1
    by_cases hsame : l[i].s = a ∧ l[i].i = b
    · refine go Try.tbs_ok 1000 ?_
      refine ev_stop (go_indexE (sz := 4) Try.tbs_ok (.inl 0) (i) rfl rfl rfl rfl rfl rfl (by omega) rfl (fun _ h => h) (fun g20 o22 e21 => ?_))
      subst e21
      refine go Try.tbs_ok 1000 ?_
      have l23 : i < (l).length := (by omega)
      refine ev_stop (go_loadE Try.tbs_ok (.inl 0) (i) 0 rfl rfl rfl rfl (fun _ h => h) (by omega) (fun _ => rfl) (by omega) l23 (by decide) ?_)
      refine go Try.tbs_ok 1000 ?_
      refine ev_new fun b24 => ?_
      refine ev_if_yes (beq_iff_eq.2 (show l[i].s = a from (by omega))) ?_
      refine go Try.tbs_ok 1000 ?_
      refine ev_if_yes (beq_iff_eq.2 (show l[i].i = b from (by omega))) ?_
      refine go Try.tbs_ok 1000 ?_
      refine ev_wrapN (i + 1) (by constructor <;> omega) (by rfl) ?_
      refine ev_fin (round_next ((i + 1, T)) (show i + 1 ≤ l.length ∧ OkT T ∧ findT T (a, b) = [o] ∧ List.length T ≤ i + 1 + 1 from (by (refine ⟨?_, ?_, ?_, ?_⟩ <;> first | assumption | omega | (simp only [List.length_set, List.length_append, List.length_cons, List.length_nil] <;> omega) | rfl))) (show l.length - (i + 1) < l.length - i from (by omega)) ⟨⟨by kernel_rfl, by kernel_rfl⟩, ⟨_, rfl⟩, ⟨_, rfl⟩, by kernel_rfl, by kernel_rfl⟩)
    · have hne : (a, b) ≠ (l[i].s, l[i].i) := fun e => hsame (by simp only [Prod.mk.injEq] at e; exact ⟨e.1.symm, e.2.symm⟩)
      rcases show l[i].k % 4 < 2 ∨ l[i].k % 4 = 2 ∨ l[i].k % 4 = 3 by omega with h | h | h
      · obtain ⟨R, hR⟩ : ∃ R, R = waitT T (l[i].s, l[i].i) l[i].o := ⟨_, rfl⟩
        have hR1 : OkT R.1 := by rw [hR]; exact wait_okT hT _ _
        have hR2 : findT R.1 (a, b) = [o] := by rw [hR, wait_find _ _ _ hne]; exact hf
        have hR3 : R.1.length ≤ i + 1 + 1 := by have := wait_len T (l[i].s, l[i].i) l[i].o; rw [hR]; omega
        have V1 := tWait x3 T l[i].s l[i].i l[i].o (hT.okL _) R hR
        have V2 := tHasN x3 R.1 a b o (hR1.okL _) true (by rw [hR2]; simp)
        refine go Try.tbs_ok 1000 ?_
        refine ev_stop (go_indexE (sz := 4) Try.tbs_ok (.inl 0) (i) rfl rfl rfl rfl rfl rfl (by omega) rfl (fun _ h => h) (fun g40 o42 e41 => ?_))
        subst e41
        refine go Try.tbs_ok 1000 ?_
        have l43 : i < (l).length := (by omega)
        refine ev_stop (go_loadE Try.tbs_ok (.inl 0) (i) 0 rfl rfl rfl rfl (fun _ h => h) (by omega) (fun _ => rfl) (by omega) l43 (by decide) ?_)
        refine go Try.tbs_ok 1000 ?_
        refine ev_new fun b44 => ?_
        refine ev_if_eq (fun h45 => ?_) (fun h45 => ?_)
        refine go Try.tbs_ok 1000 ?_
        refine ev_if_no (beq_eq_false_iff_ne.2 (show ¬l[i].i = b from (by omega))) ?_
        refine go Try.tbs_ok 1000 ?_
        refine ev_if_eq (fun h46 => ?_) (fun h46 => ?_)
        refine go Try.tbs_ok 1000 ?_
        refine ev_if_yes (beq_iff_eq.2 (by with_reducible assumption)) ?_
        refine go Try.tbs_ok 1000 ?_
        refine ev_callF (V1 ) [1] [] rfl rfl (by decide) rfl (by simp) (fun _ => (by repeat (first | exact trivial | refine ⟨rfl, ?_⟩))) (fun _ h47 => ?_)
        refine go Try.tbs_ok 1000 ?_
        refine ev_callF (V2 ) [1] [] rfl rfl (by decide) rfl (by simp) (fun _ => (by repeat (first | exact trivial | refine ⟨rfl, ?_⟩))) (fun _ h48 => ?_)
        refine go Try.tbs_ok 1000 ?_
        refine ev_if_no rfl ?_
        refine go Try.tbs_ok 1000 ?_
        refine ev_wrapN (i + 1) (by constructor <;> omega) (by rfl) ?_
        refine ev_fin (round_next ((i + 1, R.fst)) (show i + 1 ≤ l.length ∧ OkT R.fst ∧ findT R.fst (a, b) = [o] ∧ List.length R.fst ≤ i + 1 + 1 from (by trivial)) (show l.length - (i + 1) < l.length - i from (by omega)) ⟨⟨by kernel_rfl, by kernel_rfl⟩, ⟨_, rfl⟩, ⟨_, rfl⟩, by kernel_rfl, by kernel_rfl⟩)
        refine go Try.tbs_ok 1000 ?_
        refine ev_if_yes (beq_iff_eq.2 (show l[i].k.tmod 4 = 1 from (by omega))) ?_
        refine go Try.tbs_ok 1000 ?_
        refine ev_callF (V1 ) [1] [] rfl rfl (by decide) rfl (by simp) (fun _ => (by repeat (first | exact trivial | refine ⟨rfl, ?_⟩))) (fun _ h49 => ?_)
        refine go Try.tbs_ok 1000 ?_
        refine ev_callF (V2 ) [1] [] rfl rfl (by decide) rfl (by simp) (fun _ => (by repeat (first | exact trivial | refine ⟨rfl, ?_⟩))) (fun _ h50 => ?_)
        refine go Try.tbs_ok 1000 ?_
        refine ev_if_no rfl ?_
        refine go Try.tbs_ok 1000 ?_
        refine ev_wrapN (i + 1) (by constructor <;> omega) (by rfl) ?_
        refine ev_fin (round_next ((i + 1, R.fst)) (show i + 1 ≤ l.length ∧ OkT R.fst ∧ findT R.fst (a, b) = [o] ∧ List.length R.fst ≤ i + 1 + 1 from (by trivial)) (show l.length - (i + 1) < l.length - i from (by omega)) ⟨⟨by kernel_rfl, by kernel_rfl⟩, ⟨_, rfl⟩, ⟨_, rfl⟩, by kernel_rfl, by kernel_rfl⟩)
        refine go Try.tbs_ok 1000 ?_
        refine ev_if_eq (fun h51 => ?_) (fun h51 => ?_)
        refine go Try.tbs_ok 1000 ?_
        refine ev_if_yes (beq_iff_eq.2 (by with_reducible assumption)) ?_
        refine go Try.tbs_ok 1000 ?_
        refine ev_callF (V1 ) [1] [] rfl rfl (by decide) rfl (by simp) (fun _ => (by repeat (first | exact trivial | refine ⟨rfl, ?_⟩))) (fun _ h52 => ?_)
        refine go Try.tbs_ok 1000 ?_
        refine ev_callF (V2 ) [1] [] rfl rfl (by decide) rfl (by simp) (fun _ => (by repeat (first | exact trivial | refine ⟨rfl, ?_⟩))) (fun _ h53 => ?_)
        refine go Try.tbs_ok 1000 ?_
        refine ev_if_no rfl ?_
        refine go Try.tbs_ok 1000 ?_
        refine ev_wrapN (i + 1) (by constructor <;> omega) (by rfl) ?_
        refine ev_fin (round_next ((i + 1, R.fst)) (show i + 1 ≤ l.length ∧ OkT R.fst ∧ findT R.fst (a, b) = [o] ∧ List.length R.fst ≤ i + 1 + 1 from (by trivial)) (show l.length - (i + 1) < l.length - i from (by omega)) ⟨⟨by kernel_rfl, by kernel_rfl⟩, ⟨_, rfl⟩, ⟨_, rfl⟩, by kernel_rfl, by kernel_rfl⟩)
        refine go Try.tbs_ok 1000 ?_
        refine ev_if_yes (beq_iff_eq.2 (show l[i].k.tmod 4 = 1 from (by omega))) ?_
        refine go Try.tbs_ok 1000 ?_
        refine ev_callF (V1 ) [1] [] rfl rfl (by decide) rfl (by simp) (fun _ => (by repeat (first | exact trivial | refine ⟨rfl, ?_⟩))) (fun _ h54 => ?_)
        refine go Try.tbs_ok 1000 ?_
        refine ev_callF (V2 ) [1] [] rfl rfl (by decide) rfl (by simp) (fun _ => (by repeat (first | exact trivial | refine ⟨rfl, ?_⟩))) (fun _ h55 => ?_)
        refine go Try.tbs_ok 1000 ?_
        refine ev_if_no rfl ?_
        refine go Try.tbs_ok 1000 ?_
        refine ev_wrapN (i + 1) (by constructor <;> omega) (by rfl) ?_
        refine ev_fin (round_next ((i + 1, R.fst)) (show i + 1 ≤ l.length ∧ OkT R.fst ∧ findT R.fst (a, b) = [o] ∧ List.length R.fst ≤ i + 1 + 1 from (by trivial)) (show l.length - (i + 1) < l.length - i from (by omega)) ⟨⟨by kernel_rfl, by kernel_rfl⟩, ⟨_, rfl⟩, ⟨_, rfl⟩, by kernel_rfl, by kernel_rfl⟩)
      · obtain ⟨R, hR⟩ : ∃ R, R = delT T (l[i].s, l[i].i) := ⟨_, rfl⟩
        have hR1 : OkT R := by rw [hR]; exact del_ok hT _
        have hR2 : findT R (a, b) = [o] := by rw [hR, find_del hT, if_neg hne]; exact hf
        have hR3 : R.length ≤ i + 1 + 1 := by have := del_le T (l[i].s, l[i].i); rw [hR]; omega
        have V1 := tTake x3 T l[i].s l[i].i
        rw [← hR] at V1
        have V2 := tHasN x3 R a b o (hR1.okL _) true (by rw [hR2]; simp)
        refine go Try.tbs_ok 1000 ?_
        refine ev_stop (go_indexE (sz := 4) Try.tbs_ok (.inl 0) (i) rfl rfl rfl rfl rfl rfl (by omega) rfl (fun _ h => h) (fun g80 o82 e81 => ?_))
        subst e81
        refine go Try.tbs_ok 1000 ?_
        have l83 : i < (l).length := (by omega)
        refine ev_stop (go_loadE Try.tbs_ok (.inl 0) (i) 0 rfl rfl rfl rfl (fun _ h => h) (by omega) (fun _ => rfl) (by omega) l83 (by decide) ?_)
        refine go Try.tbs_ok 1000 ?_
        refine ev_new fun b84 => ?_
        refine ev_if_eq (fun h85 => ?_) (fun h85 => ?_)
        refine go Try.tbs_ok 1000 ?_
        refine ev_if_no (beq_eq_false_iff_ne.2 (show ¬l[i].i = b from (by omega))) ?_
        refine go Try.tbs_ok 1000 ?_
        refine ev_if_no (beq_eq_false_iff_ne.2 (show ¬l[i].k.tmod 4 = 0 from (by omega))) ?_
        refine go Try.tbs_ok 1000 ?_
        refine ev_if_no (beq_eq_false_iff_ne.2 (show ¬l[i].k.tmod 4 = 1 from (by omega))) ?_
        refine go Try.tbs_ok 1000 ?_
        refine ev_if_yes (beq_iff_eq.2 (show l[i].k.tmod 4 = 2 from (by omega))) ?_
        refine go Try.tbs_ok 1000 ?_
        refine ev_callF (V1 ) [1] [] rfl rfl (by decide) rfl (by simp) (fun _ => (by repeat (first | exact trivial | refine ⟨rfl, ?_⟩))) (fun ⟨x86, x87, x88⟩ h89 => ?_)
        refine go Try.tbs_ok 1000 ?_
        refine ev_callF (V2 ) [1] [] rfl rfl (by decide) rfl (by simp) (fun _ => (by repeat (first | exact trivial | refine ⟨rfl, ?_⟩))) (fun _ h90 => ?_)
        refine go Try.tbs_ok 1000 ?_
        refine ev_if_no rfl ?_
        refine go Try.tbs_ok 1000 ?_
        refine ev_wrapN (i + 1) (by constructor <;> omega) (by rfl) ?_
        refine ev_fin (round_next ((i + 1, R)) (show i + 1 ≤ l.length ∧ OkT R ∧ findT R (a, b) = [o] ∧ List.length R ≤ i + 1 + 1 from (by trivial)) (show l.length - (i + 1) < l.length - i from (by omega)) ⟨⟨by kernel_rfl, by kernel_rfl⟩, ⟨_, rfl⟩, ⟨_, rfl⟩, by kernel_rfl, by kernel_rfl⟩)
        refine go Try.tbs_ok 1000 ?_
        refine ev_if_no (beq_eq_false_iff_ne.2 (show ¬l[i].k.tmod 4 = 0 from (by omega))) ?_
        refine go Try.tbs_ok 1000 ?_
        refine ev_if_no (beq_eq_false_iff_ne.2 (show ¬l[i].k.tmod 4 = 1 from (by omega))) ?_
        refine go Try.tbs_ok 1000 ?_
        refine ev_if_yes (beq_iff_eq.2 (show l[i].k.tmod 4 = 2 from (by omega))) ?_
        refine go Try.tbs_ok 1000 ?_
        refine ev_callF (V1 ) [1] [] rfl rfl (by decide) rfl (by simp) (fun _ => (by repeat (first | exact trivial | refine ⟨rfl, ?_⟩))) (fun ⟨x91, x92, x93⟩ h94 => ?_)
        refine go Try.tbs_ok 1000 ?_
        refine ev_callF (V2 ) [1] [] rfl rfl (by decide) rfl (by simp) (fun _ => (by repeat (first | exact trivial | refine ⟨rfl, ?_⟩))) (fun _ h95 => ?_)
        refine go Try.tbs_ok 1000 ?_
        refine ev_if_no rfl ?_
        refine go Try.tbs_ok 1000 ?_
        refine ev_wrapN (i + 1) (by constructor <;> omega) (by rfl) ?_
        refine ev_fin (round_next ((i + 1, R)) (show i + 1 ≤ l.length ∧ OkT R ∧ findT R (a, b) = [o] ∧ List.length R ≤ i + 1 + 1 from (by trivial)) (show l.length - (i + 1) < l.length - i from (by omega)) ⟨⟨by kernel_rfl, by kernel_rfl⟩, ⟨_, rfl⟩, ⟨_, rfl⟩, by kernel_rfl, by kernel_rfl⟩)
      · obtain ⟨R, hR⟩ : ∃ R, R = dropT T (l[i].s, l[i].i) l[i].o := ⟨_, rfl⟩
        have hR1 : OkT R.1 := by rw [hR]; exact drop_okT hT _ _
        have hR2 : findT R.1 (a, b) = [o] := by rw [hR, drop_find hT _ _ _ hne]; exact hf
        have hR3 : R.1.length ≤ i + 1 + 1 := by have := drop_len T (l[i].s, l[i].i) l[i].o; rw [hR]; omega
        have V1 := tDrop x3 T l[i].s l[i].i l[i].o (hT.okL _) R hR
        have V2 := tHasN x3 R.1 a b o (hR1.okL _) true (by rw [hR2]; simp)
        refine go Try.tbs_ok 1000 ?_
        refine ev_stop (go_indexE (sz := 4) Try.tbs_ok (.inl 0) (i) rfl rfl rfl rfl rfl rfl (by omega) rfl (fun _ h => h) (fun g120 o122 e121 => ?_))
        subst e121
        refine go Try.tbs_ok 1000 ?_
        have l123 : i < (l).length := (by omega)
        refine ev_stop (go_loadE Try.tbs_ok (.inl 0) (i) 0 rfl rfl rfl rfl (fun _ h => h) (by omega) (fun _ => rfl) (by omega) l123 (by decide) ?_)
        refine go Try.tbs_ok 1000 ?_
        refine ev_new fun b124 => ?_
        refine ev_if_eq (fun h125 => ?_) (fun h125 => ?_)
        refine go Try.tbs_ok 1000 ?_
        refine ev_if_no (beq_eq_false_iff_ne.2 (show ¬l[i].i = b from (by omega))) ?_
        refine go Try.tbs_ok 1000 ?_
        refine ev_if_no (beq_eq_false_iff_ne.2 (show ¬l[i].k.tmod 4 = 0 from (by omega))) ?_
        refine go Try.tbs_ok 1000 ?_
        refine ev_if_no (beq_eq_false_iff_ne.2 (show ¬l[i].k.tmod 4 = 1 from (by omega))) ?_
        refine go Try.tbs_ok 1000 ?_
        refine ev_if_no (beq_eq_false_iff_ne.2 (show ¬l[i].k.tmod 4 = 2 from (by omega))) ?_
        refine go Try.tbs_ok 1000 ?_
        refine ev_callF (V1 ) [1] [] rfl rfl (by decide) rfl (by simp) (fun _ => (by repeat (first | exact trivial | refine ⟨rfl, ?_⟩))) (fun _ h126 => ?_)
        refine go Try.tbs_ok 1000 ?_
        refine ev_callF (V2 ) [1] [] rfl rfl (by decide) rfl (by simp) (fun _ => (by repeat (first | exact trivial | refine ⟨rfl, ?_⟩))) (fun _ h127 => ?_)
        refine go Try.tbs_ok 1000 ?_
        refine ev_if_no rfl ?_
        refine go Try.tbs_ok 1000 ?_
        refine ev_wrapN (i + 1) (by constructor <;> omega) (by rfl) ?_
        refine ev_fin (round_next ((i + 1, R.fst)) (show i + 1 ≤ l.length ∧ OkT R.fst ∧ findT R.fst (a, b) = [o] ∧ List.length R.fst ≤ i + 1 + 1 from (by trivial)) (show l.length - (i + 1) < l.length - i from (by omega)) ⟨⟨by kernel_rfl, by kernel_rfl⟩, ⟨_, rfl⟩, ⟨_, rfl⟩, by kernel_rfl, by kernel_rfl⟩)
        refine go Try.tbs_ok 1000 ?_
        refine ev_if_no (beq_eq_false_iff_ne.2 (show ¬l[i].k.tmod 4 = 0 from (by omega))) ?_
        refine go Try.tbs_ok 1000 ?_
        refine ev_if_no (beq_eq_false_iff_ne.2 (show ¬l[i].k.tmod 4 = 1 from (by omega))) ?_
        refine go Try.tbs_ok 1000 ?_
        refine ev_if_no (beq_eq_false_iff_ne.2 (show ¬l[i].k.tmod 4 = 2 from (by omega))) ?_
        refine go Try.tbs_ok 1000 ?_
        refine ev_callF (V1 ) [1] [] rfl rfl (by decide) rfl (by simp) (fun _ => (by repeat (first | exact trivial | refine ⟨rfl, ?_⟩))) (fun _ h128 => ?_)
        refine go Try.tbs_ok 1000 ?_
        refine ev_callF (V2 ) [1] [] rfl rfl (by decide) rfl (by simp) (fun _ => (by repeat (first | exact trivial | refine ⟨rfl, ?_⟩))) (fun _ h129 => ?_)
        refine go Try.tbs_ok 1000 ?_
        refine ev_if_no rfl ?_
        refine go Try.tbs_ok 1000 ?_
        refine ev_wrapN (i + 1) (by constructor <;> omega) (by rfl) ?_
        refine ev_fin (round_next ((i + 1, R.fst)) (show i + 1 ≤ l.length ∧ OkT R.fst ∧ findT R.fst (a, b) = [o] ∧ List.length R.fst ≤ i + 1 + 1 from (by trivial)) (show l.length - (i + 1) < l.length - i from (by omega)) ⟨⟨by kernel_rfl, by kernel_rfl⟩, ⟨_, rfl⟩, ⟨_, rfl⟩, by kernel_rfl, by kernel_rfl⟩)
  · obtain ⟨T1, hT1⟩ : ∃ T1, T1 = delT T (a, b) := ⟨_, rfl⟩
    have hk1 : (a, b) ∈ T.map (·.1) := (mem_keys hT _).2 (by rw [hf]; simp)
    have ok1 : OkT T1 := by rw [hT1]; exact del_ok hT _
    have f1 : findT T1 (a, b) = [] := by rw [hT1, find_del hT, if_pos rfl]
    have l1 : T1.length + 1 = T.length := by
      rw [hT1, del_len, if_pos hk1]
      have := List.length_pos_of_mem hk1
      rw [List.length_map] at this
      omega
    have d1 : delT T1 (a, b) = T1 := del_none fun h => (mem_keys ok1 _).1 h f1
    have V1 := tTakeN x3 T T1 a b 1 [o] hf rfl hT1.symm
    have V2 := tTakeN x3 T1 T1 a b 0 [] f1 rfl d1
    have V3 := tLen x3 T
    have V4 := tLen x3 T1
    have V5 := tHasN x3 T1 a b o (ok1.okL _) false (by rw [f1]; simp)
    have V6 := fun A c bb => sameLit A [o] 1 c bb 1 [o] rfl rfl (by decide)
    rw [decide_eq_true rfl] at V6
    refine go Try.tbs_ok 1000 ?_
    refine ev_fin (go Try.tbs_ok 1000 ?_)
    refine ev_callF (V3 ) [1] [] rfl rfl (by decide) rfl (by simp) (fun _ => (by repeat (first | exact trivial | refine ⟨rfl, ?_⟩))) (fun _ h160 => ?_)
    refine go Try.tbs_ok 1000 ?_
    refine ev_callF (V1 ) [1] [] rfl rfl (by decide) rfl (by simp) (fun _ => (by repeat (first | exact trivial | refine ⟨rfl, ?_⟩))) (fun ⟨x161, x162⟩ h163 => ?_)
    refine go Try.tbs_ok 1000 ?_
    refine ev_new fun b164 => ?_
    refine ev_callF (V6 (x161) (x162) (b164)) [] [.inr 2, .inr 3] rfl rfl (by decide) rfl (by simp) (fun _ => (by repeat (first | exact trivial | refine ⟨rfl, ?_⟩))) (fun _ h165 => ?_)
    refine go Try.tbs_ok 1000 ?_
    refine ev_if_yes rfl ?_
    refine go Try.tbs_ok 1000 ?_
    refine ev_callF (V2 ) [1] [] rfl rfl (by decide) rfl (by simp) (fun _ => (by repeat (first | exact trivial | refine ⟨rfl, ?_⟩))) (fun ⟨x166, x167⟩ h168 => ?_)
    refine go Try.tbs_ok 1000 ?_
    refine ev_if_yes rfl ?_
    refine go Try.tbs_ok 1000 ?_
    refine ev_callF (V4 ) [1] [] rfl rfl (by decide) rfl (by simp) (fun _ => (by repeat (first | exact trivial | refine ⟨rfl, ?_⟩))) (fun _ h169 => ?_)
    refine go Try.tbs_ok 1000 ?_
    refine ev_wrapN (List.length T - 1) (by constructor <;> omega) (by omega) ?_
    refine ev_if_yes (beq_iff_eq.2 (show (↑(List.length T1) : Int) = (↑(List.length T - 1) : Int) from (by omega))) ?_
    refine go Try.tbs_ok 1000 ?_
    refine ev_callF (V5 ) [1] [] rfl rfl (by decide) rfl (by simp) (fun _ => (by repeat (first | exact trivial | refine ⟨rfl, ?_⟩))) (fun _ h170 => ?_)
    refine go Try.tbs_ok 1000 ?_
    refine ev_if_yes rfl ?_
    refine go Try.tbs_ok 1000 ?_
    refine ev_callF (lives ) [] [] rfl rfl (by decide) rfl (by simp) (fun _ => (by repeat (first | exact trivial | refine ⟨rfl, ?_⟩))) (fun _ h171 => ?_)
    refine go Try.tbs_ok 1000 ?_
    refine ev_fin ⟨trivial, _, rfl, (()), rfl, (by trivial), Frm.nil _⟩
end Go.Proofs.Ytkjpfodnbjbmfaa
