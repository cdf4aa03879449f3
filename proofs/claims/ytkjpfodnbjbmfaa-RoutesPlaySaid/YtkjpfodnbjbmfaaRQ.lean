/-
  What is proved: RoutesApart's walk. Conditions: none.
-/
import Derived.Test.YtkjpfodnbjbmfaaRM
import Derived.Test.YtkjpfodnbjbmfaaRZ
namespace Go.Proofs.Ytkjpfodnbjbmfaa
open Go.Sy

def enc8 (x : Int) : List Value := [.int .u8 x]
theorem arr2_und : Try.prog.underlying 32 = some (.array 2 3) := by kernel_rfl
theorem eq_arr2 (a b c d : Int) (n : Nat) (w : World) : (Op.equalIn (n + 2) 32 (.agg #[.int .i64 a, .int .i64 b]) (.agg #[.int .i64 c, .int .i64 d])).run Try.prog w = .ok (a == c && b == d) w := by
  have p1 : ∀ (x y : Int), (part 3 #[.int .i64 x, .int .i64 y] 0).run Try.prog w = .ok (.int .i64 x) w := fun x y => part_one int_und rfl rfl
  have p2 : ∀ (x y : Int), (part 3 #[.int .i64 x, .int .i64 y] 1).run Try.prog w = .ok (.int .i64 y) w := fun x y => part_one int_und rfl rfl
  have hs : (sizeOf 3).run Try.prog w = .ok 1 w := by
    have h : (Try.prog.info? 3).map (fun i => i.size) = some 1 := by kernel_rfl
    cases hq : Try.prog.info? 3 with
    | none => rw [hq] at h; cases h
    | some i =>
      rw [hq] at h
      simp only [Option.map_some, Option.some.injEq] at h
      simp [sizeOf, typeInfo, hq, h]
  have q1 := run_equalIn_int (P := Try.prog) w n 3 .i64 .i64 a c int_und
  have q2 := run_equalIn_int (P := Try.prog) w n 3 .i64 .i64 b d int_und
  rw [Op.equalIn, Sem.run_bind, run_underlying arr2_und]
  by_cases h1 : a = c
  · subst h1
    simp [hs, p1, p2, q1, q2, show List.range' 0 2 = [0, 1] from rfl]
    by_cases h2 : b = d <;> simp [h2]
  · simp [hs, p1, q1, h1, show List.range' 0 2 = [0, 1] from rfl]
theorem rise_ext : ∀ {L M : List Int}, L.Pairwise (· < ·) → M.Pairwise (· < ·) → (∀ x, x ∈ L ↔ x ∈ M) → L = M
  | [], [], _, _, _ => rfl
  | [], y :: M, _, _, h => by have := (h y).2 List.mem_cons_self; cases this
  | x :: L, [], _, _, h => by have := (h x).1 List.mem_cons_self; cases this
  | x :: L, y :: M, h1, h2, h => by
    obtain ⟨h3, h4⟩ := List.pairwise_cons.1 h1
    obtain ⟨h5, h6⟩ := List.pairwise_cons.1 h2
    have e : x = y := by
      rcases List.mem_cons.1 ((h x).1 List.mem_cons_self) with e | e
      · exact e
      · rcases List.mem_cons.1 ((h y).2 List.mem_cons_self) with e2 | e2
        · exact e2.symm
        · have := h5 x e; have := h3 y e2; omega
    subst e
    refine congrArg (x :: ·) (rise_ext h4 h6 fun z => ⟨fun hz => ?_, fun hz => ?_⟩)
    · rcases List.mem_cons.1 ((h z).1 (List.mem_cons_of_mem _ hz)) with e | e
      · have := h3 z hz; omega
      · exact e
    · rcases List.mem_cons.1 ((h z).2 (List.mem_cons_of_mem _ hz)) with e | e
      · have := h5 z hz; omega
      · exact e
theorem wait_mem {T : WT} (k : Key) {o : Int} (ho : -1 ≤ o ∧ o < 7) (hl : T.length < 64) (x : Int) : x ∈ findT (waitT T k o).1 k ↔ x = o ∨ x ∈ findT T k := by
  unfold waitT
  rw [if_neg (by omega)]
  by_cases h : o ∈ findT T k
  · rw [if_pos h]
    exact ⟨.inr, fun hx => hx.elim (fun e => e ▸ h) id⟩
  · rw [if_neg h, if_neg (fun h2 => by omega), find_put, if_pos rfl, mem_ins]
/-- the origin that a byte says -/
def orgA (v : Int) : Int := v.tmod 8 - 1
theorem orgA_in {v : Int} (h : 0 ≤ v ∧ v < 256) : -1 ≤ orgA v ∧ orgA v < 7 := by
  unfold orgA
  rw [Int.tmod_eq_emod_of_nonneg h.1]
  omega
set_option maxHeartbeats 8000000 in
set_option maxRecDepth 100000 in
theorem routesApart (A : Option Addr) (L : List Int) (n c : Nat) (u1 u2 v1 v2 : Int) (hn : n = L.length) (hL : ∀ x ∈ L, 0 ≤ x ∧ x < 256) :
    Triple Try.prog 4 [.slice A n c, .agg #[.int .i64 u1, .int .i64 u2], .agg #[.int .i64 v1, .int .i64 v2]] [] [Rd 1 A n (L.flatMap enc8)] Unit (fun _ => .bool true) (fun _ => True) (fun _ => []) := by
  refine triple_intro Try.tbs_ok Try.func4 rfl [.va (.slice A n c), .ag [.va (.int .i64 u1), .va (.int .i64 u2)], .ag [.va (.int .i64 v1), .va (.int .i64 v2)]] [] ⟨trivial, by simp [SV.good, SV.goodL], by simp [SV.good, SV.goodL], trivial⟩ rfl (by simp) ?_
  intro E
  refine go Try.tbs_ok 1000 ?_
  refine ev_new fun b0 => ?_
  refine ev_new fun b1 => ?_
  refine ev_if_lt (fun h2 => ?_) (fun h2 => ?_)
  refine go Try.tbs_ok 1000 ?_
  refine ev_callF (lives ) [] [] rfl rfl (by decide) rfl (by simp) (fun _ => (by repeat (first | exact trivial | refine ⟨rfl, ?_⟩))) (fun _ h3 => ?_)
  refine go Try.tbs_ok 1000 ?_
  refine ev_fin ⟨trivial, _, rfl, (()), rfl, (by trivial), Frm.nil _⟩
  refine go Try.tbs_ok 1000 ?_
  refine ev_stop (go_val rfl (.bq (u1 == v1 && u2 == v2)) trivial (fun a w hR => eql_run (ev_denv hR.fr rfl rfl) (ev_denv hR.fr rfl rfl) (by kernel_rfl) (eq_arr2 u1 u2 v1 v2 9998 w)) ?_)
  refine go Try.tbs_ok 1000 ?_
  refine ev_if (fun h20 => ?_) (fun h20 => ?_)
  refine go Try.tbs_ok 1000 ?_
  refine ev_callF (lives ) [] [] rfl rfl (by decide) rfl (by simp) (fun _ => (by repeat (first | exact trivial | refine ⟨rfl, ?_⟩))) (fun _ h21 => ?_)
  refine go Try.tbs_ok 1000 ?_
  refine ev_fin ⟨trivial, _, rfl, (()), rfl, (by trivial), Frm.nil _⟩
  refine go Try.tbs_ok 1000 ?_
  refine ev_callF (tNew ) [] [] rfl rfl (by decide) rfl (by simp) (fun _ => (by repeat (first | exact trivial | refine ⟨rfl, ?_⟩))) (fun x22 h23 => ?_)
  refine go Try.tbs_ok 1000 ?_
  refine ev_callF (tNew ) [] [] rfl rfl (by decide) rfl (by simp) (fun _ => (by repeat (first | exact trivial | refine ⟨rfl, ?_⟩))) (fun x24 h25 => ?_)
  refine go Try.tbs_ok 1000 ?_
  have hne : (v1, v2) ≠ (u1, u2) := fun e => by
    simp only [Prod.mk.injEq] at e
    simp [e.1, e.2] at h20
  have f0 : findT [] (v1, v2) = [] := rfl
  refine ev_stop (go_loopR [1, 2, 9, 10, 11, 20, 21, 27, 28, 29, 30, 31, 32, 33, 34, 35, 36, 37, 38, 39, 40, 41, 42, 43, 44, 45, 46, 47, 48, 49, 50, 51, 52, 53, 54, 55, 56, 57, 58, 59, 60, 61, 62, 63, 64, 65, 66, 67, 68, 69, 70] (fun (i, _, _) => [(9, .va (.int .i64 (i : Nat)))]) (fun (_, T, U) => [(2, .fact (TabM x22 T)), (3, .fact (TabM x24 U))]) (fun (i, T, U) => i ≤ n ∧ OkT T ∧ OkT U ∧ T.length ≤ 2 * i ∧ U.length ≤ i ∧ (∀ x, x ∈ findT T (u1, u2) ↔ x ∈ (L.take i).map orgA) ∧ (∀ x, x ∈ findT U (u1, u2) ↔ x ∈ (L.drop (n - i)).map orgA) ∧ findT T (v1, v2) = (if i = 0 then [] else [6])) (fun (i, _, _) => n - i) ((0, [], []) : Nat × WT × WT) ⟨Nat.zero_le _, OkT.nil, OkT.nil, Nat.le_refl _, Nat.le_refl _, (fun x => by simp [findT, ixOf]), (fun x => by rw [Nat.sub_zero, List.drop_of_length_le (by omega)]; simp [findT, ixOf]), rfl⟩ ⟨⟨by kernel_rfl, by kernel_rfl⟩, ⟨_, rfl⟩, ⟨_, rfl⟩, by kernel_rfl, by kernel_rfl⟩ (fun x_ h_ => ?_))
  obtain ⟨i, T, U⟩ := x_
  obtain ⟨hi, hT, hU, hTl, hUl, hTf, hUf, hT2⟩ := h_
  refine go Try.tbs_ok 1000 ?_
  refine ev_if_lt (fun hlt => ?_) (fun hge => ?_)
  · have hin : i < n := by
      have : (i : Int) < (n : Int) := hlt
      omega
    have hi1 : i < L.length := by omega
    have hi2 : n - 1 - i < L.length := by omega
    have o1 := orgA_in (hL _ (List.getElem_mem hi1))
    have o2 := orgA_in (hL _ (List.getElem_mem hi2))
    obtain ⟨R1, hR1⟩ : ∃ R, R = waitT T (u1, u2) (orgA L[i]) := ⟨_, rfl⟩
    obtain ⟨RU, hRU⟩ : ∃ R, R = waitT U (u1, u2) (orgA L[n - 1 - i]) := ⟨_, rfl⟩
    obtain ⟨R2, hR2⟩ : ∃ R, R = waitT R1.1 (v1, v2) 6 := ⟨_, rfl⟩
    have k1 : OkT R1.1 := by rw [hR1]; exact wait_okT hT _ _
    have kU : OkT RU.1 := by rw [hRU]; exact wait_okT hU _ _
    have k2 : OkT R2.1 := by rw [hR2]; exact wait_okT k1 _ _
    have l1 : R1.1.length ≤ T.length + 1 := by rw [hR1]; exact wait_len _ _ _
    have lU : RU.1.length ≤ U.length + 1 := by rw [hRU]; exact wait_len _ _ _
    have l2 : R2.1.length ≤ R1.1.length + 1 := by rw [hR2]; exact wait_len _ _ _
    have V1 := tWait x22 T u1 u2 (L[i].tmod 8 - 1) (hT.okL _) R1 hR1
    have V2 := tWait x24 U u1 u2 (L[n - 1 - i].tmod 8 - 1) (hU.okL _) RU hRU
    have V3 := tWait x22 R1.1 v1 v2 6 (k1.okL _) R2 hR2
    have r1 := hL _ (List.getElem_mem hi1)
    have r2 := hL _ (List.getElem_mem hi2)
    have t1 : 0 ≤ L[i].tmod 8 ∧ L[i].tmod 8 < 8 := by rw [Int.tmod_eq_emod_of_nonneg r1.1]; omega
    have t2 : 0 ≤ L[n - 1 - i].tmod 8 ∧ L[n - 1 - i].tmod 8 < 8 := by rw [Int.tmod_eq_emod_of_nonneg r2.1]; omega
    refine go Try.tbs_ok 1000 ?_
    refine ev_stop (go_indexE (sz := 1) Try.tbs_ok (.inl 0) (i) rfl rfl rfl rfl rfl rfl (by omega) rfl (fun _ h => h) (fun g40 o42 e41 => ?_))
    subst e41
    refine go Try.tbs_ok 1000 ?_
    have l43 : i < (L).length := (by omega)
    refine ev_stop (go_loadE Try.tbs_ok (.inl 0) (i) 0 rfl rfl rfl rfl (fun _ h => h) (by omega) (fun _ => rfl) (by omega) l43 (by decide) ?_)
    refine go Try.tbs_ok 1000 ?_
    refine ev_w64 (by constructor <;> omega) ?_
    refine ev_w64 (by constructor <;> omega) ?_
    refine ev_wrapN (n - 1) (by constructor <;> omega) (by omega) ?_
    refine ev_wrapN (n - 1 - i) (by constructor <;> omega) (by omega) ?_
    refine ev_stop (go_atE (sz := 1) Try.tbs_ok (n - 1 - i) rfl rfl rfl rfl rfl rfl (by omega) ?_)
    refine go Try.tbs_ok 1000 ?_
    have l44 : n - 1 - i < (L).length := (by omega)
    refine ev_stop (go_loadE Try.tbs_ok (.inl 0) (n - 1 - i) 0 rfl rfl rfl rfl (fun _ h => h) (by omega) (fun _ => rfl) (by omega) l44 (by decide) ?_)
    refine go Try.tbs_ok 1000 ?_
    refine ev_w64 (by constructor <;> omega) ?_
    refine ev_w64 (by constructor <;> omega) ?_
    refine ev_callF (V1 ) [2] [] rfl rfl (by decide) rfl (by simp) (fun _ => (by repeat (first | exact trivial | refine ⟨rfl, ?_⟩))) (fun _ h45 => ?_)
    refine go Try.tbs_ok 1000 ?_
    refine ev_callF (V2 ) [3] [] rfl rfl (by decide) rfl (by simp) (fun _ => (by repeat (first | exact trivial | refine ⟨rfl, ?_⟩))) (fun _ h46 => ?_)
    refine go Try.tbs_ok 1000 ?_
    refine ev_callF (V3 ) [2] [] rfl rfl (by decide) rfl (by simp) (fun _ => (by repeat (first | exact trivial | refine ⟨rfl, ?_⟩))) (fun _ h47 => ?_)
    refine go Try.tbs_ok 1000 ?_
    refine ev_wrapN (i + 1) (by constructor <;> omega) (by rfl) ?_
    refine ev_fin (round_next ((i + 1, R2.fst, RU.fst)) (?_ : i + 1 ≤ n ∧ OkT R2.fst ∧ OkT RU.fst ∧ List.length R2.fst ≤ 2 * (i + 1) ∧ List.length RU.fst ≤ i + 1 ∧ (∀ (x : Int), x ∈ findT R2.fst (u1, u2) ↔ x ∈ List.map orgA (List.take (i + 1) L)) ∧ (∀ (x : Int), x ∈ findT RU.fst (u1, u2) ↔ x ∈ List.map orgA (List.drop (n - (i + 1)) L)) ∧ findT R2.fst (v1, v2) = if i + 1 = 0 then [] else [6]) (show n - (i + 1) < n - i from (by omega)) ⟨⟨by kernel_rfl, by kernel_rfl⟩, ⟨_, rfl⟩, ⟨_, rfl⟩, by kernel_rfl, by kernel_rfl⟩)
    refine ⟨by omega, k2, kU, by omega, by omega, fun x => ?_, fun x => ?_, ?_⟩
    · rw [hR2, wait_find _ _ _ (Ne.symm hne), hR1, wait_mem _ o1 (by omega), hTf, ← List.take_append_getElem hi1, List.map_append, List.mem_append]
      simp only [List.map_cons, List.map_nil, List.mem_singleton]
      exact Or.comm
    · rw [hRU, wait_mem _ o2 (by omega), hUf, show n - (i + 1) = n - 1 - i by omega, List.drop_eq_getElem_cons hi2, List.map_cons, List.mem_cons, show n - 1 - i + 1 = n - i by omega]
    · rw [if_neg (by omega)]
      have hq : findT R1.1 (v1, v2) = if i = 0 then [] else [6] := by rw [hR1, wait_find _ _ _ hne]; exact hT2
      refine rise_ext (k2.okL _).1 (by simp) fun x => ?_
      rw [hR2, wait_mem _ (by decide) (by omega), hq]
      split <;> simp
  · have hin : i = n := by
      have : ¬ (i : Int) < (n : Int) := hge
      omega
    rw [hin] at hTf hUf hT2
    rw [List.take_of_length_le (by omega)] at hTf
    rw [Nat.sub_self, List.drop_zero] at hUf
    obtain ⟨M, hM⟩ : ∃ M, M = findT T (u1, u2) := ⟨_, rfl⟩
    have hMr : M.Pairwise (· < ·) := by rw [hM]; exact (hT.okL _).1
    have hMl : M.length ≤ 1000 := by rw [hM]; exact (hT.okL _).2
    have hMU : findT U (u1, u2) = M := by
      rw [hM]
      exact rise_ext (hU.okL _).1 (hT.okL _).1 fun x => (hUf x).trans (hTf x).symm
    obtain ⟨T1, hT1⟩ : ∃ T1, T1 = delT T (u1, u2) := ⟨_, rfl⟩
    have k1 : OkT T1 := by rw [hT1]; exact del_ok hT _
    have f1 : findT T1 (v1, v2) = if n = 0 then [] else [6] := by rw [hT1, find_del hT, if_neg hne]; exact hT2
    have V1 := tTakeN x22 T T1 u1 u2 M.length M hM.symm rfl hT1.symm
    have V2 := tTakeN x24 U _ u1 u2 M.length M hMU rfl rfl
    have V4 := fun A B c d => sameRows A B M M M.length c M.length d rfl rfl (by omega)
    rw [decide_eq_true rfl] at V4
    by_cases hn0 : n = 0
    · rw [if_pos hn0] at f1
      have V3 := tTakeN x22 T1 _ v1 v2 0 [] f1 rfl rfl
      refine go Try.tbs_ok 1000 ?_
      refine ev_fin (go Try.tbs_ok 1000 ?_)
      refine ev_stop (go_draw Try.tbs_ok false [0] [(0,true),(1,true),(2,true),(3,true),(4,true),(6,true),(7,true),(8,true),(9,true),(10,true),(5,false),(11,false),(12,false),(13,false)] rfl ?_)
      refine go Try.tbs_ok 1000 ?_
      refine ev_need ⟨⟨(by repeat (first | exact trivial | refine ⟨rfl, ?_⟩)), rfl⟩, by kernel_rfl⟩ ?_
      refine ev_callF (V1 ) [2] [] rfl rfl (by decide) rfl (by simp) (fun _ => (by repeat (first | exact trivial | refine ⟨rfl, ?_⟩))) (fun ⟨x100, x101⟩ h102 => ?_)
      refine go Try.tbs_ok 1000 ?_
      refine ev_need ⟨⟨(by repeat (first | exact trivial | refine ⟨rfl, ?_⟩)), rfl⟩, by kernel_rfl⟩ ?_
      refine ev_callF (V2 ) [3] [] rfl rfl (by decide) rfl (by simp) (fun _ => (by repeat (first | exact trivial | refine ⟨rfl, ?_⟩))) (fun ⟨x103, x104⟩ h105 => ?_)
      refine go Try.tbs_ok 1000 ?_
      refine ev_need ⟨⟨(by repeat (first | exact trivial | refine ⟨rfl, ?_⟩)), rfl⟩, by kernel_rfl⟩ ?_
      refine ev_need ⟨⟨(by repeat (first | exact trivial | refine ⟨rfl, ?_⟩)), rfl⟩, by kernel_rfl⟩ ?_
      refine ev_need (by kernel_rfl) ?_
      refine ev_stop (go_loopR [6, 14, 83, 84, 85, 86, 87, 88, 89, 90, 91, 92, 93, 94, 95, 96, 97, 98] (fun q => [(14, .va (.int .i64 (q : Nat)))]) (fun _ => []) (fun q => 1 ≤ q ∧ q ≤ M.length + 1) (fun q => M.length + 1 - q) (1 : Nat) ⟨Nat.le_refl _, by omega⟩ ⟨⟨by kernel_rfl, by kernel_rfl⟩, ⟨_, rfl⟩, ⟨_, rfl⟩, by kernel_rfl, by kernel_rfl⟩ (fun q h_ => ?_))
      obtain ⟨hq1, hq2⟩ := h_
      refine go Try.tbs_ok 1000 ?_
      refine ev_if_lt (fun h120 => ?_) (fun h120 => ?_)
      refine go Try.tbs_ok 1000 ?_
      refine ev_stop (go_draw Try.tbs_ok true [0, 1, 2, 3, 4, 5] [(0,true),(1,true),(2,true),(3,true),(4,true),(5,true),(6,true),(7,true),(8,true),(9,true)] rfl ?_)
      refine go Try.tbs_ok 1000 ?_
      refine ev_need ⟨⟨(by repeat (first | exact trivial | refine ⟨rfl, ?_⟩)), rfl⟩, by kernel_rfl⟩ ?_
      refine ev_wrapN (q - 1) (by constructor <;> omega) (by omega) ?_
      refine ev_stop (tk_index0 (sz := 1) Try.tbs_ok (.inr 4) (q - 1) ⟨⟨(by repeat (first | exact trivial | refine ⟨rfl, ?_⟩)), rfl⟩, by kernel_rfl⟩ rfl rfl rfl rfl rfl rfl rfl (by omega) rfl Row.at0 (fun g121 e122 => ?_))
      subst e122
      refine go Try.tbs_ok 1000 ?_
      refine ev_need ⟨⟨(by repeat (first | exact trivial | refine ⟨rfl, ?_⟩)), rfl⟩, by kernel_rfl⟩ ?_
      have l123 : q - 1 < (M).length := (by omega)
      refine ev_stop (tk_loadE Try.tbs_ok (.inr 4) (q - 1) 0 ⟨⟨(by repeat (first | exact trivial | refine ⟨rfl, ?_⟩)), rfl⟩, by kernel_rfl⟩ rfl rfl rfl rfl rfl (fun _ h => Row.rd h) (by omega) (fun _ => rfl) (by omega) l123 (by decide) ?_)
      refine go Try.tbs_ok 1000 ?_
      refine ev_need ⟨⟨(by repeat (first | exact trivial | refine ⟨rfl, ?_⟩)), rfl⟩, by kernel_rfl⟩ ?_
      refine ev_stop (tk_atE (sz := 1) Try.tbs_ok (q) ⟨⟨(by repeat (first | exact trivial | refine ⟨rfl, ?_⟩)), rfl⟩, by kernel_rfl⟩ rfl rfl rfl rfl rfl rfl rfl (by omega) ?_)
      refine go Try.tbs_ok 1000 ?_
      refine ev_need ⟨⟨(by repeat (first | exact trivial | refine ⟨rfl, ?_⟩)), rfl⟩, by kernel_rfl⟩ ?_
      have l124 : q < (M).length := (by omega)
      refine ev_stop (tk_loadE Try.tbs_ok (.inr 4) (q) 0 ⟨⟨(by repeat (first | exact trivial | refine ⟨rfl, ?_⟩)), rfl⟩, by kernel_rfl⟩ rfl rfl rfl rfl rfl (fun _ h => Row.rd h) (by omega) (fun _ => rfl) (by omega) l124 (by decide) ?_)
      refine go Try.tbs_ok 1000 ?_
      refine ev_need ⟨⟨(by repeat (first | exact trivial | refine ⟨rfl, ?_⟩)), rfl⟩, by kernel_rfl⟩ ?_
      refine ev_if_lt (fun h125 => ?_) (fun h125 => ?_)
      refine go Try.tbs_ok 1000 ?_
      refine ev_fin ⟨trivial, _, rfl, (()), ?_, (by trivial), Frm.nil _⟩
      rotate_left
      refine go Try.tbs_ok 1000 ?_
      refine ev_wrapN (q + 1) (by constructor <;> omega) (by rfl) ?_
      refine ev_fin (round_next (q + 1) (show 1 ≤ q + 1 ∧ q + 1 ≤ M.length + 1 from (by omega)) (show M.length + 1 - (q + 1) < M.length + 1 - q from (by omega)) ⟨⟨by kernel_rfl, by kernel_rfl⟩, ⟨_, rfl⟩, ⟨_, rfl⟩, by kernel_rfl, by kernel_rfl⟩)
      refine go Try.tbs_ok 1000 ?_
      refine ev_fin (go Try.tbs_ok 1000 ?_)
      refine ev_callF (V3 ) [2] [] rfl rfl (by decide) rfl (by simp) (fun _ => (by repeat (first | exact trivial | refine ⟨rfl, ?_⟩))) (fun ⟨x126, x127⟩ h128 => ?_)
      refine go Try.tbs_ok 1000 ?_
      refine ev_callF (V4 (x100) (x103) (x101) (x104)) [] [.inr 4, .inr 5] rfl rfl (by decide) rfl (by simp) (fun _ => (by repeat (first | exact trivial | refine ⟨rfl, ?_⟩))) (fun _ h129 => ?_)
      refine go Try.tbs_ok 1000 ?_
      refine ev_if_yes rfl ?_
      refine go Try.tbs_ok 1000 ?_
      refine ev_if_yes (beq_iff_eq.2 (show (↑n : Int) = 0 from (by omega))) ?_
      refine go Try.tbs_ok 1000 ?_
      refine ev_if_yes rfl ?_
      refine go Try.tbs_ok 1000 ?_
      refine ev_callF (lives ) [] [] rfl rfl (by decide) rfl (by simp) (fun _ => (by repeat (first | exact trivial | refine ⟨rfl, ?_⟩))) (fun _ h130 => ?_)
      refine go Try.tbs_ok 1000 ?_
      refine ev_fin ⟨trivial, _, rfl, (()), rfl, (by trivial), Frm.nil _⟩
      exact absurd h125 (Int.not_le.2 (List.pairwise_iff_getElem.1 hMr (q - 1) q l123 l124 (by omega)))
    · rw [if_neg hn0] at f1
      have V3 := tTakeN x22 T1 _ v1 v2 1 [6] f1 rfl rfl
      have V5 := fun A c bb => sameLit A [6] 1 c bb 1 [6] rfl rfl (by decide)
      rw [decide_eq_true rfl] at V5
      refine go Try.tbs_ok 1000 ?_
      refine ev_fin (go Try.tbs_ok 1000 ?_)
      refine ev_stop (go_draw Try.tbs_ok false [0] [(0,true),(1,true),(2,true),(3,true),(4,true),(6,true),(7,true),(8,true),(9,true),(10,true),(5,false),(11,false),(12,false),(13,false)] rfl ?_)
      refine go Try.tbs_ok 1000 ?_
      refine ev_need ⟨⟨(by repeat (first | exact trivial | refine ⟨rfl, ?_⟩)), rfl⟩, by kernel_rfl⟩ ?_
      refine ev_callF (V1 ) [2] [] rfl rfl (by decide) rfl (by simp) (fun _ => (by repeat (first | exact trivial | refine ⟨rfl, ?_⟩))) (fun ⟨x200, x201⟩ h202 => ?_)
      refine go Try.tbs_ok 1000 ?_
      refine ev_need ⟨⟨(by repeat (first | exact trivial | refine ⟨rfl, ?_⟩)), rfl⟩, by kernel_rfl⟩ ?_
      refine ev_callF (V2 ) [3] [] rfl rfl (by decide) rfl (by simp) (fun _ => (by repeat (first | exact trivial | refine ⟨rfl, ?_⟩))) (fun ⟨x203, x204⟩ h205 => ?_)
      refine go Try.tbs_ok 1000 ?_
      refine ev_need ⟨⟨(by repeat (first | exact trivial | refine ⟨rfl, ?_⟩)), rfl⟩, by kernel_rfl⟩ ?_
      refine ev_need ⟨⟨(by repeat (first | exact trivial | refine ⟨rfl, ?_⟩)), rfl⟩, by kernel_rfl⟩ ?_
      refine ev_need (by kernel_rfl) ?_
      refine ev_stop (go_loopR [6, 14, 83, 84, 85, 86, 87, 88, 89, 90, 91, 92, 93, 94, 95, 96, 97, 98] (fun q => [(14, .va (.int .i64 (q : Nat)))]) (fun _ => []) (fun q => 1 ≤ q ∧ q ≤ M.length + 1) (fun q => M.length + 1 - q) (1 : Nat) ⟨Nat.le_refl _, by omega⟩ ⟨⟨by kernel_rfl, by kernel_rfl⟩, ⟨_, rfl⟩, ⟨_, rfl⟩, by kernel_rfl, by kernel_rfl⟩ (fun q h_ => ?_))
      obtain ⟨hq1, hq2⟩ := h_
      refine go Try.tbs_ok 1000 ?_
      refine ev_if_lt (fun h220 => ?_) (fun h220 => ?_)
      refine go Try.tbs_ok 1000 ?_
      refine ev_stop (go_draw Try.tbs_ok true [0, 1, 2, 3, 4, 5] [(0,true),(1,true),(2,true),(3,true),(4,true),(5,true),(6,true),(7,true),(8,true),(9,true)] rfl ?_)
      refine go Try.tbs_ok 1000 ?_
      refine ev_need ⟨⟨(by repeat (first | exact trivial | refine ⟨rfl, ?_⟩)), rfl⟩, by kernel_rfl⟩ ?_
      refine ev_wrapN (q - 1) (by constructor <;> omega) (by omega) ?_
      refine ev_stop (tk_index0 (sz := 1) Try.tbs_ok (.inr 4) (q - 1) ⟨⟨(by repeat (first | exact trivial | refine ⟨rfl, ?_⟩)), rfl⟩, by kernel_rfl⟩ rfl rfl rfl rfl rfl rfl rfl (by omega) rfl Row.at0 (fun g221 e222 => ?_))
      subst e222
      refine go Try.tbs_ok 1000 ?_
      refine ev_need ⟨⟨(by repeat (first | exact trivial | refine ⟨rfl, ?_⟩)), rfl⟩, by kernel_rfl⟩ ?_
      have l223 : q - 1 < (M).length := (by omega)
      refine ev_stop (tk_loadE Try.tbs_ok (.inr 4) (q - 1) 0 ⟨⟨(by repeat (first | exact trivial | refine ⟨rfl, ?_⟩)), rfl⟩, by kernel_rfl⟩ rfl rfl rfl rfl rfl (fun _ h => Row.rd h) (by omega) (fun _ => rfl) (by omega) l223 (by decide) ?_)
      refine go Try.tbs_ok 1000 ?_
      refine ev_need ⟨⟨(by repeat (first | exact trivial | refine ⟨rfl, ?_⟩)), rfl⟩, by kernel_rfl⟩ ?_
      refine ev_stop (tk_atE (sz := 1) Try.tbs_ok (q) ⟨⟨(by repeat (first | exact trivial | refine ⟨rfl, ?_⟩)), rfl⟩, by kernel_rfl⟩ rfl rfl rfl rfl rfl rfl rfl (by omega) ?_)
      refine go Try.tbs_ok 1000 ?_
      refine ev_need ⟨⟨(by repeat (first | exact trivial | refine ⟨rfl, ?_⟩)), rfl⟩, by kernel_rfl⟩ ?_
      have l224 : q < (M).length := (by omega)
      refine ev_stop (tk_loadE Try.tbs_ok (.inr 4) (q) 0 ⟨⟨(by repeat (first | exact trivial | refine ⟨rfl, ?_⟩)), rfl⟩, by kernel_rfl⟩ rfl rfl rfl rfl rfl (fun _ h => Row.rd h) (by omega) (fun _ => rfl) (by omega) l224 (by decide) ?_)
      refine go Try.tbs_ok 1000 ?_
      refine ev_need ⟨⟨(by repeat (first | exact trivial | refine ⟨rfl, ?_⟩)), rfl⟩, by kernel_rfl⟩ ?_
      refine ev_if_lt (fun h225 => ?_) (fun h225 => ?_)
      refine go Try.tbs_ok 1000 ?_
      refine ev_fin ⟨trivial, _, rfl, (()), ?_, (by trivial), Frm.nil _⟩
      rotate_left
      refine go Try.tbs_ok 1000 ?_
      refine ev_wrapN (q + 1) (by constructor <;> omega) (by rfl) ?_
      refine ev_fin (round_next (q + 1) (show 1 ≤ q + 1 ∧ q + 1 ≤ M.length + 1 from (by omega)) (show M.length + 1 - (q + 1) < M.length + 1 - q from (by omega)) ⟨⟨by kernel_rfl, by kernel_rfl⟩, ⟨_, rfl⟩, ⟨_, rfl⟩, by kernel_rfl, by kernel_rfl⟩)
      refine go Try.tbs_ok 1000 ?_
      refine ev_fin (go Try.tbs_ok 1000 ?_)
      refine ev_callF (V3 ) [2] [] rfl rfl (by decide) rfl (by simp) (fun _ => (by repeat (first | exact trivial | refine ⟨rfl, ?_⟩))) (fun ⟨x226, x227⟩ h228 => ?_)
      refine go Try.tbs_ok 1000 ?_
      refine ev_callF (V4 (x200) (x203) (x201) (x204)) [] [.inr 4, .inr 5] rfl rfl (by decide) rfl (by simp) (fun _ => (by repeat (first | exact trivial | refine ⟨rfl, ?_⟩))) (fun _ h229 => ?_)
      refine go Try.tbs_ok 1000 ?_
      refine ev_if_yes rfl ?_
      refine go Try.tbs_ok 1000 ?_
      refine ev_if_no (beq_eq_false_iff_ne.2 (show ¬(↑n : Int) = 0 from (by omega))) ?_
      refine go Try.tbs_ok 1000 ?_
      refine ev_new fun b230 => ?_
      refine ev_callF (V5 (x226) (x227) (b230)) [] [.inr 6, .inr 7] rfl rfl (by decide) rfl (by simp) (fun _ => (by repeat (first | exact trivial | refine ⟨rfl, ?_⟩))) (fun _ h231 => ?_)
      refine go Try.tbs_ok 1000 ?_
      refine ev_if_yes rfl ?_
      refine go Try.tbs_ok 1000 ?_
      refine ev_callF (lives ) [] [] rfl rfl (by decide) rfl (by simp) (fun _ => (by repeat (first | exact trivial | refine ⟨rfl, ?_⟩))) (fun _ h232 => ?_)
      refine go Try.tbs_ok 1000 ?_
      refine ev_fin ⟨trivial, _, rfl, (()), rfl, (by trivial), Frm.nil _⟩
      exact absurd h225 (Int.not_le.2 (List.pairwise_iff_getElem.1 hMr (q - 1) q l223 l224 (by omega)))
end Go.Proofs.Ytkjpfodnbjbmfaa
