/-
  What is proved: one number is struck from a list. Conditions: none.
-/
import Derived.Test.YtkjpfodnbjbmfaaRE
import Derived.Test.YtkjpfodnbjbmfaaSyr
namespace Go.Proofs.Ytkjpfodnbjbmfaa
open Go.Sy Go.RowKit

theorem row_shrink {e sz n k c : Nat} {A : Option Addr} {α : Type} {enc : α → List Value} (hlen : ∀ x, (enc x).length = sz) {L : List α} {h : Hp} (p : (Row e sz A n c (L.flatMap enc)).holds h) (hk : k ≤ n) : (Row e sz A k c ((L.take k).flatMap enc)).holds h := by
  obtain ⟨p1, p2, p3⟩ := p
  have hkn : k * sz ≤ n * sz := Nat.mul_le_mul_right _ hk
  refine ⟨?_, fun v hv => p2 v ?_, ?_⟩
  · rw [← flat_take hlen, List.length_take]; omega
  · rw [← flat_take hlen] at hv; exact List.mem_of_mem_take hv
  · rcases p3 with ⟨h1, h2, h3⟩ | ⟨g, cur, h1, h2, h3, h4, h5, h6⟩
    · exact .inl ⟨h1, by omega, h3⟩
    · exact .inr ⟨g, cur, h1, h2, by omega, h4, h5, by rw [← flat_take hlen, ← h6, List.take_take, Nat.min_eq_left hkn]⟩
/-- the function that tells whether a number is that one -/
def eqFn (bo : Nat) : Value := .func (.func 26) #[] #[.pointer (some ⟨bo, 0, none⟩)]
set_option maxRecDepth 100000 in
theorem isThat (bo : Nat) (x o : Int) : Triple Try.prog 26 [.int .i64 x, .pointer (some ⟨bo, 0, none⟩)] [Pt bo 3 [.int .i64 o]] [] Unit (fun _ => .bool (x == o)) (fun _ => True) (fun _ => [Pt bo 3 [.int .i64 o]]) := by
  refine triple_intro Try.tbs_ok Try.func26 rfl [.va (.int .i64 x), .pt 0 bo 0] [.box bo 3 [.va (.int .i64 o)]] ⟨trivial, rfl, trivial⟩ rfl (by simp [SV.good, SV.goodL]) ?_
  intro E
  refine go Try.tbs_ok 1000 ?_
  refine ev_fin ⟨trivial, _, rfl, (()), rfl, (by trivial), Frm.sel [0] rfl (by decide)⟩
set_option maxRecDepth 100000 in
theorem indexF (A : Option Addr) (L : List Int) (n c bo : Nat) (o : Int) (hn : n = L.length) (h1 : n ≤ 1000) (hm : o ∈ L) :
    Triple Try.prog 32 [.slice A n c, eqFn bo] [Pt bo 3 [.int .i64 o]] [Rd 1 A n (L.flatMap encN)] Nat (fun k => .int .i64 (k : Nat)) (fun k => k < n ∧ L[k]? = some o ∧ o ∉ L.take k) (fun _ => [Pt bo 3 [.int .i64 o]]) := by
  refine triple_intro Try.tbs_ok Try.func32 rfl [.va (.slice A n c), .va (eqFn bo)] [.box bo 3 [.va (.int .i64 o)]] ⟨trivial, trivial, trivial⟩ rfl (by simp [SV.good, SV.goodL]) ?_
  intro E
  refine go Try.tbs_ok 1000 ?_
  refine ev_stop (go_loopR [4, 5, 8, 9, 10, 11, 12, 13, 14, 15, 16, 17, 18] (fun i => [(8, .va (.int .i64 (i : Nat)))]) (fun _ => []) (fun i => i ≤ n ∧ o ∉ L.take i) (fun i => n - i) (0 : Nat) ⟨Nat.zero_le _, (by simp)⟩ ⟨⟨by kernel_rfl, by kernel_rfl⟩, ⟨_, rfl⟩, ⟨_, rfl⟩, by kernel_rfl, by kernel_rfl⟩ (fun i h_ => ?_))
  obtain ⟨hi, hne⟩ := h_
  refine go Try.tbs_ok 1000 ?_
  refine ev_if_lt (fun hlt => ?_) (fun hge => ?_)
  · refine go Try.tbs_ok 1000 ?_
    refine ev_stop (go_indexE (sz := 1) Try.tbs_ok (.inl 0) (i) rfl rfl rfl rfl rfl rfl (by omega) rfl (fun _ h => h) (fun g20 o22 e21 => ?_))
    subst e21
    refine go Try.tbs_ok 1000 ?_
    have l23 : i < (L).length := (by omega)
    refine ev_stop (go_loadE Try.tbs_ok (.inl 0) (i) 0 rfl rfl rfl rfl (fun _ h => h) (by omega) (fun _ => rfl) (by omega) l23 (by decide) ?_)
    refine go Try.tbs_ok 1000 ?_
    refine ev_call (isThat (bo) (L[i]) (o)) [0] [] (fun v0_ => [.box (bo) 3 [.va (Value.int IntKind.i64 o)]]) rfl rfl (by decide) rfl (by simp) (fun _ => rfl) (fun _ => (newsOk_box (by simp [SV.good, SV.goodL]) (newsOk_nil _))) (fun _ => (by repeat (first | exact trivial | refine ⟨rfl, ?_⟩))) (fun _ h24 => ?_)
    refine go Try.tbs_ok 1000 ?_
    refine ev_if_eq (fun h25 => ?_) (fun h25 => ?_)
    refine go Try.tbs_ok 1000 ?_
    refine ev_fin ⟨trivial, _, rfl, (i), rfl, (by simp [*]), Frm.sel [0] rfl (by decide)⟩
    refine go Try.tbs_ok 1000 ?_
    refine ev_wrapN (i + 1) (by constructor <;> omega) (by rfl) ?_
    refine ev_fin (round_next (i + 1) (?_ : i + 1 ≤ n ∧ ¬o ∈ List.take (i + 1) L) (show n - (i + 1) < n - i from (by omega)) ⟨⟨by kernel_rfl, by kernel_rfl⟩, ⟨_, rfl⟩, ⟨_, rfl⟩, by kernel_rfl, by kernel_rfl⟩)
    · refine ⟨by omega, fun hx => ?_⟩
      rw [← List.take_append_getElem l23] at hx
      rcases List.mem_append.1 hx with hx | hx
      · exact hne hx
      · exact h25 (List.mem_singleton.1 hx).symm
  · exfalso
    rw [List.take_of_length_le (by omega)] at hne
    exact hne hm
set_option maxRecDepth 100000 in
theorem deleteF (A : Option Addr) (L : List Int) (n c bo : Nat) (o : Int) (hn : n = L.length) (h1 : n ≤ 1000) (hm : o ∈ L) :
    Triple Try.prog 25 [.slice A n c, eqFn bo] [Row 3 1 A n c (L.flatMap encN), Pt bo 3 [.int .i64 o]] [] Nat (fun m => .slice A m c) (fun m => m = (L.filter (· != o)).length)
      (fun m => [Row 3 1 A m c ((L.filter (· != o)).flatMap encN), Pt bo 3 [.int .i64 o]]) := by
  have T1 := (indexF A L n c bo o hn h1 hm).ofRow 3 c
  refine triple_intro Try.tbs_ok Try.func25 rfl [.va (.slice A n c), .va (eqFn bo)] [.fact (Row 3 1 A n c (L.flatMap encN)), .box bo 3 [.va (.int .i64 o)]] ⟨trivial, trivial, trivial⟩ rfl (by simp [SV.good, SV.goodL]) ?_
  intro E
  refine go_know (.inr 0) (Row 3 1 A n c (L.flatMap encN)) rfl (p := n ≤ c) (fun _ p => Row.cap p) fun hc => ?_
  have hn0 : 0 < n := by
    have := List.length_pos_of_mem hm
    omega
  refine go_know (.inr 0) (Row 3 1 A n c (L.flatMap encN)) rfl (p := ∃ g, A = some ⟨g, 0, none⟩) (fun h p => Row.at0 h p hn0) ?_
  rintro ⟨g, rfl⟩
  refine go Try.tbs_ok 1000 ?_
  refine ev_call (T1 ) [1] [.inr 0] (fun v0_ => [.box (bo) 3 [.va (Value.int IntKind.i64 o)]]) rfl rfl (by decide) rfl (by simp) (fun _ => rfl) (fun _ => (newsOk_box (by simp [SV.good, SV.goodL]) (newsOk_nil _))) (fun _ => (by repeat (first | exact trivial | refine ⟨rfl, ?_⟩))) (fun x0 ⟨h1, h2, h3⟩ => ?_)
  refine go Try.tbs_ok 1000 ?_
  refine ev_if_no rfl ?_
  refine go Try.tbs_ok 1000 ?_
  refine ev_wrapN (x0 + 1) (by constructor <;> omega) (by rfl) ?_
  have hx0 : x0 < L.length := by omega
  have hLx : L[x0] = o := by rw [List.getElem?_eq_getElem hx0] at h2; exact Option.some.inj h2
  have hf0 : (L.take (x0 + 1)).filter (· != o) = L.take x0 := by
    rw [← List.take_append_getElem hx0, List.filter_append, hLx, List.filter_cons_of_neg (by simp), List.filter_nil, List.append_nil]
    exact List.filter_eq_self.2 fun y hy => by
      have : y ≠ o := fun e => h3 (e ▸ hy)
      simpa using this
  have hl0 : (L.take x0).length = x0 := by rw [List.length_take]; omega
  refine ev_stop (go_loopR [5, 6, 7, 16, 17, 18, 19, 20, 21, 22, 23, 24, 25, 26, 27, 28, 29, 30, 31, 32, 33, 34, 35] (fun (j, i, _) => [(5, .va (.int .i64 (i : Nat))), (6, .va (.int .i64 (j : Nat)))]) (fun (_, _, C) => [(0, .fact (Row 3 1 (some ⟨g, 0, none⟩) n c (C.flatMap encN)))]) (fun (j, i, C) => j ≤ n ∧ i < j ∧ C.length = n ∧ i = ((L.take j).filter (· != o)).length ∧ C.take i = (L.take j).filter (· != o) ∧ C.drop j = L.drop j) (fun (j, _, _) => n - j) ((x0 + 1, x0, L) : Nat × Nat × List Int) ⟨h1, Nat.lt_succ_self _, hn.symm, by rw [hf0, hl0], hf0.symm, rfl⟩ ⟨⟨by kernel_rfl, by kernel_rfl⟩, ⟨_, rfl⟩, ⟨_, rfl⟩, by kernel_rfl, by kernel_rfl⟩ (fun x_ h_ => ?_))
  obtain ⟨j, i, C⟩ := x_
  obtain ⟨hj, hij, hC, hi, hF, hD⟩ := h_
  refine go Try.tbs_ok 1000 ?_
  refine ev_if_lt (fun hlt => ?_) (fun hge => ?_)
  · have hjn : j < n := by
      have : (j : Int) < (n : Int) := hlt
      omega
    have hCj : C[j]'(by omega) = L[j]'(by omega) := by
      have : (C.drop j)[0]? = (L.drop j)[0]? := by rw [hD]
      rw [List.getElem?_drop, List.getElem?_drop, Nat.add_zero, List.getElem?_eq_getElem (by omega), List.getElem?_eq_getElem (by omega)] at this
      exact Option.some.inj this
    have hstep : (L.take (j + 1)).filter (· != o) = (L.take j).filter (· != o) ++ [L[j]'(by omega)].filter (· != o) := by
      rw [← List.take_append_getElem (show j < L.length by omega), List.filter_append]
    have hD1 : C.drop (j + 1) = L.drop (j + 1) := by rw [← List.drop_drop, ← List.drop_drop, hD]
    refine go Try.tbs_ok 1000 ?_
    refine ev_stop (go_atE (sz := 1) Try.tbs_ok (j) rfl rfl rfl rfl rfl rfl (by omega) ?_)
    refine go Try.tbs_ok 1000 ?_
    have l20 : j < (C).length := (by omega)
    refine ev_stop (go_loadE Try.tbs_ok (.inr 0) (j) 0 rfl rfl rfl rfl (fun _ h => Row.rd h) (by omega) (fun _ => rfl) (by omega) l20 (by decide) ?_)
    refine go Try.tbs_ok 1000 ?_
    refine ev_call (isThat (bo) (C[j]) (o)) [1] [] (fun v0_ => [.box (bo) 3 [.va (Value.int IntKind.i64 o)]]) rfl rfl (by decide) rfl (by simp) (fun _ => rfl) (fun _ => (newsOk_box (by simp [SV.good, SV.goodL]) (newsOk_nil _))) (fun _ => (by repeat (first | exact trivial | refine ⟨rfl, ?_⟩))) (fun _ h21 => ?_)
    refine go Try.tbs_ok 1000 ?_
    refine ev_if_ne (fun h22 => ?_) (fun h22 => ?_)
    refine go Try.tbs_ok 1000 ?_
    refine ev_stop (go_atE (sz := 1) Try.tbs_ok (i) rfl rfl rfl rfl rfl rfl (by omega) ?_)
    refine go Try.tbs_ok 1000 ?_
    have l23 : i < (C).length := (by omega)
    refine ev_stop (go_storeR Try.tbs_ok 0 (i) 0 (C[j]) rfl rfl rfl rfl rfl (by omega) (fun _ => rfl) (ones_of rfl) (by omega) l23 rfl (by decide) (ones_of rfl) rfl ?_)
    refine go Try.tbs_ok 1000 ?_
    refine ev_wrapN (i + 1) (by constructor <;> omega) (by rfl) ?_
    refine ev_wrapN (j + 1) (by constructor <;> omega) (by rfl) ?_
    refine ev_fin (round_next ((j + 1, i + 1, C.set i C[j])) (?_ : j + 1 ≤ n ∧ i + 1 < j + 1 ∧ (C.set i C[j]).length = n ∧ i + 1 = (List.filter (fun x ↦ x != o) (List.take (j + 1) L)).length ∧ List.take (i + 1) (C.set i C[j]) = List.filter (fun x ↦ x != o) (List.take (j + 1) L) ∧ List.drop (j + 1) (C.set i C[j]) = List.drop (j + 1) L) (show n - (j + 1) < n - j from (by omega)) ⟨⟨by kernel_rfl, by kernel_rfl⟩, ⟨_, rfl⟩, ⟨_, rfl⟩, by kernel_rfl, by kernel_rfl⟩)
    rotate_left
    refine go Try.tbs_ok 1000 ?_
    refine ev_wrapN (j + 1) (by constructor <;> omega) (by rfl) ?_
    refine ev_fin (round_next ((j + 1, i, C)) (?_ : j + 1 ≤ n ∧ i < j + 1 ∧ C.length = n ∧ i = (List.filter (fun x ↦ x != o) (List.take (j + 1) L)).length ∧ List.take i C = List.filter (fun x ↦ x != o) (List.take (j + 1) L) ∧ List.drop (j + 1) C = List.drop (j + 1) L) (show n - (j + 1) < n - j from (by omega)) ⟨⟨by kernel_rfl, by kernel_rfl⟩, ⟨_, rfl⟩, ⟨_, rfl⟩, by kernel_rfl, by kernel_rfl⟩)
    rotate_left
    · have hne : L[j]'(by omega) ≠ o := by rw [← hCj]; assumption
      rw [List.filter_cons_of_pos (by simpa using hne), List.filter_nil] at hstep
      refine ⟨by omega, by omega, by rw [List.length_set]; exact hC, by rw [hstep, List.length_append, ← hi]; rfl, ?_, ?_⟩
      · rw [hstep, ← hF, ← List.take_append_getElem (l := C.set i (C[j]'(by omega))) (i := i) (by rw [List.length_set]; omega), List.take_set, List.set_eq_of_length_le (by rw [List.length_take]; omega), List.getElem_set_self, hCj]
      · rw [List.drop_set_of_lt (by omega)]
        exact hD1
    · have he : L[j]'(by omega) = o := by rw [← hCj]; assumption
      rw [List.filter_cons_of_neg (by simp [he]), List.filter_nil, List.append_nil] at hstep
      exact ⟨by omega, by omega, hC, by rw [hstep]; exact hi, by rw [hstep]; exact hF, hD1⟩
  · have hjn : j = n := by
      have : ¬ (j : Int) < (n : Int) := hge
      omega
    rw [hjn, show L.take n = L from List.take_of_length_le (by omega)] at hF hi
    refine go Try.tbs_ok 1000 ?_
    refine ev_fin (go Try.tbs_ok 1000 ?_)
    refine ev_stop (go_back Try.tbs_ok (i) (n) (c) rfl rfl rfl rfl rfl ⟨_, rfl⟩ rfl rfl (by decide) (by omega) (by omega) (by omega) ?_)
    refine go Try.tbs_ok 1000 ?_
    refine ev_stop (go_clear (sz := 1) (enc := encN) Try.tbs_ok 0 (i) (C) ((C).take (i) ++ List.replicate (n - i) (0) ++ (C).drop ((i) + (n - i))) (0) rfl rfl rfl rfl rfl (by decide) rfl rfl rfl (backA_at (by omega)) (fun _ => rfl) (by omega) (by omega) rfl ?_)
    refine go Try.tbs_ok 1000 ?_
    refine ev_stop (go_front Try.tbs_ok (i) (c) rfl rfl rfl rfl rfl rfl ⟨_, rfl⟩ rfl (by decide) (by omega) (by omega) ?_)
    refine go Try.tbs_ok 1000 ?_
    have hT : (C.take i ++ List.replicate (n - i) 0 ++ C.drop (i + (n - i))).take i = L.filter (· != o) := by
      rw [List.append_assoc, List.take_append_of_le_length (by rw [List.length_take]; omega), List.take_take, Nat.min_self, hF]
    refine ev_fin ⟨trivial, _, rfl, i, rfl, hi, Frm.imp (M := [Row 3 1 (some ⟨g, 0, none⟩) n c ((C.take i ++ List.replicate (n - i) 0 ++ C.drop (i + (n - i))).flatMap encN), Pt bo 3 [.int .i64 o]]) [0, 1] rfl (by decide) (fun h q => ?_)⟩
    obtain ⟨h1', h2', d, a, b, p, q⟩ := q
    refine ⟨h1', h2', d, a, b, ?_, q⟩
    rw [← hT]
    exact row_shrink (enc := encN) (sz := 1) (fun _ => rfl) p (by omega)
end Go.Proofs.Ytkjpfodnbjbmfaa
