/-
  What is proved: the document's table: what its functions tell. Conditions: none.
-/
import Derived.Test.YtkjpfodnbjbmfaaRQ
namespace Go.Proofs.Ytkjpfodnbjbmfaa
open Go.Sy

/-- who waits for what -/
structure WR where
  s : Int
  i : Int
  o : Int
  deriving DecidableEq
def encW (x : WR) : List Value := [.int .i64 x.s, .int .i64 x.i, .int .i64 x.o]
theorem encW_len (x : WR) : (encW x).length = 3 := rfl
instance : Inhabited WR := ⟨⟨0, 0, 0⟩⟩
theorem okW : EqOk Try.prog 56 := ⟨by kernel_rfl, by kernel_rfl⟩
theorem eqW (x y : WR) (w : World) : (Op.equalIn 10000 56 (.agg #[.int .i64 x.s, .int .i64 x.i, .int .i64 x.o]) (.agg #[.int .i64 y.s, .int .i64 y.i, .int .i64 y.o])).run Try.prog w = .ok (decide (x = y)) w := by
  have : decide (x = y) = (x.s == y.s && (x.i == y.i && (x.o == y.o && true))) := by
    obtain ⟨a1, a2, a3⟩ := x
    obtain ⟨b1, b2, b3⟩ := y
    rw [Bool.eq_iff_iff]
    simp
  rw [this]
  refine eq_struct (d := 9999) okW rfl ?_
  iterate 3 refine eqF_int (by decide) int_und rfl rfl ?_
  exact eqF_nil
def WR.key (x : WR) : Key := (x.s, x.i)
/-- different keys, in the order in which they came -/
def kd (W : List WR) : List Key := W.foldl (fun acc x => if x.key ∈ acc then acc else acc ++ [x.key]) []
theorem kd_step (W : List WR) (x : WR) : kd (W ++ [x]) = if x.key ∈ kd W then kd W else kd W ++ [x.key] := by
  unfold kd
  rw [List.foldl_append]
  rfl
theorem kd_mem (W : List WR) : ∀ k, k ∈ kd W ↔ ∃ x ∈ W, x.key = k := by
  have key : ∀ (n : Nat) (W : List WR), W.length = n → ∀ k, k ∈ kd W ↔ ∃ x ∈ W, x.key = k := by
    intro n
    induction n with
    | zero =>
      intro W h k
      rw [List.eq_nil_of_length_eq_zero h]
      simp [kd]
    | succ n ih =>
      intro W h k
      obtain ⟨V, x, rfl⟩ : ∃ V x, W = V ++ [x] := ⟨W.dropLast, W.getLast (fun e => by rw [e] at h; cases h), (List.dropLast_concat_getLast _).symm⟩
      have ihv := ih V (by simpa using h) 
      rw [kd_step]
      by_cases hx : x.key ∈ kd V
      · rw [if_pos hx, ihv]
        constructor
        · rintro ⟨y, hy, e⟩
          exact ⟨y, List.mem_append_left _ hy, e⟩
        · rintro ⟨y, hy, e⟩
          rcases List.mem_append.1 hy with hy | hy
          · exact ⟨y, hy, e⟩
          · rw [List.mem_singleton.1 hy] at e
            exact (ihv k).1 (e ▸ hx)
      · rw [if_neg hx, List.mem_append, ihv, List.mem_singleton]
        constructor
        · rintro (⟨y, hy, e⟩ | e)
          · exact ⟨y, List.mem_append_left _ hy, e⟩
          · exact ⟨x, by simp, e.symm⟩
        · rintro ⟨y, hy, e⟩
          rcases List.mem_append.1 hy with hy | hy
          · exact .inl ⟨y, hy, e⟩
          · rw [List.mem_singleton.1 hy] at e
            exact .inr e.symm
  exact key _ W rfl
theorem kd_len (W : List WR) : (kd W).length ≤ W.length := by
  have key : ∀ (n : Nat) (W : List WR), W.length = n → (kd W).length ≤ W.length := by
    intro n
    induction n with
    | zero => intro W h; rw [List.eq_nil_of_length_eq_zero h]; simp [kd]
    | succ n ih =>
      intro W h
      obtain ⟨V, x, rfl⟩ : ∃ V x, W = V ++ [x] := ⟨W.dropLast, W.getLast (fun e => by rw [e] at h; cases h), (List.dropLast_concat_getLast _).symm⟩
      have := ih V (by simpa using h)
      rw [kd_step]
      split <;> simp <;> omega
  exact key _ W rfl
set_option maxRecDepth 100000 in
theorem rHas (r : Nat) (A : Option Addr) (W : List WR) (n c : Nat) (s i o : Int) (hn : n = W.length) (h1 : n ≤ 1000) :
    Triple Try.prog 20 [.pointer (some ⟨r, 0, none⟩), .int .i64 s, .int .i64 i, .int .i64 o] [Pt r 39 [.slice A n c], Row 56 3 A n c (W.flatMap encW)] [] Unit (fun _ => .bool (decide ((⟨s, i, o⟩ : WR) ∈ W))) (fun _ => True)
      (fun _ => [Pt r 39 [.slice A n c], Row 56 3 A n c (W.flatMap encW)]) := by
  refine triple_intro Try.tbs_ok Try.func20 rfl [.pt 0 r 0, .va (.int .i64 s), .va (.int .i64 i), .va (.int .i64 o)] [.box r 39 [.va (.slice A n c)], .fact (Row 56 3 A n c (W.flatMap encW))] ⟨rfl, trivial, trivial, trivial, trivial⟩ rfl (by simp [SV.good, SV.goodL]) ?_
  intro E
  refine go Try.tbs_ok 1000 ?_
  refine ev_stop (go_loopR [8, 9, 10, 11, 12, 13, 14, 15, 16, 17, 18, 19, 20, 21, 22, 23, 24, 25, 26, 27, 28, 29, 30] (fun j => [(9, .va (.int .i64 (j : Nat)))]) (fun _ => []) (fun j => j ≤ n ∧ (⟨s, i, o⟩ : WR) ∉ W.take j) (fun j => n - j) (0 : Nat) ⟨Nat.zero_le _, (by simp)⟩ ⟨⟨by kernel_rfl, by kernel_rfl⟩, ⟨_, rfl⟩, ⟨_, rfl⟩, by kernel_rfl, by kernel_rfl⟩ (fun j h_ => ?_))
  obtain ⟨hj, hne⟩ := h_
  refine go Try.tbs_ok 1000 ?_
  refine ev_if_lt (fun h20 => ?_) (fun h20 => ?_)
  refine go Try.tbs_ok 1000 ?_
  refine ev_stop (go_index0 (sz := 3) Try.tbs_ok (.inr 1) (j) rfl rfl rfl rfl rfl rfl (by omega) rfl Row.at0 (fun g21 e22 => ?_))
  subst e22
  refine go Try.tbs_ok 1000 ?_
  have l23 : j < (W).length := (by omega)
  refine ev_stop (go_loadE Try.tbs_ok (.inr 1) (j) 0 rfl rfl rfl rfl (fun _ h => Row.rd h) (by omega) (fun _ => rfl) (by omega) l23 (by decide) ?_)
  refine go Try.tbs_ok 1000 ?_
  rotate_left
  refine go Try.tbs_ok 1000 ?_
  refine ev_fin (go Try.tbs_ok 1000 ?_)
  refine ev_fin ⟨trivial, _, rfl, (()), ?_, (by trivial), Frm.sel [0, 1] rfl (by decide)⟩
  rotate_left
  · refine ev_stop (go_val rfl (.bq (decide (W[j]'(by omega) = (⟨s, i, o⟩ : WR)))) trivial (fun a w hR => eql_run (ev_denv hR.fr rfl rfl) (ev_denv hR.fr rfl rfl) (by kernel_rfl) (eqW (W[j]'(by omega)) ⟨s, i, o⟩ w)) ?_)
    refine go Try.tbs_ok 1000 ?_
    refine ev_if_lt (fun h40 => ?_) (fun h40 => ?_)
    refine go Try.tbs_ok 1000 ?_
    refine ev_fin ⟨trivial, _, rfl, (()), ?_, (by trivial), Frm.sel [0, 1] rfl (by decide)⟩
    rotate_left
    refine go Try.tbs_ok 1000 ?_
    refine ev_wrapN (j + 1) (by constructor <;> omega) (by rfl) ?_
    refine ev_fin (round_next (j + 1) (?_ : j + 1 ≤ n ∧ ¬{ s := s, i := i, o := o } ∈ List.take (j + 1) W) (show n - (j + 1) < n - j from (by omega)) ⟨⟨by kernel_rfl, by kernel_rfl⟩, ⟨_, rfl⟩, ⟨_, rfl⟩, by kernel_rfl, by kernel_rfl⟩)
    rotate_left
    · refine congrArg Value.bool (decide_eq_true ?_).symm
      have : W[j]'(by omega) = (⟨s, i, o⟩ : WR) := by first | assumption | (apply of_decide_eq_true; assumption)
      rw [← this]
      exact List.getElem_mem _
    · refine ⟨by omega, fun hx => ?_⟩
      have : ¬ W[j]'(by omega) = (⟨s, i, o⟩ : WR) := by first | assumption | (apply of_decide_eq_false; assumption)
      rw [← List.take_append_getElem (show j < W.length by omega)] at hx
      rcases List.mem_append.1 hx with hx | hx
      · exact hne hx
      · exact this (List.mem_singleton.1 hx).symm
  · rw [List.take_of_length_le (by omega)] at hne
    exact congrArg Value.bool (decide_eq_false hne).symm
set_option maxRecDepth 100000 in
theorem rWho (r : Nat) (A : Option Addr) (W : List WR) (n c : Nat) (s i : Int) (hn : n = W.length) (h1 : n ≤ 1000) :
    Triple Try.prog 24 [.pointer (some ⟨r, 0, none⟩), .int .i64 s, .int .i64 i] [Pt r 39 [.slice A n c], Row 56 3 A n c (W.flatMap encW)] [] (Option Addr × Nat × Nat × List Int) (fun (B, m, d, _) => .slice B m d)
      (fun (_, m, _, L) => m = L.length ∧ L.Pairwise (· < ·) ∧ ∀ x, x ∈ L ↔ (-1 ≤ x ∧ x < 7 ∧ (⟨s, i, x⟩ : WR) ∈ W))
      (fun (B, m, d, L) => [Pt r 39 [.slice A n c], Row 56 3 A n c (W.flatMap encW), Row 3 1 B m d (L.flatMap encN)]) := by
  have T1 := fun o => rHas r A W n c s i o hn h1
  refine triple_intro Try.tbs_ok Try.func24 rfl [.pt 0 r 0, .va (.int .i64 s), .va (.int .i64 i)] [.box r 39 [.va (.slice A n c)], .fact (Row 56 3 A n c (W.flatMap encW))] ⟨rfl, trivial, trivial, trivial⟩ rfl (by simp [SV.good, SV.goodL]) ?_
  intro E
  refine go Try.tbs_ok 1000 ?_
  refine ev_stop (go_fact (Row 3 1 none 0 0 (([] : List Int).flatMap encN)) (Row.nilE _ _) ?_)
  refine go Try.tbs_ok 1000 ?_
  refine ev_stop (go_loopR [7, 8, 9, 10, 11, 12, 13, 14, 15, 16, 17, 18, 19, 20, 21] (fun (o, B, m, d, _) => [(7, .va (.slice B m d)), (8, .va (.int .i64 o))]) (fun (_, B, m, d, L) => [(2, .fact (Row 3 1 B m d (L.flatMap encN)))]) (fun (o, _, m, _, L) => -1 ≤ o ∧ o ≤ 7 ∧ m = L.length ∧ (m : Int) ≤ o + 1 ∧ L.Pairwise (· < ·) ∧ ∀ x, x ∈ L ↔ (-1 ≤ x ∧ x < o ∧ (⟨s, i, x⟩ : WR) ∈ W)) (fun (o, _, _, _, _) => (7 - o).toNat) ((-1, none, 0, 0, []) : Int × Option Addr × Nat × Nat × List Int) ⟨Int.le_refl _, by decide, rfl, by decide, List.Pairwise.nil, (fun x => by simp; omega)⟩ ⟨⟨by kernel_rfl, by kernel_rfl⟩, ⟨_, rfl⟩, ⟨_, rfl⟩, by kernel_rfl, by kernel_rfl⟩ (fun x_ h_ => ?_))
  obtain ⟨o, B, m, d, L⟩ := x_
  obtain ⟨ho1, ho2, hm, hml, hLr, hLm⟩ := h_
  refine go Try.tbs_ok 1000 ?_
  refine ev_if_lt (fun h20 => ?_) (fun h20 => ?_)
  refine go Try.tbs_ok 1000 ?_
  refine ev_call (T1 (o)) [0, 1] [] (fun v0_ => [.box (r) 39 [.va (Value.slice A n c)], .fact (Row 56 3 A n c (List.flatMap encW W))]) rfl rfl (by decide) rfl (by simp) (fun _ => rfl) (fun _ => (newsOk_box (by simp [SV.good, SV.goodL]) (newsOk_fact (newsOk_nil _)))) (fun _ => (by repeat (first | exact trivial | refine ⟨rfl, ?_⟩))) (fun _ h21 => ?_)
  refine go Try.tbs_ok 1000 ?_
  refine ev_if_lt (fun h22 => ?_) (fun h22 => ?_)
  refine go Try.tbs_ok 1000 ?_
  refine ev_new fun b23 => ?_
  refine ev_stop (go_appendE (sz := 1) (M := [_]) (enc := encN) Try.tbs_ok [2] [] (.inr 3) (L) ([o]) ((L) ++ ([o])) (m + 1) rfl rfl rfl rfl rfl rfl rfl (by decide) rfl (by decide) (fun _ p => starH_one.1 p) rfl (fun _ p => Pt.rd p rfl) (by first | rfl | simp) (by first | rfl | omega) (le_app (s := m + 1) (by omega) (by first | rfl | omega)) (le_appb (s := m + 1) (by omega) (by first | rfl | omega) (by decide)) (fun _ _ => (by repeat (first | exact trivial | refine ⟨rfl, ?_⟩))) (fun A24 c25 h26 => ?_))
  refine go Try.tbs_ok 1000 ?_
  refine ev_w64 (by constructor <;> omega) ?_
  refine ev_fin (round_next ((o + 1, A24, m + 1, c25, L ++ [o])) (?_ : -1 ≤ o + 1 ∧ o + 1 ≤ 7 ∧ m + 1 = (L ++ [o]).length ∧ (↑(m + 1) : Int) ≤ o + 1 + 1 ∧ List.Pairwise (fun x1 x2 ↦ x1 < x2) (L ++ [o]) ∧ ∀ (x : Int), x ∈ L ++ [o] ↔ -1 ≤ x ∧ x < o + 1 ∧ { s := s, i := i, o := x } ∈ W) (show (7 - (o + 1)).toNat < (7 - o).toNat from (by omega)) ⟨⟨by kernel_rfl, by kernel_rfl⟩, ⟨_, rfl⟩, ⟨_, rfl⟩, by kernel_rfl, by kernel_rfl⟩)
  rotate_left
  refine go Try.tbs_ok 1000 ?_
  refine ev_w64 (by constructor <;> omega) ?_
  refine ev_fin (round_next ((o + 1, B, m, d, L)) (?_ : -1 ≤ o + 1 ∧ o + 1 ≤ 7 ∧ m = L.length ∧ (↑m : Int) ≤ o + 1 + 1 ∧ List.Pairwise (fun x1 x2 ↦ x1 < x2) L ∧ ∀ (x : Int), x ∈ L ↔ -1 ≤ x ∧ x < o + 1 ∧ { s := s, i := i, o := x } ∈ W) (show (7 - (o + 1)).toNat < (7 - o).toNat from (by omega)) ⟨⟨by kernel_rfl, by kernel_rfl⟩, ⟨_, rfl⟩, ⟨_, rfl⟩, by kernel_rfl, by kernel_rfl⟩)
  rotate_left
  refine go Try.tbs_ok 1000 ?_
  refine ev_fin (go Try.tbs_ok 1000 ?_)
  refine ev_fin ⟨trivial, _, rfl, ((B, m, d, L)), rfl, ?_, Frm.sel [0, 1, 2] rfl (by decide)⟩
  rotate_left
  · refine ⟨by omega, by omega, by rw [List.length_append, ← hm]; rfl, by omega, ?_, fun x => ?_⟩
    · rw [List.pairwise_append]
      exact ⟨hLr, List.pairwise_singleton _ _, fun y hy z hz => by rw [List.mem_singleton.1 hz]; exact ((hLm y).1 hy).2.1⟩
    · rw [List.mem_append, hLm, List.mem_singleton]
      constructor
      · rintro (⟨h1, h2, h3⟩ | rfl)
        · exact ⟨h1, by omega, h3⟩
        · exact ⟨by omega, by omega, by first | assumption | (apply of_decide_eq_true; assumption)⟩
      · rintro ⟨h1, h2, h3⟩
        rcases Int.lt_or_eq_of_le (Int.le_of_lt_add_one h2) with h4 | rfl
        · exact .inl ⟨h1, h4, h3⟩
        · exact .inr rfl
  · refine ⟨by omega, by omega, hm, by omega, hLr, fun x => ?_⟩
    rw [hLm]
    constructor
    · rintro ⟨h1, h2, h3⟩
      exact ⟨h1, by omega, h3⟩
    · rintro ⟨h1, h2, h3⟩
      rcases Int.lt_or_eq_of_le (Int.le_of_lt_add_one h2) with h4 | rfl
      · exact ⟨h1, h4, h3⟩
      · exact absurd h3 (by first | assumption | (apply of_decide_eq_false; assumption))
  · obtain rfl : o = 7 := by omega
    exact ⟨hm, hLr, hLm⟩
def noneK (W : List WR) (k : Nat) (K : Key) : Bool := (W.take k).all fun x => !decide (x.key = K)
theorem none_hit {W : List WR} {k : Nat} {K : Key} (hk : k < W.length) (h : W[k].key = K) : noneK W (k + 1) K = false := by
  unfold noneK
  rw [← List.take_append_getElem hk, List.all_append]
  simp [h]
theorem none_miss {W : List WR} {k : Nat} {K : Key} (hk : k < W.length) (h : W[k].key ≠ K) : noneK W (k + 1) K = noneK W k K := by
  unfold noneK
  rw [← List.take_append_getElem hk, List.all_append]
  simp [h]
theorem none_iff {W : List WR} {k : Nat} {K : Key} : noneK W k K = true ↔ K ∉ kd (W.take k) := by
  unfold noneK
  rw [List.all_eq_true]
  constructor
  · intro h hk
    obtain ⟨x, hx, e⟩ := (kd_mem _ _).1 hk
    have := h x hx
    simp [e] at this
  · intro h x hx
    have : x.key ≠ K := fun e => h ((kd_mem _ _).2 ⟨x, hx, e⟩)
    simp [this]
set_option maxRecDepth 100000 in
theorem rLen (r : Nat) (A : Option Addr) (W : List WR) (n c : Nat) (hn : n = W.length) (h1 : n ≤ 1000) :
    Triple Try.prog 18 [.pointer (some ⟨r, 0, none⟩)] [Pt r 39 [.slice A n c], Row 56 3 A n c (W.flatMap encW)] [] Unit (fun _ => .int .i64 ((kd W).length : Nat)) (fun _ => True)
      (fun _ => [Pt r 39 [.slice A n c], Row 56 3 A n c (W.flatMap encW)]) := by
  refine triple_intro Try.tbs_ok Try.func18 rfl [.pt 0 r 0] [.box r 39 [.va (.slice A n c)], .fact (Row 56 3 A n c (W.flatMap encW))] ⟨rfl, trivial⟩ rfl (by simp [SV.good, SV.goodL]) ?_
  intro E
  refine go Try.tbs_ok 1000 ?_
  refine ev_stop (go_loopR [3, 4, 5, 6, 7, 8, 9, 10, 11, 12, 13, 14, 15, 16, 17, 18, 19, 20, 21, 22, 23, 24, 25, 26, 27, 28, 29, 30, 31, 32, 33, 34, 35, 36, 37, 38, 39, 40, 41, 42, 43, 44, 45, 46, 47, 48, 49, 50, 51, 52, 53, 54, 55, 56, 57, 58, 59] (fun (j, m) => [(3, .va (.int .i64 (m : Nat))), (4, .va (.int .i64 (j : Nat)))]) (fun _ => []) (fun (j, m) => j ≤ n ∧ m ≤ j ∧ m = (kd (W.take j)).length) (fun (j, _) => n - j) ((0, 0) : Nat × Nat) ⟨Nat.zero_le _, Nat.le_refl _, rfl⟩ ⟨⟨by kernel_rfl, by kernel_rfl⟩, ⟨_, rfl⟩, ⟨_, rfl⟩, by kernel_rfl, by kernel_rfl⟩ (fun x_ h_ => ?_))
  obtain ⟨j, m⟩ := x_
  obtain ⟨hj, hmj, hm⟩ := h_
  refine go Try.tbs_ok 1000 ?_
  refine ev_if_lt (fun h20 => ?_) (fun h20 => ?_)
  refine go Try.tbs_ok 1000 ?_
  rotate_left
  refine go Try.tbs_ok 1000 ?_
  refine ev_fin (go Try.tbs_ok 1000 ?_)
  refine ev_fin ⟨trivial, _, rfl, (()), ?_, (by trivial), Frm.sel [0, 1] rfl (by decide)⟩
  rotate_left
  · have hjn : j < W.length := by omega
    obtain ⟨K, hK⟩ : ∃ K, K = W[j].key := ⟨_, rfl⟩
    have hK1 : W[j].s = K.1 := by rw [hK]; rfl
    have hK2 : W[j].i = K.2 := by rw [hK]; rfl
    refine ev_stop (go_slot 5 _ (.bq true) rfl rfl rfl (fun _ => trivial) ?_)
    refine go Try.tbs_ok 1000 ?_
    refine ev_stop (go_loopR [5, 6, 16, 17, 18, 19, 20, 21, 22, 23, 24, 25, 26, 27, 28, 29, 30, 31, 32, 33, 34, 35, 36, 37, 38, 39, 40, 41, 42, 43, 44, 45, 46, 47, 48, 49, 50, 51, 52, 53, 54, 55, 56] (fun (k, u) => [(5, .bq u), (6, .va (.int .i64 (k : Nat)))]) (fun _ => []) (fun (k, u) => k ≤ j ∧ u = noneK W k K) (fun (k, _) => j - k) ((0, true) : Nat × Bool) ⟨Nat.zero_le _, rfl⟩ ⟨⟨by kernel_rfl, by kernel_rfl⟩, ⟨_, rfl⟩, ⟨_, rfl⟩, by kernel_rfl, by kernel_rfl⟩ (fun x_ h_ => ?_))
    obtain ⟨k, u⟩ := x_
    obtain ⟨hk, hu⟩ := h_
    refine go Try.tbs_ok 1000 ?_
    refine ev_if_lt (fun h40 => ?_) (fun h40 => ?_)
    refine go Try.tbs_ok 1000 ?_
    refine ev_stop (go_draw Try.tbs_ok true [0, 1] [(0,true),(1,true),(2,true),(3,true),(4,true),(5,true),(6,true),(7,true),(8,true),(9,true),(10,true),(11,true),(12,true),(13,true),(14,true),(15,true),(16,true),(17,true),(18,true),(19,true),(20,true),(21,true),(22,true),(23,true),(24,true),(25,true),(26,true),(27,true),(28,true),(29,true),(30,true),(31,true),(32,true),(33,true),(34,true),(35,true)] rfl ?_)
    refine go Try.tbs_ok 1000 ?_
    refine ev_need ⟨⟨(by repeat (first | exact trivial | refine ⟨rfl, ?_⟩)), rfl⟩, by kernel_rfl⟩ ?_
    refine ev_stop (tk_index0 (sz := 3) Try.tbs_ok (.inr 1) (k) ⟨⟨(by repeat (first | exact trivial | refine ⟨rfl, ?_⟩)), rfl⟩, by kernel_rfl⟩ rfl rfl rfl rfl rfl rfl rfl (by omega) rfl Row.at0 (fun g41 e42 => ?_))
    subst e42
    refine go Try.tbs_ok 1000 ?_
    refine ev_need ⟨⟨(by repeat (first | exact trivial | refine ⟨rfl, ?_⟩)), rfl⟩, by kernel_rfl⟩ ?_
    have l43 : k < (W).length := (by omega)
    refine ev_stop (tk_loadE Try.tbs_ok (.inr 1) (k) 0 ⟨⟨(by repeat (first | exact trivial | refine ⟨rfl, ?_⟩)), rfl⟩, by kernel_rfl⟩ rfl rfl rfl rfl rfl (fun _ h => Row.rd h) (by omega) (fun _ => rfl) (by omega) l43 (by decide) ?_)
    refine go Try.tbs_ok 1000 ?_
    refine ev_need ⟨⟨(by repeat (first | exact trivial | refine ⟨rfl, ?_⟩)), rfl⟩, by kernel_rfl⟩ ?_
    refine ev_stop (tk_atE (sz := 3) Try.tbs_ok (j) ⟨⟨(by repeat (first | exact trivial | refine ⟨rfl, ?_⟩)), rfl⟩, by kernel_rfl⟩ rfl rfl rfl rfl rfl rfl rfl (by omega) ?_)
    refine go Try.tbs_ok 1000 ?_
    refine ev_need ⟨⟨(by repeat (first | exact trivial | refine ⟨rfl, ?_⟩)), rfl⟩, by kernel_rfl⟩ ?_
    have l44 : j < (W).length := (by omega)
    refine ev_stop (tk_loadE Try.tbs_ok (.inr 1) (j) 0 ⟨⟨(by repeat (first | exact trivial | refine ⟨rfl, ?_⟩)), rfl⟩, by kernel_rfl⟩ rfl rfl rfl rfl rfl (fun _ h => Row.rd h) (by omega) (fun _ => rfl) (by omega) l44 (by decide) ?_)
    refine go Try.tbs_ok 1000 ?_
    refine ev_need ⟨⟨(by repeat (first | exact trivial | refine ⟨rfl, ?_⟩)), rfl⟩, by kernel_rfl⟩ ?_
    refine ev_if_eq (fun h45 => ?_) (fun h45 => ?_)
    refine go Try.tbs_ok 1000 ?_
    refine ev_need ⟨⟨(by repeat (first | exact trivial | refine ⟨rfl, ?_⟩)), rfl⟩, by kernel_rfl⟩ ?_
    refine ev_stop (tk_atE (sz := 3) Try.tbs_ok (k) ⟨⟨(by repeat (first | exact trivial | refine ⟨rfl, ?_⟩)), rfl⟩, by kernel_rfl⟩ rfl rfl rfl rfl rfl rfl rfl (by omega) ?_)
    refine go Try.tbs_ok 1000 ?_
    refine ev_need ⟨⟨(by repeat (first | exact trivial | refine ⟨rfl, ?_⟩)), rfl⟩, by kernel_rfl⟩ ?_
    have l46 : k < (W).length := (by omega)
    refine ev_stop (tk_loadE Try.tbs_ok (.inr 1) (k) 1 ⟨⟨(by repeat (first | exact trivial | refine ⟨rfl, ?_⟩)), rfl⟩, by kernel_rfl⟩ rfl rfl rfl rfl rfl (fun _ h => Row.rd h) (by omega) (fun _ => rfl) (by omega) l46 (by decide) ?_)
    refine go Try.tbs_ok 1000 ?_
    refine ev_need ⟨⟨(by repeat (first | exact trivial | refine ⟨rfl, ?_⟩)), rfl⟩, by kernel_rfl⟩ ?_
    refine ev_stop (tk_atE (sz := 3) Try.tbs_ok (j) ⟨⟨(by repeat (first | exact trivial | refine ⟨rfl, ?_⟩)), rfl⟩, by kernel_rfl⟩ rfl rfl rfl rfl rfl rfl rfl (by omega) ?_)
    refine go Try.tbs_ok 1000 ?_
    refine ev_need ⟨⟨(by repeat (first | exact trivial | refine ⟨rfl, ?_⟩)), rfl⟩, by kernel_rfl⟩ ?_
    have l47 : j < (W).length := (by omega)
    refine ev_stop (tk_loadE Try.tbs_ok (.inr 1) (j) 1 ⟨⟨(by repeat (first | exact trivial | refine ⟨rfl, ?_⟩)), rfl⟩, by kernel_rfl⟩ rfl rfl rfl rfl rfl (fun _ h => Row.rd h) (by omega) (fun _ => rfl) (by omega) l47 (by decide) ?_)
    refine go Try.tbs_ok 1000 ?_
    refine ev_need ⟨⟨(by repeat (first | exact trivial | refine ⟨rfl, ?_⟩)), rfl⟩, by kernel_rfl⟩ ?_
    refine ev_if_eq (fun h48 => ?_) (fun h48 => ?_)
    refine go Try.tbs_ok 1000 ?_
    refine ev_wrapN (k + 1) (by constructor <;> omega) (by rfl) ?_
    refine ev_slot 5 _ (.bq false) rfl rfl rfl (fun _ => trivial) ?_
    refine ev_fin (round_next ((k + 1, false)) (?_ : k + 1 ≤ j ∧ false = noneK W (k + 1) K) (show j - (k + 1) < j - k from (by omega)) ⟨⟨by kernel_rfl, by kernel_rfl⟩, ⟨_, rfl⟩, ⟨_, rfl⟩, by kernel_rfl, by kernel_rfl⟩)
    rotate_left
    refine go Try.tbs_ok 1000 ?_
    refine ev_wrapN (k + 1) (by constructor <;> omega) (by rfl) ?_
    refine ev_fin (round_next ((k + 1, u)) (?_ : k + 1 ≤ j ∧ u = noneK W (k + 1) K) (show j - (k + 1) < j - k from (by omega)) ⟨⟨by kernel_rfl, by kernel_rfl⟩, ⟨_, rfl⟩, ⟨_, rfl⟩, by kernel_rfl, by kernel_rfl⟩)
    rotate_left
    refine go Try.tbs_ok 1000 ?_
    refine ev_need ⟨⟨(by repeat (first | exact trivial | refine ⟨rfl, ?_⟩)), rfl⟩, by kernel_rfl⟩ ?_
    refine ev_wrapN (k + 1) (by constructor <;> omega) (by rfl) ?_
    refine ev_fin (round_next ((k + 1, u)) (?_ : k + 1 ≤ j ∧ u = noneK W (k + 1) K) (show j - (k + 1) < j - k from (by omega)) ⟨⟨by kernel_rfl, by kernel_rfl⟩, ⟨_, rfl⟩, ⟨_, rfl⟩, by kernel_rfl, by kernel_rfl⟩)
    rotate_left
    refine go Try.tbs_ok 1000 ?_
    refine ev_fin (go Try.tbs_ok 1000 ?_)
    refine ev_if (fun h49 => ?_) (fun h49 => ?_)
    refine go Try.tbs_ok 1000 ?_
    refine ev_wrapN (m + 1) (by constructor <;> omega) (by rfl) ?_
    refine ev_wrapN (j + 1) (by constructor <;> omega) (by rfl) ?_
    refine ev_fin (round_next ((j + 1, m + 1)) (?_ : j + 1 ≤ n ∧ m + 1 ≤ j + 1 ∧ m + 1 = (kd (List.take (j + 1) W)).length) (show n - (j + 1) < n - j from (by omega)) ⟨⟨by kernel_rfl, by kernel_rfl⟩, ⟨_, rfl⟩, ⟨_, rfl⟩, by kernel_rfl, by kernel_rfl⟩)
    rotate_left
    refine go Try.tbs_ok 1000 ?_
    refine ev_wrapN (j + 1) (by constructor <;> omega) (by rfl) ?_
    refine ev_fin (round_next ((j + 1, m)) (?_ : j + 1 ≤ n ∧ m ≤ j + 1 ∧ m = (kd (List.take (j + 1) W)).length) (show n - (j + 1) < n - j from (by omega)) ⟨⟨by kernel_rfl, by kernel_rfl⟩, ⟨_, rfl⟩, ⟨_, rfl⟩, by kernel_rfl, by kernel_rfl⟩)
    rotate_left
    · exact ⟨by omega, (none_hit l43 (by rw [hK]; unfold WR.key; rw [h45, h48])).symm⟩
    · exact ⟨by omega, by rw [none_miss l43 (fun e => h48 (by rw [hK2, ← e]; rfl)), hu]⟩
    · exact ⟨by omega, by rw [none_miss l43 (fun e => h45 (by rw [hK1, ← e]; rfl)), hu]⟩
    · have hkj : k = j := by omega
      rw [h49, hkj] at hu
      refine ⟨by omega, by omega, ?_⟩
      rw [← List.take_append_getElem hjn, kd_step, ← hK, if_neg (none_iff.1 hu.symm), List.length_append, ← hm]
      rfl
    · have hkj : k = j := by omega
      rw [h49, hkj] at hu
      have hyes : K ∈ kd (W.take j) := Decidable.byContradiction fun h => by
        rw [none_iff.2 h] at hu
        cases hu
      refine ⟨by omega, by omega, ?_⟩
      rw [← List.take_append_getElem hjn, kd_step, ← hK, if_pos hyes, ← hm]
  · exact congrArg (fun z : Nat => Value.int .i64 z) (by rw [hm, List.take_of_length_le (by omega)])
end Go.Proofs.Ytkjpfodnbjbmfaa
