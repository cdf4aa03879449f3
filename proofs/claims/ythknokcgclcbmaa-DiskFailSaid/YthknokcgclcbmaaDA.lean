/-
  What is proved: files by names: where a name is, or would be. Conditions: none.
-/
import Derived.Test.YthknokcgclcbmaaTab
import Derived.Test.YthknokcgclcbmaaSys
namespace Go.Proofs.Ythknokcgclcbmaa
open Go.Sy

/-- a file -/
structure Fl where
  n : ByteArray
  d : ByteArray
  s : Int
  deriving DecidableEq
def encF (x : Fl) : List Value := [.string x.n, .string x.d, .int .i64 x.s]
theorem encF_len (x : Fl) : (encF x).length = 3 := rfl
instance : Inhabited Fl := ⟨⟨.empty, .empty, 0⟩⟩
def encN (x : Int) : List Value := [.int .i64 x]
theorem encN_len (x : Int) : (encN x).length = 1 := rfl
def encS (x : ByteArray) : List Value := [.string x]
theorem encS_len (x : ByteArray) : (encS x).length = 1 := rfl
def cmpS (a b : ByteArray) : Int := if ltS a b then -1 else if ltS b a then 1 else 0
theorem cmpS_neg {a b : ByteArray} : cmpS a b < 0 ↔ ltS a b := by
  unfold cmpS
  split
  · rename_i h; simp [h]
  · rename_i h
    split <;> simp [h]
theorem cmpS_zero {a b : ByteArray} : cmpS a b = 0 ↔ a = b := by
  unfold cmpS
  split
  · rename_i h; simp [h.ne]
  · rename_i h
    split
    · rename_i h2; simp [h2.ne.symm]
    · rename_i h2; simp [ltS.total h h2]
theorem cmpS_in (a b : ByteArray) : -1 ≤ cmpS a b ∧ cmpS a b ≤ 1 := by
  unfold cmpS
  split
  · omega
  · split <;> omega
def riseF (L : List Fl) : Prop := L.Pairwise fun a b => ltS a.n b.n
def posF (L : List Fl) (x : ByteArray) : Nat := L.countP fun f => decide (ltS f.n x)
def hasF (L : List Fl) (x : ByteArray) : Bool := L.any fun f => decide (f.n = x)
theorem posF_le (L : List Fl) (x : ByteArray) : posF L x ≤ L.length := List.countP_le_length
theorem posF_of {L : List Fl} {x : ByteArray} {i : Nat} (hi : i ≤ L.length) (h1 : ∀ y ∈ L.take i, ltS y.n x) (h2 : ∀ y ∈ L.drop i, ¬ ltS y.n x) : posF L x = i := by
  unfold posF
  rw [← List.take_append_drop i L, List.countP_append]
  have e1 : (L.take i).countP (fun f => decide (ltS f.n x)) = (L.take i).length := List.countP_eq_length.2 fun y hy => decide_eq_true (h1 y hy)
  have e2 : (L.drop i).countP (fun f => decide (ltS f.n x)) = 0 := List.countP_eq_zero.2 fun y hy => by
    have := h2 y hy
    simpa using this
  rw [e1, e2, List.length_take]
  omega
theorem riseF_take {L : List Fl} (hs : riseF L) {x : ByteArray} {m : Nat} (hm : m < L.length) (h : ltS L[m].n x) : ∀ y ∈ L.take (m + 1), ltS y.n x := fun y hy => by
  obtain ⟨k, hk, rfl⟩ := List.getElem_of_mem hy
  rw [List.length_take] at hk
  rw [List.getElem_take]
  rcases Nat.lt_or_ge k m with h2 | h2
  · exact (List.pairwise_iff_getElem.1 hs k m (by omega) hm h2).trans h
  · obtain rfl : k = m := by omega
    exact h
theorem riseF_drop {L : List Fl} (hs : riseF L) {x : ByteArray} {m : Nat} (hm : m < L.length) (h : ¬ ltS L[m].n x) : ∀ y ∈ L.drop m, ¬ ltS y.n x := fun y hy => by
  obtain ⟨k, hk, rfl⟩ := List.getElem_of_mem hy
  rw [List.length_drop] at hk
  rw [List.getElem_drop]
  rcases Nat.eq_zero_or_pos k with h2 | h2
  · subst h2
    exact h
  · have := List.pairwise_iff_getElem.1 hs m (m + k) hm (by omega) (by omega)
    exact fun h3 => h (this.trans h3)
theorem hasF_at {L : List Fl} (hs : riseF L) {x : ByteArray} {i : Nat} (hi : i < L.length) (h1 : ∀ y ∈ L.take i, ltS y.n x) (h2 : ∀ y ∈ L.drop i, ¬ ltS y.n x) : hasF L x = decide (L[i].n = x) := by
  unfold hasF
  rw [Bool.eq_iff_iff, List.any_eq_true, decide_eq_true_iff]
  constructor
  · rintro ⟨y, hy, e⟩
    have e := of_decide_eq_true e
    obtain ⟨k, hk, rfl⟩ := List.getElem_of_mem hy
    rcases Nat.lt_trichotomy k i with h | h | h
    · exact absurd e (h1 _ (List.mem_take_iff_getElem.2 ⟨k, by omega, rfl⟩)).ne
    · subst h; exact e
    · have h3 := List.pairwise_iff_getElem.1 hs i k hi hk h
      rw [e] at h3
      exact absurd h3 (h2 _ (List.mem_drop_iff_getElem.2 ⟨0, by omega, by simp⟩))
  · intro e
    exact ⟨_, List.getElem_mem hi, decide_eq_true e⟩
theorem hasF_end {L : List Fl} {x : ByteArray} (h1 : ∀ y ∈ L, ltS y.n x) : hasF L x = false := by
  unfold hasF
  rw [List.any_eq_false]
  intro y hy
  simpa using (h1 y hy).ne
theorem nan (a : ByteArray) : Triple Try.prog 84 [.string a] [] [] Unit (fun _ => .bool false) (fun _ => True) (fun _ => []) := by
  refine triple_intro Try.tbs_ok Try.func84 rfl [.va (.string a)] [] ⟨trivial, trivial⟩ rfl (by simp) ?_
  intro E
  refine go Try.tbs_ok 1000 ?_
  refine ev_fin ⟨trivial, _, rfl, (()), ?_, (by trivial), Frm.nil _⟩
  exact congrArg Value.bool (by simp)
theorem cmpT (a b : ByteArray) : Triple Try.prog 81 [.string a, .string b] [] [] Unit (fun _ => .int .i64 (cmpS a b)) (fun _ => True) (fun _ => []) := by
  refine triple_intro Try.tbs_ok Try.func81 rfl [.va (.string a), .va (.string b)] [] ⟨trivial, trivial, trivial⟩ rfl (by simp) ?_
  intro E
  refine go Try.tbs_ok 1000 ?_
  refine ev_callF (nan (a)) [] [] rfl rfl (by decide) rfl (by simp) (fun _ => (by repeat (first | exact trivial | refine ⟨rfl, ?_⟩))) (fun _ h0 => ?_)
  refine go Try.tbs_ok 1000 ?_
  refine ev_callF (nan (b)) [] [] rfl rfl (by decide) rfl (by simp) (fun _ => (by repeat (first | exact trivial | refine ⟨rfl, ?_⟩))) (fun _ h1 => ?_)
  refine go Try.tbs_ok 1000 ?_
  refine ev_if_no rfl ?_
  refine go Try.tbs_ok 1000 ?_
  refine ev_if_no rfl ?_
  refine go Try.tbs_ok 1000 ?_
  refine ev_stop (go_bin (.bq (decide (ltS (a) (b)))) trivial rfl rfl rfl rfl rfl (by decide) (by decide) (fun w => lss_runS w) ?_)
  refine go Try.tbs_ok 1000 ?_
  refine ev_if_lt (fun h2 => ?_) (fun h2 => ?_)
  refine go Try.tbs_ok 1000 ?_
  refine ev_fin ⟨trivial, _, rfl, (()), ?_, (by trivial), Frm.nil _⟩
  rotate_left
  refine go Try.tbs_ok 1000 ?_
  refine ev_stop (go_bin (.bq (decide (ltS (b) (a)))) trivial rfl rfl rfl rfl rfl (by decide) (by decide) (fun w => gtr_runS w) ?_)
  refine go Try.tbs_ok 1000 ?_
  refine ev_if_lt (fun h3 => ?_) (fun h3 => ?_)
  refine go Try.tbs_ok 1000 ?_
  refine ev_fin ⟨trivial, _, rfl, (()), ?_, (by trivial), Frm.nil _⟩
  rotate_left
  refine go Try.tbs_ok 1000 ?_
  refine ev_fin ⟨trivial, _, rfl, (()), ?_, (by trivial), Frm.nil _⟩
  rotate_left
  · show Value.int .i64 (-1) = Value.int .i64 (cmpS a b)
    rw [cmpS, if_pos h2]
  · show Value.int .i64 1 = Value.int .i64 (cmpS a b)
    rw [cmpS, if_neg h2, if_pos h3]
  · show Value.int .i64 0 = Value.int .i64 (cmpS a b)
    rw [cmpS, if_neg h2, if_neg h3]
set_option maxRecDepth 100000 in
theorem nameCmp (f : Fl) (x : ByteArray) : Triple Try.prog 80 [.agg #[.string f.n, .string f.d, .int .i64 f.s], .string x] [] [] Unit (fun _ => .int .i64 (cmpS f.n x)) (fun _ => True) (fun _ => []) := by
  refine triple_intro Try.tbs_ok Try.func80 rfl [.ag [.va (.string f.n), .va (.string f.d), .va (.int .i64 f.s)], .va (.string x)] [] ⟨by simp [SV.good, SV.goodL], trivial, trivial⟩ rfl (by simp) ?_
  intro E
  refine go Try.tbs_ok 1000 ?_
  refine ev_new fun b0 => ?_
  refine ev_callF (cmpT (f.n) (x)) [] [] rfl rfl (by decide) rfl (by simp) (fun _ => (by repeat (first | exact trivial | refine ⟨rfl, ?_⟩))) (fun _ h1 => ?_)
  refine go Try.tbs_ok 1000 ?_
  refine ev_fin ⟨trivial, _, rfl, (()), rfl, (by trivial), Frm.nil _⟩
set_option maxRecDepth 100000 in
theorem searchF (A : Option Addr) (L : List Fl) (n c : Nat) (x : ByteArray) (hn : n = L.length) (h1 : n ≤ 1000) (hs : riseF L) :
    Triple Try.prog 79 [.slice A n c, .string x, .func (.func 80) #[] #[]] [] [Rd 3 A n (L.flatMap encF)] Unit (fun _ => .tuple #[.int .i64 (posF L x : Nat), .bool (hasF L x)]) (fun _ => True) (fun _ => []) := by
  refine triple_intro Try.tbs_ok Try.func79 rfl [.va (.slice A n c), .va (.string x), .va (.func (.func 80) #[] #[])] [] ⟨trivial, trivial, trivial, trivial⟩ rfl (by simp) ?_
  intro E
  refine go Try.tbs_ok 1000 ?_
  refine ev_stop (go_loopR [9, 10, 11, 15, 16, 17, 18, 19, 20, 21, 22, 23, 24, 25, 26, 27, 28, 29, 30, 31, 32, 33, 34] (fun (i, j) => [(9, .va (.int .i64 (i : Nat))), (10, .va (.int .i64 (j : Nat)))]) (fun _ => []) (fun (i, j) => i ≤ j ∧ j ≤ n ∧ (∀ y ∈ L.take i, ltS y.n x) ∧ ∀ y ∈ L.drop j, ¬ ltS y.n x) (fun (i, j) => j - i) ((0, n) : Nat × Nat) ⟨Nat.zero_le _, Nat.le_refl _, (fun y h => by simp at h), (fun y h => by rw [List.drop_of_length_le (by omega)] at h; cases h)⟩ ⟨⟨by kernel_rfl, by kernel_rfl⟩, ⟨_, rfl⟩, ⟨_, rfl⟩, by kernel_rfl, by kernel_rfl⟩ (fun x_ h_ => ?_))
  obtain ⟨i, j⟩ := x_
  obtain ⟨hij, hj, hlo, hhi⟩ := h_
  refine go Try.tbs_ok 1000 ?_
  refine ev_if_lt (fun h20 => ?_) (fun h20 => ?_)
  refine go Try.tbs_ok 1000 ?_
  refine ev_wrapN (i + j) (by constructor <;> omega) (by rfl) ?_
  refine ev_wu64 (show 0 ≤ (↑(i + j) : Int) ∧ (↑(i + j) : Int) < 18446744073709551616 from (by constructor <;> omega)) ?_
  refine ev_stop (go_bin (.va _) trivial rfl rfl rfl rfl rfl (by decide) (by decide) (fun w => shr_run (show 0 ≤ 1 from (by omega)) w) ?_)
  refine go Try.tbs_ok 1000 ?_
  rotate_left
  refine go Try.tbs_ok 1000 ?_
  refine ev_fin (go Try.tbs_ok 1000 ?_)
  refine ev_if_lt (fun h21 => ?_) (fun h21 => ?_)
  refine go Try.tbs_ok 1000 ?_
  refine ev_stop (go_indexE (sz := 3) Try.tbs_ok (.inl 0) (i) rfl rfl rfl rfl rfl rfl (by omega) rfl (fun _ h => h) (fun g22 o24 e23 => ?_))
  subst e23
  refine go Try.tbs_ok 1000 ?_
  have l25 : i < (L).length := (by omega)
  refine ev_stop (go_loadE Try.tbs_ok (.inl 0) (i) 0 rfl rfl rfl rfl (fun _ h => h) (by omega) (fun _ => rfl) (by omega) l25 (by decide) ?_)
  refine go Try.tbs_ok 1000 ?_
  refine ev_callF (nameCmp (L[i]) (x)) [] [] rfl rfl (by decide) rfl (by simp) (fun _ => (by repeat (first | exact trivial | refine ⟨rfl, ?_⟩))) (fun _ h26 => ?_)
  refine go Try.tbs_ok 1000 ?_
  refine ev_fin ⟨trivial, _, rfl, (()), ?_, (by trivial), Frm.nil _⟩
  rotate_left
  refine go Try.tbs_ok 1000 ?_
  refine ev_fin ⟨trivial, _, rfl, (()), ?_, (by trivial), Frm.nil _⟩
  rotate_left
  · have e : ((i + j : Nat) : Int).fdiv (2 ^ min (Int.toNat 1) IntKind.u64.bits) = (((i + j) / 2 : Nat) : Int) := by
      rw [show (2 : Int) ^ min (Int.toNat 1) IntKind.u64.bits = 2 from rfl, Int.fdiv_eq_ediv_of_nonneg _ (by omega)]
      omega
    refine ev_wrapN ((i + j) / 2) (by rw [e]; omega) e ?_
    refine ev_stop (go_indexE (sz := 3) Try.tbs_ok (.inl 0) ((i + j) / 2) rfl rfl rfl rfl rfl rfl (by omega) rfl (fun _ h => h) (fun g60 o62 e61 => ?_))
    subst e61
    refine go Try.tbs_ok 1000 ?_
    have l63 : (i + j) / 2 < (L).length := (by omega)
    refine ev_stop (go_loadE Try.tbs_ok (.inl 0) ((i + j) / 2) 0 rfl rfl rfl rfl (fun _ h => h) (by omega) (fun _ => rfl) (by omega) l63 (by decide) ?_)
    refine go Try.tbs_ok 1000 ?_
    refine ev_callF (nameCmp (L[(i + j) / 2]) (x)) [] [] rfl rfl (by decide) rfl (by simp) (fun _ => (by repeat (first | exact trivial | refine ⟨rfl, ?_⟩))) (fun _ h64 => ?_)
    refine go Try.tbs_ok 1000 ?_
    refine ev_if_lt (fun h65 => ?_) (fun h65 => ?_)
    refine go Try.tbs_ok 1000 ?_
    refine ev_wrapN ((i + j) / 2 + 1) (by constructor <;> omega) (by rfl) ?_
    refine ev_fin (round_next (((i + j) / 2 + 1, j)) (?_ : (i + j) / 2 + 1 ≤ j ∧ j ≤ n ∧ (∀ (y : Fl), y ∈ List.take ((i + j) / 2 + 1) L → ltS y.n x) ∧ ∀ (y : Fl), y ∈ List.drop j L → ¬ltS y.n x) (show j - ((i + j) / 2 + 1) < j - i from (by omega)) ⟨⟨by kernel_rfl, by kernel_rfl⟩, ⟨_, rfl⟩, ⟨_, rfl⟩, by kernel_rfl, by kernel_rfl⟩)
    rotate_left
    refine go Try.tbs_ok 1000 ?_
    refine ev_fin (round_next ((i, (i + j) / 2)) (?_ : i ≤ (i + j) / 2 ∧ (i + j) / 2 ≤ n ∧ (∀ (y : Fl), y ∈ List.take i L → ltS y.n x) ∧ ∀ (y : Fl), y ∈ List.drop ((i + j) / 2) L → ¬ltS y.n x) (show (i + j) / 2 - i < j - i from (by omega)) ⟨⟨by kernel_rfl, by kernel_rfl⟩, ⟨_, rfl⟩, ⟨_, rfl⟩, by kernel_rfl, by kernel_rfl⟩)
    rotate_left
    · exact ⟨by omega, hj, riseF_take hs l63 (cmpS_neg.1 h65), hhi⟩
    · exact ⟨by omega, by omega, hlo, riseF_drop hs l63 fun h => h65 (cmpS_neg.2 h)⟩
  · obtain rfl : i = j := by omega
    show Value.tuple #[.int .i64 (i : Nat), .bool (cmpS L[i].n x == 0)] = Value.tuple #[.int .i64 (posF L x : Nat), .bool (hasF L x)]
    rw [posF_of (by omega) hlo hhi, hasF_at hs l25 hlo hhi]
    have : (cmpS L[i].n x == 0) = decide (L[i].n = x) := by
      rw [Bool.eq_iff_iff, beq_iff_eq, decide_eq_true_iff, cmpS_zero]
    rw [this]
  · obtain rfl : i = j := by omega
    show Value.tuple #[.int .i64 (i : Nat), .bool false] = Value.tuple #[.int .i64 (posF L x : Nat), .bool (hasF L x)]
    rw [posF_of (by omega) hlo hhi, hasF_end (by rwa [List.take_of_length_le (by omega)] at hlo)]
end Go.Proofs.Ythknokcgclcbmaa
