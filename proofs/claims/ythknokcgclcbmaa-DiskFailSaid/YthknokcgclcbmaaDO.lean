/-
  What is proved: what the laws of disks call. Conditions: none.
-/
import Derived.Test.YthknokcgclcbmaaDN
namespace Go.Proofs.Ythknokcgclcbmaa
open Go.Sy

/-- an act within bounds -/
def boundA (x : ActD) : Prop := x.n.size ≤ 1000 ∧ x.o.size ≤ 1000 ∧ x.d.size ≤ 5000 ∧ x.K.length ≤ 100
set_option maxRecDepth 100000 in
theorem greatT (A : Option Addr) (l : List ActD) (n c : Nat) (hn : n = l.length) (h1 : n ≤ 9223372036854775807) :
    Triple Try.prog 9 [.slice A n c] [] [Rd 6 A n (l.flatMap encA)] Bool (fun b => .bool b) (fun b => b = false → n ≤ 150 ∧ ∀ x ∈ l, boundA x) (fun _ => []) := by
  refine triple_intro Try.tbs_ok Try.func9 rfl [.va (.slice A n c)] [] ⟨trivial, trivial⟩ rfl (by simp) ?_
  intro E
  refine go Try.tbs_ok 1000 ?_
  refine ev_stop (go_loopR [2, 3, 4, 5, 6, 7, 8, 9, 10, 11, 12, 13, 14, 15, 16, 17, 18, 19, 20, 21, 22, 23, 24, 25, 26, 27, 28, 29, 30, 31, 32, 33, 34, 35, 36, 37, 38, 39, 40, 41, 42, 43, 44] (fun (i, s) => [(3, .va (.int .i64 (s : Nat))), (4, .va (.int .i64 (i : Nat)))]) (fun _ => []) (fun (i, s) => i ≤ n ∧ s ≤ 100000 ∧ ∀ x ∈ l.take i, boundA x) (fun (i, _) => n - i) ((0, 0) : Nat × Nat) ⟨Nat.zero_le _, Nat.zero_le _, by simp⟩ ⟨⟨by kernel_rfl, by kernel_rfl⟩, ⟨_, rfl⟩, ⟨_, rfl⟩, by kernel_rfl, by kernel_rfl⟩ (fun x_ h_ => ?_))
  obtain ⟨i, s⟩ := x_
  obtain ⟨hi, hs, h0⟩ := h_
  refine go Try.tbs_ok 1000 ?_
  refine ev_if_lt (fun h20 => ?_) (fun h20 => ?_)
  refine go Try.tbs_ok 1000 ?_
  refine ev_stop (go_indexE (sz := 6) Try.tbs_ok (.inl 0) (i) rfl rfl rfl rfl rfl rfl (by omega) rfl (fun _ h => h) (fun g21 o23 e22 => ?_))
  subst e22
  refine go Try.tbs_ok 1000 ?_
  have l24 : i < (l).length := (by omega)
  refine ev_stop (go_loadE Try.tbs_ok (.inl 0) (i) 0 rfl rfl rfl rfl (fun _ h => h) (by omega) (fun _ => rfl) (by omega) l24 (by decide) ?_)
  refine go Try.tbs_ok 1000 ?_
  refine ev_new fun b25 => ?_
  refine ev_if_lt (fun h26 => ?_) (fun h26 => ?_)
  refine go Try.tbs_ok 1000 ?_
  refine ev_fin ⟨trivial, _, rfl, (true), rfl, (by simp [*]), Frm.nil _⟩
  refine go Try.tbs_ok 1000 ?_
  refine ev_if_lt (fun h27 => ?_) (fun h27 => ?_)
  refine go Try.tbs_ok 1000 ?_
  refine ev_fin ⟨trivial, _, rfl, (true), rfl, (by simp [*]), Frm.nil _⟩
  refine go Try.tbs_ok 1000 ?_
  refine ev_if_lt (fun h28 => ?_) (fun h28 => ?_)
  refine go Try.tbs_ok 1000 ?_
  refine ev_fin ⟨trivial, _, rfl, (true), rfl, (by simp [*]), Frm.nil _⟩
  refine go Try.tbs_ok 1000 ?_
  refine ev_if_lt (fun h29 => ?_) (fun h29 => ?_)
  refine go Try.tbs_ok 1000 ?_
  refine ev_fin ⟨trivial, _, rfl, (true), rfl, (by simp [*]), Frm.nil _⟩
  refine go Try.tbs_ok 1000 ?_
  refine ev_wrapN (s + l[i].d.size) (by constructor <;> omega) (by rfl) ?_
  refine ev_if_lt (fun h30 => ?_) (fun h30 => ?_)
  refine go Try.tbs_ok 1000 ?_
  refine ev_fin ⟨trivial, _, rfl, (true), rfl, (by simp [*]), Frm.nil _⟩
  refine go Try.tbs_ok 1000 ?_
  refine ev_wrapN (i + 1) (by constructor <;> omega) (by rfl) ?_
  refine ev_fin (round_next ((i + 1, s + l[i].d.size)) (?_ : i + 1 ≤ n ∧ s + l[i].d.size ≤ 100000 ∧ ∀ (x : ActD), x ∈ List.take (i + 1) l → boundA x) (show n - (i + 1) < n - i from (by omega)) ⟨⟨by kernel_rfl, by kernel_rfl⟩, ⟨_, rfl⟩, ⟨_, rfl⟩, by kernel_rfl, by kernel_rfl⟩)
  rotate_left
  refine go Try.tbs_ok 1000 ?_
  refine ev_fin (go Try.tbs_ok 1000 ?_)
  refine ev_fin ⟨trivial, _, rfl, (decide ((↑n : Int) > 150)), rfl, ?_, Frm.nil _⟩
  rotate_left
  · refine ⟨by omega, by omega, fun x hx => ?_⟩
    rw [← List.take_append_getElem (show i < l.length by omega)] at hx
    rcases List.mem_append.1 hx with hx | hx
    · exact h0 x hx
    · rw [List.mem_singleton.1 hx]
      exact ⟨by omega, by omega, by omega, by omega⟩
  · intro h
    rw [decide_eq_false_iff_not] at h
    rw [List.take_of_length_le (by omega)] at h0
    exact ⟨by omega, h0⟩
/-- the files' bytes -/
def datEG (f : Fl) : ByteArray := f.d
theorem find_at {L : List Fl} (hs : riseF L) {i : Nat} (hi : i < L.length) : hasF L L[i].n = true ∧ posF L L[i].n = i := by
  have h1 : hasF L L[i].n = true := hasF_iff.2 ⟨_, List.getElem_mem hi, rfl⟩
  refine ⟨h1, ?_⟩
  obtain ⟨h2, h3⟩ := has_pos hs h1
  rcases Nat.lt_trichotomy (posF L L[i].n) i with h | h | h
  · exact absurd (List.pairwise_iff_getElem.1 hs _ _ h2 hi h) (by rw [h3]; exact ltS.irrefl _)
  · exact h
  · exact absurd (List.pairwise_iff_getElem.1 hs _ _ hi h2 h) (by rw [h3]; exact ltS.irrefl _)
theorem read_at {D : DK} (hD : okD D) (hu : D.down = false) {i : Nat} (hi : i < D.files.length) : readD D D.files[i].n = (D.files[i].d, 0) := by
  obtain ⟨h1, h2⟩ := find_at hD.rise hi
  unfold readD
  rw [hu, if_neg (by decide), if_pos h1, getF_eq (by rw [h2]; exact hi)]
  simp only [h2]
set_option maxRecDepth 100000 in
theorem bytesT (p : Nat) (D : DK) (L : List Fl) (n : Nat) (hL : L = D.files) (hn : n = L.length) (hD : okD D) (hu : D.down = false) :
    Triple Try.prog 29 [.pointer (some ⟨p, 0, none⟩)] [DiskM p D] [] (Option Addr × Nat) (fun (C, e) => .tuple #[.slice C n e, .bool true]) (fun _ => True) (fun (C, e) => [DiskM p D, Row 9 1 C n e ((L.map datEG).flatMap encS)]) := by
  have T1 := namesM p D hD
  have hfew := hD.few
  rw [← hL] at T1 hfew
  rw [← hn] at T1
  refine triple_intro Try.tbs_ok Try.func29 rfl [.va (.pointer (some ⟨p, 0, none⟩))] [.fact (DiskM p D)] ⟨trivial, trivial⟩ rfl (by simp) ?_
  intro E
  refine go Try.tbs_ok 1000 ?_
  refine ev_callF (T1 ) [0] [] rfl rfl (by decide) rfl (by simp) (fun _ => (by repeat (first | exact trivial | refine ⟨rfl, ?_⟩))) (fun ⟨x0, x1⟩ h2 => ?_)
  refine go Try.tbs_ok 1000 ?_
  refine ev_stop (go_fact (Row 9 1 none 0 0 (([] : List ByteArray).flatMap encS)) (Row.nilE _ _) ?_)
  refine go Try.tbs_ok 1000 ?_
  refine ev_stop (go_loopR [2, 3, 4, 6, 7, 8, 11, 12, 13, 14, 15, 16, 17, 18, 19, 20, 21, 22, 23, 24, 25, 26, 27, 28, 29, 30, 31] (fun (i, C, q, e, _) => [(4, .va (.slice C q e)), (6, .va (.int .i64 (i : Nat)))]) (fun (_, C, q, e, M) => [(0, .fact (DiskM p D)), (2, .fact (Row 9 1 C q e (M.flatMap encS)))]) (fun (i, _, q, _, M) => i ≤ n ∧ q = M.length ∧ q = i ∧ M = (L.take i).map datEG) (fun (i, _, _, _, _) => n - i) ((0, none, 0, 0, []) : Nat × Option Addr × Nat × Nat × List ByteArray) ⟨Nat.zero_le _, rfl, rfl, rfl⟩ ⟨⟨by kernel_rfl, by kernel_rfl⟩, ⟨_, rfl⟩, ⟨_, rfl⟩, by kernel_rfl, by kernel_rfl⟩ (fun x_ h_ => ?_))
  obtain ⟨i, C, q, e, M⟩ := x_
  obtain ⟨hi, hq, hqi, hM⟩ := h_
  refine go Try.tbs_ok 1000 ?_
  refine ev_if_lt (fun hlt => ?_) (fun hge => ?_)
  · have hil : i < L.length := by
      have : (i : Int) < (n : Int) := hlt
      omega
    have hg : (L.map nameEG)[i]'(by simpa using hil) = L[i].n := by simp [nameEG]
    have hr : readD D ((L.map nameEG)[i]'(by simpa using hil)) = (L[i].d, 0) := by
      rw [hg]
      subst hL
      exact read_at hD hu hil
    have T2 := readM p D ((L.map nameEG)[i]'(by simpa using hil)) hD
    simp only [hr] at T2
    refine go Try.tbs_ok 1000 ?_
    refine ev_stop (go_index0 (sz := 1) Try.tbs_ok (.inr 1) (i) rfl rfl rfl rfl rfl rfl (by omega) rfl Row.at0 (fun g40 e41 => ?_))
    subst e41
    refine go Try.tbs_ok 1000 ?_
    have l42 : i < (List.map nameEG L).length := (by (simp only [List.length_map] <;> omega))
    refine ev_stop (go_loadE Try.tbs_ok (.inr 1) (i) 0 rfl rfl rfl rfl (fun _ h => Row.rd h) (by omega) (fun _ => rfl) (by omega) l42 (by decide) ?_)
    refine go Try.tbs_ok 1000 ?_
    refine ev_callF (T2 ) [0] [] rfl rfl (by decide) rfl (by simp) (fun _ => (by repeat (first | exact trivial | refine ⟨rfl, ?_⟩))) (fun _ h43 => ?_)
    refine go Try.tbs_ok 1000 ?_
    refine ev_if_no rfl ?_
    refine go Try.tbs_ok 1000 ?_
    refine ev_new fun b44 => ?_
    refine ev_stop (go_appendE (sz := 1) (M := [_]) (enc := encS) Try.tbs_ok [2] [] (.inr 3) (M) ([L[i].d]) ((M) ++ ([L[i].d])) (q + 1) rfl rfl rfl rfl rfl rfl rfl (by decide) rfl (by decide) (fun _ p => starH_one.1 p) rfl (fun _ p => Pt.rd p rfl) (by first | rfl | simp) (by first | rfl | omega) (le_app (s := q + 1) (by omega) (by first | rfl | omega)) (le_appb (s := q + 1) (by omega) (by first | rfl | omega) (by decide)) (fun _ _ => (by repeat (first | exact trivial | refine ⟨rfl, ?_⟩))) (fun A45 c46 h47 => ?_))
    refine go Try.tbs_ok 1000 ?_
    refine ev_wrapN (i + 1) (by constructor <;> omega) (by rfl) ?_
    refine ev_fin (round_next ((i + 1, A45, q + 1, c46, M ++ [L[i].d])) (?_ : i + 1 ≤ n ∧ q + 1 = (M ++ [L[i].d]).length ∧ q + 1 = i + 1 ∧ M ++ [L[i].d] = List.map datEG (List.take (i + 1) L)) (show n - (i + 1) < n - i from (by omega)) ⟨⟨by kernel_rfl, by kernel_rfl⟩, ⟨_, rfl⟩, ⟨_, rfl⟩, by kernel_rfl, by kernel_rfl⟩)
    refine ⟨by omega, by rw [List.length_append, ← hq]; rfl, by omega, ?_⟩
    rw [hM, ← List.take_append_getElem hil, List.map_append]
    rfl
  · obtain rfl : i = n := by
      have : ¬ (i : Int) < (n : Int) := hge
      omega
    obtain rfl := hqi
    rw [List.take_of_length_le (by omega)] at hM
    subst hM
    refine go Try.tbs_ok 1000 ?_
    refine ev_fin (go Try.tbs_ok 1000 ?_)
    refine ev_fin ⟨trivial, _, rfl, ((C, e)), rfl, (by trivial), Frm.sel [0, 2] rfl (by decide)⟩
/-- what a file had, among some -/
def oldL (L : List Fl) (x : ByteArray) : ByteArray × Bool := match L.find? fun f => decide (f.n = x) with | some f => (f.d, true) | none => (.empty, false)
theorem find_none_take {L : List Fl} {x : ByteArray} {i : Nat} (h : ∀ f ∈ L.take i, f.n ≠ x) (hi : i < L.length) (e : L[i].n = x) : oldL L x = (L[i].d, true) := by
  have hf : L.find? (fun f => decide (f.n = x)) = some L[i] := List.find?_eq_some_iff_append.2 ⟨decide_eq_true e, L.take i, L.drop (i + 1), by rw [← List.drop_eq_getElem_cons hi, List.take_append_drop], fun f hf => by simpa using h f hf⟩
  unfold oldL
  rw [hf]
theorem old_none {L : List Fl} {x : ByteArray} (h : ∀ f ∈ L, f.n ≠ x) : oldL L x = (.empty, false) := by
  unfold oldL
  rw [List.find?_eq_none.2 (by simpa using h)]
set_option maxRecDepth 100000 in
theorem oldT (A B : Option Addr) (L : List Fl) (n c m d : Nat) (x : ByteArray) (hn : n = L.length) (hm : m = L.length) (h1 : n ≤ 1000) :
    Triple Try.prog 33 [.slice A n c, .slice B m d, .string x] [] [Rd 1 A n ((L.map nameEG).flatMap encS), Rd 1 B m ((L.map datEG).flatMap encS)] Unit (fun _ => .tuple #[.string (oldL L x).1, .bool (oldL L x).2]) (fun _ => True) (fun _ => []) := by
  refine triple_intro Try.tbs_ok Try.func33 rfl [.va (.slice A n c), .va (.slice B m d), .va (.string x)] [] ⟨trivial, trivial, trivial, trivial⟩ rfl (by simp) ?_
  intro E
  refine go Try.tbs_ok 1000 ?_
  refine ev_stop (go_loopR [6, 7, 8, 9, 10, 11, 12, 13, 14, 15, 16, 17, 18, 19, 20, 21, 22, 23, 24] (fun i => [(8, .va (.int .i64 (i : Nat)))]) (fun _ => []) (fun i => i ≤ n ∧ ∀ f ∈ L.take i, f.n ≠ x) (fun i => n - i) (0 : Nat) ⟨Nat.zero_le _, by simp⟩ ⟨⟨by kernel_rfl, by kernel_rfl⟩, ⟨_, rfl⟩, ⟨_, rfl⟩, by kernel_rfl, by kernel_rfl⟩ (fun i h_ => ?_))
  obtain ⟨hi, h0⟩ := h_
  refine go Try.tbs_ok 1000 ?_
  refine ev_if_lt (fun h20 => ?_) (fun h20 => ?_)
  refine go Try.tbs_ok 1000 ?_
  refine ev_stop (go_indexE (sz := 1) Try.tbs_ok (.inl 0) (i) rfl rfl rfl rfl rfl rfl (by omega) rfl (fun _ h => h) (fun g21 o23 e22 => ?_))
  subst e22
  refine go Try.tbs_ok 1000 ?_
  have l24 : i < (List.map nameEG L).length := (by (simp only [List.length_map] <;> omega))
  refine ev_stop (go_loadE Try.tbs_ok (.inl 0) (i) 0 rfl rfl rfl rfl (fun _ h => h) (by omega) (fun _ => rfl) (by omega) l24 (by decide) ?_)
  refine go Try.tbs_ok 1000 ?_
  refine ev_if_lt (fun h25 => ?_) (fun h25 => ?_)
  refine go Try.tbs_ok 1000 ?_
  refine ev_stop (go_indexE (sz := 1) Try.tbs_ok (.inl 1) (i) rfl rfl rfl rfl rfl rfl (by omega) rfl (fun _ h => h) (fun g26 o28 e27 => ?_))
  subst e27
  refine go Try.tbs_ok 1000 ?_
  have l29 : i < (List.map datEG L).length := (by (simp only [List.length_map] <;> omega))
  refine ev_stop (go_loadE Try.tbs_ok (.inl 1) (i) 0 rfl rfl rfl rfl (fun _ h => h) (by omega) (fun _ => rfl) (by omega) l29 (by decide) ?_)
  refine go Try.tbs_ok 1000 ?_
  refine ev_fin ⟨trivial, _, rfl, (()), ?_, (by trivial), Frm.nil _⟩
  rotate_left
  refine go Try.tbs_ok 1000 ?_
  refine ev_wrapN (i + 1) (by constructor <;> omega) (by rfl) ?_
  refine ev_fin (round_next (i + 1) (?_ : i + 1 ≤ n ∧ ∀ (f : Fl), f ∈ List.take (i + 1) L → f.n ≠ x) (show n - (i + 1) < n - i from (by omega)) ⟨⟨by kernel_rfl, by kernel_rfl⟩, ⟨_, rfl⟩, ⟨_, rfl⟩, by kernel_rfl, by kernel_rfl⟩)
  rotate_left
  refine go Try.tbs_ok 1000 ?_
  refine ev_fin (go Try.tbs_ok 1000 ?_)
  refine ev_fin ⟨trivial, _, rfl, (()), ?_, (by trivial), Frm.nil _⟩
  rotate_left
  · have e : L[i].n = x := by
      simp only [List.getElem_map, nameEG] at h25
      exact h25
    rw [find_none_take h0 (by omega) e]
    show Value.tuple #[.string (L.map datEG)[i], .bool true] = _
    simp [datEG]
  · refine ⟨by omega, fun f hf => ?_⟩
    rw [← List.take_append_getElem (show i < L.length by omega)] at hf
    rcases List.mem_append.1 hf with hf | hf
    · exact h0 f hf
    · rw [List.mem_singleton.1 hf]
      intro e
      exact h25 (by simp only [List.getElem_map, nameEG]; exact e)
  · rw [List.take_of_length_le (by omega)] at h0
    rw [old_none h0]
    rfl
def upK : List Int := List.replicate 16 1048576
def upD (D : DK) : DK := if D.down then (startD D).1 else (startD (crashD D upK).1).1
set_option maxHeartbeats 4000000 in
set_option maxRecDepth 100000 in
theorem upsT (p : Nat) (D : DK) (hD : okD D) (h0 : 0 ≤ D.starts) (h1 : D.starts ≤ 1000000) :
    Triple Try.prog 31 [.pointer (some ⟨p, 0, none⟩)] [DiskM p D] [] Unit (fun _ => .tuple #[]) (fun _ => True) (fun _ => [DiskM p (upD D)]) := by
  have T1 := upM p D hD
  refine triple_intro Try.tbs_ok Try.func31 rfl [.va (.pointer (some ⟨p, 0, none⟩))] [.fact (DiskM p D)] ⟨trivial, trivial⟩ rfl (by simp) ?_
  intro E
  unfold upD
  cases hd : D.down with
  | true =>
    rw [hd] at T1
    have T2 := startM p D hD h0 (by omega)
    refine go Try.tbs_ok 1000 ?_
    refine ev_callF (T1 ) [0] [] rfl rfl (by decide) rfl (by simp) (fun _ => (by repeat (first | exact trivial | refine ⟨rfl, ?_⟩))) (fun _ h10 => ?_)
    refine go Try.tbs_ok 1000 ?_
    refine ev_if_no rfl ?_
    refine go Try.tbs_ok 1000 ?_
    refine ev_callF (T2 ) [0] [] rfl rfl (by decide) rfl (by simp) (fun _ => (by repeat (first | exact trivial | refine ⟨rfl, ?_⟩))) (fun _ h11 => ?_)
    refine go Try.tbs_ok 1000 ?_
    refine ev_fin ⟨trivial, _, rfl, (()), rfl, (by trivial), Frm.sel [0] rfl (by decide)⟩
  | false =>
    rw [hd] at T1
    have T3 := fun b => (crashM p D (some ⟨b, 0, none⟩) 16 16 upK hD rfl).reads (N' := [Pt b 3 [.int .i64 1048576, .int .i64 1048576, .int .i64 1048576, .int .i64 1048576, .int .i64 1048576, .int .i64 1048576, .int .i64 1048576, .int .i64 1048576, .int .i64 1048576, .int .i64 1048576, .int .i64 1048576, .int .i64 1048576, .int .i64 1048576, .int .i64 1048576, .int .i64 1048576, .int .i64 1048576]]) (fun X hX => ⟨_, List.mem_cons_self, fun _ q => by rw [List.mem_singleton.1 hX]; exact Pt.rd q rfl⟩)
    have hst : (crashD D upK).1.starts = D.starts := by unfold crashD; rw [hd]; rfl
    have hD2 := crash_ok hD upK
    obtain ⟨D2, e2⟩ : ∃ D2, D2 = crashD D upK := ⟨_, rfl⟩
    rw [← e2] at T3 hst hD2 ⊢
    have T4 := startM p D2.1 hD2 (by omega) (by omega)
    refine go Try.tbs_ok 1000 ?_
    refine ev_callF (T1 ) [0] [] rfl rfl (by decide) rfl (by simp) (fun _ => (by repeat (first | exact trivial | refine ⟨rfl, ?_⟩))) (fun _ h30 => ?_)
    refine go Try.tbs_ok 1000 ?_
    refine ev_if_yes rfl ?_
    refine go Try.tbs_ok 1000 ?_
    refine ev_new fun b31 => ?_
    refine ev_callF (T3 (b31)) [0] [.inr 1] rfl rfl (by decide) rfl (by simp) (fun _ => (by repeat (first | exact trivial | refine ⟨rfl, ?_⟩))) (fun _ h32 => ?_)
    refine go Try.tbs_ok 1000 ?_
    refine ev_callF (T4 ) [0] [] rfl rfl (by decide) rfl (by simp) (fun _ => (by repeat (first | exact trivial | refine ⟨rfl, ?_⟩))) (fun _ h33 => ?_)
    refine go Try.tbs_ok 1000 ?_
    refine ev_fin ⟨trivial, _, rfl, (()), rfl, (by trivial), Frm.sel [0] rfl (by decide)⟩
/-- a disk of so many bytes with acts done -/
def playD (m : Int) (l : List ActD) : DK := l.foldl (fun D x => (doesD D x).1) ⟨m, 0, false, [], none, []⟩
theorem playD_step {m : Int} {l : List ActD} {i : Nat} (hi : i < l.length) : playD m (l.take (i + 1)) = (doesD (playD m (l.take i)) l[i]).1 := by
  unfold playD
  rw [← List.take_append_getElem hi, List.foldl_append]
  rfl
structure fineD (m : Int) (k : Nat) (D : DK) : Prop where
  good : okD D
  most : D.most = m
  lo : 0 ≤ D.starts
  hi : D.starts ≤ k
theorem playD_fine {m : Int} (h1 : 1 ≤ m) (h2 : m ≤ 1048576) {l : List ActD} (hl : ∀ x ∈ l, fineA x) (i : Nat) : fineD m i (playD m (l.take i)) := by
  induction i with
  | zero => exact ⟨new_ok h1 h2, rfl, Int.le_refl _, Int.le_refl _⟩
  | succ i ih =>
    by_cases hi : i < l.length
    · rw [playD_step hi]
      have := does_starts (playD m (l.take i)) l[i]
      have a := ih.lo
      have b := ih.hi
      have c := ih.most
      exact ⟨does_ok ih.good (hl _ (List.getElem_mem hi)), by omega, by omega, by omega⟩
    · have e : l.take (i + 1) = l.take i := by rw [List.take_of_length_le (by omega), List.take_of_length_le (by omega)]
      rw [e]
      have := ih.hi
      exact ⟨ih.good, ih.most, ih.lo, by omega⟩
set_option maxRecDepth 100000 in
theorem playedT (z : Int) (A : Option Addr) (l : List ActD) (n c : Nat) (hz : 0 ≤ z) (hz2 : z ≤ 65535) (hn : n = l.length) (h1 : n ≤ 150) (hl : ∀ x ∈ l, fineA x) :
    Triple Try.prog 27 [.int .u16 z, .slice A n c] [] [Rd 6 A n (l.flatMap encA), Acts l] Nat (fun p => .pointer (some ⟨p, 0, none⟩)) (fun _ => True) (fun p => [DiskM p (playD (1 + z % 5000) l)]) := by
  have hz5 : z.tmod 5000 = z % 5000 := Int.tmod_eq_emod_of_nonneg hz
  have T1 := newM (1 + z.tmod 5000) (by omega) (by omega)
  rw [← hz5]
  refine triple_intro Try.tbs_ok Try.func27 rfl [.va (.int .u16 z), .va (.slice A n c)] [] ⟨trivial, trivial, trivial⟩ rfl (by simp) ?_
  intro E
  refine go Try.tbs_ok 1000 ?_
  refine ev_w64 (by constructor <;> omega) ?_
  refine ev_w64 (by constructor <;> omega) ?_
  refine ev_callF (T1 ) [] [] rfl rfl (by decide) rfl (by simp) (fun _ => (by repeat (first | exact trivial | refine ⟨rfl, ?_⟩))) (fun x0 h1 => ?_)
  refine go Try.tbs_ok 1000 ?_
  refine ev_stop (go_loopR [7, 8, 13, 16, 17, 18, 19, 20, 21, 22, 23, 24, 25, 26, 27, 28, 29, 30, 31] (fun i => [(7, .va (.int .i64 (i : Nat)))]) (fun i => [(0, .fact (DiskM x0 (playD (1 + z.tmod 5000) (l.take i))))]) (fun i => i ≤ n) (fun i => n - i) (0 : Nat) (Nat.zero_le _) ⟨⟨by kernel_rfl, by kernel_rfl⟩, ⟨_, rfl⟩, ⟨_, rfl⟩, by kernel_rfl, by kernel_rfl⟩ (fun i hi => ?_))
  refine go Try.tbs_ok 1000 ?_
  refine ev_if_lt (fun hlt => ?_) (fun hge => ?_)
  · have hil : i < l.length := by
      have : (i : Int) < (n : Int) := hlt
      omega
    have hf := playD_fine (m := 1 + z.tmod 5000) (by omega) (by omega) hl i
    refine go_more 1 (Acts l) (Rd 1 l[i].A l[i].K.length (l[i].K.flatMap encN)) rfl (fun h p => p _ (List.getElem_mem hil)) ?_
    have T2 := doesT x0 (playD (1 + z.tmod 5000) (l.take i)) l[i] hf.good (hl _ (List.getElem_mem hil)) hf.lo (by have := hf.hi; omega)
    rw [← playD_step hil] at T2
    refine go Try.tbs_ok 1000 ?_
    refine ev_stop (go_indexE (sz := 6) Try.tbs_ok (.inl 0) (i) rfl rfl rfl rfl rfl rfl (by omega) rfl (fun _ h => h) (fun g30 o32 e31 => ?_))
    subst e31
    refine go Try.tbs_ok 1000 ?_
    have l33 : i < (l).length := (by omega)
    refine ev_stop (go_loadE Try.tbs_ok (.inl 0) (i) 0 rfl rfl rfl rfl (fun _ h => h) (by omega) (fun _ => rfl) (by omega) l33 (by decide) ?_)
    refine go Try.tbs_ok 1000 ?_
    refine ev_callF (T2 ) [0] [.inl 2] rfl rfl (by decide) rfl (by simp) (fun _ => (by repeat (first | exact trivial | refine ⟨rfl, ?_⟩))) (fun _ h34 => ?_)
    refine go Try.tbs_ok 1000 ?_
    refine ev_wrapN (i + 1) (by constructor <;> omega) (by rfl) ?_
    refine ev_fin (round_next (i + 1) (show i + 1 ≤ n from (by omega)) (show n - (i + 1) < n - i from (by omega)) ⟨⟨by kernel_rfl, by kernel_rfl⟩, ⟨_, rfl⟩, ⟨_, rfl⟩, by kernel_rfl, by kernel_rfl⟩)
  · have e : l.take i = l := List.take_of_length_le (by
      have : ¬ (i : Int) < (n : Int) := hge
      omega)
    rw [e]
    refine go Try.tbs_ok 1000 ?_
    refine ev_fin (go Try.tbs_ok 1000 ?_)
    refine ev_fin ⟨trivial, _, rfl, (x0), rfl, (by trivial), Frm.sel [0] rfl (by decide)⟩
end Go.Proofs.Ythknokcgclcbmaa
