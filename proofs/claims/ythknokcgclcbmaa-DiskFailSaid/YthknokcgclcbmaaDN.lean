/-
  What is proved: the chapter's disk. Conditions: none.
-/
import Derived.Test.YthknokcgclcbmaaDM
namespace Go.Proofs.Ythknokcgclcbmaa
open Go.Sy

theorem sameIntsL (A : Option Addr) (L : List Int) (m c b n : Nat) (vs : List Int) (hm : m = L.length) (hn : n = vs.length) (h1 : m ≤ 1000000) :
    Triple Try.prog 19 [.slice A m c, .slice (some ⟨b, 0, none⟩) n n] [] [Row 3 1 A m c (L.flatMap encN), Pt b 3 (vs.flatMap encN)] Unit (fun _ => .bool (decide (L = vs))) (fun _ => True) (fun _ => []) :=
  (sameInts A (some ⟨b, 0, none⟩) L vs m c n n hm hn h1).reads fun X hX => by
    simp only [List.mem_cons, List.not_mem_nil, or_false] at hX
    rcases hX with rfl | rfl
    · exact ⟨_, List.mem_cons_self, fun _ q => Row.rd q⟩
    · exact ⟨_, List.mem_cons_of_mem _ List.mem_cons_self, fun _ q => Pt.rd q (by rw [hn, flat_len (sz := 1) (fun _ => rfl)])⟩
theorem sameTextsL (A : Option Addr) (L : List ByteArray) (m c b n : Nat) (vs : List ByteArray) (hm : m = L.length) (hn : n = vs.length) (h1 : m ≤ 1000000) :
    Triple Try.prog 14 [.slice A m c, .slice (some ⟨b, 0, none⟩) n n] [] [Row 9 1 A m c (L.flatMap encS), Pt b 9 (vs.flatMap encS)] Unit (fun _ => .bool (decide (L = vs))) (fun _ => True) (fun _ => []) :=
  (sameTexts A (some ⟨b, 0, none⟩) L vs m c n n hm hn h1).reads fun X hX => by
    simp only [List.mem_cons, List.not_mem_nil, or_false] at hX
    rcases hX with rfl | rfl
    · exact ⟨_, List.mem_cons_self, fun _ q => Row.rd q⟩
    · exact ⟨_, List.mem_cons_of_mem _ List.mem_cons_self, fun _ q => Pt.rd q (by rw [hn, flat_len (sz := 1) (fun _ => rfl)])⟩
def wD0 : DK := ⟨10, 0, false, [], none, []⟩
theorem wO0 : okD wD0 := new_ok (by decide) (by decide)
def wD1 : DK := ⟨10, 0, false, [⟨⟨#[98]⟩, ⟨#[120, 121, 122]⟩, 0⟩], none, []⟩
theorem wE1 : appD wD0 ⟨#[98]⟩ ⟨#[120, 121, 122]⟩ = (wD1, 0) := by decide +kernel
theorem wO1 : okD wD1 := by
  have := app_ok wO0 ⟨#[98]⟩ ⟨#[120, 121, 122]⟩
  rwa [wE1] at this
theorem wT1 (p : Nat) : Triple Try.prog 34 [.pointer (some ⟨p, 0, none⟩), .string ⟨#[98]⟩, .string ⟨#[120, 121, 122]⟩] [DiskM p wD0] [] Unit (fun _ => .int .i64 0) (fun _ => True) (fun _ => [DiskM p wD1]) := by
  have := appM p wD0 ⟨#[98]⟩ ⟨#[120, 121, 122]⟩ wO0 (by decide)
  rwa [wE1] at this
def wD2 : DK := ⟨10, 0, false, [⟨⟨#[98]⟩, ⟨#[120, 121, 122]⟩, 3⟩], none, []⟩
theorem wE2 : syncD wD1 ⟨#[98]⟩ = (wD2, 0) := by decide +kernel
theorem wO2 : okD wD2 := by
  have := sync_ok wO1 ⟨#[98]⟩
  rwa [wE2] at this
theorem wT2 (p : Nat) : Triple Try.prog 40 [.pointer (some ⟨p, 0, none⟩), .string ⟨#[98]⟩] [DiskM p wD1] [] Unit (fun _ => .int .i64 0) (fun _ => True) (fun _ => [DiskM p wD2]) := by
  have := syncM p wD1 ⟨#[98]⟩ wO1
  rwa [wE2] at this
def wD3 : DK := ⟨10, 0, false, [⟨⟨#[98]⟩, ⟨#[120, 121, 122, 117, 118]⟩, 3⟩], none, []⟩
theorem wE3 : appD wD2 ⟨#[98]⟩ ⟨#[117, 118]⟩ = (wD3, 0) := by decide +kernel
theorem wO3 : okD wD3 := by
  have := app_ok wO2 ⟨#[98]⟩ ⟨#[117, 118]⟩
  rwa [wE3] at this
theorem wT3 (p : Nat) : Triple Try.prog 34 [.pointer (some ⟨p, 0, none⟩), .string ⟨#[98]⟩, .string ⟨#[117, 118]⟩] [DiskM p wD2] [] Unit (fun _ => .int .i64 0) (fun _ => True) (fun _ => [DiskM p wD3]) := by
  have := appM p wD2 ⟨#[98]⟩ ⟨#[117, 118]⟩ wO2 (by decide)
  rwa [wE3] at this
def wD4 : DK := ⟨10, 0, false, [⟨⟨#[97]⟩, ⟨#[49, 50, 51, 52, 53]⟩, 0⟩, ⟨⟨#[98]⟩, ⟨#[120, 121, 122, 117, 118]⟩, 3⟩], none, []⟩
theorem wE4 : appD wD3 ⟨#[97]⟩ ⟨#[49, 50, 51, 52, 53]⟩ = (wD4, 0) := by decide +kernel
theorem wO4 : okD wD4 := by
  have := app_ok wO3 ⟨#[97]⟩ ⟨#[49, 50, 51, 52, 53]⟩
  rwa [wE4] at this
theorem wT4 (p : Nat) : Triple Try.prog 34 [.pointer (some ⟨p, 0, none⟩), .string ⟨#[97]⟩, .string ⟨#[49, 50, 51, 52, 53]⟩] [DiskM p wD3] [] Unit (fun _ => .int .i64 0) (fun _ => True) (fun _ => [DiskM p wD4]) := by
  have := appM p wD3 ⟨#[97]⟩ ⟨#[49, 50, 51, 52, 53]⟩ wO3 (by decide)
  rwa [wE4] at this
def wD5 : DK := ⟨10, 0, false, [⟨⟨#[97]⟩, ⟨#[49, 50, 51, 52, 53]⟩, 0⟩, ⟨⟨#[98]⟩, ⟨#[120, 121, 122, 117, 118]⟩, 3⟩], none, []⟩
theorem wE5 : appD wD4 ⟨#[97]⟩ ⟨#[54]⟩ = (wD5, 40) := by decide +kernel
theorem wO5 : okD wD5 := by
  have := app_ok wO4 ⟨#[97]⟩ ⟨#[54]⟩
  rwa [wE5] at this
theorem wT5 (p : Nat) : Triple Try.prog 34 [.pointer (some ⟨p, 0, none⟩), .string ⟨#[97]⟩, .string ⟨#[54]⟩] [DiskM p wD4] [] Unit (fun _ => .int .i64 40) (fun _ => True) (fun _ => [DiskM p wD5]) := by
  have := appM p wD4 ⟨#[97]⟩ ⟨#[54]⟩ wO4 (by decide)
  rwa [wE5] at this
theorem wLeft (p : Nat) : Triple Try.prog 15 [.pointer (some ⟨p, 0, none⟩)] [DiskM p wD5] [] (Option Addr × Nat) (fun (C, e) => .slice C 2 e) (fun _ => True) (fun (C, e) => [DiskM p wD5, Row 3 1 C 2 e (([5, 2] : List Int).flatMap encN)]) := leftM p wD5 wO5
theorem wNames (p : Nat) : Triple Try.prog 12 [.pointer (some ⟨p, 0, none⟩)] [DiskM p wD5] [] (Option Addr × Nat) (fun (C, e) => .slice C 2 e) (fun _ => True) (fun (C, e) => [DiskM p wD5, Row 9 1 C 2 e (([⟨#[97]⟩, ⟨#[98]⟩] : List ByteArray).flatMap encS)]) := namesM p wD5 wO5
theorem wSame1 (A : Option Addr) (c b : Nat) : Triple Try.prog 19 [.slice A 2 c, .slice (some ⟨b, 0, none⟩) 2 2] [] [Row 3 1 A 2 c (([5, 2] : List Int).flatMap encN), Pt b 3 [.int .i64 5, .int .i64 2]] Unit (fun _ => .bool true) (fun _ => True) (fun _ => []) := sameIntsL A [5, 2] 2 c b 2 [5, 2] rfl rfl (by decide)
theorem wSame2 (A : Option Addr) (c b : Nat) : Triple Try.prog 14 [.slice A 2 c, .slice (some ⟨b, 0, none⟩) 2 2] [] [Row 9 1 A 2 c (([⟨#[97]⟩, ⟨#[98]⟩] : List ByteArray).flatMap encS), Pt b 9 [.string ⟨#[97]⟩, .string ⟨#[98]⟩]] Unit (fun _ => .bool true) (fun _ => True) (fun _ => []) := sameTextsL A [⟨#[97]⟩, ⟨#[98]⟩] 2 c b 2 [⟨#[97]⟩, ⟨#[98]⟩] rfl rfl (by decide)
def wD6 : DK := ⟨10, 0, true, [⟨⟨#[97]⟩, ⟨#[49, 50, 51]⟩, 3⟩, ⟨⟨#[98]⟩, ⟨#[120, 121, 122, 117]⟩, 4⟩], none, []⟩
theorem wE6 : crashD wD5 [3, 1] = (wD6, 0) := by decide +kernel
theorem wO6 : okD wD6 := by
  have := crash_ok wO5 [3, 1]
  rwa [wE6] at this
theorem wT6 (p : Nat) (b : Nat) : Triple Try.prog 30 [.pointer (some ⟨p, 0, none⟩), .slice (some ⟨b, 0, none⟩) 2 2] [DiskM p wD5] [Pt b 3 [.int .i64 3, .int .i64 1]] Unit (fun _ => .int .i64 0) (fun _ => True) (fun _ => [DiskM p wD6]) := by
  have := (crashM p wD5 (some ⟨b, 0, none⟩) 2 2 [3, 1] wO5 rfl).reads (N' := [Pt b 3 [.int .i64 3, .int .i64 1]]) (fun X hX => ⟨_, List.mem_cons_self, fun _ q => by rw [List.mem_singleton.1 hX]; exact Pt.rd q rfl⟩)
  rwa [wE6] at this
theorem wR1 (p : Nat) : Triple Try.prog 20 [.pointer (some ⟨p, 0, none⟩), .string ⟨#[98]⟩] [DiskM p wD6] [] Unit (fun _ => .tuple #[.string .empty, .int .i64 41]) (fun _ => True) (fun _ => [DiskM p wD6]) := by
  have := readM p wD6 ⟨#[98]⟩ wO6
  rwa [show readD wD6 ⟨#[98]⟩ = (.empty, 41) from by decide +kernel] at this
def wD7 : DK := ⟨10, 1, false, [⟨⟨#[97]⟩, ⟨#[49, 50, 51]⟩, 3⟩, ⟨⟨#[98]⟩, ⟨#[120, 121, 122, 117]⟩, 4⟩], none, []⟩
theorem wE7 : startD wD6  = (wD7, 0) := by decide +kernel
theorem wO7 : okD wD7 := by
  have := start_ok wO6
  rwa [wE7] at this
theorem wT7 (p : Nat) : Triple Try.prog 28 [.pointer (some ⟨p, 0, none⟩)] [DiskM p wD6] [] Unit (fun _ => .int .i64 0) (fun _ => True) (fun _ => [DiskM p wD7]) := by
  have := startM p wD6 wO6 (by decide) (by decide)
  rwa [wE7] at this
theorem wR2 (p : Nat) : Triple Try.prog 20 [.pointer (some ⟨p, 0, none⟩), .string ⟨#[98]⟩] [DiskM p wD7] [] Unit (fun _ => .tuple #[.string ⟨#[120, 121, 122, 117]⟩, .int .i64 0]) (fun _ => True) (fun _ => [DiskM p wD7]) := by
  have := readM p wD7 ⟨#[98]⟩ wO7
  rwa [show readD wD7 ⟨#[98]⟩ = (⟨#[120, 121, 122, 117]⟩, 0) from by decide +kernel] at this
def wD8 : DK := ⟨10, 1, false, [⟨⟨#[97]⟩, ⟨#[49, 50, 51]⟩, 3⟩, ⟨⟨#[98]⟩, ⟨#[120, 121, 122, 117]⟩, 4⟩], some 1, [0, 1]⟩
theorem wE8 : failD wD7 1 [0, 1] = (wD8, 0) := by decide +kernel
theorem wO8 : okD wD8 := by
  have := fail_ok wO7 1 (by decide) [0, 1]
  rwa [wE8] at this
theorem wT8 (p : Nat) (b : Nat) : Triple Try.prog 32 [.pointer (some ⟨p, 0, none⟩), .int .i64 1, .slice (some ⟨b, 0, none⟩) 2 2] [DiskM p wD7] [Pt b 3 [.int .i64 0, .int .i64 1]] Unit (fun _ => .int .i64 0) (fun _ => True) (fun _ => [DiskM p wD8]) := by
  have := (failM p wD7 1 (some ⟨b, 0, none⟩) 2 2 [0, 1] wO7 rfl (by decide)).reads (N' := [Pt b 3 [.int .i64 0, .int .i64 1]]) (fun X hX => ⟨_, List.mem_cons_self, fun _ q => by rw [List.mem_singleton.1 hX]; exact Pt.rd q rfl⟩)
  rwa [wE8] at this
def wD9 : DK := ⟨10, 1, false, [⟨⟨#[97]⟩, ⟨#[49, 50, 51]⟩, 3⟩, ⟨⟨#[98]⟩, ⟨#[120, 121, 122, 117, 113]⟩, 4⟩], some 0, [0, 1]⟩
theorem wE9 : appD wD8 ⟨#[98]⟩ ⟨#[113]⟩ = (wD9, 0) := by decide +kernel
theorem wO9 : okD wD9 := by
  have := app_ok wO8 ⟨#[98]⟩ ⟨#[113]⟩
  rwa [wE9] at this
theorem wT9 (p : Nat) : Triple Try.prog 34 [.pointer (some ⟨p, 0, none⟩), .string ⟨#[98]⟩, .string ⟨#[113]⟩] [DiskM p wD8] [] Unit (fun _ => .int .i64 0) (fun _ => True) (fun _ => [DiskM p wD9]) := by
  have := appM p wD8 ⟨#[98]⟩ ⟨#[113]⟩ wO8 (by decide)
  rwa [wE9] at this
def wD10 : DK := ⟨10, 1, true, [⟨⟨#[97]⟩, ⟨#[49, 50, 51]⟩, 3⟩, ⟨⟨#[98]⟩, ⟨#[120, 121, 122, 117, 113]⟩, 5⟩], none, [0, 1]⟩
theorem wE10 : appD wD9 ⟨#[98]⟩ ⟨#[114, 115]⟩ = (wD10, 41) := by decide +kernel
theorem wO10 : okD wD10 := by
  have := app_ok wO9 ⟨#[98]⟩ ⟨#[114, 115]⟩
  rwa [wE10] at this
theorem wT10 (p : Nat) : Triple Try.prog 34 [.pointer (some ⟨p, 0, none⟩), .string ⟨#[98]⟩, .string ⟨#[114, 115]⟩] [DiskM p wD9] [] Unit (fun _ => .int .i64 41) (fun _ => True) (fun _ => [DiskM p wD10]) := by
  have := appM p wD9 ⟨#[98]⟩ ⟨#[114, 115]⟩ wO9 (by decide)
  rwa [wE10] at this
def wD11 : DK := ⟨10, 2, false, [⟨⟨#[97]⟩, ⟨#[49, 50, 51]⟩, 3⟩, ⟨⟨#[98]⟩, ⟨#[120, 121, 122, 117, 113]⟩, 5⟩], none, [0, 1]⟩
theorem wE11 : startD wD10  = (wD11, 0) := by decide +kernel
theorem wO11 : okD wD11 := by
  have := start_ok wO10
  rwa [wE11] at this
theorem wT11 (p : Nat) : Triple Try.prog 28 [.pointer (some ⟨p, 0, none⟩)] [DiskM p wD10] [] Unit (fun _ => .int .i64 0) (fun _ => True) (fun _ => [DiskM p wD11]) := by
  have := startM p wD10 wO10 (by decide) (by decide)
  rwa [wE11] at this
theorem wR3 (p : Nat) : Triple Try.prog 20 [.pointer (some ⟨p, 0, none⟩), .string ⟨#[98]⟩] [DiskM p wD11] [] Unit (fun _ => .tuple #[.string ⟨#[120, 121, 122, 117, 113]⟩, .int .i64 0]) (fun _ => True) (fun _ => [DiskM p wD11]) := by
  have := readM p wD11 ⟨#[98]⟩ wO11
  rwa [show readD wD11 ⟨#[98]⟩ = (⟨#[120, 121, 122, 117, 113]⟩, 0) from by decide +kernel] at this
theorem wNew : Triple Try.prog 10 [.int .i64 10] [] [] Nat (fun p => .tuple #[.pointer (some ⟨p, 0, none⟩), .int .i64 0]) (fun _ => True) (fun p => [DiskM p wD0]) := newM 10 (by decide) (by decide)
theorem wStarts (p : Nat) : Triple Try.prog 26 [.pointer (some ⟨p, 0, none⟩)] [DiskM p wD11] [] Unit (fun _ => .int .i64 2) (fun _ => True) (fun _ => [DiskM p wD11]) := startsM p wD11 wO11
set_option maxHeartbeats 4000000 in
set_option maxRecDepth 100000 in
theorem works : Triple Try.prog 16 [] [] [] Unit (fun _ => .bool true) (fun _ => True) (fun _ => []) := by
  refine triple_intro Try.tbs_ok Try.func16 rfl [] [] trivial rfl (by simp) ?_
  intro E
  refine go Try.tbs_ok 1000 ?_
  refine ev_callF (wNew ) [] [] rfl rfl (by decide) rfl (by simp) (fun _ => (by repeat (first | exact trivial | refine ⟨rfl, ?_⟩))) (fun x0 h1 => ?_)
  refine go Try.tbs_ok 1000 ?_
  refine ev_if_no rfl ?_
  refine go Try.tbs_ok 1000 ?_
  refine ev_callF (wT1 (x0)) [0] [] rfl rfl (by decide) rfl (by simp) (fun _ => (by repeat (first | exact trivial | refine ⟨rfl, ?_⟩))) (fun _ h2 => ?_)
  refine go Try.tbs_ok 1000 ?_
  refine ev_callF (wT2 (x0)) [0] [] rfl rfl (by decide) rfl (by simp) (fun _ => (by repeat (first | exact trivial | refine ⟨rfl, ?_⟩))) (fun _ h3 => ?_)
  refine go Try.tbs_ok 1000 ?_
  refine ev_callF (wT3 (x0)) [0] [] rfl rfl (by decide) rfl (by simp) (fun _ => (by repeat (first | exact trivial | refine ⟨rfl, ?_⟩))) (fun _ h4 => ?_)
  refine go Try.tbs_ok 1000 ?_
  refine ev_callF (wT4 (x0)) [0] [] rfl rfl (by decide) rfl (by simp) (fun _ => (by repeat (first | exact trivial | refine ⟨rfl, ?_⟩))) (fun _ h5 => ?_)
  refine go Try.tbs_ok 1000 ?_
  refine ev_callF (wT5 (x0)) [0] [] rfl rfl (by decide) rfl (by simp) (fun _ => (by repeat (first | exact trivial | refine ⟨rfl, ?_⟩))) (fun _ h6 => ?_)
  refine go Try.tbs_ok 1000 ?_
  refine ev_if_no rfl ?_
  refine go Try.tbs_ok 1000 ?_
  refine ev_if_no rfl ?_
  refine go Try.tbs_ok 1000 ?_
  refine ev_if_no rfl ?_
  refine go Try.tbs_ok 1000 ?_
  refine ev_if_no rfl ?_
  refine go Try.tbs_ok 1000 ?_
  refine ev_if_no rfl ?_
  refine go Try.tbs_ok 1000 ?_
  refine ev_callF (wLeft (x0)) [0] [] rfl rfl (by decide) rfl (by simp) (fun _ => (by repeat (first | exact trivial | refine ⟨rfl, ?_⟩))) (fun ⟨x7, x8⟩ h9 => ?_)
  refine go Try.tbs_ok 1000 ?_
  refine ev_new fun b10 => ?_
  refine ev_callF (wSame1 (x7) (x8) (b10)) [] [.inr 1, .inr 2] rfl rfl (by decide) rfl (by simp) (fun _ => (by repeat (first | exact trivial | refine ⟨rfl, ?_⟩))) (fun _ h11 => ?_)
  refine go Try.tbs_ok 1000 ?_
  refine ev_if_no rfl ?_
  refine go Try.tbs_ok 1000 ?_
  refine ev_callF (wNames (x0)) [0] [] rfl rfl (by decide) rfl (by simp) (fun _ => (by repeat (first | exact trivial | refine ⟨rfl, ?_⟩))) (fun ⟨x12, x13⟩ h14 => ?_)
  refine go Try.tbs_ok 1000 ?_
  refine ev_new fun b15 => ?_
  refine ev_callF (wSame2 (x12) (x13) (b15)) [] [.inr 3, .inr 4] rfl rfl (by decide) rfl (by simp) (fun _ => (by repeat (first | exact trivial | refine ⟨rfl, ?_⟩))) (fun _ h16 => ?_)
  refine go Try.tbs_ok 1000 ?_
  refine ev_if_no rfl ?_
  refine go Try.tbs_ok 1000 ?_
  refine ev_new fun b17 => ?_
  refine ev_callF (wT6 (x0) (b17)) [0] [.inr 5] rfl rfl (by decide) rfl (by simp) (fun _ => (by repeat (first | exact trivial | refine ⟨rfl, ?_⟩))) (fun _ h18 => ?_)
  refine go Try.tbs_ok 1000 ?_
  refine ev_callF (wR1 (x0)) [0] [] rfl rfl (by decide) rfl (by simp) (fun _ => (by repeat (first | exact trivial | refine ⟨rfl, ?_⟩))) (fun _ h19 => ?_)
  refine go Try.tbs_ok 1000 ?_
  refine ev_callF (wT7 (x0)) [0] [] rfl rfl (by decide) rfl (by simp) (fun _ => (by repeat (first | exact trivial | refine ⟨rfl, ?_⟩))) (fun _ h20 => ?_)
  refine go Try.tbs_ok 1000 ?_
  refine ev_callF (wR2 (x0)) [0] [] rfl rfl (by decide) rfl (by simp) (fun _ => (by repeat (first | exact trivial | refine ⟨rfl, ?_⟩))) (fun _ h21 => ?_)
  refine go Try.tbs_ok 1000 ?_
  refine ev_new fun b22 => ?_
  refine ev_callF (wT8 (x0) (b22)) [0] [.inr 6] rfl rfl (by decide) rfl (by simp) (fun _ => (by repeat (first | exact trivial | refine ⟨rfl, ?_⟩))) (fun _ h23 => ?_)
  refine go Try.tbs_ok 1000 ?_
  refine ev_callF (wT9 (x0)) [0] [] rfl rfl (by decide) rfl (by simp) (fun _ => (by repeat (first | exact trivial | refine ⟨rfl, ?_⟩))) (fun _ h24 => ?_)
  refine go Try.tbs_ok 1000 ?_
  refine ev_callF (wT10 (x0)) [0] [] rfl rfl (by decide) rfl (by simp) (fun _ => (by repeat (first | exact trivial | refine ⟨rfl, ?_⟩))) (fun _ h25 => ?_)
  refine go Try.tbs_ok 1000 ?_
  refine ev_callF (wT11 (x0)) [0] [] rfl rfl (by decide) rfl (by simp) (fun _ => (by repeat (first | exact trivial | refine ⟨rfl, ?_⟩))) (fun _ h26 => ?_)
  refine go Try.tbs_ok 1000 ?_
  refine ev_callF (wR3 (x0)) [0] [] rfl rfl (by decide) rfl (by simp) (fun _ => (by repeat (first | exact trivial | refine ⟨rfl, ?_⟩))) (fun _ h27 => ?_)
  refine go Try.tbs_ok 1000 ?_
  refine ev_if_yes rfl ?_
  refine go Try.tbs_ok 1000 ?_
  refine ev_if_yes rfl ?_
  refine go Try.tbs_ok 1000 ?_
  refine ev_if_yes rfl ?_
  refine go Try.tbs_ok 1000 ?_
  refine ev_if_yes rfl ?_
  refine go Try.tbs_ok 1000 ?_
  refine ev_if_yes rfl ?_
  refine go Try.tbs_ok 1000 ?_
  refine ev_if_yes rfl ?_
  refine go Try.tbs_ok 1000 ?_
  refine ev_if_yes rfl ?_
  refine go Try.tbs_ok 1000 ?_
  refine ev_if_yes rfl ?_
  refine go Try.tbs_ok 1000 ?_
  refine ev_if_yes rfl ?_
  refine go Try.tbs_ok 1000 ?_
  refine ev_if_yes rfl ?_
  refine go Try.tbs_ok 1000 ?_
  refine ev_if_yes rfl ?_
  refine go Try.tbs_ok 1000 ?_
  refine ev_callF (wStarts (x0)) [0] [] rfl rfl (by decide) rfl (by simp) (fun _ => (by repeat (first | exact trivial | refine ⟨rfl, ?_⟩))) (fun _ h28 => ?_)
  refine go Try.tbs_ok 1000 ?_
  refine ev_fin ⟨trivial, _, rfl, (()), rfl, (by trivial), Frm.nil _⟩
end Go.Proofs.Ythknokcgclcbmaa
