/-
  What is proved: what the laws of disks are handed. Conditions: none.
-/
import Derived.Test.YthknokcgclcbmaaDP
import Derived.Test.YthknokcgclcbmaaRZ
namespace Go.Proofs.Ythknokcgclcbmaa
open Go.Sy Go.RowKit Go.ChangeShapes Go.WideShapes

theorem int_dec {w : World} {F : Nat} {vs : List Value} (hl : vs.length = 1) (h : Sees Try.tab w (F + 1) 3 vs) : ∃ x : Int, vs = encN x ∧ True := by
  obtain ⟨n0, e0, _⟩ := leaf_int (F := F) (d := 0) (k := .i64) (u := 3) rfl rfl h 0 (by decide)
  exact ⟨n0, eq_of_at hl (And.intro e0 trivial), trivial⟩
theorem str_dec {w : World} {F : Nat} {vs : List Value} (hl : vs.length = 1) (h : Sees Try.tab w (F + 1) 9 vs) : ∃ x : ByteArray, vs = encS x ∧ x.size ≤ maxLen := by
  obtain ⟨n0, e0, w0⟩ := leaf_string (F := F) (d := 0) (u := 9) rfl rfl h 0 (by decide)
  exact ⟨n0, eq_of_at hl (And.intro e0 trivial), w0⟩
theorem actD_dec {w : World} {F : Nat} {vs : List Value} (hl : vs.length = 6) (h : Sees Try.tab w (F + 1 + 1 + 1) 35 vs) : ∃ x : ActD, vs = encA x ∧ (x.rd.holds (hp w) ∧ inA x) := by
  obtain ⟨n0, e0, w0⟩ := leaf_int (F := F + 1) (d := 1) (k := .u8) (u := 5) rfl rfl h 0 (by decide)
  obtain ⟨n1, e1, w1⟩ := leaf_string (F := F + 1) (d := 1) (u := 9) rfl rfl h 1 (by decide)
  obtain ⟨n2, e2, w2⟩ := leaf_string (F := F + 1) (d := 1) (u := 9) rfl rfl h 2 (by decide)
  obtain ⟨n3, e3, w3⟩ := leaf_string (F := F + 1) (d := 1) (u := 9) rfl rfl h 3 (by decide)
  obtain ⟨n4, e4, w4⟩ := leaf_int (F := F + 1) (d := 1) (k := .i64) (u := 3) rfl rfl h 4 (by decide)
  obtain ⟨A5, n5, c5, l5, e5, hn5, hc5, hm5, hr5, hg5⟩ := leaf_slice (F := F + 1) (d := 1) (u := 33) (el := 3) (enc := encN) (G := fun _ => True) rfl rfl (by decide) encN_len (fun _ => rfl) (fun vs hl h => int_dec hl h) rfl h 5 (by decide)
  subst hn5
  exact ⟨⟨n0, n1, n2, n3, n4, l5, A5, c5⟩, eq_of_at hl (And.intro e0 (And.intro e1 (And.intro e2 (And.intro e3 (And.intro e4 (And.intro e5 trivial)))))), hr5, ⟨wf_u8 w0, (wf_i64 w4).2⟩⟩
theorem acts_in {w : World} {l : List ActD} (h : ∀ x ∈ l, x.rd.holds (hp w) ∧ inA x) : (Acts l).holds (hp w) ∧ ∀ x ∈ l, inA x := ⟨fun x hx => (h x hx).1, fun x hx => (h x hx).2⟩
theorem maxLen_le {n c : Nat} (h : n ≤ c) (h2 : c ≤ maxLen) : n ≤ 9223372036854775807 := Nat.le_trans h h2
end Go.Proofs.Ythknokcgclcbmaa
