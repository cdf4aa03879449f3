/-
  What is proved: the law itself, where the line is long; what is asked of each byte. Conditions: none.
-/
import Derived.Test.YtaiialpdlobioaaGreatDoorZq2
noncomputable section
namespace Go.Proofs.YtaiialpdlobioaaGreatDoor
open Go.Ex

set_option maxRecDepth 1000000 in
theorem run_longQ : isT (Ex.start (EQ true) 60 5 [.sy 0, .sy 1]) = true := by kernel_rfl
def bq (m : Nat) : Bool := isT (Ex.start (EQ false) 60 5 [.sy 0, .int .u8 (.ofNat m)])
/-- n bytes from a on are good -/
inductive BytesT : Nat → Nat → Prop where
  | none {a : Nat} : BytesT a 0
  | cons {a n : Nat} (h : bq a = true) (t : BytesT (a + 1) n) : BytesT a (n + 1)
theorem BytesT.at {a n : Nat} (h : BytesT a n) : ∀ m, a ≤ m → m < a + n → bq m = true := by
  induction h with
  | none => intro m h1 h2; omega
  | @cons a n h t ih =>
    intro m h1 h2
    by_cases e : m = a
    · subst e; exact h
    · exact ih m (by omega) (by omega)
end Go.Proofs.YtaiialpdlobioaaGreatDoor
