/-
  What is proved: the law's example comes out true, as the executor has it. Conditions: none.
-/
import Derived.Test.YtaiialpdlobioaaGreatDoorZr5
namespace Go.Proofs.YtaiialpdlobioaaGreatDoor
open Go.Ex

set_option maxRecDepth 1000000 in
theorem lives30_run : isT (Ex.start EQ0 60 21 []) = true := by kernel_rfl
end Go.Proofs.YtaiialpdlobioaaGreatDoor
