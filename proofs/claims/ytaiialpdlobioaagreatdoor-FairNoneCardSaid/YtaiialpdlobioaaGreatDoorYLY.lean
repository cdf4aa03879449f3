/-
  What is proved: the law's example comes out true, as the executor has it. Conditions: none.
-/
import Derived.Test.YtaiialpdlobioaaGreatDoorZf2
namespace Go.Proofs.YtaiialpdlobioaaGreatDoor
open Go.Ex

set_option maxRecDepth 1000000 in
theorem lives29_run : isT (Ex.start E0 60 20 []) = true := by kernel_rfl
end Go.Proofs.YtaiialpdlobioaaGreatDoor
