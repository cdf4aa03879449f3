/-
  What is proved: what each row asks of the program. Conditions: none.
-/
import Derived.Test.YtkjpfodnbjbmfaaGl3
import Derived.Test.YtkjpfodnbjbmfaaTab
namespace Go.Proofs.Ytkjpfodnbjbmfaa
open Go.Sy Go.RowKit Go.ChangeShapes Go.WideShapes

theorem Try.own : ownKnob Try.prog.godebug = none := by kernel_rfl
theorem Try.laidOut : laidOutB Try.prog = true := by kernel_rfl
end Go.Proofs.Ytkjpfodnbjbmfaa
