/-
  What is proved: deskReads: closed facts of the row. Conditions: none.
-/
import Derived.Test.YtaiialpdlobioaaGreatDoorRows
import Derived.Test.YtaiialpdlobioaaGreatDoorChecked
import Derived.Stop.Joined
import Derived.ChangeShapes
import Derived.WideShapes
import Derived.RowKit
import Derived.KernelRfl
namespace Go.Proofs.YtaiialpdlobioaaGreatDoor
open Go.RowKit Go.ChangeShapes Go.WideShapes

theorem fact_inPlace : (Rows.deskReadsRow.inPlace == Tryz.prog.inPlace 6) = true := by kernel_rfl
theorem fact_unfollowed : (Rows.deskReadsRow.unfollowed == Tryz.prog.unfollowed 6) = true := by kernel_rfl
theorem fact_recurses : (Rows.deskReadsRow.recurses == Tryz.prog.recurses 6) = true := by kernel_rfl
theorem fact_named : (Rows.deskReadsRow.named == Tryz.prog.varsNamed 6) = true := by kernel_rfl
theorem facts_all : joinedFacts Tryz.prog 6 Tryz.f6 Rows.deskReadsSpec Rows.deskReadsRow = true := by
  unfold joinedFacts
  rw [fact_inPlace, fact_unfollowed, fact_recurses, fact_named]
  kernel_rfl
end Go.Proofs.YtaiialpdlobioaaGreatDoor
