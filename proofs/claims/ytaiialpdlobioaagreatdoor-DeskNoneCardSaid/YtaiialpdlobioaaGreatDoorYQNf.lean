/-
  What is proved: deskNone: closed facts of the row. Conditions: none.
-/
import Derived.Test.YtaiialpdlobioaaGreatDoorRows
import Derived.Test.YtaiialpdlobioaaGreatDoorChecked
import Derived.Stop.Joined
import Derived.ChangeShapes
import Derived.WideShapes
import Derived.RowKit
import Derived.KernelRfl
namespace Go.Proofs.YtaiialpdlobioaaGreatDoor
open Go.RowKit Go.ChangeShapes Go.WideShapes

theorem fact_inPlace : (Rows.deskNoneRow.inPlace == Tryz.prog.inPlace 5) = true := by kernel_rfl
theorem fact_unfollowed : (Rows.deskNoneRow.unfollowed == Tryz.prog.unfollowed 5) = true := by kernel_rfl
theorem fact_recurses : (Rows.deskNoneRow.recurses == Tryz.prog.recurses 5) = true := by kernel_rfl
theorem fact_named : (Rows.deskNoneRow.named == Tryz.prog.varsNamed 5) = true := by kernel_rfl
theorem facts_all : joinedFacts Tryz.prog 5 Tryz.f5 Rows.deskNoneSpec Rows.deskNoneRow = true := by
  unfold joinedFacts
  rw [fact_inPlace, fact_unfollowed, fact_recurses, fact_named]
  kernel_rfl
end Go.Proofs.YtaiialpdlobioaaGreatDoor
