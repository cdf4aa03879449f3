/-
  What is proved: worldsNone: of the card. Conditions: none.
-/
import Derived.Test.YtaiialpdlobioaaGreatDoorCards
import Derived.KernelRfl
namespace Go.Proofs.YtaiialpdlobioaaGreatDoor


theorem card_goes : false = Rows.worldsNoneRow.goesBy Tryz.pinned.checked.prog := by kernel_rfl
end Go.Proofs.YtaiialpdlobioaaGreatDoor
