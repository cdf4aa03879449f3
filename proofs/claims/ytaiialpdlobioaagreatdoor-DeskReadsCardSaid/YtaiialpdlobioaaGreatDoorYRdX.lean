/-
  What is proved: the law's example, as a call. Conditions: none.
-/
import Derived.Test.YtaiialpdlobioaaGreatDoorZr5
import Derived.Test.YtaiialpdlobioaaGreatDoorYQX
namespace Go.Proofs.YtaiialpdlobioaaGreatDoor
open Go.Sy Go.RowKit

/-- the law's example -/
theorem livesT : Triple Tryz.prog 21 [] [] [EnvA] Unit (fun _ => .bool true) (fun _ => True) (fun _ => []) := by
  intro w hm hn h1 h2 h3 h4 h5
  have hE : EnvW w := h5 EnvA List.mem_cons_self w h2
  refine (calls_of pkQ0 follows_mixed rfl rfl (by kernel_rfl) lives30_run hE.tabs (xs := []) rfl).mono fun e w' he => ?_
  obtain ⟨rfl, hb⟩ := he
  exact ⟨(), Hp.emp, rfl, trivial, trivial, Hp.emp_le _, ⟨hb.os, hb.tape, hb.output, hb.size, fun b hl _ => hb.block b hl⟩, fun b q => absurd rfl q⟩
end Go.Proofs.YtaiialpdlobioaaGreatDoor
