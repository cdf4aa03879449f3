/-
  No cell of these rows narrows 'for every input' (looked for: loops, veiled, ifaces, maps, wideKeys, modest, calm, conditions, laid).
  DERIVED. THE GIVEN ROWS OF THIS SEAT. 3 by the template 'for every input the law returns true; each argument reads behind the call as it read before'; 0 by the template 'total and deterministic' (their statements: YtagfngobpooppaaTotals.lean).
  GIVEN WITH THE SEED: the statements are not yours to turn. If you find one false, say at which input.
  Laid BY PROGRAM, IN A SANDBOX (cutbox-rows.mjs): the forced cells as the released guide's own fill.sh prints them over the translation 8d605919985282f5… (all of the seat's roots in one cut). By AI agents, Wed Nov 11 2026. No macro, syntax, notation, axiom, sorry.
-/
import Derived.Test.YtagfngobpooppaaChecked
import GoSem.Claim
import GoSem.ClaimJoined
import GoSem.ClaimMapViews
import Derived.JoinedTies
import Derived.KernelRfl
namespace Go.Proofs.Ytagfngobpooppaa
/- THE CELL 'sum', in the pinned program and in every row, IS THE sha256 OF THE DUMP (.gsa) THAT YtagfngobpooppaaProg.lean LOADS. Nothing in Lean hashes anything: it is a label: what it is worth is what the hold of that sum in a sandbox is worth. -/
noncomputable def Try.pinned : Pinned := { name := "ytagfngobpooppaa", sum := "8d605919985282f5677ad51f3665111d5b29e2e57a988f7bb07dad7bfad4d4a4", checked := Try.checked }
namespace Rows
def none {H : Type} : Left H := { results := [], args := [] }

/-- 'archipelagolaw28.PremisesTell': WHATEVER THE INPUT: true; the input reads as it did. -/
def premisesTellSpec : ChangeSpec := { name := "premisesTell", fn := fun _ => fun
  | [d1, d2] => { results := [.lit (.bool true)], args := [d1, d2] }
  | _ => none }
def premisesTellRow : OpenClaim := { program := "ytagfngobpooppaa", sum := "8d605919985282f5677ad51f3665111d5b29e2e57a988f7bb07dad7bfad4d4a4", func := "archipelago/archipelagolaw28.PremisesTell", spec := "premisesTell", apart := false }
def PremisesTellSaid : Prop := premisesTellRow.holds Try.pinned (OpenSpec.ofChange premisesTellSpec)

/-- ITS FALSE NEIGHBOUR: 'it returns false'. Refute it at one input. -/
def premisesTellWrong : ChangeSpec := { name := "premisesTell", fn := fun _ => fun
  | [d1, d2] => { results := [.lit (.bool false)], args := [d1, d2] }
  | _ => none }
def PremisesTellWrongFalsely : Prop := premisesTellRow.holds Try.pinned (OpenSpec.ofChange premisesTellWrong)

/-- 'archipelagolaw28.PremisesMore': WHATEVER THE INPUT: true; the input reads as it did. -/
def premisesMoreSpec : ChangeSpec := { name := "premisesMore", fn := fun _ => fun
  | [d1, d2, d3] => { results := [.lit (.bool true)], args := [d1, d2, d3] }
  | _ => none }
def premisesMoreRow : OpenClaim := { program := "ytagfngobpooppaa", sum := "8d605919985282f5677ad51f3665111d5b29e2e57a988f7bb07dad7bfad4d4a4", func := "archipelago/archipelagolaw28.PremisesMore", spec := "premisesMore", apart := false }
def PremisesMoreSaid : Prop := premisesMoreRow.holds Try.pinned (OpenSpec.ofChange premisesMoreSpec)

/-- ITS FALSE NEIGHBOUR: 'it returns false'. Refute it at one input. -/
def premisesMoreWrong : ChangeSpec := { name := "premisesMore", fn := fun _ => fun
  | [d1, d2, d3] => { results := [.lit (.bool false)], args := [d1, d2, d3] }
  | _ => none }
def PremisesMoreWrongFalsely : Prop := premisesMoreRow.holds Try.pinned (OpenSpec.ofChange premisesMoreWrong)

/-- 'archipelagolaw28.PremisesMost': WHATEVER THE INPUT: true; the input reads as it did. -/
def premisesMostSpec : ChangeSpec := { name := "premisesMost", fn := fun _ => fun
  | [d] => { results := [.lit (.bool true)], args := [d] }
  | _ => none }
def premisesMostRow : OpenClaim := { program := "ytagfngobpooppaa", sum := "8d605919985282f5677ad51f3665111d5b29e2e57a988f7bb07dad7bfad4d4a4", func := "archipelago/archipelagolaw28.PremisesMost", spec := "premisesMost", apart := false }
def PremisesMostSaid : Prop := premisesMostRow.holds Try.pinned (OpenSpec.ofChange premisesMostSpec)

/-- ITS FALSE NEIGHBOUR: 'it returns false'. Refute it at one input. -/
def premisesMostWrong : ChangeSpec := { name := "premisesMost", fn := fun _ => fun
  | [d] => { results := [.lit (.bool false)], args := [d] }
  | _ => none }
def PremisesMostWrongFalsely : Prop := premisesMostRow.holds Try.pinned (OpenSpec.ofChange premisesMostWrong)

/- THE SECOND FORM. 'bulk': how many values and letters a reading holds, each counted each time it is reached (what is shared counts as often as it is met; a slice's spare places count too). A statement '..UptoSaid' is the law's where the arguments, and the package variables that the reading takes, are together of bulk at most 1048576: NARROWER than '..Said'. Prove '..Said' where nothing that the law and all that it calls make is longer than what came in: it says more and counts as full. Else prove '..UptoSaid'. A law counts once. -/
mutual
def uptoBulk {H : Type} : DataW H → Nat
  | .lit (.string bytes) => bytes.length + 1
  | .lit _ => 1
  | .nil => 1
  | .ptr d => uptoBulk d + 1
  | .slice elems spare => uptoBulkAll elems + uptoBulkAll spare + 1
  | .agg parts => uptoBulkAll parts + 1
  | .iface _ d => uptoBulk d + 1
  | .map entries => uptoBulkEntries entries + 1
  | .held _ => 1
def uptoBulkAll {H : Type} : List (DataW H) → Nat
  | [] => 0
  | d :: r => uptoBulk d + uptoBulkAll r
def uptoBulkEntries {H : Type} : List (Lit × DataW H) → Nat
  | [] => 0
  | x :: r => uptoBulkEntry x + uptoBulkEntries r
def uptoBulkEntry {H : Type} : Lit × DataW H → Nat
  | (.string bytes, d) => bytes.length + uptoBulk d + 1
  | (_, d) => uptoBulk d + 1
 end
def uptoSmall : (H : Type) → List (DataW H) → Bool := fun _ ds => decide (uptoBulkAll ds ≤ 1048576)
def OpenSpec.upto (s : _root_.Go.ChangeSpec) : _root_.Go.OpenSpec := { _root_.Go.OpenSpec.ofChange s with cond := some uptoSmall }

/-- 'archipelagolaw28.PremisesTell', WHERE WHAT IT READS IS OF BULK AT MOST 1048576: true; the input reads as it did. -/
def premisesTellUptoRow : OpenClaim := { program := "ytagfngobpooppaa", sum := "8d605919985282f5677ad51f3665111d5b29e2e57a988f7bb07dad7bfad4d4a4", func := "archipelago/archipelagolaw28.PremisesTell", spec := "premisesTell", apart := false, narrowed := true }
def PremisesTellUptoSaid : Prop := premisesTellUptoRow.holds Try.pinned (OpenSpec.upto premisesTellSpec)

/-- 'archipelagolaw28.PremisesMore', WHERE WHAT IT READS IS OF BULK AT MOST 1048576: true; the input reads as it did. -/
def premisesMoreUptoRow : OpenClaim := { program := "ytagfngobpooppaa", sum := "8d605919985282f5677ad51f3665111d5b29e2e57a988f7bb07dad7bfad4d4a4", func := "archipelago/archipelagolaw28.PremisesMore", spec := "premisesMore", apart := false, narrowed := true }
def PremisesMoreUptoSaid : Prop := premisesMoreUptoRow.holds Try.pinned (OpenSpec.upto premisesMoreSpec)

/-- 'archipelagolaw28.PremisesMost', WHERE WHAT IT READS IS OF BULK AT MOST 1048576: true; the input reads as it did. -/
def premisesMostUptoRow : OpenClaim := { program := "ytagfngobpooppaa", sum := "8d605919985282f5677ad51f3665111d5b29e2e57a988f7bb07dad7bfad4d4a4", func := "archipelago/archipelagolaw28.PremisesMost", spec := "premisesMost", apart := false, narrowed := true }
def PremisesMostUptoSaid : Prop := premisesMostUptoRow.holds Try.pinned (OpenSpec.upto premisesMostSpec)

end Rows
end Go.Proofs.Ytagfngobpooppaa
