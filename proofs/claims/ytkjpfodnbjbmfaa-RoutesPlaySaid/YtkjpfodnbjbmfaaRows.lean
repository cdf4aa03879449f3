/-
  No cell of these rows narrows 'for every input' (looked for: loops, veiled, ifaces, maps, wideKeys, modest, calm, conditions, laid).
  DERIVED. THE GIVEN ROWS OF THIS SEAT. 5 by the template 'for every input the law returns true; each argument reads behind the call as it read before'; 0 by the template 'total and deterministic' (their statements: YtkjpfodnbjbmfaaTotals.lean).
  GIVEN WITH THE SEED: the statements are not yours to turn. If you find one false, say at which input.
  Laid BY PROGRAM, IN A SANDBOX (cutbox-rows.mjs): the forced cells as the released guide's own fill.sh prints them over the translation 9da25e1e6e833756… (all of the seat's roots in one cut). By AI agents, Wed Nov 11 2026. No macro, syntax, notation, axiom, sorry.
-/
import Derived.Test.YtkjpfodnbjbmfaaChecked
import GoSem.Claim
import GoSem.ClaimJoined
import GoSem.ClaimMapViews
import Derived.JoinedTies
import Derived.KernelRfl
namespace Go.Proofs.Ytkjpfodnbjbmfaa
/- THE CELL 'sum', in the pinned program and in every row, IS THE sha256 OF THE DUMP (.gsa) THAT YtkjpfodnbjbmfaaProg.lean LOADS. Nothing in Lean hashes anything: it is a label: what it is worth is what the hold of that sum in a sandbox is worth. -/
noncomputable def Try.pinned : Pinned := { name := "ytkjpfodnbjbmfaa", sum := "9da25e1e6e83375697f410f4bd027c05e4c069e404bacf62faff8d0fea964156", checked := Try.checked }
namespace Rows
def none {H : Type} : Left H := { results := [], args := [] }

/-- 'archipelagolaw21.RoutesFull': WHATEVER THE INPUT: true; the input reads as it did. -/
def routesFullSpec : ChangeSpec := { name := "routesFull", fn := fun _ => fun
  | [d1, d2] => { results := [.lit (.bool true)], args := [d1, d2] }
  | _ => none }
def routesFullRow : OpenClaim := { program := "ytkjpfodnbjbmfaa", sum := "9da25e1e6e83375697f410f4bd027c05e4c069e404bacf62faff8d0fea964156", func := "archipelago/archipelagolaw21.RoutesFull", spec := "routesFull", inPlace := ["slices.overlaps[int]"], plainKeys := false, apart := false }
def RoutesFullSaid : Prop := routesFullRow.holds Try.pinned (OpenSpec.ofChange routesFullSpec)

/-- ITS FALSE NEIGHBOUR: 'it returns false'. Refute it at one input. -/
def routesFullWrong : ChangeSpec := { name := "routesFull", fn := fun _ => fun
  | [d1, d2] => { results := [.lit (.bool false)], args := [d1, d2] }
  | _ => none }
def RoutesFullWrongFalsely : Prop := routesFullRow.holds Try.pinned (OpenSpec.ofChange routesFullWrong)

/-- 'archipelagolaw21.RoutesApart': WHATEVER THE INPUT: true; the input reads as it did. -/
def routesApartSpec : ChangeSpec := { name := "routesApart", fn := fun _ => fun
  | [d1, d2, d3] => { results := [.lit (.bool true)], args := [d1, d2, d3] }
  | _ => none }
def routesApartRow : OpenClaim := { program := "ytkjpfodnbjbmfaa", sum := "9da25e1e6e83375697f410f4bd027c05e4c069e404bacf62faff8d0fea964156", func := "archipelago/archipelagolaw21.RoutesApart", spec := "routesApart", inPlace := ["slices.overlaps[int]"], plainKeys := false, apart := false }
def RoutesApartSaid : Prop := routesApartRow.holds Try.pinned (OpenSpec.ofChange routesApartSpec)

/-- ITS FALSE NEIGHBOUR: 'it returns false'. Refute it at one input. -/
def routesApartWrong : ChangeSpec := { name := "routesApart", fn := fun _ => fun
  | [d1, d2, d3] => { results := [.lit (.bool false)], args := [d1, d2, d3] }
  | _ => none }
def RoutesApartWrongFalsely : Prop := routesApartRow.holds Try.pinned (OpenSpec.ofChange routesApartWrong)

/-- 'archipelagolaw21.RoutesPlay': WHATEVER THE INPUT: true; the input reads as it did. -/
def routesPlaySpec : ChangeSpec := { name := "routesPlay", fn := fun _ => fun
  | [d] => { results := [.lit (.bool true)], args := [d] }
  | _ => none }
def routesPlayRow : OpenClaim := { program := "ytkjpfodnbjbmfaa", sum := "9da25e1e6e83375697f410f4bd027c05e4c069e404bacf62faff8d0fea964156", func := "archipelago/archipelagolaw21.RoutesPlay", spec := "routesPlay", inPlace := ["slices.overlaps[int]"], unfollowed := true, recurses := true, plainKeys := false, apart := false }
def RoutesPlaySaid : Prop := routesPlayRow.holds Try.pinned (OpenSpec.ofChange routesPlaySpec)

/-- ITS FALSE NEIGHBOUR: 'it returns false'. Refute it at one input. -/
def routesPlayWrong : ChangeSpec := { name := "routesPlay", fn := fun _ => fun
  | [d] => { results := [.lit (.bool false)], args := [d] }
  | _ => none }
def RoutesPlayWrongFalsely : Prop := routesPlayRow.holds Try.pinned (OpenSpec.ofChange routesPlayWrong)

/-- 'archipelagolaw21.RoutesNone': WHATEVER THE INPUT: true; the input reads as it did. -/
def routesNoneSpec : ChangeSpec := { name := "routesNone", fn := fun _ => fun
  | [d1, d2, d3] => { results := [.lit (.bool true)], args := [d1, d2, d3] }
  | _ => none }
def routesNoneRow : OpenClaim := { program := "ytkjpfodnbjbmfaa", sum := "9da25e1e6e83375697f410f4bd027c05e4c069e404bacf62faff8d0fea964156", func := "archipelago/archipelagolaw21.RoutesNone", spec := "routesNone", inPlace := ["slices.overlaps[int]"], unfollowed := true, recurses := true, plainKeys := false, apart := false }
def RoutesNoneSaid : Prop := routesNoneRow.holds Try.pinned (OpenSpec.ofChange routesNoneSpec)

/-- ITS FALSE NEIGHBOUR: 'it returns false'. Refute it at one input. -/
def routesNoneWrong : ChangeSpec := { name := "routesNone", fn := fun _ => fun
  | [d1, d2, d3] => { results := [.lit (.bool false)], args := [d1, d2, d3] }
  | _ => none }
def RoutesNoneWrongFalsely : Prop := routesNoneRow.holds Try.pinned (OpenSpec.ofChange routesNoneWrong)

/-- 'archipelagolaw21.RoutesOnce': WHATEVER THE INPUT: true; the input reads as it did. -/
def routesOnceSpec : ChangeSpec := { name := "routesOnce", fn := fun _ => fun
  | [d1, d2] => { results := [.lit (.bool true)], args := [d1, d2] }
  | _ => none }
def routesOnceRow : OpenClaim := { program := "ytkjpfodnbjbmfaa", sum := "9da25e1e6e83375697f410f4bd027c05e4c069e404bacf62faff8d0fea964156", func := "archipelago/archipelagolaw21.RoutesOnce", spec := "routesOnce", inPlace := ["slices.overlaps[int]"], unfollowed := true, recurses := true, plainKeys := false, apart := false }
def RoutesOnceSaid : Prop := routesOnceRow.holds Try.pinned (OpenSpec.ofChange routesOnceSpec)

/-- ITS FALSE NEIGHBOUR: 'it returns false'. Refute it at one input. -/
def routesOnceWrong : ChangeSpec := { name := "routesOnce", fn := fun _ => fun
  | [d1, d2] => { results := [.lit (.bool false)], args := [d1, d2] }
  | _ => none }
def RoutesOnceWrongFalsely : Prop := routesOnceRow.holds Try.pinned (OpenSpec.ofChange routesOnceWrong)

/- THE SECOND FORM. 'bulk': how many values and letters a reading holds, each counted each time it is reached (what is shared counts as often as it is met; a slice's spare places count too). A statement '..UptoSaid' is the law's where the arguments, and the package variables that the reading takes, are together of bulk at most 1048576: NARROWER than '..Said'. Prove '..Said' where nothing that the law and all that it calls make is longer than what came in: it says more and counts as full. Else prove '..UptoSaid'. A law counts once. -/
mutual
def uptoBulk {H : Type} : DataW H → Nat
  | .lit (.string bytes) => bytes.length + 1
  | .lit _ => 1
  | .nil => 1
  | .ptr d => uptoBulk d + 1
  | .slice elems spare => uptoBulkAll elems + uptoBulkAll spare + 1
  | .agg parts => uptoBulkAll parts + 1
  | .iface _ d => uptoBulk d + 1
  | .map entries => uptoBulkEntries entries + 1
  | .held _ => 1
def uptoBulkAll {H : Type} : List (DataW H) → Nat
  | [] => 0
  | d :: r => uptoBulk d + uptoBulkAll r
def uptoBulkEntries {H : Type} : List (Lit × DataW H) → Nat
  | [] => 0
  | x :: r => uptoBulkEntry x + uptoBulkEntries r
def uptoBulkEntry {H : Type} : Lit × DataW H → Nat
  | (.string bytes, d) => bytes.length + uptoBulk d + 1
  | (_, d) => uptoBulk d + 1
 end
def uptoSmall : (H : Type) → List (DataW H) → Bool := fun _ ds => decide (uptoBulkAll ds ≤ 1048576)
def OpenSpec.upto (s : _root_.Go.ChangeSpec) : _root_.Go.OpenSpec := { _root_.Go.OpenSpec.ofChange s with cond := some uptoSmall }

/-- 'archipelagolaw21.RoutesFull', WHERE WHAT IT READS IS OF BULK AT MOST 1048576: true; the input reads as it did. -/
def routesFullUptoRow : OpenClaim := { program := "ytkjpfodnbjbmfaa", sum := "9da25e1e6e83375697f410f4bd027c05e4c069e404bacf62faff8d0fea964156", func := "archipelago/archipelagolaw21.RoutesFull", spec := "routesFull", inPlace := ["slices.overlaps[int]"], plainKeys := false, apart := false, narrowed := true }
def RoutesFullUptoSaid : Prop := routesFullUptoRow.holds Try.pinned (OpenSpec.upto routesFullSpec)

/-- 'archipelagolaw21.RoutesApart', WHERE WHAT IT READS IS OF BULK AT MOST 1048576: true; the input reads as it did. -/
def routesApartUptoRow : OpenClaim := { program := "ytkjpfodnbjbmfaa", sum := "9da25e1e6e83375697f410f4bd027c05e4c069e404bacf62faff8d0fea964156", func := "archipelago/archipelagolaw21.RoutesApart", spec := "routesApart", inPlace := ["slices.overlaps[int]"], plainKeys := false, apart := false, narrowed := true }
def RoutesApartUptoSaid : Prop := routesApartUptoRow.holds Try.pinned (OpenSpec.upto routesApartSpec)

/-- 'archipelagolaw21.RoutesPlay', WHERE WHAT IT READS IS OF BULK AT MOST 1048576: true; the input reads as it did. -/
def routesPlayUptoRow : OpenClaim := { program := "ytkjpfodnbjbmfaa", sum := "9da25e1e6e83375697f410f4bd027c05e4c069e404bacf62faff8d0fea964156", func := "archipelago/archipelagolaw21.RoutesPlay", spec := "routesPlay", inPlace := ["slices.overlaps[int]"], unfollowed := true, recurses := true, plainKeys := false, apart := false, narrowed := true }
def RoutesPlayUptoSaid : Prop := routesPlayUptoRow.holds Try.pinned (OpenSpec.upto routesPlaySpec)

/-- 'archipelagolaw21.RoutesNone', WHERE WHAT IT READS IS OF BULK AT MOST 1048576: true; the input reads as it did. -/
def routesNoneUptoRow : OpenClaim := { program := "ytkjpfodnbjbmfaa", sum := "9da25e1e6e83375697f410f4bd027c05e4c069e404bacf62faff8d0fea964156", func := "archipelago/archipelagolaw21.RoutesNone", spec := "routesNone", inPlace := ["slices.overlaps[int]"], unfollowed := true, recurses := true, plainKeys := false, apart := false, narrowed := true }
def RoutesNoneUptoSaid : Prop := routesNoneUptoRow.holds Try.pinned (OpenSpec.upto routesNoneSpec)

/-- 'archipelagolaw21.RoutesOnce', WHERE WHAT IT READS IS OF BULK AT MOST 1048576: true; the input reads as it did. -/
def routesOnceUptoRow : OpenClaim := { program := "ytkjpfodnbjbmfaa", sum := "9da25e1e6e83375697f410f4bd027c05e4c069e404bacf62faff8d0fea964156", func := "archipelago/archipelagolaw21.RoutesOnce", spec := "routesOnce", inPlace := ["slices.overlaps[int]"], unfollowed := true, recurses := true, plainKeys := false, apart := false, narrowed := true }
def RoutesOnceUptoSaid : Prop := routesOnceUptoRow.holds Try.pinned (OpenSpec.upto routesOnceSpec)

end Rows
end Go.Proofs.Ytkjpfodnbjbmfaa
