/-
  No cell of these rows narrows 'for every input' (looked for: loops, veiled, ifaces, maps, wideKeys, modest, calm, conditions, laid).
  DERIVED. THE GIVEN ROWS OF THIS SEAT. 6 by the template 'for every input the law returns true; each argument reads behind the call as it read before'; 0 by the template 'total and deterministic' (their statements: YthknokcgclcbmaaTotals.lean).
  GIVEN WITH THE SEED: the statements are not yours to turn. If you find one false, say at which input.
  Laid BY PROGRAM, IN A SANDBOX (cutbox-rows.mjs): the forced cells as the released guide's own fill.sh prints them over the translation 5812be80324d2c59… (all of the seat's roots in one cut). By AI agents, Wed Nov 11 2026. No macro, syntax, notation, axiom, sorry.
-/
import Derived.Test.YthknokcgclcbmaaChecked
import GoSem.Claim
import GoSem.ClaimJoined
import GoSem.ClaimMapViews
import Derived.JoinedTies
import Derived.KernelRfl
namespace Go.Proofs.Ythknokcgclcbmaa
/- THE CELL 'sum', in the pinned program and in every row, IS THE sha256 OF THE DUMP (.gsa) THAT YthknokcgclcbmaaProg.lean LOADS. Nothing in Lean hashes anything: it is a label: what it is worth is what the hold of that sum in a sandbox is worth. -/
noncomputable def Try.pinned : Pinned := { name := "ythknokcgclcbmaa", sum := "5812be80324d2c59e529d58f70547eb6210d57fc555e2ccd23448a80db91dc47", checked := Try.checked }
namespace Rows
def none {H : Type} : Left H := { results := [], args := [] }

/-- 'archipelagolaw04.DiskRoom': WHATEVER THE INPUT: true; the input reads as it did. -/
def diskRoomSpec : ChangeSpec := { name := "diskRoom", fn := fun _ => fun
  | [d1, d2] => { results := [.lit (.bool true)], args := [d1, d2] }
  | _ => none }
def diskRoomRow : OpenClaim := { program := "ythknokcgclcbmaa", sum := "5812be80324d2c59e529d58f70547eb6210d57fc555e2ccd23448a80db91dc47", func := "archipelago/archipelagolaw04.DiskRoom", spec := "diskRoom", inPlace := ["slices.overlaps[archipelago/disk.file]"], unfollowed := true, recurses := true, apart := false }
def DiskRoomSaid : Prop := diskRoomRow.holds Try.pinned (OpenSpec.ofChange diskRoomSpec)

/-- ITS FALSE NEIGHBOUR: 'it returns false'. Refute it at one input. -/
def diskRoomWrong : ChangeSpec := { name := "diskRoom", fn := fun _ => fun
  | [d1, d2] => { results := [.lit (.bool false)], args := [d1, d2] }
  | _ => none }
def DiskRoomWrongFalsely : Prop := diskRoomRow.holds Try.pinned (OpenSpec.ofChange diskRoomWrong)

/-- 'archipelagolaw04.DiskPlays': WHATEVER THE INPUT: true; the input reads as it did. -/
def diskPlaysSpec : ChangeSpec := { name := "diskPlays", fn := fun _ => fun
  | [d1, d2] => { results := [.lit (.bool true)], args := [d1, d2] }
  | _ => none }
def diskPlaysRow : OpenClaim := { program := "ythknokcgclcbmaa", sum := "5812be80324d2c59e529d58f70547eb6210d57fc555e2ccd23448a80db91dc47", func := "archipelago/archipelagolaw04.DiskPlays", spec := "diskPlays", inPlace := ["slices.overlaps[archipelago/disk.file]"], unfollowed := true, recurses := true, apart := false }
def DiskPlaysSaid : Prop := diskPlaysRow.holds Try.pinned (OpenSpec.ofChange diskPlaysSpec)

/-- ITS FALSE NEIGHBOUR: 'it returns false'. Refute it at one input. -/
def diskPlaysWrong : ChangeSpec := { name := "diskPlays", fn := fun _ => fun
  | [d1, d2] => { results := [.lit (.bool false)], args := [d1, d2] }
  | _ => none }
def DiskPlaysWrongFalsely : Prop := diskPlaysRow.holds Try.pinned (OpenSpec.ofChange diskPlaysWrong)

/-- 'archipelagolaw04.DiskNone': WHATEVER THE INPUT: true; the input reads as it did. -/
def diskNoneSpec : ChangeSpec := { name := "diskNone", fn := fun _ => fun
  | [d] => { results := [.lit (.bool true)], args := [d] }
  | _ => none }
def diskNoneRow : OpenClaim := { program := "ythknokcgclcbmaa", sum := "5812be80324d2c59e529d58f70547eb6210d57fc555e2ccd23448a80db91dc47", func := "archipelago/archipelagolaw04.DiskNone", spec := "diskNone", inPlace := ["slices.overlaps[archipelago/disk.file]"], unfollowed := true, recurses := true, apart := false }
def DiskNoneSaid : Prop := diskNoneRow.holds Try.pinned (OpenSpec.ofChange diskNoneSpec)

/-- ITS FALSE NEIGHBOUR: 'it returns false'. Refute it at one input. -/
def diskNoneWrong : ChangeSpec := { name := "diskNone", fn := fun _ => fun
  | [d] => { results := [.lit (.bool false)], args := [d] }
  | _ => none }
def DiskNoneWrongFalsely : Prop := diskNoneRow.holds Try.pinned (OpenSpec.ofChange diskNoneWrong)

/-- 'archipelagolaw04.DiskCrash': WHATEVER THE INPUT: true; the input reads as it did. -/
def diskCrashSpec : ChangeSpec := { name := "diskCrash", fn := fun _ => fun
  | [d1, d2, d3] => { results := [.lit (.bool true)], args := [d1, d2, d3] }
  | _ => none }
def diskCrashRow : OpenClaim := { program := "ythknokcgclcbmaa", sum := "5812be80324d2c59e529d58f70547eb6210d57fc555e2ccd23448a80db91dc47", func := "archipelago/archipelagolaw04.DiskCrash", spec := "diskCrash", inPlace := ["slices.overlaps[archipelago/disk.file]"], unfollowed := true, recurses := true, apart := false }
def DiskCrashSaid : Prop := diskCrashRow.holds Try.pinned (OpenSpec.ofChange diskCrashSpec)

/-- ITS FALSE NEIGHBOUR: 'it returns false'. Refute it at one input. -/
def diskCrashWrong : ChangeSpec := { name := "diskCrash", fn := fun _ => fun
  | [d1, d2, d3] => { results := [.lit (.bool false)], args := [d1, d2, d3] }
  | _ => none }
def DiskCrashWrongFalsely : Prop := diskCrashRow.holds Try.pinned (OpenSpec.ofChange diskCrashWrong)

/-- 'archipelagolaw04.DiskFail': WHATEVER THE INPUT: true; the input reads as it did. -/
def diskFailSpec : ChangeSpec := { name := "diskFail", fn := fun _ => fun
  | [d1, d2, d3] => { results := [.lit (.bool true)], args := [d1, d2, d3] }
  | _ => none }
def diskFailRow : OpenClaim := { program := "ythknokcgclcbmaa", sum := "5812be80324d2c59e529d58f70547eb6210d57fc555e2ccd23448a80db91dc47", func := "archipelago/archipelagolaw04.DiskFail", spec := "diskFail", inPlace := ["slices.overlaps[archipelago/disk.file]"], unfollowed := true, recurses := true, apart := false }
def DiskFailSaid : Prop := diskFailRow.holds Try.pinned (OpenSpec.ofChange diskFailSpec)

/-- ITS FALSE NEIGHBOUR: 'it returns false'. Refute it at one input. -/
def diskFailWrong : ChangeSpec := { name := "diskFail", fn := fun _ => fun
  | [d1, d2, d3] => { results := [.lit (.bool false)], args := [d1, d2, d3] }
  | _ => none }
def DiskFailWrongFalsely : Prop := diskFailRow.holds Try.pinned (OpenSpec.ofChange diskFailWrong)

/-- 'archipelagolaw04.DiskRename': WHATEVER THE INPUT: true; the input reads as it did. -/
def diskRenameSpec : ChangeSpec := { name := "diskRename", fn := fun _ => fun
  | [d1, d2, d3] => { results := [.lit (.bool true)], args := [d1, d2, d3] }
  | _ => none }
def diskRenameRow : OpenClaim := { program := "ythknokcgclcbmaa", sum := "5812be80324d2c59e529d58f70547eb6210d57fc555e2ccd23448a80db91dc47", func := "archipelago/archipelagolaw04.DiskRename", spec := "diskRename", inPlace := ["slices.overlaps[archipelago/disk.file]"], unfollowed := true, recurses := true, apart := false }
def DiskRenameSaid : Prop := diskRenameRow.holds Try.pinned (OpenSpec.ofChange diskRenameSpec)

/-- ITS FALSE NEIGHBOUR: 'it returns false'. Refute it at one input. -/
def diskRenameWrong : ChangeSpec := { name := "diskRename", fn := fun _ => fun
  | [d1, d2, d3] => { results := [.lit (.bool false)], args := [d1, d2, d3] }
  | _ => none }
def DiskRenameWrongFalsely : Prop := diskRenameRow.holds Try.pinned (OpenSpec.ofChange diskRenameWrong)

/- THE SECOND FORM. 'bulk': how many values and letters a reading holds, each counted each time it is reached (what is shared counts as often as it is met; a slice's spare places count too). A statement '..UptoSaid' is the law's where the arguments, and the package variables that the reading takes, are together of bulk at most 1048576: NARROWER than '..Said'. Prove '..Said' where nothing that the law and all that it calls make is longer than what came in: it says more and counts as full. Else prove '..UptoSaid'. A law counts once. -/
mutual
def uptoBulk {H : Type} : DataW H → Nat
  | .lit (.string bytes) => bytes.length + 1
  | .lit _ => 1
  | .nil => 1
  | .ptr d => uptoBulk d + 1
  | .slice elems spare => uptoBulkAll elems + uptoBulkAll spare + 1
  | .agg parts => uptoBulkAll parts + 1
  | .iface _ d => uptoBulk d + 1
  | .map entries => uptoBulkEntries entries + 1
  | .held _ => 1
def uptoBulkAll {H : Type} : List (DataW H) → Nat
  | [] => 0
  | d :: r => uptoBulk d + uptoBulkAll r
def uptoBulkEntries {H : Type} : List (Lit × DataW H) → Nat
  | [] => 0
  | x :: r => uptoBulkEntry x + uptoBulkEntries r
def uptoBulkEntry {H : Type} : Lit × DataW H → Nat
  | (.string bytes, d) => bytes.length + uptoBulk d + 1
  | (_, d) => uptoBulk d + 1
 end
def uptoSmall : (H : Type) → List (DataW H) → Bool := fun _ ds => decide (uptoBulkAll ds ≤ 1048576)
def OpenSpec.upto (s : _root_.Go.ChangeSpec) : _root_.Go.OpenSpec := { _root_.Go.OpenSpec.ofChange s with cond := some uptoSmall }

/-- 'archipelagolaw04.DiskRoom', WHERE WHAT IT READS IS OF BULK AT MOST 1048576: true; the input reads as it did. -/
def diskRoomUptoRow : OpenClaim := { program := "ythknokcgclcbmaa", sum := "5812be80324d2c59e529d58f70547eb6210d57fc555e2ccd23448a80db91dc47", func := "archipelago/archipelagolaw04.DiskRoom", spec := "diskRoom", inPlace := ["slices.overlaps[archipelago/disk.file]"], unfollowed := true, recurses := true, apart := false, narrowed := true }
def DiskRoomUptoSaid : Prop := diskRoomUptoRow.holds Try.pinned (OpenSpec.upto diskRoomSpec)

/-- 'archipelagolaw04.DiskPlays', WHERE WHAT IT READS IS OF BULK AT MOST 1048576: true; the input reads as it did. -/
def diskPlaysUptoRow : OpenClaim := { program := "ythknokcgclcbmaa", sum := "5812be80324d2c59e529d58f70547eb6210d57fc555e2ccd23448a80db91dc47", func := "archipelago/archipelagolaw04.DiskPlays", spec := "diskPlays", inPlace := ["slices.overlaps[archipelago/disk.file]"], unfollowed := true, recurses := true, apart := false, narrowed := true }
def DiskPlaysUptoSaid : Prop := diskPlaysUptoRow.holds Try.pinned (OpenSpec.upto diskPlaysSpec)

/-- 'archipelagolaw04.DiskNone', WHERE WHAT IT READS IS OF BULK AT MOST 1048576: true; the input reads as it did. -/
def diskNoneUptoRow : OpenClaim := { program := "ythknokcgclcbmaa", sum := "5812be80324d2c59e529d58f70547eb6210d57fc555e2ccd23448a80db91dc47", func := "archipelago/archipelagolaw04.DiskNone", spec := "diskNone", inPlace := ["slices.overlaps[archipelago/disk.file]"], unfollowed := true, recurses := true, apart := false, narrowed := true }
def DiskNoneUptoSaid : Prop := diskNoneUptoRow.holds Try.pinned (OpenSpec.upto diskNoneSpec)

/-- 'archipelagolaw04.DiskCrash', WHERE WHAT IT READS IS OF BULK AT MOST 1048576: true; the input reads as it did. -/
def diskCrashUptoRow : OpenClaim := { program := "ythknokcgclcbmaa", sum := "5812be80324d2c59e529d58f70547eb6210d57fc555e2ccd23448a80db91dc47", func := "archipelago/archipelagolaw04.DiskCrash", spec := "diskCrash", inPlace := ["slices.overlaps[archipelago/disk.file]"], unfollowed := true, recurses := true, apart := false, narrowed := true }
def DiskCrashUptoSaid : Prop := diskCrashUptoRow.holds Try.pinned (OpenSpec.upto diskCrashSpec)

/-- 'archipelagolaw04.DiskFail', WHERE WHAT IT READS IS OF BULK AT MOST 1048576: true; the input reads as it did. -/
def diskFailUptoRow : OpenClaim := { program := "ythknokcgclcbmaa", sum := "5812be80324d2c59e529d58f70547eb6210d57fc555e2ccd23448a80db91dc47", func := "archipelago/archipelagolaw04.DiskFail", spec := "diskFail", inPlace := ["slices.overlaps[archipelago/disk.file]"], unfollowed := true, recurses := true, apart := false, narrowed := true }
def DiskFailUptoSaid : Prop := diskFailUptoRow.holds Try.pinned (OpenSpec.upto diskFailSpec)

/-- 'archipelagolaw04.DiskRename', WHERE WHAT IT READS IS OF BULK AT MOST 1048576: true; the input reads as it did. -/
def diskRenameUptoRow : OpenClaim := { program := "ythknokcgclcbmaa", sum := "5812be80324d2c59e529d58f70547eb6210d57fc555e2ccd23448a80db91dc47", func := "archipelago/archipelagolaw04.DiskRename", spec := "diskRename", inPlace := ["slices.overlaps[archipelago/disk.file]"], unfollowed := true, recurses := true, apart := false, narrowed := true }
def DiskRenameUptoSaid : Prop := diskRenameUptoRow.holds Try.pinned (OpenSpec.upto diskRenameSpec)

end Rows
end Go.Proofs.Ythknokcgclcbmaa
