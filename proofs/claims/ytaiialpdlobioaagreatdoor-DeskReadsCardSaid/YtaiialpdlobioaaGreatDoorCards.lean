/-
  DERIVED. GIVEN WITH THE SEED: THE CARDS: each row of YtaiialpdlobioaaGreatDoorRows.lean that lists a variable, with what it lists TIED to the program's text (the seventh form; the later family's looks); each row that meets fmt, with fmt's text TOLD by the authors' own Lean function (tested against real Go, not proved from fmt's source: count such statements apart). THE CARD IS WHAT COUNTS. Prove the row's statement (the work); the ties are given (YtaiialpdlobioaaGreatDoorTie.lean); close each card by the builder's one call (the guide's Derived/Test/ToyasCard.lean, 'card_holds'). Laid BY PROGRAM, IN A SANDBOX (cutbox-door.mjs). By AI agents, Wed Nov 11 2026. No macro, syntax, notation, axiom, sorry.
-/
import Derived.Test.YtaiialpdlobioaaGreatDoorRows
import GoSem.ClaimSeven
namespace Go.Proofs.YtaiialpdlobioaaGreatDoor
namespace Rows

/-- THE TIED CARD OF 'archipelagolaw25.WorldsNone'. -/
def worldsNoneCard : Claim7 := { stood := { row := worldsNoneRow, standIns := [], harness := (true, "04cdadfc3c1cc700bae0161335a0aae7c3b269486b7e5ca8ebb2f68d2afa3fba"), looks := true }, kinds := [], alts := [], laidByText := true, laidKinds := [.data, .data, .data, .data], laidTests := true, laidLooks := .later }
def WorldsNoneCardSaid : Prop := Claim7.holds Tryz.pinned (.plain (OpenSpec.ofChange worldsNoneSpec)) worldsNoneCard

/-- THE TIED CARD OF 'archipelagolaw29.FairNone'. -/
def fairNoneCard : Claim7 := { stood := { row := fairNoneRow, standIns := [], harness := (true, "04cdadfc3c1cc700bae0161335a0aae7c3b269486b7e5ca8ebb2f68d2afa3fba"), looks := true }, kinds := [], alts := [], laidByText := true, laidKinds := [.data, .data, .data, .data], laidTests := true, laidLooks := .later }
def FairNoneCardSaid : Prop := Claim7.holds Tryz.pinned (.plain (OpenSpec.ofChange fairNoneSpec)) fairNoneCard

/-- THE TIED CARD OF 'archipelagolaw30.DeskNone'. -/
def deskNoneCard : Claim7 := { stood := { row := deskNoneRow, standIns := [], harness := (true, "04cdadfc3c1cc700bae0161335a0aae7c3b269486b7e5ca8ebb2f68d2afa3fba"), looks := true }, kinds := [], alts := [], laidByText := true, laidKinds := [.data, .data, .data, .data, .sentinel, .sentinel, .data, .pinned], laidTests := true, laidLooks := .later }
def DeskNoneCardSaid : Prop := Claim7.holds Tryz.pinned (.plain (OpenSpec.ofChange deskNoneSpec)) deskNoneCard

/-- THE TIED CARD OF 'archipelagolaw30.DeskReads'. -/
def deskReadsCard : Claim7 := { stood := { row := deskReadsRow, standIns := [], harness := (true, "04cdadfc3c1cc700bae0161335a0aae7c3b269486b7e5ca8ebb2f68d2afa3fba"), looks := true }, kinds := [], alts := [], laidByText := true, laidKinds := [.data, .data, .data, .data, .sentinel, .sentinel, .data, .pinned], laidTests := true, laidLooks := .later }
def DeskReadsCardSaid : Prop := Claim7.holds Tryz.pinned (.plain (OpenSpec.ofChange deskReadsSpec)) deskReadsCard

/-- THE SECOND FORM's CARD OF 'archipelagolaw25.WorldsNone'. -/
def worldsNoneUptoCard : Claim7 := { stood := { row := worldsNoneUptoRow, standIns := [], harness := (true, "04cdadfc3c1cc700bae0161335a0aae7c3b269486b7e5ca8ebb2f68d2afa3fba"), looks := true }, kinds := [], alts := [], laidByText := true, laidKinds := [.data, .data, .data, .data], laidTests := true, laidLooks := .later }
def WorldsNoneUptoCardSaid : Prop := Claim7.holds Tryz.pinned (.plain (OpenSpec.upto worldsNoneSpec)) worldsNoneUptoCard

/-- THE SECOND FORM's CARD OF 'archipelagolaw29.FairNone'. -/
def fairNoneUptoCard : Claim7 := { stood := { row := fairNoneUptoRow, standIns := [], harness := (true, "04cdadfc3c1cc700bae0161335a0aae7c3b269486b7e5ca8ebb2f68d2afa3fba"), looks := true }, kinds := [], alts := [], laidByText := true, laidKinds := [.data, .data, .data, .data], laidTests := true, laidLooks := .later }
def FairNoneUptoCardSaid : Prop := Claim7.holds Tryz.pinned (.plain (OpenSpec.upto fairNoneSpec)) fairNoneUptoCard

/-- THE SECOND FORM's CARD OF 'archipelagolaw30.DeskNone'. -/
def deskNoneUptoCard : Claim7 := { stood := { row := deskNoneUptoRow, standIns := [], harness := (true, "04cdadfc3c1cc700bae0161335a0aae7c3b269486b7e5ca8ebb2f68d2afa3fba"), looks := true }, kinds := [], alts := [], laidByText := true, laidKinds := [.data, .data, .data, .data, .sentinel, .sentinel, .data, .pinned], laidTests := true, laidLooks := .later }
def DeskNoneUptoCardSaid : Prop := Claim7.holds Tryz.pinned (.plain (OpenSpec.upto deskNoneSpec)) deskNoneUptoCard

/-- THE SECOND FORM's CARD OF 'archipelagolaw30.DeskReads'. -/
def deskReadsUptoCard : Claim7 := { stood := { row := deskReadsUptoRow, standIns := [], harness := (true, "04cdadfc3c1cc700bae0161335a0aae7c3b269486b7e5ca8ebb2f68d2afa3fba"), looks := true }, kinds := [], alts := [], laidByText := true, laidKinds := [.data, .data, .data, .data, .sentinel, .sentinel, .data, .pinned], laidTests := true, laidLooks := .later }
def DeskReadsUptoCardSaid : Prop := Claim7.holds Tryz.pinned (.plain (OpenSpec.upto deskReadsSpec)) deskReadsUptoCard
end Rows
end Go.Proofs.YtaiialpdlobioaaGreatDoor
