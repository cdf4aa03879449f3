/-
  DERIVED. GIVEN WITH THE SEED: THE CARDS: each row of YtnhoidnmlibcpaaGreatDoorRows.lean that lists a variable, with what it lists TIED to the program's text (the seventh form; the later family's looks); each row that meets fmt, with fmt's text TOLD by the authors' own Lean function (tested against real Go, not proved from fmt's source: count such statements apart). THE CARD IS WHAT COUNTS. Prove the row's statement (the work); the ties are given (YtnhoidnmlibcpaaGreatDoorTie.lean); close each card by the builder's one call (the guide's Derived/Test/ToyasCard.lean, 'card_holds'). Laid BY PROGRAM, IN A SANDBOX (cutbox-door.mjs). By AI agents, Wed Nov 11 2026. No macro, syntax, notation, axiom, sorry.
-/
import Derived.Test.YtnhoidnmlibcpaaGreatDoorRows
import GoSem.ClaimSeven
namespace Go.Proofs.YtnhoidnmlibcpaaGreatDoor
namespace Rows

/-- THE TIED CARD OF 'archipelagolaw24.SitesNone'. -/
def sitesNoneCard : Claim7 := { stood := { row := sitesNoneRow, standIns := [], harness := (true, "080ce15eabe69866ea460f05a79cd067b198e41f6bda6a5d5c77d42b9d15e916"), looks := false }, kinds := [], alts := [], laidByText := true, laidKinds := [.data, .data, .data, .data], laidTests := true, laidLooks := .later }
def SitesNoneCardSaid : Prop := Claim7.holds Tryz.pinned (.plain (OpenSpec.ofChange sitesNoneSpec)) sitesNoneCard

/-- THE SECOND FORM's CARD OF 'archipelagolaw24.SitesNone'. -/
def sitesNoneUptoCard : Claim7 := { stood := { row := sitesNoneUptoRow, standIns := [], harness := (true, "080ce15eabe69866ea460f05a79cd067b198e41f6bda6a5d5c77d42b9d15e916"), looks := false }, kinds := [], alts := [], laidByText := true, laidKinds := [.data, .data, .data, .data], laidTests := true, laidLooks := .later }
def SitesNoneUptoCardSaid : Prop := Claim7.holds Tryz.pinned (.plain (OpenSpec.upto sitesNoneSpec)) sitesNoneUptoCard
end Rows
end Go.Proofs.YtnhoidnmlibcpaaGreatDoor
