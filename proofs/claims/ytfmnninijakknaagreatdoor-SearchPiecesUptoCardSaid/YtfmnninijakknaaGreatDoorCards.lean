/-
  DERIVED. GIVEN WITH THE SEED: THE CARDS: each row of YtfmnninijakknaaGreatDoorRows.lean that lists a variable, with what it lists TIED to the program's text (the seventh form; the later family's looks); each row that meets fmt, with fmt's text TOLD by the authors' own Lean function (tested against real Go, not proved from fmt's source: count such statements apart). THE CARD IS WHAT COUNTS. Prove the row's statement (the work); the ties are given (YtfmnninijakknaaGreatDoorTie.lean); close each card by the builder's one call (the guide's Derived/Test/ToyasCard.lean, 'card_holds'). Laid BY PROGRAM, IN A SANDBOX (cutbox-door.mjs). By AI agents, Wed Nov 11 2026. No macro, syntax, notation, axiom, sorry.
-/
import Derived.Test.YtfmnninijakknaaGreatDoorRows
import GoSem.ClaimSeven
namespace Go.Proofs.YtfmnninijakknaaGreatDoor
namespace Rows

/-- THE TIED CARD OF 'kerflaw22.SearchPieces'. -/
def searchPiecesCard : Claim7 := { stood := { row := searchPiecesRow, standIns := [], harness := (true, "4bb64d05a16cf22dbc7af5654b7692d64d833742d39bd94abd0152cad7ad5d14"), looks := true }, kinds := [], alts := [], laidByText := true, laidKinds := [.data, .data, .data, .data, .sentinel, .sentinel, .listed, .data, .pinned], laidTests := true, laidLooks := .later }
def SearchPiecesCardSaid : Prop := Claim7.holds Tryz.pinned (.plain (OpenSpec.ofChange searchPiecesSpec)) searchPiecesCard

/-- THE SECOND FORM's CARD OF 'kerflaw22.SearchPieces'. -/
def searchPiecesUptoCard : Claim7 := { stood := { row := searchPiecesUptoRow, standIns := [], harness := (true, "4bb64d05a16cf22dbc7af5654b7692d64d833742d39bd94abd0152cad7ad5d14"), looks := true }, kinds := [], alts := [], laidByText := true, laidKinds := [.data, .data, .data, .data, .sentinel, .sentinel, .listed, .data, .pinned], laidTests := true, laidLooks := .later }
def SearchPiecesUptoCardSaid : Prop := Claim7.holds Tryz.pinned (.plain (OpenSpec.upto searchPiecesSpec)) searchPiecesUptoCard
end Rows
end Go.Proofs.YtfmnninijakknaaGreatDoor
