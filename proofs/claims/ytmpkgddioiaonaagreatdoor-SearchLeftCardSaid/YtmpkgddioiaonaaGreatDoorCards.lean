/-
  DERIVED. GIVEN WITH THE SEED: THE CARDS: each row of YtmpkgddioiaonaaGreatDoorRows.lean that lists a variable, with what it lists TIED to the program's text (the seventh form; the later family's looks); each row that meets fmt, with fmt's text TOLD by the authors' own Lean function (tested against real Go, not proved from fmt's source: count such statements apart). THE CARD IS WHAT COUNTS. Prove the row's statement (the work); the ties are given (YtmpkgddioiaonaaGreatDoorTie.lean); close each card by the builder's one call (the guide's Derived/Test/ToyasCard.lean, 'card_holds'). Laid BY PROGRAM, IN A SANDBOX (cutbox-door.mjs). By AI agents, Wed Nov 11 2026. No macro, syntax, notation, axiom, sorry.
-/
import Derived.Test.YtmpkgddioiaonaaGreatDoorRows
import GoSem.ClaimSeven
namespace Go.Proofs.YtmpkgddioiaonaaGreatDoor
namespace Rows

/-- THE TIED CARD OF 'kerflaw22.SearchLeft'. -/
def searchLeftCard : Claim7 := { stood := { row := searchLeftRow, standIns := [], harness := (true, "1d767339aaba6aa12be567ff2cbe13a688daf513ea43c5c70d6a04f8784d22ab"), looks := true }, kinds := [], alts := [], laidByText := true, laidKinds := [.data, .data, .data, .data, .sentinel, .sentinel, .listed, .data, .pinned], laidTests := true, laidLooks := .later }
def SearchLeftCardSaid : Prop := Claim7.holds Tryz.pinned (.plain (OpenSpec.ofChange searchLeftSpec)) searchLeftCard

/-- THE SECOND FORM's CARD OF 'kerflaw22.SearchLeft'. -/
def searchLeftUptoCard : Claim7 := { stood := { row := searchLeftUptoRow, standIns := [], harness := (true, "1d767339aaba6aa12be567ff2cbe13a688daf513ea43c5c70d6a04f8784d22ab"), looks := true }, kinds := [], alts := [], laidByText := true, laidKinds := [.data, .data, .data, .data, .sentinel, .sentinel, .listed, .data, .pinned], laidTests := true, laidLooks := .later }
def SearchLeftUptoCardSaid : Prop := Claim7.holds Tryz.pinned (.plain (OpenSpec.upto searchLeftSpec)) searchLeftUptoCard
end Rows
end Go.Proofs.YtmpkgddioiaonaaGreatDoor
