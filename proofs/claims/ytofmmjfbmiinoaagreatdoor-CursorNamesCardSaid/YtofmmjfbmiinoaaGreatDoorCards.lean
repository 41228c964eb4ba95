/-
  DERIVED. GIVEN WITH THE SEED: THE CARDS: each row of YtofmmjfbmiinoaaGreatDoorRows.lean that lists a variable, with what it lists TIED to the program's text (the seventh form; the later family's looks); each row that meets fmt, with fmt's text TOLD by the authors' own Lean function (tested against real Go, not proved from fmt's source: count such statements apart). THE CARD IS WHAT COUNTS. Prove the row's statement (the work); the ties are given (YtofmmjfbmiinoaaGreatDoorTie.lean); close each card by the builder's one call (the guide's Derived/Test/ToyasCard.lean, 'card_holds'). Laid BY PROGRAM, IN A SANDBOX (cutbox-door.mjs). By AI agents, Wed Nov 11 2026. No macro, syntax, notation, axiom, sorry.
-/
import Derived.Test.YtofmmjfbmiinoaaGreatDoorRows
import GoSem.ClaimSeven
namespace Go.Proofs.YtofmmjfbmiinoaaGreatDoor
namespace Rows

/-- THE TIED CARD OF 'kerflaw21.CursorNames'. -/
def cursorNamesCard : Claim7 := { stood := { row := cursorNamesRow, standIns := [], harness := (true, "c1940dfc3dd19ee72d8841236644f7fd42b1638f5b96798843d0dd2c85109671"), looks := true }, kinds := [], alts := [], laidByText := true, laidKinds := [.data, .data, .data, .data, .sentinel, .sentinel, .pinned], laidTests := true, laidLooks := .later }
def CursorNamesCardSaid : Prop := Claim7.holds Tryz.pinned (.plain (OpenSpec.ofChange cursorNamesSpec)) cursorNamesCard

/-- THE SECOND FORM's CARD OF 'kerflaw21.CursorNames'. -/
def cursorNamesUptoCard : Claim7 := { stood := { row := cursorNamesUptoRow, standIns := [], harness := (true, "c1940dfc3dd19ee72d8841236644f7fd42b1638f5b96798843d0dd2c85109671"), looks := true }, kinds := [], alts := [], laidByText := true, laidKinds := [.data, .data, .data, .data, .sentinel, .sentinel, .pinned], laidTests := true, laidLooks := .later }
def CursorNamesUptoCardSaid : Prop := Claim7.holds Tryz.pinned (.plain (OpenSpec.upto cursorNamesSpec)) cursorNamesUptoCard
end Rows
end Go.Proofs.YtofmmjfbmiinoaaGreatDoor
