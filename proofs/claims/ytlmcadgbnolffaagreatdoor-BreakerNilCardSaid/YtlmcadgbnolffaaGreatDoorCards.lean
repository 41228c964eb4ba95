/-
  DERIVED. GIVEN WITH THE SEED: THE CARDS: each row of YtlmcadgbnolffaaGreatDoorRows.lean that lists a variable, with what it lists TIED to the program's text (the seventh form; the later family's looks); each row that meets fmt, with fmt's text TOLD by the authors' own Lean function (tested against real Go, not proved from fmt's source: count such statements apart). THE CARD IS WHAT COUNTS. Prove the row's statement (the work); the ties are given (YtlmcadgbnolffaaGreatDoorTie.lean); close each card by the builder's one call (the guide's Derived/Test/ToyasCard.lean, 'card_holds'). Laid BY PROGRAM, IN A SANDBOX (cutbox-door.mjs). By AI agents, Wed Nov 11 2026. No macro, syntax, notation, axiom, sorry.
-/
import Derived.Test.YtlmcadgbnolffaaGreatDoorRows
import GoSem.ClaimSeven
namespace Go.Proofs.YtlmcadgbnolffaaGreatDoor
namespace Rows

/-- THE TIED CARD OF 'kerflaw09.BreakerNil'. -/
def breakerNilCard : Claim7 := { stood := { row := breakerNilRow, standIns := [], harness := (true, "a2f747d4ef93191579e56ab08eb379555b9cee4df491f11e351d075374127ebd"), looks := true }, kinds := [], alts := [], laidByText := true, laidKinds := [.data, .data, .data, .data, .sentinel, .sentinel, .pinned], laidTests := true, laidLooks := .later }
def BreakerNilCardSaid : Prop := Claim7.holds Tryz.pinned (.plain (OpenSpec.ofChange breakerNilSpec)) breakerNilCard

/-- THE SECOND FORM's CARD OF 'kerflaw09.BreakerNil'. -/
def breakerNilUptoCard : Claim7 := { stood := { row := breakerNilUptoRow, standIns := [], harness := (true, "a2f747d4ef93191579e56ab08eb379555b9cee4df491f11e351d075374127ebd"), looks := true }, kinds := [], alts := [], laidByText := true, laidKinds := [.data, .data, .data, .data, .sentinel, .sentinel, .pinned], laidTests := true, laidLooks := .later }
def BreakerNilUptoCardSaid : Prop := Claim7.holds Tryz.pinned (.plain (OpenSpec.upto breakerNilSpec)) breakerNilUptoCard
end Rows
end Go.Proofs.YtlmcadgbnolffaaGreatDoor
