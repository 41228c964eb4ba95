/-
  DERIVED. GIVEN WITH THE SEED: THE CARDS: each row of YtakpgpibkfddgaaGreatDoorRows.lean that lists a variable, with what it lists TIED to the program's text (the seventh form; the later family's looks); each row that meets fmt, with fmt's text TOLD by the authors' own Lean function (tested against real Go, not proved from fmt's source: count such statements apart). THE CARD IS WHAT COUNTS. Prove the row's statement (the work); the ties are given (YtakpgpibkfddgaaGreatDoorTie.lean); close each card by the builder's one call (the guide's Derived/Test/ToyasCard.lean, 'card_holds'). Laid BY PROGRAM, IN A SANDBOX (cutbox-door.mjs). By AI agents, Wed Nov 11 2026. No macro, syntax, notation, axiom, sorry.
-/
import Derived.Test.YtakpgpibkfddgaaGreatDoorRows
import GoSem.ClaimSeven
namespace Go.Proofs.YtakpgpibkfddgaaGreatDoor
namespace Rows

/-- THE TIED CARD OF 'kerflaw19.FoldRunes'. -/
def foldRunesCard : Claim7 := { stood := { row := foldRunesRow, standIns := [], harness := (true, "61fef2cbf7a22f279768cf9297e46ae9f5c971329cc166bb8b164bcde7d5918d"), looks := true }, kinds := [], alts := [], laidByText := true, laidKinds := [.data, .data, .data, .data, .sentinel, .sentinel, .listed, .data, .pinned], laidTests := true, laidLooks := .later }
def FoldRunesCardSaid : Prop := Claim7.holds Tryz.pinned (.plain (OpenSpec.ofChange foldRunesSpec)) foldRunesCard

/-- THE SECOND FORM's CARD OF 'kerflaw19.FoldRunes'. -/
def foldRunesUptoCard : Claim7 := { stood := { row := foldRunesUptoRow, standIns := [], harness := (true, "61fef2cbf7a22f279768cf9297e46ae9f5c971329cc166bb8b164bcde7d5918d"), looks := true }, kinds := [], alts := [], laidByText := true, laidKinds := [.data, .data, .data, .data, .sentinel, .sentinel, .listed, .data, .pinned], laidTests := true, laidLooks := .later }
def FoldRunesUptoCardSaid : Prop := Claim7.holds Tryz.pinned (.plain (OpenSpec.upto foldRunesSpec)) foldRunesUptoCard
end Rows
end Go.Proofs.YtakpgpibkfddgaaGreatDoor
