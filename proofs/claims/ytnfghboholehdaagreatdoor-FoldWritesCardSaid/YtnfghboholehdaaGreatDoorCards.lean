/-
  DERIVED. GIVEN WITH THE SEED: THE CARDS: each row of YtnfghboholehdaaGreatDoorRows.lean that lists a variable, with what it lists TIED to the program's text (the seventh form; the later family's looks); each row that meets fmt, with fmt's text TOLD by the authors' own Lean function (tested against real Go, not proved from fmt's source: count such statements apart). THE CARD IS WHAT COUNTS. Prove the row's statement (the work); the ties are given (YtnfghboholehdaaGreatDoorTie.lean); close each card by the builder's one call (the guide's Derived/Test/ToyasCard.lean, 'card_holds'). Laid BY PROGRAM, IN A SANDBOX (cutbox-door.mjs). By AI agents, Wed Nov 11 2026. No macro, syntax, notation, axiom, sorry.
-/
import Derived.Test.YtnfghboholehdaaGreatDoorRows
import GoSem.ClaimSeven
namespace Go.Proofs.YtnfghboholehdaaGreatDoor
namespace Rows

/-- THE TIED CARD OF 'kerflaw19.FoldTitles'. -/
def foldTitlesCard : Claim7 := { stood := { row := foldTitlesRow, standIns := [], harness := (true, "84409473ae9b49c055d5d40e370a2061a14a30fa16f3d8dc6167e9afc87c3133"), looks := true }, kinds := [], alts := [], laidByText := true, laidKinds := [.data, .data, .data, .data, .sentinel, .sentinel, .listed, .data, .pinned], laidTests := true, laidLooks := .later }
def FoldTitlesCardSaid : Prop := Claim7.holds Tryz.pinned (.plain (OpenSpec.ofChange foldTitlesSpec)) foldTitlesCard

/-- THE TIED CARD OF 'kerflaw19.FoldCompares'. -/
def foldComparesCard : Claim7 := { stood := { row := foldComparesRow, standIns := [], harness := (true, "84409473ae9b49c055d5d40e370a2061a14a30fa16f3d8dc6167e9afc87c3133"), looks := true }, kinds := [], alts := [], laidByText := true, laidKinds := [.data, .data, .data, .data, .sentinel, .sentinel, .listed, .data, .pinned], laidTests := true, laidLooks := .later }
def FoldComparesCardSaid : Prop := Claim7.holds Tryz.pinned (.plain (OpenSpec.ofChange foldComparesSpec)) foldComparesCard

/-- THE TIED CARD OF 'kerflaw19.FoldWrites'. -/
def foldWritesCard : Claim7 := { stood := { row := foldWritesRow, standIns := [], harness := (true, "84409473ae9b49c055d5d40e370a2061a14a30fa16f3d8dc6167e9afc87c3133"), looks := true }, kinds := [], alts := [], laidByText := true, laidKinds := [.data, .data, .data, .data, .sentinel, .sentinel, .listed, .data, .pinned], laidTests := true, laidLooks := .later }
def FoldWritesCardSaid : Prop := Claim7.holds Tryz.pinned (.plain (OpenSpec.ofChange foldWritesSpec)) foldWritesCard

/-- THE TIED CARD OF 'kerflaw19.FoldOnce'. -/
def foldOnceCard : Claim7 := { stood := { row := foldOnceRow, standIns := [], harness := (true, "84409473ae9b49c055d5d40e370a2061a14a30fa16f3d8dc6167e9afc87c3133"), looks := true }, kinds := [], alts := [], laidByText := true, laidKinds := [.data, .data, .data, .data, .sentinel, .sentinel, .listed, .data, .pinned], laidTests := true, laidLooks := .later }
def FoldOnceCardSaid : Prop := Claim7.holds Tryz.pinned (.plain (OpenSpec.ofChange foldOnceSpec)) foldOnceCard

/-- THE TIED CARD OF 'kerflaw19.FoldPieces'. -/
def foldPiecesCard : Claim7 := { stood := { row := foldPiecesRow, standIns := [], harness := (true, "84409473ae9b49c055d5d40e370a2061a14a30fa16f3d8dc6167e9afc87c3133"), looks := true }, kinds := [], alts := [], laidByText := true, laidKinds := [.data, .data, .data, .data, .sentinel, .sentinel, .listed, .data, .pinned], laidTests := true, laidLooks := .later }
def FoldPiecesCardSaid : Prop := Claim7.holds Tryz.pinned (.plain (OpenSpec.ofChange foldPiecesSpec)) foldPiecesCard

/-- THE SECOND FORM's CARD OF 'kerflaw19.FoldTitles'. -/
def foldTitlesUptoCard : Claim7 := { stood := { row := foldTitlesUptoRow, standIns := [], harness := (true, "84409473ae9b49c055d5d40e370a2061a14a30fa16f3d8dc6167e9afc87c3133"), looks := true }, kinds := [], alts := [], laidByText := true, laidKinds := [.data, .data, .data, .data, .sentinel, .sentinel, .listed, .data, .pinned], laidTests := true, laidLooks := .later }
def FoldTitlesUptoCardSaid : Prop := Claim7.holds Tryz.pinned (.plain (OpenSpec.upto foldTitlesSpec)) foldTitlesUptoCard

/-- THE SECOND FORM's CARD OF 'kerflaw19.FoldCompares'. -/
def foldComparesUptoCard : Claim7 := { stood := { row := foldComparesUptoRow, standIns := [], harness := (true, "84409473ae9b49c055d5d40e370a2061a14a30fa16f3d8dc6167e9afc87c3133"), looks := true }, kinds := [], alts := [], laidByText := true, laidKinds := [.data, .data, .data, .data, .sentinel, .sentinel, .listed, .data, .pinned], laidTests := true, laidLooks := .later }
def FoldComparesUptoCardSaid : Prop := Claim7.holds Tryz.pinned (.plain (OpenSpec.upto foldComparesSpec)) foldComparesUptoCard

/-- THE SECOND FORM's CARD OF 'kerflaw19.FoldWrites'. -/
def foldWritesUptoCard : Claim7 := { stood := { row := foldWritesUptoRow, standIns := [], harness := (true, "84409473ae9b49c055d5d40e370a2061a14a30fa16f3d8dc6167e9afc87c3133"), looks := true }, kinds := [], alts := [], laidByText := true, laidKinds := [.data, .data, .data, .data, .sentinel, .sentinel, .listed, .data, .pinned], laidTests := true, laidLooks := .later }
def FoldWritesUptoCardSaid : Prop := Claim7.holds Tryz.pinned (.plain (OpenSpec.upto foldWritesSpec)) foldWritesUptoCard

/-- THE SECOND FORM's CARD OF 'kerflaw19.FoldOnce'. -/
def foldOnceUptoCard : Claim7 := { stood := { row := foldOnceUptoRow, standIns := [], harness := (true, "84409473ae9b49c055d5d40e370a2061a14a30fa16f3d8dc6167e9afc87c3133"), looks := true }, kinds := [], alts := [], laidByText := true, laidKinds := [.data, .data, .data, .data, .sentinel, .sentinel, .listed, .data, .pinned], laidTests := true, laidLooks := .later }
def FoldOnceUptoCardSaid : Prop := Claim7.holds Tryz.pinned (.plain (OpenSpec.upto foldOnceSpec)) foldOnceUptoCard

/-- THE SECOND FORM's CARD OF 'kerflaw19.FoldPieces'. -/
def foldPiecesUptoCard : Claim7 := { stood := { row := foldPiecesUptoRow, standIns := [], harness := (true, "84409473ae9b49c055d5d40e370a2061a14a30fa16f3d8dc6167e9afc87c3133"), looks := true }, kinds := [], alts := [], laidByText := true, laidKinds := [.data, .data, .data, .data, .sentinel, .sentinel, .listed, .data, .pinned], laidTests := true, laidLooks := .later }
def FoldPiecesUptoCardSaid : Prop := Claim7.holds Tryz.pinned (.plain (OpenSpec.upto foldPiecesSpec)) foldPiecesUptoCard
end Rows
end Go.Proofs.YtnfghboholehdaaGreatDoor
