/-
  DERIVED. GIVEN WITH THE SEED: THE CARDS: each row of YtocaiijbhepnnaaGreatDoorRows.lean that lists a variable, with what it lists TIED to the program's text (the seventh form; the later family's looks); each row that meets fmt, with fmt's text TOLD by the authors' own Lean function (tested against real Go, not proved from fmt's source: count such statements apart). THE CARD IS WHAT COUNTS. Prove the row's statement (the work); the ties are given (YtocaiijbhepnnaaGreatDoorTie.lean); close each card by the builder's one call (the guide's Derived/Test/ToyasCard.lean, 'card_holds'). Laid BY PROGRAM, IN A SANDBOX (cutbox-door.mjs). By AI agents, Wed Nov 11 2026. No macro, syntax, notation, axiom, sorry.
-/
import Derived.Test.YtocaiijbhepnnaaGreatDoorRows
import GoSem.ClaimSeven
namespace Go.Proofs.YtocaiijbhepnnaaGreatDoor
namespace Rows

/-- THE TIED CARD OF 'kerflaw19.FoldTitles'. -/
def foldTitlesCard : Claim7 := { stood := { row := foldTitlesRow, standIns := [], harness := (true, "963d08acac4502c4ff00e4557f8f2d0931361778f8bc3aa4479bbd6c3ff771f1"), looks := true }, kinds := [], alts := [], laidByText := true, laidKinds := [.data, .data, .data, .data, .sentinel, .sentinel, .listed, .data, .pinned], laidTests := true, laidLooks := .later }
def FoldTitlesCardSaid : Prop := Claim7.holds Tryz.pinned (.plain (OpenSpec.ofChange foldTitlesSpec)) foldTitlesCard

/-- THE TIED CARD OF 'kerflaw22.SearchAll'. -/
def searchAllCard : Claim7 := { stood := { row := searchAllRow, standIns := [], harness := (true, "963d08acac4502c4ff00e4557f8f2d0931361778f8bc3aa4479bbd6c3ff771f1"), looks := true }, kinds := [], alts := [], laidByText := true, laidKinds := [.data, .data, .data, .data, .sentinel, .sentinel, .listed, .data, .pinned], laidTests := true, laidLooks := .later }
def SearchAllCardSaid : Prop := Claim7.holds Tryz.pinned (.plain (OpenSpec.ofChange searchAllSpec)) searchAllCard

/-- THE TIED CARD OF 'kerflaw22.SearchEach'. -/
def searchEachCard : Claim7 := { stood := { row := searchEachRow, standIns := [], harness := (true, "963d08acac4502c4ff00e4557f8f2d0931361778f8bc3aa4479bbd6c3ff771f1"), looks := true }, kinds := [], alts := [], laidByText := true, laidKinds := [.data, .data, .data, .data, .sentinel, .sentinel, .listed, .data, .pinned], laidTests := true, laidLooks := .later }
def SearchEachCardSaid : Prop := Claim7.holds Tryz.pinned (.plain (OpenSpec.ofChange searchEachSpec)) searchEachCard

/-- THE TIED CARD OF 'kerflaw22.SearchWide'. -/
def searchWideCard : Claim7 := { stood := { row := searchWideRow, standIns := [], harness := (true, "963d08acac4502c4ff00e4557f8f2d0931361778f8bc3aa4479bbd6c3ff771f1"), looks := true }, kinds := [], alts := [], laidByText := true, laidKinds := [.data, .data, .data, .data, .sentinel, .sentinel, .listed, .data, .pinned], laidTests := true, laidLooks := .later }
def SearchWideCardSaid : Prop := Claim7.holds Tryz.pinned (.plain (OpenSpec.ofChange searchWideSpec)) searchWideCard

/-- THE TIED CARD OF 'kerflaw22.SearchReplaces'. -/
def searchReplacesCard : Claim7 := { stood := { row := searchReplacesRow, standIns := [], harness := (true, "963d08acac4502c4ff00e4557f8f2d0931361778f8bc3aa4479bbd6c3ff771f1"), looks := true }, kinds := [], alts := [], laidByText := true, laidKinds := [.data, .data, .data, .data, .sentinel, .sentinel, .listed, .data, .pinned], laidTests := true, laidLooks := .later }
def SearchReplacesCardSaid : Prop := Claim7.holds Tryz.pinned (.plain (OpenSpec.ofChange searchReplacesSpec)) searchReplacesCard

/-- THE TIED CARD OF 'kerflaw22.SearchAsks'. -/
def searchAsksCard : Claim7 := { stood := { row := searchAsksRow, standIns := [], harness := (true, "963d08acac4502c4ff00e4557f8f2d0931361778f8bc3aa4479bbd6c3ff771f1"), looks := true }, kinds := [], alts := [], laidByText := true, laidKinds := [.data, .data, .data, .data, .sentinel, .sentinel, .listed, .data, .pinned], laidTests := true, laidLooks := .later }
def SearchAsksCardSaid : Prop := Claim7.holds Tryz.pinned (.plain (OpenSpec.ofChange searchAsksSpec)) searchAsksCard

/-- THE TIED CARD OF 'kerflaw22.SearchFinders'. -/
def searchFindersCard : Claim7 := { stood := { row := searchFindersRow, standIns := [], harness := (true, "963d08acac4502c4ff00e4557f8f2d0931361778f8bc3aa4479bbd6c3ff771f1"), looks := true }, kinds := [], alts := [], laidByText := true, laidKinds := [.data, .data, .data, .data, .sentinel, .sentinel, .listed, .data, .pinned], laidTests := true, laidLooks := .later }
def SearchFindersCardSaid : Prop := Claim7.holds Tryz.pinned (.plain (OpenSpec.ofChange searchFindersSpec)) searchFindersCard

/-- THE SECOND FORM's CARD OF 'kerflaw19.FoldTitles'. -/
def foldTitlesUptoCard : Claim7 := { stood := { row := foldTitlesUptoRow, standIns := [], harness := (true, "963d08acac4502c4ff00e4557f8f2d0931361778f8bc3aa4479bbd6c3ff771f1"), looks := true }, kinds := [], alts := [], laidByText := true, laidKinds := [.data, .data, .data, .data, .sentinel, .sentinel, .listed, .data, .pinned], laidTests := true, laidLooks := .later }
def FoldTitlesUptoCardSaid : Prop := Claim7.holds Tryz.pinned (.plain (OpenSpec.upto foldTitlesSpec)) foldTitlesUptoCard

/-- THE SECOND FORM's CARD OF 'kerflaw22.SearchAll'. -/
def searchAllUptoCard : Claim7 := { stood := { row := searchAllUptoRow, standIns := [], harness := (true, "963d08acac4502c4ff00e4557f8f2d0931361778f8bc3aa4479bbd6c3ff771f1"), looks := true }, kinds := [], alts := [], laidByText := true, laidKinds := [.data, .data, .data, .data, .sentinel, .sentinel, .listed, .data, .pinned], laidTests := true, laidLooks := .later }
def SearchAllUptoCardSaid : Prop := Claim7.holds Tryz.pinned (.plain (OpenSpec.upto searchAllSpec)) searchAllUptoCard

/-- THE SECOND FORM's CARD OF 'kerflaw22.SearchEach'. -/
def searchEachUptoCard : Claim7 := { stood := { row := searchEachUptoRow, standIns := [], harness := (true, "963d08acac4502c4ff00e4557f8f2d0931361778f8bc3aa4479bbd6c3ff771f1"), looks := true }, kinds := [], alts := [], laidByText := true, laidKinds := [.data, .data, .data, .data, .sentinel, .sentinel, .listed, .data, .pinned], laidTests := true, laidLooks := .later }
def SearchEachUptoCardSaid : Prop := Claim7.holds Tryz.pinned (.plain (OpenSpec.upto searchEachSpec)) searchEachUptoCard

/-- THE SECOND FORM's CARD OF 'kerflaw22.SearchWide'. -/
def searchWideUptoCard : Claim7 := { stood := { row := searchWideUptoRow, standIns := [], harness := (true, "963d08acac4502c4ff00e4557f8f2d0931361778f8bc3aa4479bbd6c3ff771f1"), looks := true }, kinds := [], alts := [], laidByText := true, laidKinds := [.data, .data, .data, .data, .sentinel, .sentinel, .listed, .data, .pinned], laidTests := true, laidLooks := .later }
def SearchWideUptoCardSaid : Prop := Claim7.holds Tryz.pinned (.plain (OpenSpec.upto searchWideSpec)) searchWideUptoCard

/-- THE SECOND FORM's CARD OF 'kerflaw22.SearchReplaces'. -/
def searchReplacesUptoCard : Claim7 := { stood := { row := searchReplacesUptoRow, standIns := [], harness := (true, "963d08acac4502c4ff00e4557f8f2d0931361778f8bc3aa4479bbd6c3ff771f1"), looks := true }, kinds := [], alts := [], laidByText := true, laidKinds := [.data, .data, .data, .data, .sentinel, .sentinel, .listed, .data, .pinned], laidTests := true, laidLooks := .later }
def SearchReplacesUptoCardSaid : Prop := Claim7.holds Tryz.pinned (.plain (OpenSpec.upto searchReplacesSpec)) searchReplacesUptoCard

/-- THE SECOND FORM's CARD OF 'kerflaw22.SearchAsks'. -/
def searchAsksUptoCard : Claim7 := { stood := { row := searchAsksUptoRow, standIns := [], harness := (true, "963d08acac4502c4ff00e4557f8f2d0931361778f8bc3aa4479bbd6c3ff771f1"), looks := true }, kinds := [], alts := [], laidByText := true, laidKinds := [.data, .data, .data, .data, .sentinel, .sentinel, .listed, .data, .pinned], laidTests := true, laidLooks := .later }
def SearchAsksUptoCardSaid : Prop := Claim7.holds Tryz.pinned (.plain (OpenSpec.upto searchAsksSpec)) searchAsksUptoCard

/-- THE SECOND FORM's CARD OF 'kerflaw22.SearchFinders'. -/
def searchFindersUptoCard : Claim7 := { stood := { row := searchFindersUptoRow, standIns := [], harness := (true, "963d08acac4502c4ff00e4557f8f2d0931361778f8bc3aa4479bbd6c3ff771f1"), looks := true }, kinds := [], alts := [], laidByText := true, laidKinds := [.data, .data, .data, .data, .sentinel, .sentinel, .listed, .data, .pinned], laidTests := true, laidLooks := .later }
def SearchFindersUptoCardSaid : Prop := Claim7.holds Tryz.pinned (.plain (OpenSpec.upto searchFindersSpec)) searchFindersUptoCard
end Rows
end Go.Proofs.YtocaiijbhepnnaaGreatDoor
