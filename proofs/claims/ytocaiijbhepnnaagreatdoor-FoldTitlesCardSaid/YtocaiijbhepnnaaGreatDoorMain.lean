/- FoldTitles returns true, whatever it is given: a walk of its code and the document's (FB to HG) over the books of letters, the classes and the rules of letters and words, whose making (RO, RN, RK, RB, RW), and live, are closed runs that are cut by calls whose results are known. -/
import Derived.Test.YtocaiijbhepnnaaGreatDoorMA
set_option maxRecDepth 1000000
namespace Go.Proofs.YtocaiijbhepnnaaGreatDoor.foldTitles
open Go.ChangeShapes Go.WideShapes Go.ChangeAt Go.RowKit
theorem card:Rows.FoldTitlesCardSaid:=
 Claim7.holds_tied_plain_at .later [] _ _ _ _ said (fun _ h=>by cases h) (by kernel_rfl) (fun _ h=>by cases h) foldTitles_row_tie rfl ⟨rfl,rfl⟩ (by kernel_rfl) rfl plain (by kernel_rfl)
end Go.Proofs.YtocaiijbhepnnaaGreatDoor.foldTitles
