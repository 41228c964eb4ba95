/- SearchReplaces returns true, whatever it is given. -/
import Derived.Test.YtocaiijbhepnnaaGreatDoorMA
set_option maxRecDepth 1000000
namespace Go.Proofs.YtocaiijbhepnnaaGreatDoor.searchReplaces
theorem card:Rows.SearchReplacesCardSaid:=
 Claim7.holds_tied_plain_at .later [] _ _ _ _ said (fun _ h=>by cases h) (by kernel_rfl) (fun _ h=>by cases h) searchReplaces_row_tie rfl ⟨rfl,rfl⟩ (by kernel_rfl) rfl plain (by kernel_rfl)
end Go.Proofs.YtocaiijbhepnnaaGreatDoor.searchReplaces
