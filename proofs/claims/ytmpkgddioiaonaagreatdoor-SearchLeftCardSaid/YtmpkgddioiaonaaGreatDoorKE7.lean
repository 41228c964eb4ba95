/- SearchLeft's closed run: calls whose results are known. -/
import Derived.Test.YtmpkgddioiaonaaGreatDoorKE0
namespace Go.Proofs.YtmpkgddioiaonaaGreatDoor.searchLeft
open Go.Proofs.YtmpkgddioiaonaaGreatDoor.Am
noncomputable section
def k212 : Known := ⟨13, (S 0 0 .nil), (.str ⟨0, 0⟩), []⟩
set_option maxRecDepth 1000000 in
theorem k212Ok : Am.OneOk Tryz.prog tabsB k212 := oneB_orcE [] (by kernel_rfl)
end
end Go.Proofs.YtmpkgddioiaonaaGreatDoor.searchLeft
