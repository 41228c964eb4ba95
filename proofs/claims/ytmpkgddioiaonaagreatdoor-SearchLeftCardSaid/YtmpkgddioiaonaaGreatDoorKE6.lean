/- SearchLeft's closed run: calls whose results are known. -/
import Derived.Test.YtmpkgddioiaonaaGreatDoorKE0
namespace Go.Proofs.YtmpkgddioiaonaaGreatDoor.searchLeft
open Go.Proofs.YtmpkgddioiaonaaGreatDoor.Am
noncomputable section
def k211 : Known := ⟨13, (S 1 101 .nil), (.str ⟨1, 101⟩), []⟩
set_option maxRecDepth 1000000 in
theorem k211Ok : Am.OneOk Tryz.prog tabsB k211 := oneB_orcE [] (by kernel_rfl)
end
end Go.Proofs.YtmpkgddioiaonaaGreatDoor.searchLeft
