/- SearchLeft's closed run: calls whose results are known. -/
import Derived.Test.YtmpkgddioiaonaaGreatDoorKE0
namespace Go.Proofs.YtmpkgddioiaonaaGreatDoor.searchLeft
open Go.Proofs.YtmpkgddioiaonaaGreatDoor.Am
noncomputable section
def k206 : Known := ⟨13, (S 1 83 .nil), (.str ⟨1, 115⟩), []⟩
set_option maxRecDepth 1000000 in
theorem k206Ok : Am.OneOk Tryz.prog tabsB k206 := oneB_orcE [] (by kernel_rfl)
end
end Go.Proofs.YtmpkgddioiaonaaGreatDoor.searchLeft
