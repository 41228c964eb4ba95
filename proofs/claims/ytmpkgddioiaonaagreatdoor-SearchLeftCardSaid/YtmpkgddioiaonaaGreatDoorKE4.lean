/- SearchLeft's closed run: calls whose results are known. -/
import Derived.Test.YtmpkgddioiaonaaGreatDoorKE0
namespace Go.Proofs.YtmpkgddioiaonaaGreatDoor.searchLeft
open Go.Proofs.YtmpkgddioiaonaaGreatDoor.Am
noncomputable section
def k209 : Known := ⟨13, (S 1 97 .nil), (.str ⟨1, 97⟩), []⟩
set_option maxRecDepth 1000000 in
theorem k209Ok : Am.OneOk Tryz.prog tabsB k209 := oneB_orcE [] (by kernel_rfl)
end
end Go.Proofs.YtmpkgddioiaonaaGreatDoor.searchLeft
