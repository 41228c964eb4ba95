/- SearchLeft's closed run: calls whose results are known. -/
import Derived.Test.YtmpkgddioiaonaaGreatDoorKE0
namespace Go.Proofs.YtmpkgddioiaonaaGreatDoor.searchLeft
open Go.Proofs.YtmpkgddioiaonaaGreatDoor.Am
noncomputable section
def k207 : Known := ⟨13, (S 1 116 .nil), (.str ⟨1, 116⟩), []⟩
set_option maxRecDepth 1000000 in
theorem k207Ok : Am.OneOk Tryz.prog tabsB k207 := oneB_orcE [] (by kernel_rfl)
end
end Go.Proofs.YtmpkgddioiaonaaGreatDoor.searchLeft
