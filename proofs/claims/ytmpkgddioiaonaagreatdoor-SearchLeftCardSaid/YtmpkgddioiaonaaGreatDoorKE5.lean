/- SearchLeft's closed run: calls whose results are known. -/
import Derived.Test.YtmpkgddioiaonaaGreatDoorKE0
namespace Go.Proofs.YtmpkgddioiaonaaGreatDoor.searchLeft
open Go.Proofs.YtmpkgddioiaonaaGreatDoor.Am
noncomputable section
def k210 : Known := ⟨13, (S 2 50079 .nil), (.str ⟨2, 29555⟩), []⟩
set_option maxRecDepth 1000000 in
theorem k210Ok : Am.OneOk Tryz.prog tabsB k210 := oneB_orcE [] (by kernel_rfl)
end
end Go.Proofs.YtmpkgddioiaonaaGreatDoor.searchLeft
