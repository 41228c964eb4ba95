/- FoldOnce's closed run: calls whose results are known. -/
import Derived.Test.YtnfghboholehdaaGreatDoorTF
namespace Go.Proofs.YtnfghboholehdaaGreatDoor.foldOnce
noncomputable def k209 : Am.Known := ⟨20, (.cons (.str ⟨7, 32497656937029477⟩) .nil), (.str ⟨7, 32497656931775333⟩), []⟩
set_option maxRecDepth 1000000 in
theorem k209Ok : Am.OneOk Tryz.prog tabsB k209 := oneB_orcF [] (by kernel_rfl)
end Go.Proofs.YtnfghboholehdaaGreatDoor.foldOnce
