/- FoldOnce's closed run: calls whose results are known. -/
import Derived.Test.YtnfghboholehdaaGreatDoorTF
namespace Go.Proofs.YtnfghboholehdaaGreatDoor.foldOnce
noncomputable def k207 : Am.Known := ⟨19, (.cons (.str ⟨7, 32497656937029477⟩) .nil), (.str ⟨7, 23455135327015749⟩), []⟩
set_option maxRecDepth 1000000 in
theorem k207Ok : Am.OneOk Tryz.prog tabsB k207 := oneB_orcF [] (by kernel_rfl)
end Go.Proofs.YtnfghboholehdaaGreatDoor.foldOnce
