/- FoldOnce's closed run: calls whose results are known. -/
import Derived.Test.YtnfghboholehdaaGreatDoorTF
namespace Go.Proofs.YtnfghboholehdaaGreatDoor.foldOnce
noncomputable def k265 : Am.Known := ⟨9, (.cons (.str ⟨5, 418258117444⟩) .nil), (.str ⟨5, 280819155812⟩), []⟩
set_option maxRecDepth 1000000 in
theorem k265Ok : Am.OneOk Tryz.prog tabsB k265 := oneB_orcF [] (by kernel_rfl)
end Go.Proofs.YtnfghboholehdaaGreatDoor.foldOnce
