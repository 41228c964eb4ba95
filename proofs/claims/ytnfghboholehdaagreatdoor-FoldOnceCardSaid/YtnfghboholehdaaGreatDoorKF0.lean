/- FoldOnce's closed run: calls whose results are known. -/
import Derived.Test.YtnfghboholehdaaGreatDoorTF
namespace Go.Proofs.YtnfghboholehdaaGreatDoor.foldOnce
noncomputable def k205 : Am.Known := ⟨17, (.cons (.str ⟨3, 15707265⟩) .nil), (.tup (.cons (.str ⟨2, 26217⟩) (.cons (.slice 64 0 2 1 false) .nil))), [.cells 3 (.cons (.int .i64 (.ofNat 0)) (.cons (.int .i64 (.ofNat 0)) .nil))]⟩
set_option maxRecDepth 1000000 in
theorem k205Ok : Am.OneOk Tryz.prog tabsB k205 := oneB_orcF [240] (by kernel_rfl)
end Go.Proofs.YtnfghboholehdaaGreatDoor.foldOnce
