/- FoldOnce's closed run: calls whose results are known. -/
import Derived.Test.YtnfghboholehdaaGreatDoorTF
namespace Go.Proofs.YtnfghboholehdaaGreatDoor.foldOnce
noncomputable def k206 : Am.Known := ⟨12, (.cons (.str ⟨8, 6004514643716031864⟩) (.cons (.str ⟨7, 32497656937029477⟩) .nil)), (.tup (.cons (.int .i64 (.ofNat 7)) (.cons (.bool true) .nil))), []⟩
set_option maxRecDepth 1000000 in
theorem k206Ok : Am.OneOk Tryz.prog tabsB k206 := oneB_orcF [] (by kernel_rfl)
end Go.Proofs.YtnfghboholehdaaGreatDoor.foldOnce
