/- FoldCompares's closed run: calls whose results are known. -/
import Derived.Test.YtnfghboholehdaaGreatDoorTF
namespace Go.Proofs.YtnfghboholehdaaGreatDoor.foldCompares
noncomputable def k776 : Am.Known := ⟨17, (.cons (.str ⟨3, 15707265⟩) .nil), (.tup (.cons (.str ⟨2, 26217⟩) (.cons (.slice 64 0 2 1 false) .nil))), [.cells 3 (.cons (.int .i64 (.ofNat 0)) (.cons (.int .i64 (.ofNat 0)) .nil))]⟩
set_option maxRecDepth 1000000 in
theorem k776Ok : Am.OneOk Tryz.prog tabsB k776 := oneB_orcF [240] (by kernel_rfl)
end Go.Proofs.YtnfghboholehdaaGreatDoor.foldCompares
namespace Go.Proofs.YtnfghboholehdaaGreatDoor.foldCompares
noncomputable def k777 : Am.Known := ⟨12, (.cons (.str ⟨8, 6004514643716031864⟩) (.cons (.str ⟨7, 32497656937029477⟩) .nil)), (.tup (.cons (.int .i64 (.ofNat 7)) (.cons (.bool true) .nil))), []⟩
set_option maxRecDepth 1000000 in
theorem k777Ok : Am.OneOk Tryz.prog tabsB k777 := oneB_orcF [] (by kernel_rfl)
end Go.Proofs.YtnfghboholehdaaGreatDoor.foldCompares
namespace Go.Proofs.YtnfghboholehdaaGreatDoor.foldCompares
noncomputable def k778 : Am.Known := ⟨19, (.cons (.str ⟨7, 32497656937029477⟩) .nil), (.str ⟨7, 23455135327015749⟩), []⟩
set_option maxRecDepth 1000000 in
theorem k778Ok : Am.OneOk Tryz.prog tabsB k778 := oneB_orcF [] (by kernel_rfl)
end Go.Proofs.YtnfghboholehdaaGreatDoor.foldCompares
namespace Go.Proofs.YtnfghboholehdaaGreatDoor.foldCompares
noncomputable def k779 : Am.Known := ⟨20, (.cons (.str ⟨7, 23455135327015749⟩) .nil), (.str ⟨7, 32497656931775333⟩), []⟩
set_option maxRecDepth 1000000 in
theorem k779Ok : Am.OneOk Tryz.prog tabsB k779 := oneB_orcF [] (by kernel_rfl)
end Go.Proofs.YtnfghboholehdaaGreatDoor.foldCompares
namespace Go.Proofs.YtnfghboholehdaaGreatDoor.foldCompares
noncomputable def k780 : Am.Known := ⟨20, (.cons (.str ⟨7, 32497656937029477⟩) .nil), (.str ⟨7, 32497656931775333⟩), []⟩
set_option maxRecDepth 1000000 in
theorem k780Ok : Am.OneOk Tryz.prog tabsB k780 := oneB_orcF [] (by kernel_rfl)
end Go.Proofs.YtnfghboholehdaaGreatDoor.foldCompares
namespace Go.Proofs.YtnfghboholehdaaGreatDoor.foldCompares
noncomputable def k781 : Am.Known := ⟨9, (.cons (.str ⟨5, 418258117444⟩) .nil), (.str ⟨5, 280819155812⟩), []⟩
set_option maxRecDepth 1000000 in
theorem k781Ok : Am.OneOk Tryz.prog tabsB k781 := oneB_orcF [] (by kernel_rfl)
end Go.Proofs.YtnfghboholehdaaGreatDoor.foldCompares
