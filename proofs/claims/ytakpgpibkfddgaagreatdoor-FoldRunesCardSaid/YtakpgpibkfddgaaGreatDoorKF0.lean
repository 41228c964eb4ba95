/- FoldRunes's closed run: calls whose results are known. -/
import Derived.Test.YtakpgpibkfddgaaGreatDoorTF
namespace Go.Proofs.YtakpgpibkfddgaaGreatDoor.foldRunes
noncomputable def k721 : Am.Known := ⟨19, (.cons (.str ⟨3, 15707265⟩) .nil), (.tup (.cons (.str ⟨2, 26217⟩) (.cons (.slice 64 0 2 1 false) .nil))), [.cells 3 (.cons (.int .i64 (.ofNat 0)) (.cons (.int .i64 (.ofNat 0)) .nil))]⟩
set_option maxRecDepth 1000000 in
theorem k721Ok : Am.OneOk Tryz.prog tabsB k721 := oneB_orcF [240] (by kernel_rfl)
noncomputable def k722 : Am.Known := ⟨20, (.cons (.str ⟨8, 6004514643716031864⟩) (.cons (.str ⟨7, 32497656937029477⟩) .nil)), (.tup (.cons (.int .i64 (.ofNat 7)) (.cons (.bool true) .nil))), []⟩
set_option maxRecDepth 1000000 in
theorem k722Ok : Am.OneOk Tryz.prog tabsB k722 := oneB_orcF [] (by kernel_rfl)
end Go.Proofs.YtakpgpibkfddgaaGreatDoor.foldRunes
