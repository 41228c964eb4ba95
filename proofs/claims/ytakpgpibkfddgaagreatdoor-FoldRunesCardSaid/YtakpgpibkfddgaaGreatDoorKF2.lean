/- FoldRunes's closed run: calls whose results are known. -/
import Derived.Test.YtakpgpibkfddgaaGreatDoorTF
namespace Go.Proofs.YtakpgpibkfddgaaGreatDoor.foldRunes
noncomputable def k725 : Am.Known := ⟨38, (.cons (.str ⟨7, 32497656937029477⟩) .nil), (.str ⟨7, 32497656931775333⟩), []⟩
set_option maxRecDepth 1000000 in
theorem k725Ok : Am.OneOk Tryz.prog tabsB k725 := oneB_orcF [] (by kernel_rfl)
noncomputable def k782 : Am.Known := ⟨25, (.cons (.str ⟨5, 418258117444⟩) .nil), (.str ⟨5, 280819155812⟩), []⟩
set_option maxRecDepth 1000000 in
theorem k782Ok : Am.OneOk Tryz.prog tabsB k782 := oneB_orcF [] (by kernel_rfl)
end Go.Proofs.YtakpgpibkfddgaaGreatDoor.foldRunes
