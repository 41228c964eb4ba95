/- FoldRunes's closed run: calls whose results are known. -/
import Derived.Test.YtakpgpibkfddgaaGreatDoorTF
namespace Go.Proofs.YtakpgpibkfddgaaGreatDoor.foldRunes
noncomputable def k723 : Am.Known := ⟨21, (.cons (.str ⟨7, 32497656937029477⟩) .nil), (.str ⟨7, 23455135327015749⟩), []⟩
set_option maxRecDepth 1000000 in
theorem k723Ok : Am.OneOk Tryz.prog tabsB k723 := oneB_orcF [] (by kernel_rfl)
noncomputable def k724 : Am.Known := ⟨38, (.cons (.str ⟨7, 23455135327015749⟩) .nil), (.str ⟨7, 32497656931775333⟩), []⟩
set_option maxRecDepth 1000000 in
theorem k724Ok : Am.OneOk Tryz.prog tabsB k724 := oneB_orcF [] (by kernel_rfl)
end Go.Proofs.YtakpgpibkfddgaaGreatDoor.foldRunes
