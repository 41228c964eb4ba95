/- SearchNil's closed run: calls whose results are known. -/
import Derived.Test.YtofmmjfbmiinoabGreatDoorTE
namespace Go.Proofs.YtofmmjfbmiinoabGreatDoor.searchNil
noncomputable def k209 : Am.Known := ⟨30, (.cons (.str ⟨1, 97⟩) .nil), (.str ⟨1, 97⟩), []⟩
theorem k209Ok : Am.OneOk Tryz.prog tabsB k209 :=
  Am.one_of_run (orc := orcE) (N := 999) (R := []) mixed progOk (extOk _) orcEOk (by kernel_rfl) (by kernel_rfl) (by kernel_rfl) (by kernel_rfl)
noncomputable def k210 : Am.Known := ⟨30, (.cons (.str ⟨2, 50079⟩) .nil), (.str ⟨2, 29555⟩), []⟩
theorem k210Ok : Am.OneOk Tryz.prog tabsB k210 :=
  Am.one_of_run (orc := orcE) (N := 999) (R := []) mixed progOk (extOk _) orcEOk (by kernel_rfl) (by kernel_rfl) (by kernel_rfl) (by kernel_rfl)
end Go.Proofs.YtofmmjfbmiinoabGreatDoor.searchNil
