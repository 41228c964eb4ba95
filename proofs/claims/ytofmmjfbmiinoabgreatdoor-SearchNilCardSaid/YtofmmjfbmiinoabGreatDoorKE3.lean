/- SearchNil's closed run: calls whose results are known. -/
import Derived.Test.YtofmmjfbmiinoabGreatDoorTE
namespace Go.Proofs.YtofmmjfbmiinoabGreatDoor.searchNil
noncomputable def k211 : Am.Known := ⟨30, (.cons (.str ⟨1, 101⟩) .nil), (.str ⟨1, 101⟩), []⟩
theorem k211Ok : Am.OneOk Tryz.prog tabsB k211 :=
  Am.one_of_run (orc := orcE) (N := 999) (R := []) mixed progOk (extOk _) orcEOk (by kernel_rfl) (by kernel_rfl) (by kernel_rfl) (by kernel_rfl)
noncomputable def k212 : Am.Known := ⟨30, (.cons (.str ⟨0, 0⟩) .nil), (.str ⟨0, 0⟩), []⟩
theorem k212Ok : Am.OneOk Tryz.prog tabsB k212 :=
  Am.one_of_run (orc := orcE) (N := 999) (R := []) mixed progOk (extOk _) orcEOk (by kernel_rfl) (by kernel_rfl) (by kernel_rfl) (by kernel_rfl)
end Go.Proofs.YtofmmjfbmiinoabGreatDoor.searchNil
