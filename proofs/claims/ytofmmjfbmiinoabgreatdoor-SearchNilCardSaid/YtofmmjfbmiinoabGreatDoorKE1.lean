/- SearchNil's closed run: calls whose results are known. -/
import Derived.Test.YtofmmjfbmiinoabGreatDoorTE
namespace Go.Proofs.YtofmmjfbmiinoabGreatDoor.searchNil
noncomputable def k207 : Am.Known := ⟨30, (.cons (.str ⟨1, 116⟩) .nil), (.str ⟨1, 116⟩), []⟩
theorem k207Ok : Am.OneOk Tryz.prog tabsB k207 :=
  Am.one_of_run (orc := orcE) (N := 999) (R := []) mixed progOk (extOk _) orcEOk (by kernel_rfl) (by kernel_rfl) (by kernel_rfl) (by kernel_rfl)
noncomputable def k208 : Am.Known := ⟨30, (.cons (.str ⟨1, 114⟩) .nil), (.str ⟨1, 114⟩), []⟩
theorem k208Ok : Am.OneOk Tryz.prog tabsB k208 :=
  Am.one_of_run (orc := orcE) (N := 999) (R := []) mixed progOk (extOk _) orcEOk (by kernel_rfl) (by kernel_rfl) (by kernel_rfl) (by kernel_rfl)
end Go.Proofs.YtofmmjfbmiinoabGreatDoor.searchNil
