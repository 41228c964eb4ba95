/- SearchNil's closed run: calls whose results are known. -/
import Derived.Test.YtofmmjfbmiinoabGreatDoorTE
namespace Go.Proofs.YtofmmjfbmiinoabGreatDoor.searchNil
noncomputable def k205 : Am.Known := ⟨30, (.cons (.str ⟨2, 21331⟩) .nil), (.str ⟨2, 29555⟩), []⟩
theorem k205Ok : Am.OneOk Tryz.prog tabsB k205 :=
  Am.one_of_run (orc := orcE) (N := 999) (R := []) mixed progOk (extOk _) orcEOk (by kernel_rfl) (by kernel_rfl) (by kernel_rfl) (by kernel_rfl)
noncomputable def k206 : Am.Known := ⟨30, (.cons (.str ⟨1, 83⟩) .nil), (.str ⟨1, 115⟩), []⟩
theorem k206Ok : Am.OneOk Tryz.prog tabsB k206 :=
  Am.one_of_run (orc := orcE) (N := 999) (R := []) mixed progOk (extOk _) orcEOk (by kernel_rfl) (by kernel_rfl) (by kernel_rfl) (by kernel_rfl)
end Go.Proofs.YtofmmjfbmiinoabGreatDoor.searchNil
