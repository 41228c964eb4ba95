/- SearchPieces's closed run: calls whose results are known. -/
import Derived.Test.YtfmnninijakknaaGreatDoorTE
namespace Go.Proofs.YtfmnninijakknaaGreatDoor.searchPieces
noncomputable def k206 : Am.Known := ⟨19, (.cons (.str ⟨1, 83⟩) .nil), (.str ⟨1, 115⟩), []⟩
theorem k206Ok : Am.OneOk Tryz.prog tabsB k206 :=
  Am.one_of_run (orc := orcE) (N := 999) (R := []) mixed progOk (extOk _) orcEOk (by kernel_rfl) (by kernel_rfl) (by kernel_rfl) (by kernel_rfl)
end Go.Proofs.YtfmnninijakknaaGreatDoor.searchPieces
