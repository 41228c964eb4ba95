/- SearchPieces's closed run: calls whose results are known. -/
import Derived.Test.YtfmnninijakknaaGreatDoorTE
namespace Go.Proofs.YtfmnninijakknaaGreatDoor.searchPieces
noncomputable def k208 : Am.Known := ⟨19, (.cons (.str ⟨1, 114⟩) .nil), (.str ⟨1, 114⟩), []⟩
theorem k208Ok : Am.OneOk Tryz.prog tabsB k208 :=
  Am.one_of_run (orc := orcE) (N := 999) (R := []) mixed progOk (extOk _) orcEOk (by kernel_rfl) (by kernel_rfl) (by kernel_rfl) (by kernel_rfl)
end Go.Proofs.YtfmnninijakknaaGreatDoor.searchPieces
