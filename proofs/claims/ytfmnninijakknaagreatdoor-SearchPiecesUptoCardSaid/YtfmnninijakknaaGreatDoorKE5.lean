/- SearchPieces's closed run: calls whose results are known. -/
import Derived.Test.YtfmnninijakknaaGreatDoorTE
namespace Go.Proofs.YtfmnninijakknaaGreatDoor.searchPieces
noncomputable def k210 : Am.Known := ⟨19, (.cons (.str ⟨2, 50079⟩) .nil), (.str ⟨2, 29555⟩), []⟩
theorem k210Ok : Am.OneOk Tryz.prog tabsB k210 :=
  Am.one_of_run (orc := orcE) (N := 999) (R := []) mixed progOk (extOk _) orcEOk (by kernel_rfl) (by kernel_rfl) (by kernel_rfl) (by kernel_rfl)
end Go.Proofs.YtfmnninijakknaaGreatDoor.searchPieces
