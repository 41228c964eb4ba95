/- SearchPieces's closed run: calls whose results are known. -/
import Derived.Test.YtfmnninijakknaaGreatDoorTD
namespace Go.Proofs.YtfmnninijakknaaGreatDoor.searchPieces
noncomputable def k267 : Am.Known := ⟨27, (.cons (.str ⟨10, 469311983776682601570676⟩) .nil), (.slice 64 0 4 1 false), [.cells 3 (.cons (.int .i64 (.ofNat 0)) (.cons (.int .i64 (.ofNat 3)) (.cons (.int .i64 (.ofNat 4)) (.cons (.int .i64 (.ofNat 10)) .nil))))]⟩
theorem k267Ok : Am.OneOk Tryz.prog [] k267 :=
  Am.one_of_run (orc := orcD) (N := 999) (R := [273]) mixed progOk (extOk _) orcDOk (by kernel_rfl) (by kernel_rfl) (by kernel_rfl) (by kernel_rfl)
end Go.Proofs.YtfmnninijakknaaGreatDoor.searchPieces
