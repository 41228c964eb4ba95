/- FoldCompares's closed run: calls whose results are known. -/
import Derived.Test.YtnfghboholehdaaGreatDoorTE
namespace Go.Proofs.YtnfghboholehdaaGreatDoor.foldCompares
noncomputable def k611 : Am.Known := ⟨30, (.cons (.str ⟨5, 418258117444⟩) .nil), (.slice 64 0 4 1 false), [.cells 3 (.cons (.int .i64 (.ofNat 0)) (.cons (.int .i64 (.ofNat 2)) (.cons (.int .i64 (.ofNat 3)) (.cons (.int .i64 (.ofNat 5)) .nil))))]⟩
theorem k611Ok : Am.OneOk Tryz.prog [] k611 := oneA_orcE [183] (by kernel_rfl)
end Go.Proofs.YtnfghboholehdaaGreatDoor.foldCompares
