/- FoldRunes's closed run: calls whose results are known. -/
import Derived.Test.YtakpgpibkfddgaaGreatDoorBase
namespace Go.Proofs.YtakpgpibkfddgaaGreatDoor.foldRunes
noncomputable def k778 : Am.Known := ⟨91, (.cons (.str ⟨82, 99475751603000794545767920846856894700094723487872261299214413594918736937155799732239999576473798641092105641452387944600226005076279816289541771190086097831010643155328645618707772558079685124980⟩) (.cons (.int .u8 (.ofNat 59)) .nil)), (.int .i64 (.ofNat 76)), []⟩
theorem k778Ok : Am.OneOk Tryz.prog [] k778 := oneA_orc0 [] (by kernel_rfl)
noncomputable def k779 : Am.Known := ⟨94, (.cons (.str ⟨76, 353408863428941780234168564500609813805790521314066628019696784672443133022866134255366431121365872915490433717353326218103241292127875596980650283250064439609909936576061701951473184⟩) .nil), (.tup (.cons (.slice 64 0 6 2 false) (.cons (.int .i64 (.ofNat 0)) (.cons (.int .i64 (.ofNat 0)) .nil)))), [.cells 164 (.cons (.int .i32 (.ofNat 169)) (.cons (.int .i32 (.ofNat 169)) (.cons (.int .i32 (.ofNat 174)) (.cons (.int .i32 (.ofNat 174)) (.cons (.int .i32 (.ofNat 9728)) (.cons (.int .i32 (.ofNat 10175)) (.cons (.int .i32 (.ofNat 127744)) (.cons (.int .i32 (.ofNat 127994)) (.cons (.int .i32 (.ofNat 128000)) (.cons (.int .i32 (.ofNat 128591)) (.cons (.int .i32 (.ofNat 128640)) (.cons (.int .i32 (.ofNat 128767)) .nil))))))))))))]⟩
theorem k779Ok : Am.OneOk Tryz.prog [] k779 := oneA_orc0 [141] (by kernel_rfl)
end Go.Proofs.YtakpgpibkfddgaaGreatDoor.foldRunes
