/- FoldOnce's closed run: calls whose results are known. -/
import Derived.Test.YtnfghboholehdaaGreatDoorBase
namespace Go.Proofs.YtnfghboholehdaaGreatDoor.foldOnce
noncomputable def k253 : Am.Known := ⟨127, (.cons (.str ⟨28, 8969311401400702373312326387981668807404424464016036820761976387872⟩) .nil), (.tup (.cons (.slice 64 0 2 2 false) (.cons (.int .i64 (.ofNat 0)) (.cons (.int .i64 (.ofNat 0)) .nil)))), [.cells 180 (.cons (.int .i32 (.ofNat 48)) (.cons (.int .i32 (.ofNat 57)) (.cons (.int .i32 (.ofNat 1632)) (.cons (.int .i32 (.ofNat 1641)) .nil))))]⟩
theorem k253Ok : Am.OneOk Tryz.prog [] k253 := oneA_orc0 [91] (by kernel_rfl)
noncomputable def k254 : Am.Known := ⟨124, (.cons (.str ⟨19, 1899325567803338724192797612438505756314857335⟩) (.cons (.int .u8 (.ofNat 35)) .nil)), (.int .i64 (.negSucc 0)), []⟩
theorem k254Ok : Am.OneOk Tryz.prog [] k254 := oneA_orc0 [] (by kernel_rfl)
noncomputable def k255 : Am.Known := ⟨124, (.cons (.str ⟨19, 1899325567803338724192797612438505756314857335⟩) (.cons (.int .u8 (.ofNat 59)) .nil)), (.int .i64 (.ofNat 14)), []⟩
theorem k255Ok : Am.OneOk Tryz.prog [] k255 := oneA_orc0 [] (by kernel_rfl)
noncomputable def k256 : Am.Known := ⟨127, (.cons (.str ⟨14, 1727426540858995144110665580627488⟩) .nil), (.tup (.cons (.slice 64 0 2 2 false) (.cons (.int .i64 (.ofNat 0)) (.cons (.int .i64 (.ofNat 0)) .nil)))), [.cells 180 (.cons (.int .i32 (.ofNat 95)) (.cons (.int .i32 (.ofNat 95)) (.cons (.int .i32 (.ofNat 8255)) (.cons (.int .i32 (.ofNat 8255)) .nil))))]⟩
theorem k256Ok : Am.OneOk Tryz.prog [] k256 := oneA_orc0 [89] (by kernel_rfl)
noncomputable def k257 : Am.Known := ⟨124, (.cons (.str ⟨35, 646306999760123114183290356544478532603697536029104660685782261552694891962693673829⟩) (.cons (.int .u8 (.ofNat 35)) .nil)), (.int .i64 (.negSucc 0)), []⟩
theorem k257Ok : Am.OneOk Tryz.prog [] k257 := oneA_orc0 [] (by kernel_rfl)
noncomputable def k258 : Am.Known := ⟨124, (.cons (.str ⟨35, 646306999760123114183290356544478532603697536029104660685782261552694891962693673829⟩) (.cons (.int .u8 (.ofNat 59)) .nil)), (.int .i64 (.ofNat 28)), []⟩
theorem k258Ok : Am.OneOk Tryz.prog [] k258 := oneA_orc0 [] (by kernel_rfl)
noncomputable def k259 : Am.Known := ⟨127, (.cons (.str ⟨28, 8969311401376177580781067729460677881488072316477975508078077947936⟩) .nil), (.tup (.cons (.slice 64 0 3 2 false) (.cons (.int .i64 (.ofNat 0)) (.cons (.int .i64 (.ofNat 0)) .nil)))), [.cells 180 (.cons (.int .i32 (.ofNat 32)) (.cons (.int .i32 (.ofNat 32)) (.cons (.int .i32 (.ofNat 8192)) (.cons (.int .i32 (.ofNat 8198)) (.cons (.int .i32 (.ofNat 12288)) (.cons (.int .i32 (.ofNat 12288)) .nil))))))]⟩
theorem k259Ok : Am.OneOk Tryz.prog [] k259 := oneA_orc0 [102] (by kernel_rfl)
noncomputable def k260 : Am.Known := ⟨124, (.cons (.str ⟨82, 99475751603000794545767920846856894700094723487872261299214413594918736937155799732239999576473798641092105641452387944600226005076279816289541771190086097831010643155328645618707772558079685124980⟩) (.cons (.int .u8 (.ofNat 35)) .nil)), (.int .i64 (.negSucc 0)), []⟩
theorem k260Ok : Am.OneOk Tryz.prog [] k260 := oneA_orc0 [] (by kernel_rfl)
noncomputable def k261 : Am.Known := ⟨124, (.cons (.str ⟨82, 99475751603000794545767920846856894700094723487872261299214413594918736937155799732239999576473798641092105641452387944600226005076279816289541771190086097831010643155328645618707772558079685124980⟩) (.cons (.int .u8 (.ofNat 59)) .nil)), (.int .i64 (.ofNat 76)), []⟩
theorem k261Ok : Am.OneOk Tryz.prog [] k261 := oneA_orc0 [] (by kernel_rfl)
noncomputable def k262 : Am.Known := ⟨127, (.cons (.str ⟨76, 353408863428941780234168564500609813805790521314066628019696784672443133022866134255366431121365872915490433717353326218103241292127875596980650283250064439609909936576061701951473184⟩) .nil), (.tup (.cons (.slice 64 0 6 2 false) (.cons (.int .i64 (.ofNat 0)) (.cons (.int .i64 (.ofNat 0)) .nil)))), [.cells 180 (.cons (.int .i32 (.ofNat 169)) (.cons (.int .i32 (.ofNat 169)) (.cons (.int .i32 (.ofNat 174)) (.cons (.int .i32 (.ofNat 174)) (.cons (.int .i32 (.ofNat 9728)) (.cons (.int .i32 (.ofNat 10175)) (.cons (.int .i32 (.ofNat 127744)) (.cons (.int .i32 (.ofNat 127994)) (.cons (.int .i32 (.ofNat 128000)) (.cons (.int .i32 (.ofNat 128591)) (.cons (.int .i32 (.ofNat 128640)) (.cons (.int .i32 (.ofNat 128767)) .nil))))))))))))]⟩
theorem k262Ok : Am.OneOk Tryz.prog [] k262 := oneA_orc0 [141] (by kernel_rfl)
end Go.Proofs.YtnfghboholehdaaGreatDoor.foldOnce
