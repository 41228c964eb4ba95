/- SearchLeft's closed run: calls whose results are known. -/
import Derived.Test.YtmpkgddioiaonaaGreatDoorBase
namespace Go.Proofs.YtmpkgddioiaonaaGreatDoor.searchLeft
open Go.Proofs.YtmpkgddioiaonaaGreatDoor.Am
noncomputable section
def k265 : Known := ⟨96, (S 76 353408863428941780234168564500609813805790521314066628019696784672443133022866134255366431121365872915490433717353326218103241292127875596980650283250064439609909936576061701951473184 .nil), (.tup (Q 64 0 6 2 (I .i64 0 (I .i64 0 .nil)))), [.cells 165 (I .i32 169 (I .i32 169 (I .i32 174 (I .i32 174 (I .i32 9728 (I .i32 10175 (I .i32 127744 (I .i32 127994 (I .i32 128000 (I .i32 128591 (I .i32 128640 (I .i32 128767 .nil))))))))))))]⟩
theorem k265Ok : OA k265 := oneA_orc0 [141] (by kernel_rfl)
end
end Go.Proofs.YtmpkgddioiaonaaGreatDoor.searchLeft
