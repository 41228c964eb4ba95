/- SearchAsks's closed run: a table of known calls. -/
import Derived.Test.YtocaiijbhepnnaaGreatDoorKB0
import Derived.Test.YtocaiijbhepnnaaGreatDoorKF0
namespace Go.Proofs.YtocaiijbhepnnaaGreatDoor.searchAsks
open Go.Proofs.YtocaiijbhepnnaaGreatDoor.Am
noncomputable section
def anV:Nat→Am.AV→Am.H→Option Am.bJ:=Am.zW [] [(95,List.append q3 q4)]
theorem agn:Am.gq Tryz.prog (Am.cK Tryz.prog ext anV):=Am.lG (nV (Am.jS af2 af3) Am.oZ)
def q9:List Known:=[⟨52,(S 10 469311983776682601570676 .nil),(.slice 64 0 4 1 false),[.cells 3 (I .i64 0 (I .i64 3 (I .i64 4 (I .i64 10 .nil))))]⟩]
set_option maxRecDepth 1000000 in
theorem anW:AA q9:=oA agn [[273]] (by kernel_rfl)
end
open Go.Proofs.YtocaiijbhepnnaaGreatDoor.Am
noncomputable section
def agb:Nat→Am.AV→Am.H→Option Am.bJ:=Am.PI (Am.zW [] [(52,q9)]) (Am.zW x9 [(69,List.append q10 (List.append q11 (List.append q12 (List.append q13 (List.append q14 (List.append q15 (List.append q16 q17)))))))])
theorem agf:Am.gq Tryz.prog (Am.cK Tryz.prog ext agb):=Am.wQ (Am.lG (nV anW Am.oZ)) (Am.lG (nV (Am.jS ajo (Am.jS ajp (Am.jS ajq (Am.jS ajr (Am.jS ajs (Am.jS ajt (Am.jS aju ajv))))))) Am.oZ))
end
end Go.Proofs.YtocaiijbhepnnaaGreatDoor.searchAsks
