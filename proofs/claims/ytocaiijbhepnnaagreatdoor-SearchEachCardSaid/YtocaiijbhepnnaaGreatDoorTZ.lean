/- SearchEach's closed run: a table of known calls. -/
import Derived.Test.YtocaiijbhepnnaaGreatDoorKB0
import Derived.Test.YtocaiijbhepnnaaGreatDoorKF0
namespace Go.Proofs.YtocaiijbhepnnaaGreatDoor.searchEach
open Go.Proofs.YtocaiijbhepnnaaGreatDoor.Am
noncomputable section
def aoe:Nat→Am.AV→Am.H→Option Am.bF:=Am.Ah [] [(95,List.append q3 q4)]
theorem agJ:Am.fV Tryz.prog (Am.cB Tryz.prog ext aoe):=Am.lG (oh (Am.jR agq agr) Am.pq)
def q9:List Known:=[⟨52,(S 10 469311983776682601570676 .nil),(.slice 64 0 4 1 false),[.cells 3 (I .i64 0 (I .i64 3 (I .i64 4 (I .i64 10 .nil))))]⟩]
set_option maxRecDepth 1000000 in
theorem aof:AA q9:=oA agJ [[273]] (by kernel_rfl)
end
open Go.Proofs.YtocaiijbhepnnaaGreatDoor.Am
noncomputable section
def agz:Nat→Am.AV→Am.H→Option Am.bF:=Am.Qa (Am.Ah [] [(52,q9)]) (Am.Ah yA [(69,List.append q10 (List.append q11 (List.append q12 (List.append q13 (List.append q14 (List.append q15 (List.append q16 q17)))))))])
theorem agC:Am.fV Tryz.prog (Am.cB Tryz.prog ext agz):=Am.wS (Am.lG (oh aof Am.pq)) (Am.lG (oh (Am.jR ajI (Am.jR ajJ (Am.jR ajK (Am.jR ajL (Am.jR ajM (Am.jR ajN (Am.jR ajO ajP))))))) Am.pq))
end
end Go.Proofs.YtocaiijbhepnnaaGreatDoor.searchEach
