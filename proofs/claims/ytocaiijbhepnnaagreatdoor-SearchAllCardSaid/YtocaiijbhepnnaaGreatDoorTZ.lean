/- SearchAll's closed run: a table of known calls. -/
import Derived.Test.YtocaiijbhepnnaaGreatDoorKB0
import Derived.Test.YtocaiijbhepnnaaGreatDoorKF0
namespace Go.Proofs.YtocaiijbhepnnaaGreatDoor.searchAll
open Go.Proofs.YtocaiijbhepnnaaGreatDoor.Am
noncomputable section
def anH:Nat→Am.AV→Am.H→Option Am.bG:=Am.Aa [] [(95,List.append q3 q4)]
theorem af0:Am.fV Tryz.prog (Am.cu Tryz.prog ext anH):=Am.lD (nX (Am.lF afY afZ) Am.o9)
def q8:List Known:=[⟨52,(S 10 469311983776682601570676 .nil),(.slice 64 0 4 1 false),[.cells 3 (I .i64 0 (I .i64 3 (I .i64 4 (I .i64 10 .nil))))]⟩]
set_option maxRecDepth 1000000 in
theorem anI:AA q8:=oA af0 [[273]] (by kernel_rfl)
end
end Go.Proofs.YtocaiijbhepnnaaGreatDoor.searchAll
namespace Go.Proofs.YtocaiijbhepnnaaGreatDoor.searchAll
open Go.Proofs.YtocaiijbhepnnaaGreatDoor.Am
noncomputable section
def af9:Nat→Am.AV→Am.H→Option Am.bG:=Am.PI (Am.Aa [] [(52,q8)]) (Am.Aa yg [(69,List.append q9 (List.append q10 (List.append q11 (List.append q12 (List.append q13 (List.append q14 (List.append q15 q16)))))))])
theorem agb:Am.fV Tryz.prog (Am.cu Tryz.prog ext af9):=Am.wR (Am.lD (nX anI Am.o9)) (Am.lD (nX (Am.lF anK (Am.lF ajq (Am.lF ajr (Am.lF ajs (Am.lF ajt (Am.lF aju (Am.lF ajv ajw))))))) Am.o9))
end
end Go.Proofs.YtocaiijbhepnnaaGreatDoor.searchAll
