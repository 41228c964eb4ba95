/- SearchWide's closed run: a table of known calls. -/
import Derived.Test.YtocaiijbhepnnaaGreatDoorKF0
namespace Go.Proofs.YtocaiijbhepnnaaGreatDoor.searchWide
open Go.Proofs.YtocaiijbhepnnaaGreatDoor.Am
noncomputable section
def akn:Nat->Am.AV->Am.H->Option Am.bF:=Am.AL [] [(95,List.append q3 q4)]
theorem adK:Am.fO Tryz.prog (Am.bY Tryz.prog ext akn):=Am.lX (ny (Am.kE adw adx) Am.pY)
def q9:List Known:=[⟨52,(S 10 0x63617420636f6e636174 .nil),(.slice 64 0 4 1 false),[.cells 3 (I .i64 0 (I .i64 3 (I .i64 4 (I .i64 10 .nil))))]⟩]
set_option maxRecDepth 1000000 in
theorem ako:AA q9:=oA adK [[273]] (by kernel_rfl)
end
open Go.Proofs.YtocaiijbhepnnaaGreatDoor.Am
noncomputable section
def adD:Nat->Am.AV->Am.H->Option Am.bF:=Am.Vu (Am.AL [] [(52,q9)]) (Am.AL wP [(69,List.append q10 (List.append q11 (List.append q12 (List.append q13 (List.append q14 (List.append q15 (List.append q16 q17)))))))])
theorem adF:Am.fO Tryz.prog (Am.bY Tryz.prog ext adD):=Am.CV (Am.lX (ny ako Am.pY)) (Am.lX (ny (Am.kE agq (Am.kE agr (Am.kE ags (Am.kE agt (Am.kE agu (Am.kE agv (Am.kE agw agx))))))) Am.pY))
