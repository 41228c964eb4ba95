/- SearchReplaces's closed run: a table of known calls. -/
import Derived.Test.YtocaiijbhepnnaaGreatDoorKF0
namespace Go.Proofs.YtocaiijbhepnnaaGreatDoor.searchReplaces
open Go.Proofs.YtocaiijbhepnnaaGreatDoor.Am
noncomputable section
def aoX:Nat->Am.AV->Am.H->Option Am.bI:=Am.AU [] [(95,List.append q3 q4)]
theorem ahn:Am.gG Tryz.prog (Am.dh Tryz.prog ext aoX):=Am.mq (oU (Am.j6 ag4 ag5) Am.qb)
def q9:List Known:=[⟨52,(S 10 0x63617420636f6e636174 .nil),(.slice 64 0 4 1 false),[.cells 3 (I .i64 0 (I .i64 3 (I .i64 4 (I .i64 10 .nil))))]⟩]
set_option maxRecDepth 1000000 in
theorem aoY:AA q9:=oA ahn [[273]] (by kernel_rfl)
end
open Go.Proofs.YtocaiijbhepnnaaGreatDoor.Am
noncomputable section
def ahd:Nat->Am.AV->Am.H->Option Am.bI:=Am.Qy (Am.AU [] [(52,q9)]) (Am.AU yT [(69,List.append q10 (List.append q11 (List.append q12 (List.append q13 (List.append q14 (List.append q15 (List.append q16 q17)))))))])
theorem ahg:Am.gG Tryz.prog (Am.dh Tryz.prog ext ahd):=Am.xC (Am.mq (oU aoY Am.qb)) (Am.mq (oU (Am.j6 akn (Am.j6 ako (Am.j6 akp (Am.j6 akq (Am.j6 akr (Am.j6 aks (Am.j6 akt aku))))))) Am.qb))
