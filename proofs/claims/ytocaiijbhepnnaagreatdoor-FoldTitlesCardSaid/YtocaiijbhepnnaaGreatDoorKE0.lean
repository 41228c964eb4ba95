/- FoldTitles's closed run: words' bounds, known. -/
import Derived.Test.YtocaiijbhepnnaaGreatDoorKB0
import Derived.Test.YtocaiijbhepnnaaGreatDoorKD0
namespace Go.Proofs.YtocaiijbhepnnaaGreatDoor.foldTitles
open Go.Proofs.YtocaiijbhepnnaaGreatDoor.Am
noncomputable section
def ajk:Nat->Am.AV->Am.H->Option Am.bB:=Am.uf [] [(95,List.append q3 q4)]
theorem acJ:Am.gM Tryz.prog (Am.dL Tryz.prog ext ajk):=Am.lI (gy (Am.lN Zm Zn) Am.pY)
def q9:List Known:=[⟨52,(S 5 418258117444 .nil),(.slice 64 0 4 1 false),[.cells 3 (I .i64 0 (I .i64 2 (I .i64 3 (I .i64 5 .nil))))]⟩]
set_option maxRecDepth 1000000 in
theorem afs:AA q9:=oA acJ [[183]] (by kernel_rfl)
