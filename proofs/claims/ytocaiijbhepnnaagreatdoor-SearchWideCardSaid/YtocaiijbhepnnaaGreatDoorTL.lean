/- SearchWide's closed run: a table of known calls. -/
import Derived.Test.YtocaiijbhepnnaaGreatDoorKC0
namespace Go.Proofs.YtocaiijbhepnnaaGreatDoor.searchWide
open Go.Proofs.YtocaiijbhepnnaaGreatDoor.Am
noncomputable section
def AJ:Nat->Am.AV->Am.H->Option Am.bF:=Am.AL [] [(106,List.append q5 q6)]
theorem qc:Am.fO Tryz.prog (Am.bY Tryz.prog ext AJ):=Am.lX (ny (Am.kE akc akd) Am.pY)
