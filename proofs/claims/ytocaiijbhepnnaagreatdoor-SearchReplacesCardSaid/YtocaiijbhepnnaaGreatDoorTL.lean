/- SearchReplaces's closed run: a table of known calls. -/
import Derived.Test.YtocaiijbhepnnaaGreatDoorKC0
namespace Go.Proofs.YtocaiijbhepnnaaGreatDoor.searchReplaces
open Go.Proofs.YtocaiijbhepnnaaGreatDoor.Am
noncomputable section
def AQ:Nat->Am.AV->Am.H->Option Am.bI:=Am.AU [] [(106,List.append q5 q6)]
theorem rW:Am.gG Tryz.prog (Am.dh Tryz.prog ext AQ):=Am.mq (oU (Am.j6 aoL aoM) Am.qb)
