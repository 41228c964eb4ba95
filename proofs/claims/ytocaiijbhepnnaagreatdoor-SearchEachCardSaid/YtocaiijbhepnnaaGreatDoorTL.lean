/- SearchEach's closed run: a table of known calls. -/
import Derived.Test.YtocaiijbhepnnaaGreatDoorAm48
import Derived.Test.YtocaiijbhepnnaaGreatDoorKC0
namespace Go.Proofs.YtocaiijbhepnnaaGreatDoor.searchEach
open Go.Proofs.YtocaiijbhepnnaaGreatDoor.Am
noncomputable section
def Ag:Nat→Am.AV→Am.H→Option Am.bF:=Am.Ah [] [(106,List.append q5 q6)]
theorem qW:Am.fV Tryz.prog (Am.cB Tryz.prog ext Ag):=Am.lG (oh (Am.jR an2 an3) Am.pq)
end
end Go.Proofs.YtocaiijbhepnnaaGreatDoor.searchEach
