/- SearchAsks's closed run: a table of known calls. -/
import Derived.Test.YtocaiijbhepnnaaGreatDoorAm48
import Derived.Test.YtocaiijbhepnnaaGreatDoorKC0
namespace Go.Proofs.YtocaiijbhepnnaaGreatDoor.searchAsks
open Go.Proofs.YtocaiijbhepnnaaGreatDoor.Am
noncomputable section
def zV:Nat→Am.AV→Am.H→Option Am.bJ:=Am.zW [] [(106,List.append q5 q6)]
theorem qO:Am.gq Tryz.prog (Am.cK Tryz.prog ext zV):=Am.lG (nV (Am.jS anJ anK) Am.oZ)
end
end Go.Proofs.YtocaiijbhepnnaaGreatDoor.searchAsks
