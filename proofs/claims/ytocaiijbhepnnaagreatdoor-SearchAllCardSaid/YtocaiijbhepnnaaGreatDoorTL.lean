/- SearchAll's closed run: a table of known calls. -/
import Derived.Test.YtocaiijbhepnnaaGreatDoorAm48
import Derived.Test.YtocaiijbhepnnaaGreatDoorKC0
namespace Go.Proofs.YtocaiijbhepnnaaGreatDoor.searchAll
open Go.Proofs.YtocaiijbhepnnaaGreatDoor.Am
noncomputable section
def zZ:Nat→Am.AV→Am.H→Option Am.bG:=Am.Aa [] [(106,List.append q5 q6)]
theorem qX:Am.fV Tryz.prog (Am.cu Tryz.prog ext zZ):=Am.lD (nX (Am.lF anF anG) Am.o9)
end
end Go.Proofs.YtocaiijbhepnnaaGreatDoor.searchAll
