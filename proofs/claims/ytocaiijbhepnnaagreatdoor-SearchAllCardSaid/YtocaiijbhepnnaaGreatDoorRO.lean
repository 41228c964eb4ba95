/- SearchAll's closed run: a table of known calls. -/
import Derived.Test.YtocaiijbhepnnaaGreatDoorKB0
import Derived.Test.YtocaiijbhepnnaaGreatDoorKD0
import Derived.Test.YtocaiijbhepnnaaGreatDoorHG
namespace Go.Proofs.YtocaiijbhepnnaaGreatDoor.searchAll
open Go.Proofs.YtocaiijbhepnnaaGreatDoor.Am
noncomputable section
def agi:Nat→Am.AV→Am.H→Option Am.bG:=Am.PI (Am.Aa [] [(95,List.append q3 q4)]) (Am.Aa yg [(94,q7)])
theorem agj:Am.fV Tryz.prog (Am.cu Tryz.prog ext agi):=Am.wR (Am.lD (nX (Am.lF afY afZ) Am.o9)) (Am.lD (nX ajp Am.o9))
end
end Go.Proofs.YtocaiijbhepnnaaGreatDoor.searchAll
namespace Go.Proofs.YtocaiijbhepnnaaGreatDoor.searchAll
open Go.Proofs.YtocaiijbhepnnaaGreatDoor.Am
noncomputable section
open Go.Shelf Go.RowKit Go.Lib Go.Proofs.YtocaiijbhepnnaaGreatDoor.Am
set_option maxRecDepth 1000000 in
theorem anS:Am.PK Am.FZ ((Am.run (Am.cu Tryz.prog ext agi) (Nat.succ 3999)).call 50 .nil (Am.jR yg))=true:=by kernel_rfl
theorem noO:agi 50 .nil (Am.jR yg)=none:=by kernel_rfl
theorem isO:(Am.fnOf Tryz.prog 50).isSome=true:=by kernel_rfl
theorem acS {W:World} (h:∀p∈yg,p.1<64∧p.2.length≤4000000∧Am.TabAt W p.1 p.2):KE W:=
 (Am.Ad (vs:=#[]) (args:= .nil) mixed fZ (vE _) agj isO noO anS h rfl).mono fun _ _ ⟨v',_,_,_,e,q,hv,hw,hb⟩=>⟨v',e,Am.Ya q hw hv,hb⟩
end
end Go.Proofs.YtocaiijbhepnnaaGreatDoor.searchAll
