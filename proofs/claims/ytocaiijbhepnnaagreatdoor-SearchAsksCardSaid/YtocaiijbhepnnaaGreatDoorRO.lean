/- SearchAsks's closed run: a table of known calls. -/
import Derived.Test.YtocaiijbhepnnaaGreatDoorKB0
import Derived.Test.YtocaiijbhepnnaaGreatDoorKD0
import Derived.Test.YtocaiijbhepnnaaGreatDoorHG
namespace Go.Proofs.YtocaiijbhepnnaaGreatDoor.searchAsks
open Go.Proofs.YtocaiijbhepnnaaGreatDoor.Am
noncomputable section
def agl:Nat→Am.AV→Am.H→Option Am.bJ:=Am.PI (Am.zW [] [(95,List.append q3 q4)]) (Am.zW x9 [(94,List.append q7 q8)])
theorem agm:Am.gq Tryz.prog (Am.cK Tryz.prog ext agl):=Am.wQ (Am.lG (nV (Am.jS af2 af3) Am.oZ)) (Am.lG (nV (Am.jS ajm ajn) Am.oZ))
end
open Go.Proofs.YtocaiijbhepnnaaGreatDoor.Am
noncomputable section
open Go.Shelf Go.RowKit Go.Lib Go.Proofs.YtocaiijbhepnnaaGreatDoor.Am
set_option maxRecDepth 1000000 in
theorem anT:Am.PK Am.FY ((Am.run (Am.cK Tryz.prog ext agl) (Nat.succ 3999)).call 50 .nil (Am.jR x9))=true:=by kernel_rfl
theorem noO:agl 50 .nil (Am.jR x9)=none:=by kernel_rfl
theorem isO:(Am.fnOf Tryz.prog 50).isSome=true:=by kernel_rfl
theorem acN {W:World} (h:∀p∈x9,p.1<64∧p.2.length≤4000000∧Am.TabAt W p.1 p.2):KG W:=
 (Am.zY (vs:=#[]) (args:= .nil) mixed gu (vw _) agm isO noO anT h rfl).mono fun _ _ ⟨v',_,_,_,e,q,hv,hw,hb⟩=>⟨v',e,Am.X7 q hw hv,hb⟩
end
end Go.Proofs.YtocaiijbhepnnaaGreatDoor.searchAsks
