/- SearchEach's closed run: a table of known calls. -/
import Derived.Test.YtocaiijbhepnnaaGreatDoorKB0
import Derived.Test.YtocaiijbhepnnaaGreatDoorKD0
import Derived.Test.YtocaiijbhepnnaaGreatDoorHG
namespace Go.Proofs.YtocaiijbhepnnaaGreatDoor.searchEach
open Go.Proofs.YtocaiijbhepnnaaGreatDoor.Am
noncomputable section
def agH:Nat→Am.AV→Am.H→Option Am.bF:=Am.Qa (Am.Ah [] [(95,List.append q3 q4)]) (Am.Ah yA [(94,List.append q7 q8)])
theorem agI:Am.fV Tryz.prog (Am.cB Tryz.prog ext agH):=Am.wS (Am.lG (oh (Am.jR agq agr) Am.pq)) (Am.lG (oh (Am.jR ajG ajH) Am.pq))
end
open Go.Proofs.YtocaiijbhepnnaaGreatDoor.Am
noncomputable section
open Go.Shelf Go.RowKit Go.Lib Go.Proofs.YtocaiijbhepnnaaGreatDoor.Am
set_option maxRecDepth 1000000 in
theorem aoc:Am.Qb Am.Ga ((Am.run (Am.cB Tryz.prog ext agH) (Nat.succ 3999)).call 50 .nil (Am.jQ yA))=true:=by kernel_rfl
theorem noO:agH 50 .nil (Am.jQ yA)=none:=by kernel_rfl
theorem isO:(Am.fnOf Tryz.prog 50).isSome=true:=by kernel_rfl
theorem adb {W:World} (h:∀p∈yA,p.1<64∧p.2.length≤4000000∧Am.TabAt W p.1 p.2):KQ W:=
 (Am.Aj (vs:=#[]) (args:= .nil) mixed fZ (vF _) agI isO noO aoc h rfl).mono fun _ _ ⟨v',_,_,_,e,q,hv,hw,hb⟩=>⟨v',e,Am.Yo q hw hv,hb⟩
end
end Go.Proofs.YtocaiijbhepnnaaGreatDoor.searchEach
