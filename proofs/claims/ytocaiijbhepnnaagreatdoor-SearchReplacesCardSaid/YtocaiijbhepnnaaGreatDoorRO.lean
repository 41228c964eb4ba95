/- SearchReplaces's closed run: a table of known calls. -/
import Derived.Test.YtocaiijbhepnnaaGreatDoorKB0
import Derived.Test.YtocaiijbhepnnaaGreatDoorKD0
import Derived.Test.YtocaiijbhepnnaaGreatDoorHG
namespace Go.Proofs.YtocaiijbhepnnaaGreatDoor.searchReplaces
open Go.Proofs.YtocaiijbhepnnaaGreatDoor.Am
noncomputable section
def ahl:Nat->Am.AV->Am.H->Option Am.bI:=Am.Qy (Am.AU [] [(95,List.append q3 q4)]) (Am.AU yT [(94,List.append q7 q8)])
theorem ahm:Am.gG Tryz.prog (Am.dh Tryz.prog ext ahl):=Am.xC (Am.mq (oU (Am.j6 ag4 ag5) Am.qb)) (Am.mq (oU (Am.j6 akl akm) Am.qb))
end
open Go.Proofs.YtocaiijbhepnnaaGreatDoor.Am
noncomputable section
open Go.Shelf Go.RowKit Go.Lib Go.Proofs.YtocaiijbhepnnaaGreatDoor.Am
set_option maxRecDepth 1000000 in
theorem aoV:Am.Qz Am.Gy ((Am.run (Am.dh Tryz.prog ext ahl) (Nat.succ 3999)).call 50 .nil (Am.j5 yT))=true:=by kernel_rfl
theorem noO:ahl 50 .nil (Am.j5 yT)=none:=by kernel_rfl
theorem isO:(Am.fnOf Tryz.prog 50).isSome=true:=by kernel_rfl
theorem adS {W:World} (h:∀p∈yT,p.1<64/\p.2.length<=4000000/\Am.TabAt W p.1 p.2):Lg W:=
 (Am.AY (vs:=#[]) (args:= .nil) mixed gH (vV _) ahm isO noO aoV h rfl).mono λ_ _ ⟨v',_,_,_,e,q,hv,hw,hb⟩=>⟨v',e,Am.Y2 q hw hv,hb⟩
