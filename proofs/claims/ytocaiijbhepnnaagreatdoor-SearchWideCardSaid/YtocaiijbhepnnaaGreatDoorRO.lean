/- SearchWide's closed run: a table of known calls. -/
import Derived.Test.YtocaiijbhepnnaaGreatDoorKB0
import Derived.Test.YtocaiijbhepnnaaGreatDoorKD0
import Derived.Test.YtocaiijbhepnnaaGreatDoorHG
namespace Go.Proofs.YtocaiijbhepnnaaGreatDoor.searchWide
open Go.Proofs.YtocaiijbhepnnaaGreatDoor.Am
noncomputable section
def adI:Nat->Am.AV->Am.H->Option Am.bF:=Am.Vu (Am.AL [] [(95,List.append q3 q4)]) (Am.AL wP [(94,List.append q7 q8)])
theorem adJ:Am.fO Tryz.prog (Am.bY Tryz.prog ext adI):=Am.CV (Am.lX (ny (Am.kE adw adx) Am.pY)) (Am.lX (ny (Am.kE agn agp) Am.pY))
end
open Go.Proofs.YtocaiijbhepnnaaGreatDoor.Am
noncomputable section
open Go.Shelf Go.RowKit Go.Lib Go.Proofs.YtocaiijbhepnnaaGreatDoor.Am
set_option maxRecDepth 1000000 in
theorem akl:Am.Vz Am.Ev ((Am.run (Am.bY Tryz.prog ext adI) (Nat.succ 3999)).call 50 .nil (Am.lu wP))=true:=by kernel_rfl
theorem noO:adI 50 .nil (Am.lu wP)=none:=by kernel_rfl
theorem isO:(Am.fnOf Tryz.prog 50).isSome=true:=by kernel_rfl
theorem aam {W:World} (h:∀p∈wP,p.1<64/\p.2.length<=4000000/\Am.TabAt W p.1 p.2):JH W:=
 (Am.Jy (vs:=#[]) (args:= .nil) mixed fC (wQ _) adJ isO noO akl h rfl).mono λ_ _ ⟨v',_,_,_,e,q,hv,hw,hb⟩=>⟨v',e,Am.VN q hw hv,hb⟩
