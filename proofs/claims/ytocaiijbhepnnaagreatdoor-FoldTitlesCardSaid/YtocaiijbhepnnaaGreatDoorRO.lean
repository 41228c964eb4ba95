/- FoldTitles's closed run: a table of known calls. -/
import Derived.Test.YtocaiijbhepnnaaGreatDoorKB0
import Derived.Test.YtocaiijbhepnnaaGreatDoorKD0
import Derived.Test.YtocaiijbhepnnaaGreatDoorHG
namespace Go.Proofs.YtocaiijbhepnnaaGreatDoor.foldTitles
open Go.Proofs.YtocaiijbhepnnaaGreatDoor.Am
noncomputable section
def acH:Nat->Am.AV->Am.H->Option Am.bB:=Am.Uy (Am.uf [] [(95,List.append q3 q4)]) (Am.uf wO [(94,List.append q7 q8)])
theorem acI:Am.gM Tryz.prog (Am.dL Tryz.prog ext acH):=Am.Ck (Am.lI (gy (Am.lN Zm Zn) Am.pY)) (Am.lI (gy (Am.lN acp acr) Am.pY))
end
open Go.Proofs.YtocaiijbhepnnaaGreatDoor.Am
noncomputable section
open Go.Shelf Go.RowKit Go.Lib Go.Proofs.YtocaiijbhepnnaaGreatDoor.Am
set_option maxRecDepth 1000000 in
theorem ajj:Am.UE Am.Em ((Am.run (Am.dL Tryz.prog ext acH) (Nat.succ 3999)).call 50 .nil (Am.kV wO))=true:=by kernel_rfl
theorem noO:acH 50 .nil (Am.kV wO)=none:=by kernel_rfl
theorem isO:(Am.fnOf Tryz.prog 50).isSome=true:=by kernel_rfl
theorem Zx {W:World} (h:∀p∈wO,p.1<64/\p.2.length<=4000000/\Am.TabAt W p.1 p.2):EF W:=
 (Am.IW (vs:=#[]) (args:= .nil) mixed gV (Ee _) acI isO noO ajj h rfl).mono λ_ _ ⟨v',_,_,_,e,q,hv,hw,hb⟩=>⟨v',e,Am.UZ q hw hv,hb⟩
