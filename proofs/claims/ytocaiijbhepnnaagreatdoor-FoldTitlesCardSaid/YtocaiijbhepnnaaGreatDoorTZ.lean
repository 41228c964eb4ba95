/- FoldTitles's closed run: a table of known calls. -/
import Derived.Test.YtocaiijbhepnnaaGreatDoorKF0
namespace Go.Proofs.YtocaiijbhepnnaaGreatDoor.foldTitles
open Go.Proofs.YtocaiijbhepnnaaGreatDoor.Am
noncomputable section
def acC:Nat->Am.AV->Am.H->Option Am.bB:=Am.Uy (Am.uf [] [(95,List.append q3 q4),(52,q9)]) (Am.uf wO [(94,List.append q7 q8),(46,q10),(69,List.append q11 q12),(44,q13),(45,q14),(11,q15)])
theorem acE:Am.gM Tryz.prog (Am.dL Tryz.prog ext acC):=Am.Ck (Am.lI (gy (Am.lN Zm Zn) (gy afs Am.pY))) (Am.lI (gy (Am.lN acp acr) (gy aft (gy (Am.lN afu afv) (gy afw (gy afx (gy afy Am.pY)))))))
