/- FoldTitles's closed run: a table of known calls. -/
import Derived.Test.YtocaiijbhepnnaaGreatDoorKC0
namespace Go.Proofs.YtocaiijbhepnnaaGreatDoor.foldTitles
open Go.Proofs.YtocaiijbhepnnaaGreatDoor.Am
noncomputable section
def MW:Nat->Am.AV->Am.H->Option Am.bB:=Am.uf [] [(106,List.append q5 q6)]
theorem uQ:Am.gM Tryz.prog (Am.dL Tryz.prog ext MW):=Am.lI (gy (Am.lN aiC aiD) Am.pY)
