/- SearchWide's closed run: a breaker's texts read, line by line. -/
import Derived.Test.YtocaiijbhepnnaaGreatDoorM1e
namespace Go.Proofs.YtocaiijbhepnnaaGreatDoor.searchWide
open Go.Proofs.YtocaiijbhepnnaaGreatDoor.Am
noncomputable section
def XE:Nat->Am.AV->Am.H->Option Am.bF:=Am.Vu AJ (Am.YM (List.append agH (List.append agI (List.append ag1 (List.append ahm ahG)))))
theorem aai:Am.fO Tryz.prog (Am.bY Tryz.prog ext XE):=Am.CV qc (Am.YN (Am.kE ady (Am.kE adz (Am.kE adA (Am.kE adB adC)))))
