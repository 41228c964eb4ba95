/- FoldTitles: the run of kerfref19.New, and what it leaves. -/
import Derived.Test.YtocaiijbhepnnaaGreatDoorM1e
import Derived.Test.YtocaiijbhepnnaaGreatDoorHG
namespace Go.Proofs.YtocaiijbhepnnaaGreatDoor.foldTitles
open Go.Proofs.YtocaiijbhepnnaaGreatDoor.Am
noncomputable section
open Go.Shelf Go.RowKit Go.Lib Go.Proofs.YtocaiijbhepnnaaGreatDoor.Am
def uf:Nat->Am.AV->Am.H->Option Am.bB:=Am.Uy MW (Am.X5 (List.append (List.append afI afJ) (List.append afK (List.append afL (List.append afV (List.append af6 agb))))))
theorem acG:Am.gM Tryz.prog (Am.dL Tryz.prog ext uf):=Am.Ck uQ (Am.X6 (Am.lN (Am.lN acs acu) (Am.lN acv (Am.lN acw (Am.lN acy (Am.lN acz acB))))))
set_option maxRecDepth 1000000 in
theorem ajh:Am.UE Qd ((Am.run (Am.dL Tryz.prog ext uf) (Nat.succ 3999)).call 12 .nil (Am.kV []))=true:=by kernel_rfl
theorem noK:uf 12 .nil (Am.kV [])=none:=by kernel_rfl
theorem isK:(Am.fnOf Tryz.prog 12).isSome=true:=by kernel_rfl
theorem Zz (W:World):acj W:=
 (Am.IW (vs:=#[]) (args:= .nil) (l:=[]) mixed gV (Ee _) acG isK noK ajh (λp hp=>by cases hp) rfl).mono λ_ _ ⟨v',_,_,_,e,q,hv,hw,hb⟩=>⟨v',e,WI q hw hv,hb⟩
