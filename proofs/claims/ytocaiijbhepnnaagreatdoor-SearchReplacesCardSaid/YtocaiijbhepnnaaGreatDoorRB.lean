/- SearchReplaces's closed run: what is known when the document's book is made. -/
import Derived.Test.YtocaiijbhepnnaaGreatDoorMO0
import Derived.Test.YtocaiijbhepnnaaGreatDoorMO1
import Derived.Test.YtocaiijbhepnnaaGreatDoorHG
set_option maxRecDepth 1000000
namespace Go.Proofs.YtocaiijbhepnnaaGreatDoor.searchReplaces
open Go.Shelf Go.RowKit Go.Lib Go.Proofs.YtocaiijbhepnnaaGreatDoor.Am
open Go.Proofs.YtocaiijbhepnnaaGreatDoor.Am
noncomputable section
def aeX:Nat->Am.AV->Am.H->Option Am.bI:=Am.AU [] []
theorem adX:Am.gG Tryz.prog (Am.dh Tryz.prog ext aeX):=Am.mq Am.qb
def ahj:Nat->Am.AV->Am.H->Option Am.bI:=Am.Qy aeX (Am.Vl (List.append o0 o1))
theorem ahk:Am.gG Tryz.prog (Am.dh Tryz.prog ext ahj):=Am.xC adX (Am.K7 (Am.j6 aoO aoP))
end
open Go.Proofs.YtocaiijbhepnnaaGreatDoor.Am
noncomputable section
theorem aoQ:Am.Qz aaY ((Am.run (Am.dh Tryz.prog ext aa3) (Nat.succ 3999)).call 58 .nil (Am.j5 []))=true:=by kernel_rfl
theorem noB:aa3 58 .nil (Am.j5 [])=none:=by kernel_rfl
theorem aoR:(Am.fnOf Tryz.prog 58).isSome=true:=by kernel_rfl
theorem ahi (W:World):aaN W:=
 (Am.AY (vs:=#[]) (args:= .nil) (l:=[]) mixed gH (vV _) UA aoR noB aoQ (λp hp=>by cases hp) rfl).mono λ_ _ ⟨v',_,_,_,e,q,hv,hw,hb⟩=>⟨v',e,hb,aaZ q hw hv⟩
end
open Go.Proofs.YtocaiijbhepnnaaGreatDoor.Am
noncomputable section
theorem aoS:Am.Qz Am.K9 ((Am.run (Am.dh Tryz.prog ext ahj) (Nat.succ 3999)).call 12 .nil (Am.j5 []))=true:=by kernel_rfl
theorem noK:ahj 12 .nil (Am.j5 [])=none:=by kernel_rfl
theorem isK:(Am.fnOf Tryz.prog 12).isSome=true:=by kernel_rfl
theorem adV (W:World):aaM W:=
 (Am.AY (vs:=#[]) (args:= .nil) (l:=[]) mixed gH (vV _) ahk isK noK aoS (λp hp=>by cases hp) rfl).mono λ_ _ ⟨v',_,_,_,e,q,hv,hw,hb⟩=>⟨v',e,hb,Am.Y3 q hw hv⟩
