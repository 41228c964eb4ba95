/- SearchAsks's closed run: what is known when the document's book is made. -/
import Derived.Test.YtocaiijbhepnnaaGreatDoorMO0
import Derived.Test.YtocaiijbhepnnaaGreatDoorMO1
import Derived.Test.YtocaiijbhepnnaaGreatDoorHG
set_option maxRecDepth 1000000
namespace Go.Proofs.YtocaiijbhepnnaaGreatDoor.searchAsks
open Go.Shelf Go.RowKit Go.Lib Go.Proofs.YtocaiijbhepnnaaGreatDoor.Am
open Go.Proofs.YtocaiijbhepnnaaGreatDoor.Am
noncomputable section
def adS:Nat→Am.AV→Am.H→Option Am.bJ:=Am.zW [] []
theorem acS:Am.gq Tryz.prog (Am.cK Tryz.prog ext adS):=Am.lG Am.oZ
def agj:Nat→Am.AV→Am.H→Option Am.bJ:=Am.PI adS (Am.Uo (List.append o0 o1))
theorem agk:Am.gq Tryz.prog (Am.cK Tryz.prog ext agj):=Am.wQ acS (Am.Kt (Am.jS anM anN))
end
open Go.Proofs.YtocaiijbhepnnaaGreatDoor.Am
noncomputable section
theorem anO:Am.PK ZT ((Am.run (Am.cK Tryz.prog ext ZY) (Nat.succ 3999)).call 58 .nil (Am.jR []))=true:=by kernel_rfl
theorem noB:ZY 58 .nil (Am.jR [])=none:=by kernel_rfl
theorem anP:(Am.fnOf Tryz.prog 58).isSome=true:=by kernel_rfl
theorem agi (W:World):ZN W:=
 (Am.zY (vs:=#[]) (args:= .nil) (l:=[]) mixed gu (vw _) Tw anP noB anO (fun p hp=>by cases hp) rfl).mono fun _ _ ⟨v',_,_,_,e,q,hv,hw,hb⟩=>⟨v',e,hb,ZU q hw hv⟩
end
open Go.Proofs.YtocaiijbhepnnaaGreatDoor.Am
noncomputable section
theorem anQ:Am.PK Am.Kv ((Am.run (Am.cK Tryz.prog ext agj) (Nat.succ 3999)).call 12 .nil (Am.jR []))=true:=by kernel_rfl
theorem noK:agj 12 .nil (Am.jR [])=none:=by kernel_rfl
theorem isK:(Am.fnOf Tryz.prog 12).isSome=true:=by kernel_rfl
theorem acQ (W:World):ZM W:=
 (Am.zY (vs:=#[]) (args:= .nil) (l:=[]) mixed gu (vw _) agk isK noK anQ (fun p hp=>by cases hp) rfl).mono fun _ _ ⟨v',_,_,_,e,q,hv,hw,hb⟩=>⟨v',e,hb,Am.X8 q hw hv⟩
end
end Go.Proofs.YtocaiijbhepnnaaGreatDoor.searchAsks
