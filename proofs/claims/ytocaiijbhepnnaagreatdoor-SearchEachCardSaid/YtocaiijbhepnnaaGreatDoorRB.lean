/- SearchEach's closed run: what is known when the document's book is made. -/
import Derived.Test.YtocaiijbhepnnaaGreatDoorMO0
import Derived.Test.YtocaiijbhepnnaaGreatDoorMO1
import Derived.Test.YtocaiijbhepnnaaGreatDoorHG
set_option maxRecDepth 1000000
namespace Go.Proofs.YtocaiijbhepnnaaGreatDoor.searchEach
open Go.Shelf Go.RowKit Go.Lib Go.Proofs.YtocaiijbhepnnaaGreatDoor.Am
open Go.Proofs.YtocaiijbhepnnaaGreatDoor.Am
noncomputable section
def aeh:Nat→Am.AV→Am.H→Option Am.bF:=Am.Ah [] []
theorem adi:Am.fV Tryz.prog (Am.cB Tryz.prog ext aeh):=Am.lG Am.pq
def agF:Nat→Am.AV→Am.H→Option Am.bF:=Am.Qa aeh (Am.UF (List.append o0 o1))
theorem agG:Am.fV Tryz.prog (Am.cB Tryz.prog ext agF):=Am.wS adi (Am.KF (Am.jR an5 an6))
end
open Go.Proofs.YtocaiijbhepnnaaGreatDoor.Am
noncomputable section
theorem an7:Am.Qb aak ((Am.run (Am.cB Tryz.prog ext aap) (Nat.succ 3999)).call 58 .nil (Am.jQ []))=true:=by kernel_rfl
theorem noB:aap 58 .nil (Am.jQ [])=none:=by kernel_rfl
theorem an8:(Am.fnOf Tryz.prog 58).isSome=true:=by kernel_rfl
theorem agE (W:World):Z8 W:=
 (Am.Aj (vs:=#[]) (args:= .nil) (l:=[]) mixed fZ (vF _) TQ an8 noB an7 (fun p hp=>by cases hp) rfl).mono fun _ _ ⟨v',_,_,_,e,q,hv,hw,hb⟩=>⟨v',e,hb,aal q hw hv⟩
end
open Go.Proofs.YtocaiijbhepnnaaGreatDoor.Am
noncomputable section
theorem an9:Am.Qb Am.KH ((Am.run (Am.cB Tryz.prog ext agF) (Nat.succ 3999)).call 12 .nil (Am.jQ []))=true:=by kernel_rfl
theorem noK:agF 12 .nil (Am.jQ [])=none:=by kernel_rfl
theorem isK:(Am.fnOf Tryz.prog 12).isSome=true:=by kernel_rfl
theorem adg (W:World):Z7 W:=
 (Am.Aj (vs:=#[]) (args:= .nil) (l:=[]) mixed fZ (vF _) agG isK noK an9 (fun p hp=>by cases hp) rfl).mono fun _ _ ⟨v',_,_,_,e,q,hv,hw,hb⟩=>⟨v',e,hb,Am.Yp q hw hv⟩
end
end Go.Proofs.YtocaiijbhepnnaaGreatDoor.searchEach
