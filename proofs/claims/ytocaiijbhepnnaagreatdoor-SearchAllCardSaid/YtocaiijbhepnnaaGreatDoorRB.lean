/- SearchAll's closed run: what is known when the document's book is made. -/
import Derived.Test.YtocaiijbhepnnaaGreatDoorMO0
import Derived.Test.YtocaiijbhepnnaaGreatDoorMO1
import Derived.Test.YtocaiijbhepnnaaGreatDoorHG
namespace Go.Proofs.YtocaiijbhepnnaaGreatDoor.searchAll
open Go.Proofs.YtocaiijbhepnnaaGreatDoor.Am
noncomputable section
def adW:Nat→Am.AV→Am.H→Option Am.bG:=Am.Aa [] []
theorem acZ:Am.fV Tryz.prog (Am.cu Tryz.prog ext adW):=Am.lD Am.o9
def agf:Nat→Am.AV→Am.H→Option Am.bG:=Am.PI adW (Am.Uq (List.append o0 o1))
theorem agh:Am.fV Tryz.prog (Am.cu Tryz.prog ext agf):=Am.wR acZ (Am.Kr (Am.lF anL anM))
end
end Go.Proofs.YtocaiijbhepnnaaGreatDoor.searchAll
namespace Go.Proofs.YtocaiijbhepnnaaGreatDoor.searchAll
open Go.Proofs.YtocaiijbhepnnaaGreatDoor.Am
noncomputable section
open Go.Shelf Go.RowKit Go.Lib Go.Proofs.YtocaiijbhepnnaaGreatDoor.Am
set_option maxRecDepth 1000000 in
theorem anN:Am.PK ZY ((Am.run (Am.cu Tryz.prog ext Z7) (Nat.succ 3999)).call 58 .nil (Am.jR []))=true:=by kernel_rfl
theorem noB:Z7 58 .nil (Am.jR [])=none:=by kernel_rfl
theorem anO:(Am.fnOf Tryz.prog 58).isSome=true:=by kernel_rfl
theorem agd (W:World):ZR W:=
 (Am.Ad (vs:=#[]) (args:= .nil) (l:=[]) mixed fZ (vE _) Tx anO noB anN (fun p hp=>by cases hp) rfl).mono fun _ _ ⟨v',_,_,_,e,q,hv,hw,hb⟩=>⟨v',e,hb,Z0 q hw hv⟩
end
end Go.Proofs.YtocaiijbhepnnaaGreatDoor.searchAll
namespace Go.Proofs.YtocaiijbhepnnaaGreatDoor.searchAll
open Go.Proofs.YtocaiijbhepnnaaGreatDoor.Am
noncomputable section
open Go.Shelf Go.RowKit Go.Lib Go.Proofs.YtocaiijbhepnnaaGreatDoor.Am
set_option maxRecDepth 1000000 in
theorem anP:Am.PK Am.Kt ((Am.run (Am.cu Tryz.prog ext agf) (Nat.succ 3999)).call 12 .nil (Am.jR []))=true:=by kernel_rfl
theorem noK:agf 12 .nil (Am.jR [])=none:=by kernel_rfl
theorem isK:(Am.fnOf Tryz.prog 12).isSome=true:=by kernel_rfl
theorem acV (W:World):ZQ W:=
 (Am.Ad (vs:=#[]) (args:= .nil) (l:=[]) mixed fZ (vE _) agh isK noK anP (fun p hp=>by cases hp) rfl).mono fun _ _ ⟨v',_,_,_,e,q,hv,hw,hb⟩=>⟨v',e,hb,Am.Yb q hw hv⟩
end
end Go.Proofs.YtocaiijbhepnnaaGreatDoor.searchAll
