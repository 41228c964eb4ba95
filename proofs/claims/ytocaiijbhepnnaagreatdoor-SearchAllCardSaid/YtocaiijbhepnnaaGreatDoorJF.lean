/- SearchAll: what the row tells of the program, checked by parts. -/
import Derived.Test.YtocaiijbhepnnaaGreatDoorCards
import Derived.ProofKit
import Derived.JoinedCond
namespace Go.Proofs.YtocaiijbhepnnaaGreatDoor.searchAll
theorem acI:(Rows.searchAllRow.inPlace==Tryz.pinned.checked.prog.inPlace 4)=true:=by kernel_rfl
theorem acJ:(Rows.searchAllRow.unfollowed==Tryz.pinned.checked.prog.unfollowed 4)=true:=by kernel_rfl
theorem acK:(Rows.searchAllRow.recurses==Tryz.pinned.checked.prog.recurses 4)=true:=by kernel_rfl
theorem acL:(Rows.searchAllRow.named==Tryz.pinned.checked.prog.varsNamed 4)=true:=by kernel_rfl
theorem joined:joinedFacts Tryz.pinned.checked.prog 4 Tryz.f4 (OpenSpec.ofChange Rows.searchAllSpec).bare Rows.searchAllRow=true:=by unfold joinedFacts;rw[acI,acJ,acK,acL];kernel_rfl
end Go.Proofs.YtocaiijbhepnnaaGreatDoor.searchAll
