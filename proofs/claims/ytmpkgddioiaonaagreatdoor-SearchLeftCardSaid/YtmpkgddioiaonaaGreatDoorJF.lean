/- SearchLeft: what the row tells of the program, checked by parts. -/
import Derived.Test.YtmpkgddioiaonaaGreatDoorCards
import Derived.ProofKit
import Derived.JoinedCond
namespace Go.Proofs.YtmpkgddioiaonaaGreatDoor.searchLeft
theorem joined1 : (Rows.searchLeftRow.inPlace == Tryz.pinned.checked.prog.inPlace 3) = true := by kernel_rfl
theorem joined2 : (Rows.searchLeftRow.unfollowed == Tryz.pinned.checked.prog.unfollowed 3) = true := by kernel_rfl
theorem joined3 : (Rows.searchLeftRow.recurses == Tryz.pinned.checked.prog.recurses 3) = true := by kernel_rfl
theorem joined4 : (Rows.searchLeftRow.named == Tryz.pinned.checked.prog.varsNamed 3) = true := by kernel_rfl
theorem joined : joinedFacts Tryz.pinned.checked.prog 3 Tryz.f3 (OpenSpec.ofChange Rows.searchLeftSpec).bare Rows.searchLeftRow = true := by
 unfold joinedFacts
 rw [joined1, joined2, joined3, joined4]
 kernel_rfl
end Go.Proofs.YtmpkgddioiaonaaGreatDoor.searchLeft
