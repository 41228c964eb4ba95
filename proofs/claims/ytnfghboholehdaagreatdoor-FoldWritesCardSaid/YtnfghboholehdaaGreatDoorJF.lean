/- FoldWrites: what the row tells of the program, checked by parts. -/
import Derived.Test.YtnfghboholehdaaGreatDoorCards
import Derived.ProofKit
import Derived.JoinedCond
namespace Go.Proofs.YtnfghboholehdaaGreatDoor.foldWrites
theorem joined1 : (Rows.foldWritesRow.inPlace == Tryz.pinned.checked.prog.inPlace 5) = true := by kernel_rfl
theorem joined2 : (Rows.foldWritesRow.unfollowed == Tryz.pinned.checked.prog.unfollowed 5) = true := by kernel_rfl
theorem joined3 : (Rows.foldWritesRow.recurses == Tryz.pinned.checked.prog.recurses 5) = true := by kernel_rfl
theorem joined4 : (Rows.foldWritesRow.named == Tryz.pinned.checked.prog.varsNamed 5) = true := by kernel_rfl
theorem joined : joinedFacts Tryz.pinned.checked.prog 5 Tryz.f5 (OpenSpec.ofChange Rows.foldWritesSpec).bare Rows.foldWritesRow = true := by
 unfold joinedFacts
 rw [joined1, joined2, joined3, joined4]
 kernel_rfl
end Go.Proofs.YtnfghboholehdaaGreatDoor.foldWrites
