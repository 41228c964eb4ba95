/- FoldCompares: what the row tells of the program, checked by parts. -/
import Derived.Test.YtnfghboholehdaaGreatDoorCards
import Derived.ProofKit
import Derived.JoinedCond
namespace Go.Proofs.YtnfghboholehdaaGreatDoor.foldCompares
theorem joined1 : (Rows.foldComparesUptoRow.inPlace == Tryz.pinned.checked.prog.inPlace 4) = true := by kernel_rfl
theorem joined2 : (Rows.foldComparesUptoRow.unfollowed == Tryz.pinned.checked.prog.unfollowed 4) = true := by kernel_rfl
theorem joined3 : (Rows.foldComparesUptoRow.recurses == Tryz.pinned.checked.prog.recurses 4) = true := by kernel_rfl
theorem joined4 : (Rows.foldComparesUptoRow.named == Tryz.pinned.checked.prog.varsNamed 4) = true := by kernel_rfl
theorem joined : joinedFacts Tryz.pinned.checked.prog 4 Tryz.f4 (Rows.OpenSpec.upto Rows.foldComparesSpec).bare Rows.foldComparesUptoRow = true := by
  unfold joinedFacts
  rw [joined1, joined2, joined3, joined4]
  kernel_rfl
end Go.Proofs.YtnfghboholehdaaGreatDoor.foldCompares
