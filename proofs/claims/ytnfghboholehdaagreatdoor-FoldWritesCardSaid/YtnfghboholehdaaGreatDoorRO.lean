/- FoldWrites: the run of open, and what it leaves. -/
import Derived.Test.YtnfghboholehdaaGreatDoorTO
import Derived.Test.YtnfghboholehdaaGreatDoorFH
namespace Go.Proofs.YtnfghboholehdaaGreatDoor.foldWrites
open Go.Proofs.YtnfghboholehdaaGreatDoor.Am
noncomputable section
open Go.Shelf Go.RowKit Go.Lib Go.Proofs.YtnfghboholehdaaGreatDoor.Am
set_option maxRecDepth 1000000 in
theorem ranO : Am.chkG Am.chkOpenW ((Am.run (Am.gOfO Tryz.prog ext orcO) (Nat.succ 3999)).call 28 .nil (Am.tabH tabsB)) = true := by kernel_rfl
theorem noO : orcO 28 .nil (Am.tabH tabsB) = none := by kernel_rfl
theorem isO : (Am.fnOf Tryz.prog 28).isSome = true := by kernel_rfl
theorem open_at {W : World} (h : ∀ p ∈ tabsB, p.1 < 64 ∧ p.2.length ≤ 4000000 ∧ Am.TabAt W p.1 p.2) : OpensW W :=
 (Am.run_ret (vs := #[]) (args := .nil) mixed progOk (extOk _) orcOOk isO noO ranO h rfl).mono fun _ _ ⟨v', _, _, _, e, q, hv, hw, hb⟩ => ⟨v', e, Am.openW_of q hw hv, hb⟩
end
end Go.Proofs.YtnfghboholehdaaGreatDoor.foldWrites
