/- SearchLeft: the run of open, and what it leaves. -/
import Derived.Test.YtmpkgddioiaonaaGreatDoorTO
import Derived.Test.YtmpkgddioiaonaaGreatDoorGD
namespace Go.Proofs.YtmpkgddioiaonaaGreatDoor.searchLeft
open Go.Proofs.YtmpkgddioiaonaaGreatDoor.Am
noncomputable section
open Go.Shelf Go.RowKit Go.Lib Go.Proofs.YtmpkgddioiaonaaGreatDoor.Am
set_option maxRecDepth 1000000 in
theorem ranO : Am.chkG Am.chkOpenP ((Am.run (Am.gOfO Tryz.prog ext orcO) (Nat.succ 3999)).call 22 .nil (Am.tabH tabsB)) = true := by kernel_rfl
theorem noO : orcO 22 .nil (Am.tabH tabsB) = none := by kernel_rfl
theorem isO : (Am.fnOf Tryz.prog 22).isSome = true := by kernel_rfl
theorem open_at {W : World} (h : ∀ p ∈ tabsB, p.1 < 64 ∧ p.2.length ≤ 4000000 ∧ Am.TabAt W p.1 p.2) : OpensP W :=
 (Am.run_ret (vs := #[]) (args := .nil) mixed progOk (extOk _) orcOOk isO noO ranO h rfl).mono fun _ _ ⟨v', _, _, _, e, q, hv, hw, hb⟩ => ⟨v', e, Am.openP_of q hw hv, hb⟩
end
end Go.Proofs.YtmpkgddioiaonaaGreatDoor.searchLeft
