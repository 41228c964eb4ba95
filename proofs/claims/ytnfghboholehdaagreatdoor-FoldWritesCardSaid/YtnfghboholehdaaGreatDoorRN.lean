/- FoldWrites: the run of kerfref19.New, and what it leaves. -/
import Derived.Test.YtnfghboholehdaaGreatDoorTN
import Derived.Test.YtnfghboholehdaaGreatDoorFH
namespace Go.Proofs.YtnfghboholehdaaGreatDoor.foldWrites
open Go.Proofs.YtnfghboholehdaaGreatDoor.Am
noncomputable section
open Go.Shelf Go.RowKit Go.Lib Go.Proofs.YtnfghboholehdaaGreatDoor.Am
set_option maxRecDepth 1000000 in
theorem ranN : Am.chkG Am.chkNewG ((Am.run (Am.gOfO Tryz.prog ext orcN) (Nat.succ 3999)).call 10 .nil (Am.tabH [])) = true := by kernel_rfl
theorem noN : orcN 10 .nil (Am.tabH []) = none := by kernel_rfl
theorem isN : (Am.fnOf Tryz.prog 10).isSome = true := by kernel_rfl
theorem new_at (W : World) : NewG W :=
 (Am.run_ret (vs := #[]) (args := .nil) (l := []) mixed progOk (extOk _) orcNOk isN noN ranN (fun p hp => by cases hp) rfl).mono fun _ _ ⟨v', _, _, _, e, q, hv, hw, hb⟩ => ⟨v', e, Am.bookG_of q hw hv, hb⟩
end
end Go.Proofs.YtnfghboholehdaaGreatDoor.foldWrites
