/- FoldRunes: the run of New, and what it leaves. -/
import Derived.Test.YtakpgpibkfddgaaGreatDoorTN
import Derived.Test.YtakpgpibkfddgaaGreatDoorFB
namespace Go.Proofs.YtakpgpibkfddgaaGreatDoor.foldRunes
set_option maxRecDepth 1000000 in
theorem ranN : Am.chkG Am.chkNew ((Am.run (Am.gOfO Tryz.prog ext orcN) (Nat.succ 3999)).call 4 .nil (Am.tabH [])) = true := by kernel_rfl
theorem noN : orcN 4 .nil (Am.tabH []) = none := by kernel_rfl
theorem isN : (Am.fnOf Tryz.prog 4).isSome = true := by kernel_rfl
theorem new_at {W : World} : News W :=
  (Am.run_ret (vs := #[]) (args := .nil) (l := []) mixed progOk (extOk _) orcNOk isN noN ranN (fun p hp => by cases hp) rfl).mono fun _ _ ⟨v', _, _, _, e, q, hv, hw, hb⟩ => ⟨v', e, Am.book_of q hw hv, hb⟩
end Go.Proofs.YtakpgpibkfddgaaGreatDoor.foldRunes
