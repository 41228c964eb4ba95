/- CursorNames's closed run: what the machine is told of the program. -/
import Derived.Test.YtofmmjfbmiinoaaGreatDoorAm46
import Derived.Test.YtofmmjfbmiinoaaGreatDoorProg
import Derived.KernelRfl
namespace Go.Proofs.YtofmmjfbmiinoaaGreatDoor.cursorNames
open Go.Proofs.YtofmmjfbmiinoaaGreatDoor
noncomputable def ext (f : Nat) : Nat := Bool.rec (Bool.rec 0 2 (Nat.beq f 181)) 1 (Nat.beq f 132)
theorem mixed : Tryz.prog.follows .mixedOrders = true := by kernel_rfl
theorem progOk : Am.progOk Tryz.prog = true := by kernel_rfl
theorem ext132 : Am.ExtIs Tryz.prog 132 Extern.BytealgCount.count := ⟨Tryz.f132, Tryz.func132, by kernel_rfl, by kernel_rfl, by kernel_rfl, by kernel_rfl⟩
theorem ext181 : Am.ExtIs Tryz.prog 181 Extern.BytealgIndexByte.indexByte := ⟨Tryz.f181, Tryz.func181, by kernel_rfl, by kernel_rfl, by kernel_rfl, by kernel_rfl⟩
theorem ext_one (f : Nat) (h : ext f = 1) : f = 132 := by
  unfold ext at h
  cases hb : Nat.beq f 132
  · rw [hb] at h
    cases hc : Nat.beq f 181 <;> rw [hc] at h <;> cases h
  · exact Nat.eq_of_beq_eq_true hb
theorem ext_two (f : Nat) (h : ext f = 2) : f = 181 := by
  unfold ext at h
  cases hb : Nat.beq f 132
  · rw [hb] at h
    cases hc : Nat.beq f 181
    · rw [hc] at h; cases h
    · exact Nat.eq_of_beq_eq_true hc
  · rw [hb] at h; cases h
theorem extOk (orc : Nat → Am.AV → Am.H → Option Am.Res) : Am.ExtOk Tryz.prog (Am.gOfO Tryz.prog ext orc) :=
  Am.ext_ok (fun f h => by rw [ext_one f h]; exact ext132) (fun f h => by rw [ext_two f h]; exact ext181)
noncomputable def orc0 : Nat → Am.AV → Am.H → Option Am.Res := Am.orcT [] []
theorem orc0Ok : Am.OrcOk Tryz.prog (Am.gOfO Tryz.prog ext orc0) := Am.orcT_ok Am.kt_nil
end Go.Proofs.YtofmmjfbmiinoaaGreatDoor.cursorNames
