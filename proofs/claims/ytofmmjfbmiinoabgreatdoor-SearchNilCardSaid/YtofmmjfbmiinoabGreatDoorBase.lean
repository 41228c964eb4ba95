/- SearchNil's closed run: what the machine is told of the program. -/
import Derived.Test.YtofmmjfbmiinoabGreatDoorAm46
import Derived.Test.YtofmmjfbmiinoabGreatDoorProg
import Derived.KernelRfl
import GoSem.PinnedTables
namespace Go.Proofs.YtofmmjfbmiinoabGreatDoor.searchNil
noncomputable def ext (f : Nat) : Nat := Bool.rec (Bool.rec (Bool.rec (Bool.rec 0 21 (Nat.beq f 213)) 3 (Nat.beq f 105)) 2 (Nat.beq f 187)) 1 (Nat.beq f 133)
def spaceZ : List Nat := [0, 0, 0, 0, 0, 0, 0, 0, 0, 1, 1, 1, 1, 1, 0, 0, 0, 0, 0, 0, 0, 0, 0, 0, 0, 0, 0, 0, 0, 0, 0, 0, 1, 0, 0, 0, 0, 0, 0, 0, 0, 0, 0, 0, 0, 0, 0, 0, 0, 0, 0, 0, 0, 0, 0, 0, 0, 0, 0, 0, 0, 0, 0, 0, 0, 0, 0, 0, 0, 0, 0, 0, 0, 0, 0, 0, 0, 0, 0, 0, 0, 0, 0, 0, 0, 0, 0, 0, 0, 0, 0, 0, 0, 0, 0, 0, 0, 0, 0, 0, 0, 0, 0, 0, 0, 0, 0, 0, 0, 0, 0, 0, 0, 0, 0, 0, 0, 0, 0, 0, 0, 0, 0, 0, 0, 0, 0, 0, 0, 0, 0, 0, 0, 0, 0, 0, 0, 0, 0, 0, 0, 0, 0, 0, 0, 0, 0, 0, 0, 0, 0, 0, 0, 0, 0, 0, 0, 0, 0, 0, 0, 0, 0, 0, 0, 0, 0, 0, 0, 0, 0, 0, 0, 0, 0, 0, 0, 0, 0, 0, 0, 0, 0, 0, 0, 0, 0, 0, 0, 0, 0, 0, 0, 0, 0, 0, 0, 0, 0, 0, 0, 0, 0, 0, 0, 0, 0, 0, 0, 0, 0, 0, 0, 0, 0, 0, 0, 0, 0, 0, 0, 0, 0, 0, 0, 0, 0, 0, 0, 0, 0, 0, 0, 0, 0, 0, 0, 0, 0, 0, 0, 0, 0, 0, 0, 0, 0, 0, 0, 0, 0, 0, 0, 0, 0, 0]
def spaceL : List Value := spaceZ.map fun n => .int .u8 (.ofNat n)
def acceptZ : List Nat := [128, 191, 160, 191, 128, 159, 144, 191, 128, 143, 0, 0, 0, 0, 0, 0, 0, 0, 0, 0, 0, 0, 0, 0, 0, 0, 0, 0, 0, 0, 0, 0]
def acceptL : List Value := acceptZ.map fun n => .int .u8 (.ofNat n)
def firstL : List Value := Go.Pinned.utf8FirstZ.map fun n => .int .u8 (.ofNat n)
def tabsB : List (Nat × List Value) := [(2, spaceL)]
def tabsF : List (Nat × List Value) := [(0, firstL), (1, acceptL), (2, spaceL)]
theorem mixed : Tryz.prog.follows .mixedOrders = true := by kernel_rfl
theorem progOk : Am.progOk Tryz.prog = true := by kernel_rfl
theorem ext133 : Am.ExtIs Tryz.prog 133 Extern.BytealgCount.count := ⟨Tryz.f133, Tryz.func133, by kernel_rfl, by kernel_rfl, by kernel_rfl, by kernel_rfl⟩
theorem ext187 : Am.ExtIs Tryz.prog 187 Extern.BytealgIndexByte.indexByte := ⟨Tryz.f187, Tryz.func187, by kernel_rfl, by kernel_rfl, by kernel_rfl, by kernel_rfl⟩
theorem ext105 : Am.ExtIs Tryz.prog 105 Extern.AbiNoEscape.same := ⟨Tryz.f105, Tryz.func105, by kernel_rfl, by kernel_rfl, by kernel_rfl, by kernel_rfl⟩
theorem ext213 : ∃ ps rs t, rs[0]? = some t ∧ Tryz.prog.underlying t = some (.slice (ext 213 - 16)) ∧ Am.ExtIs Tryz.prog 213 (Extern.BytealgMakeNoZero.makeNoZero ps rs) :=
  ⟨Tryz.f213.params, Tryz.f213.resultTypes, 31, by kernel_rfl, by kernel_rfl, ⟨Tryz.f213, Tryz.func213, by kernel_rfl, by kernel_rfl, by kernel_rfl, by kernel_rfl⟩⟩
theorem ext_inv (f : Nat) : (ext f = 1 ∧ f = 133) ∨ (ext f = 2 ∧ f = 187) ∨ (ext f = 3 ∧ f = 105) ∨ (ext f = 21 ∧ f = 213) ∨ ext f = 0 := by
  by_cases h0 : f = 133
  · exact .inl ⟨by rw [h0]; rfl, h0⟩
  by_cases h1 : f = 187
  · exact .inr (.inl ⟨by rw [h1]; rfl, h1⟩)
  by_cases h2 : f = 105
  · exact .inr (.inr (.inl ⟨by rw [h2]; rfl, h2⟩))
  by_cases h3 : f = 213
  · exact .inr (.inr (.inr (.inl ⟨by rw [h3]; rfl, h3⟩)))
  exact .inr (.inr (.inr (.inr (by
    unfold ext
    rw [show Nat.beq f 133 = false from by cases c : Nat.beq f 133 with | false => rfl | true => exact absurd (Nat.eq_of_beq_eq_true c) h0]
    rw [show Nat.beq f 187 = false from by cases c : Nat.beq f 187 with | false => rfl | true => exact absurd (Nat.eq_of_beq_eq_true c) h1]
    rw [show Nat.beq f 105 = false from by cases c : Nat.beq f 105 with | false => rfl | true => exact absurd (Nat.eq_of_beq_eq_true c) h2]
    rw [show Nat.beq f 213 = false from by cases c : Nat.beq f 213 with | false => rfl | true => exact absurd (Nat.eq_of_beq_eq_true c) h3]))))
theorem extOk (orc : Nat → Am.AV → Am.H → Option Am.Res) : Am.ExtOk Tryz.prog (Am.gOfO Tryz.prog ext orc) :=
  have e : ∀ f, (Am.gOfO Tryz.prog ext orc).ext f = ext f := fun _ => rfl
  Am.ext_ok
    (fun f h => by
      rw [e] at h
      rcases ext_inv f with ⟨a, rfl⟩ | ⟨a, rfl⟩ | ⟨a, rfl⟩ | ⟨a, rfl⟩ | a
      · exact ext133
      · rw [a] at h; omega
      · rw [a] at h; omega
      · rw [a] at h; omega
      · rw [a] at h; omega)
    (fun f h => by
      rw [e] at h
      rcases ext_inv f with ⟨a, rfl⟩ | ⟨a, rfl⟩ | ⟨a, rfl⟩ | ⟨a, rfl⟩ | a
      · rw [a] at h; omega
      · exact ext187
      · rw [a] at h; omega
      · rw [a] at h; omega
      · rw [a] at h; omega)
    (fun f h => by
      rw [e] at h
      rcases ext_inv f with ⟨a, rfl⟩ | ⟨a, rfl⟩ | ⟨a, rfl⟩ | ⟨a, rfl⟩ | a
      · rw [a] at h; omega
      · rw [a] at h; omega
      · exact ext105
      · rw [a] at h; omega
      · rw [a] at h; omega)
    (fun f h => by
      rw [e] at h
      rcases ext_inv f with ⟨a, rfl⟩ | ⟨a, rfl⟩ | ⟨a, rfl⟩ | ⟨a, rfl⟩ | a
      · rw [a] at h; omega
      · rw [a] at h; omega
      · rw [a] at h; omega
      · exact ext213
      · rw [a] at h; omega)
noncomputable def orc0 : Nat → Am.AV → Am.H → Option Am.Res := Am.orcT [] []
theorem orc0Ok : Am.OrcOk Tryz.prog (Am.gOfO Tryz.prog ext orc0) := Am.orcT_ok Am.kt_nil
end Go.Proofs.YtofmmjfbmiinoabGreatDoor.searchNil
