/- FoldRunes's closed run: what the machine is told of the program. -/
import Derived.Test.YtakpgpibkfddgaaGreatDoorAmR
import Derived.Test.YtakpgpibkfddgaaGreatDoorProg
import Derived.KernelRfl
import GoSem.PinnedTables
namespace Go.Proofs.YtakpgpibkfddgaaGreatDoor.foldRunes
noncomputable def ext (f : Nat) : Nat := Bool.rec (Bool.rec (Bool.rec (Bool.rec 0 21 (Nat.beq f 235)) 3 (Nat.beq f 156)) 2 (Nat.beq f 204)) 1 (Nat.beq f 125)
def spaceZ : List Nat := [0, 0, 0, 0, 0, 0, 0, 0, 0, 1, 1, 1, 1, 1, 0, 0, 0, 0, 0, 0, 0, 0, 0, 0, 0, 0, 0, 0, 0, 0, 0, 0, 1, 0, 0, 0, 0, 0, 0, 0, 0, 0, 0, 0, 0, 0, 0, 0, 0, 0, 0, 0, 0, 0, 0, 0, 0, 0, 0, 0, 0, 0, 0, 0, 0, 0, 0, 0, 0, 0, 0, 0, 0, 0, 0, 0, 0, 0, 0, 0, 0, 0, 0, 0, 0, 0, 0, 0, 0, 0, 0, 0, 0, 0, 0, 0, 0, 0, 0, 0, 0, 0, 0, 0, 0, 0, 0, 0, 0, 0, 0, 0, 0, 0, 0, 0, 0, 0, 0, 0, 0, 0, 0, 0, 0, 0, 0, 0, 0, 0, 0, 0, 0, 0, 0, 0, 0, 0, 0, 0, 0, 0, 0, 0, 0, 0, 0, 0, 0, 0, 0, 0, 0, 0, 0, 0, 0, 0, 0, 0, 0, 0, 0, 0, 0, 0, 0, 0, 0, 0, 0, 0, 0, 0, 0, 0, 0, 0, 0, 0, 0, 0, 0, 0, 0, 0, 0, 0, 0, 0, 0, 0, 0, 0, 0, 0, 0, 0, 0, 0, 0, 0, 0, 0, 0, 0, 0, 0, 0, 0, 0, 0, 0, 0, 0, 0, 0, 0, 0, 0, 0, 0, 0, 0, 0, 0, 0, 0, 0, 0, 0, 0, 0, 0, 0, 0, 0, 0, 0, 0, 0, 0, 0, 0, 0, 0, 0, 0, 0, 0, 0, 0, 0, 0, 0, 0]
def spaceL : List Value := spaceZ.map fun n => .int .u8 (.ofNat n)
def acceptZ : List Nat := [128, 191, 160, 191, 128, 159, 144, 191, 128, 143, 0, 0, 0, 0, 0, 0, 0, 0, 0, 0, 0, 0, 0, 0, 0, 0, 0, 0, 0, 0, 0, 0]
def acceptL : List Value := acceptZ.map fun n => .int .u8 (.ofNat n)
def firstL : List Value := Go.Pinned.utf8FirstZ.map fun n => .int .u8 (.ofNat n)
def tabsB : List (Nat × List Value) := [(0, spaceL)]
def tabsF : List (Nat × List Value) := [(0, spaceL), (3, firstL), (4, acceptL)]
theorem mixed : Tryz.prog.follows .mixedOrders = true := by kernel_rfl
theorem progOk : Am.progOk Tryz.prog = true := by kernel_rfl
theorem ext125 : Am.ExtIs Tryz.prog 125 Extern.BytealgCount.count := ⟨Tryz.f125, Tryz.func125, by kernel_rfl, by kernel_rfl, by kernel_rfl, by kernel_rfl⟩
theorem ext204 : Am.ExtIs Tryz.prog 204 Extern.BytealgIndexByte.indexByte := ⟨Tryz.f204, Tryz.func204, by kernel_rfl, by kernel_rfl, by kernel_rfl, by kernel_rfl⟩
theorem ext156 : Am.ExtIs Tryz.prog 156 Extern.AbiNoEscape.same := ⟨Tryz.f156, Tryz.func156, by kernel_rfl, by kernel_rfl, by kernel_rfl, by kernel_rfl⟩
theorem ext235 : ∃ ps rs t, rs[0]? = some t ∧ Tryz.prog.underlying t = some (.slice (ext 235 - 16)) ∧ Am.ExtIs Tryz.prog 235 (Extern.BytealgMakeNoZero.makeNoZero ps rs) :=
  ⟨Tryz.f235.params, Tryz.f235.resultTypes, 101, by kernel_rfl, by kernel_rfl, ⟨Tryz.f235, Tryz.func235, by kernel_rfl, by kernel_rfl, by kernel_rfl, by kernel_rfl⟩⟩
theorem ext_inv (f : Nat) : (ext f = 1 ∧ f = 125) ∨ (ext f = 2 ∧ f = 204) ∨ (ext f = 3 ∧ f = 156) ∨ (ext f = 21 ∧ f = 235) ∨ ext f = 0 := by
  by_cases h0 : f = 125
  · exact .inl ⟨by rw [h0]; rfl, h0⟩
  by_cases h1 : f = 204
  · exact .inr (.inl ⟨by rw [h1]; rfl, h1⟩)
  by_cases h2 : f = 156
  · exact .inr (.inr (.inl ⟨by rw [h2]; rfl, h2⟩))
  by_cases h3 : f = 235
  · exact .inr (.inr (.inr (.inl ⟨by rw [h3]; rfl, h3⟩)))
  exact .inr (.inr (.inr (.inr (by
    unfold ext
    rw [show Nat.beq f 125 = false from by cases c : Nat.beq f 125 with | false => rfl | true => exact absurd (Nat.eq_of_beq_eq_true c) h0]
    rw [show Nat.beq f 204 = false from by cases c : Nat.beq f 204 with | false => rfl | true => exact absurd (Nat.eq_of_beq_eq_true c) h1]
    rw [show Nat.beq f 156 = false from by cases c : Nat.beq f 156 with | false => rfl | true => exact absurd (Nat.eq_of_beq_eq_true c) h2]
    rw [show Nat.beq f 235 = false from by cases c : Nat.beq f 235 with | false => rfl | true => exact absurd (Nat.eq_of_beq_eq_true c) h3]))))
theorem extOk (orc : Nat → Am.AV → Am.H → Option Am.Res) : Am.ExtOk Tryz.prog (Am.gOfO Tryz.prog ext orc) :=
  have e : ∀ f, (Am.gOfO Tryz.prog ext orc).ext f = ext f := fun _ => rfl
  Am.ext_ok
    (fun f h => by
      rw [e] at h
      rcases ext_inv f with ⟨a, rfl⟩ | ⟨a, rfl⟩ | ⟨a, rfl⟩ | ⟨a, rfl⟩ | a
      · exact ext125
      · rw [a] at h; omega
      · rw [a] at h; omega
      · rw [a] at h; omega
      · rw [a] at h; omega)
    (fun f h => by
      rw [e] at h
      rcases ext_inv f with ⟨a, rfl⟩ | ⟨a, rfl⟩ | ⟨a, rfl⟩ | ⟨a, rfl⟩ | a
      · rw [a] at h; omega
      · exact ext204
      · rw [a] at h; omega
      · rw [a] at h; omega
      · rw [a] at h; omega)
    (fun f h => by
      rw [e] at h
      rcases ext_inv f with ⟨a, rfl⟩ | ⟨a, rfl⟩ | ⟨a, rfl⟩ | ⟨a, rfl⟩ | a
      · rw [a] at h; omega
      · rw [a] at h; omega
      · exact ext156
      · rw [a] at h; omega
      · rw [a] at h; omega)
    (fun f h => by
      rw [e] at h
      rcases ext_inv f with ⟨a, rfl⟩ | ⟨a, rfl⟩ | ⟨a, rfl⟩ | ⟨a, rfl⟩ | a
      · rw [a] at h; omega
      · rw [a] at h; omega
      · rw [a] at h; omega
      · exact ext235
      · rw [a] at h; omega)
noncomputable def orc0 : Nat → Am.AV → Am.H → Option Am.Res := Am.orcT [] []
theorem orc0Ok : Am.OrcOk Tryz.prog (Am.gOfO Tryz.prog ext orc0) := Am.orcT_ok Am.kt_nil
theorem oneA_orc0 {e : Am.Known} (R : List Nat) (h : Am.and2 (Am.fnOf Tryz.prog e.f).isSome (Am.and2 (orc0 e.f e.args (Am.tabH [])).isNone (Am.chkK e R ((Am.run (Am.gOfO Tryz.prog ext orc0) (Nat.succ 3999)).call e.f e.args (Am.tabH [])))) = true) : Am.OneOk Tryz.prog [] e := by
  obtain ⟨h1, h2⟩ := Am.and2_ok h
  obtain ⟨h3, h4⟩ := Am.and2_ok h2
  exact Am.one_of_run (N := 3999) mixed progOk (extOk _) orc0Ok h1 (Option.isNone_iff_eq_none.1 h3) (by kernel_rfl) h4
theorem oneB_orc0 {e : Am.Known} (R : List Nat) (h : Am.and2 (Am.fnOf Tryz.prog e.f).isSome (Am.and2 (orc0 e.f e.args (Am.tabH tabsB)).isNone (Am.chkK e R ((Am.run (Am.gOfO Tryz.prog ext orc0) (Nat.succ 3999)).call e.f e.args (Am.tabH tabsB)))) = true) : Am.OneOk Tryz.prog tabsB e := by
  obtain ⟨h1, h2⟩ := Am.and2_ok h
  obtain ⟨h3, h4⟩ := Am.and2_ok h2
  exact Am.one_of_run (N := 3999) mixed progOk (extOk _) orc0Ok h1 (Option.isNone_iff_eq_none.1 h3) (by kernel_rfl) h4
end Go.Proofs.YtakpgpibkfddgaaGreatDoor.foldRunes
