/- FoldWrites's closed run: what the machine is told of the program. -/
import Derived.Test.YtnfghboholehdaaGreatDoorAmR
import Derived.Test.YtnfghboholehdaaGreatDoorProg
import Derived.KernelRfl
import GoSem.PinnedTables
namespace Go.Proofs.YtnfghboholehdaaGreatDoor.foldWrites
noncomputable def ext (f : Nat) : Nat := Bool.rec (Bool.rec (Bool.rec (Bool.rec 0 21 (Nat.beq f 279)) 3 (Nat.beq f 144)) 2 (Nat.beq f 239)) 1 (Nat.beq f 161)
def spaceZ : List Nat := [0, 0, 0, 0, 0, 0, 0, 0, 0, 1, 1, 1, 1, 1, 0, 0, 0, 0, 0, 0, 0, 0, 0, 0, 0, 0, 0, 0, 0, 0, 0, 0, 1, 0, 0, 0, 0, 0, 0, 0, 0, 0, 0, 0, 0, 0, 0, 0, 0, 0, 0, 0, 0, 0, 0, 0, 0, 0, 0, 0, 0, 0, 0, 0, 0, 0, 0, 0, 0, 0, 0, 0, 0, 0, 0, 0, 0, 0, 0, 0, 0, 0, 0, 0, 0, 0, 0, 0, 0, 0, 0, 0, 0, 0, 0, 0, 0, 0, 0, 0, 0, 0, 0, 0, 0, 0, 0, 0, 0, 0, 0, 0, 0, 0, 0, 0, 0, 0, 0, 0, 0, 0, 0, 0, 0, 0, 0, 0, 0, 0, 0, 0, 0, 0, 0, 0, 0, 0, 0, 0, 0, 0, 0, 0, 0, 0, 0, 0, 0, 0, 0, 0, 0, 0, 0, 0, 0, 0, 0, 0, 0, 0, 0, 0, 0, 0, 0, 0, 0, 0, 0, 0, 0, 0, 0, 0, 0, 0, 0, 0, 0, 0, 0, 0, 0, 0, 0, 0, 0, 0, 0, 0, 0, 0, 0, 0, 0, 0, 0, 0, 0, 0, 0, 0, 0, 0, 0, 0, 0, 0, 0, 0, 0, 0, 0, 0, 0, 0, 0, 0, 0, 0, 0, 0, 0, 0, 0, 0, 0, 0, 0, 0, 0, 0, 0, 0, 0, 0, 0, 0, 0, 0, 0, 0, 0, 0, 0, 0, 0, 0, 0, 0, 0, 0, 0, 0]
def spaceL : List Value := spaceZ.map fun n => .int .u8 (.ofNat n)
def acceptZ : List Nat := [128, 191, 160, 191, 128, 159, 144, 191, 128, 143, 0, 0, 0, 0, 0, 0, 0, 0, 0, 0, 0, 0, 0, 0, 0, 0, 0, 0, 0, 0, 0, 0]
def acceptL : List Value := acceptZ.map fun n => .int .u8 (.ofNat n)
def firstL : List Value := Go.Pinned.utf8FirstZ.map fun n => .int .u8 (.ofNat n)
def tabsB : List (Nat × List Value) := [(2, spaceL)]
def tabsF : List (Nat × List Value) := [(2, spaceL), (0, firstL), (1, acceptL)]
theorem mixed : Tryz.prog.follows .mixedOrders = true := by kernel_rfl
theorem progOk : Am.progOk Tryz.prog = true := by kernel_rfl
theorem ext161 : Am.ExtIs Tryz.prog 161 Extern.BytealgCount.count := ⟨Tryz.f161, Tryz.func161, by kernel_rfl, by kernel_rfl, by kernel_rfl, by kernel_rfl⟩
theorem ext239 : Am.ExtIs Tryz.prog 239 Extern.BytealgIndexByte.indexByte := ⟨Tryz.f239, Tryz.func239, by kernel_rfl, by kernel_rfl, by kernel_rfl, by kernel_rfl⟩
theorem ext144 : Am.ExtIs Tryz.prog 144 Extern.AbiNoEscape.same := ⟨Tryz.f144, Tryz.func144, by kernel_rfl, by kernel_rfl, by kernel_rfl, by kernel_rfl⟩
theorem ext279 : ∃ ps rs t, rs[0]? = some t ∧ Tryz.prog.underlying t = some (.slice (ext 279 - 16)) ∧ Am.ExtIs Tryz.prog 279 (Extern.BytealgMakeNoZero.makeNoZero ps rs) :=
 ⟨Tryz.f279.params, Tryz.f279.resultTypes, 103, by kernel_rfl, by kernel_rfl, ⟨Tryz.f279, Tryz.func279, by kernel_rfl, by kernel_rfl, by kernel_rfl, by kernel_rfl⟩⟩
theorem ext_inv (f : Nat) : (ext f = 1 ∧ f = 161) ∨ (ext f = 2 ∧ f = 239) ∨ (ext f = 3 ∧ f = 144) ∨ (ext f = 21 ∧ f = 279) ∨ ext f = 0 := by
 by_cases h0 : f = 161
 ·exact .inl ⟨by rw [h0]; rfl, h0⟩
 by_cases h1 : f = 239
 ·exact .inr (.inl ⟨by rw [h1]; rfl, h1⟩)
 by_cases h2 : f = 144
 ·exact .inr (.inr (.inl ⟨by rw [h2]; rfl, h2⟩))
 by_cases h3 : f = 279
 ·exact .inr (.inr (.inr (.inl ⟨by rw [h3]; rfl, h3⟩)))
 exact .inr (.inr (.inr (.inr (by
  unfold ext
  rw [show Nat.beq f 161 = false from by cases c : Nat.beq f 161 with | false => rfl | true => exact absurd (Nat.eq_of_beq_eq_true c) h0]
  rw [show Nat.beq f 239 = false from by cases c : Nat.beq f 239 with | false => rfl | true => exact absurd (Nat.eq_of_beq_eq_true c) h1]
  rw [show Nat.beq f 144 = false from by cases c : Nat.beq f 144 with | false => rfl | true => exact absurd (Nat.eq_of_beq_eq_true c) h2]
  rw [show Nat.beq f 279 = false from by cases c : Nat.beq f 279 with | false => rfl | true => exact absurd (Nat.eq_of_beq_eq_true c) h3]))))
theorem extOk (orc : Nat → Am.AV → Am.H → Option Am.Res) : Am.ExtOk Tryz.prog (Am.gOfO Tryz.prog ext orc) :=
 have e : ∀ f, (Am.gOfO Tryz.prog ext orc).ext f = ext f := fun _ => rfl
 Am.ext_ok
  (fun f h => by
   rw [e] at h
   rcases ext_inv f with ⟨a, rfl⟩ | ⟨a, rfl⟩ | ⟨a, rfl⟩ | ⟨a, rfl⟩ | a
   ·exact ext161
   ·rw [a] at h; omega
   ·rw [a] at h; omega
   ·rw [a] at h; omega
   ·rw [a] at h; omega)
  (fun f h => by
   rw [e] at h
   rcases ext_inv f with ⟨a, rfl⟩ | ⟨a, rfl⟩ | ⟨a, rfl⟩ | ⟨a, rfl⟩ | a
   ·rw [a] at h; omega
   ·exact ext239
   ·rw [a] at h; omega
   ·rw [a] at h; omega
   ·rw [a] at h; omega)
  (fun f h => by
   rw [e] at h
   rcases ext_inv f with ⟨a, rfl⟩ | ⟨a, rfl⟩ | ⟨a, rfl⟩ | ⟨a, rfl⟩ | a
   ·rw [a] at h; omega
   ·rw [a] at h; omega
   ·exact ext144
   ·rw [a] at h; omega
   ·rw [a] at h; omega)
  (fun f h => by
   rw [e] at h
   rcases ext_inv f with ⟨a, rfl⟩ | ⟨a, rfl⟩ | ⟨a, rfl⟩ | ⟨a, rfl⟩ | a
   ·rw [a] at h; omega
   ·rw [a] at h; omega
   ·rw [a] at h; omega
   ·exact ext279
   ·rw [a] at h; omega)
noncomputable def orc0 : Nat → Am.AV → Am.H → Option Am.Res := Am.orcT [] []
theorem orc0Ok : Am.OrcOk Tryz.prog (Am.gOfO Tryz.prog ext orc0) := Am.orcT_ok Am.kt_nil
theorem oneA_orc0 {e : Am.Known} (R : List Nat) (h : Am.and2 (Am.fnOf Tryz.prog e.f).isSome (Am.and2 (orc0 e.f e.args (Am.tabH [])).isNone (Am.chkK e R ((Am.run (Am.gOfO Tryz.prog ext orc0) (Nat.succ 3999)).call e.f e.args (Am.tabH [])))) = true) : Am.OneOk Tryz.prog [] e := by
 obtain ⟨h1, h2⟩ := Am.and2_ok h
 obtain ⟨h3, h4⟩ := Am.and2_ok h2
 exact Am.one_of_run (N := 3999) mixed progOk (extOk _) orc0Ok h1 (Option.isNone_iff_eq_none.1 h3) (by kernel_rfl) h4
theorem oneB_orc0 {e : Am.Known} (R : List Nat) (h : Am.and2 (Am.fnOf Tryz.prog e.f).isSome (Am.and2 (orc0 e.f e.args (Am.tabH tabsB)).isNone (Am.chkK e R ((Am.run (Am.gOfO Tryz.prog ext orc0) (Nat.succ 3999)).call e.f e.args (Am.tabH tabsB)))) = true) : Am.OneOk Tryz.prog tabsB e := by
 obtain ⟨h1, h2⟩ := Am.and2_ok h
 obtain ⟨h3, h4⟩ := Am.and2_ok h2
 exact Am.one_of_run (N := 3999) mixed progOk (extOk _) orc0Ok h1 (Option.isNone_iff_eq_none.1 h3) (by kernel_rfl) h4
open Go.Proofs.YtnfghboholehdaaGreatDoor.Am in
/-- an argument that is a text -/
noncomputable abbrev S (a b : Nat) (t : AV) : AV := .cons (.str ⟨a, b⟩) t
open Go.Proofs.YtnfghboholehdaaGreatDoor.Am in
/-- an argument that is a number -/
noncomputable abbrev I (k : IntKind) (n : Nat) (t : AV) : AV := .cons (.int k (.ofNat n)) t
open Go.Proofs.YtnfghboholehdaaGreatDoor.Am in
/-- a number -/
noncomputable abbrev J (k : IntKind) (n : Nat) : AV := .int k (.ofNat n)
open Go.Proofs.YtnfghboholehdaaGreatDoor.Am in
/-- an argument that is a slice -/
noncomputable abbrev Q (b o n e : Nat) (t : AV) : AV := .cons (.slice b o n e false) t
open Go.Proofs.YtnfghboholehdaaGreatDoor.Am in
noncomputable abbrev F (t : AV) : AV := .cons (.bool false) t
open Go.Proofs.YtnfghboholehdaaGreatDoor.Am in
noncomputable abbrev T (t : AV) : AV := .cons (.bool true) t
open Go.Proofs.YtnfghboholehdaaGreatDoor.Am in
noncomputable abbrev Z (t : AV) : AV := .cons .nils t
abbrev OA (k : Am.Known) : Prop := Am.OneOk Tryz.prog [] k
end Go.Proofs.YtnfghboholehdaaGreatDoor.foldWrites
