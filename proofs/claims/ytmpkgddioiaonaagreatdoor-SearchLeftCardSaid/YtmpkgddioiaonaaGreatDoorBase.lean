/- SearchLeft's closed run: what the machine is told of the program. -/
import Derived.Test.YtmpkgddioiaonaaGreatDoorAmR
import Derived.Test.YtmpkgddioiaonaaGreatDoorProg
import Derived.KernelRfl
import GoSem.PinnedTables
namespace Go.Proofs.YtmpkgddioiaonaaGreatDoor.searchLeft
noncomputable def ext (f : Nat) : Nat := Bool.rec (Bool.rec (Bool.rec (Bool.rec 0 21 (Nat.beq f 198)) 3 (Nat.beq f 84)) 2 (Nat.beq f 172)) 1 (Nat.beq f 116)
def spaceZ : List Nat := [0, 0, 0, 0, 0, 0, 0, 0, 0, 1, 1, 1, 1, 1, 0, 0, 0, 0, 0, 0, 0, 0, 0, 0, 0, 0, 0, 0, 0, 0, 0, 0, 1, 0, 0, 0, 0, 0, 0, 0, 0, 0, 0, 0, 0, 0, 0, 0, 0, 0, 0, 0, 0, 0, 0, 0, 0, 0, 0, 0, 0, 0, 0, 0, 0, 0, 0, 0, 0, 0, 0, 0, 0, 0, 0, 0, 0, 0, 0, 0, 0, 0, 0, 0, 0, 0, 0, 0, 0, 0, 0, 0, 0, 0, 0, 0, 0, 0, 0, 0, 0, 0, 0, 0, 0, 0, 0, 0, 0, 0, 0, 0, 0, 0, 0, 0, 0, 0, 0, 0, 0, 0, 0, 0, 0, 0, 0, 0, 0, 0, 0, 0, 0, 0, 0, 0, 0, 0, 0, 0, 0, 0, 0, 0, 0, 0, 0, 0, 0, 0, 0, 0, 0, 0, 0, 0, 0, 0, 0, 0, 0, 0, 0, 0, 0, 0, 0, 0, 0, 0, 0, 0, 0, 0, 0, 0, 0, 0, 0, 0, 0, 0, 0, 0, 0, 0, 0, 0, 0, 0, 0, 0, 0, 0, 0, 0, 0, 0, 0, 0, 0, 0, 0, 0, 0, 0, 0, 0, 0, 0, 0, 0, 0, 0, 0, 0, 0, 0, 0, 0, 0, 0, 0, 0, 0, 0, 0, 0, 0, 0, 0, 0, 0, 0, 0, 0, 0, 0, 0, 0, 0, 0, 0, 0, 0, 0, 0, 0, 0, 0, 0, 0, 0, 0, 0, 0]
def spaceL : List Value := spaceZ.map fun n => .int .u8 (.ofNat n)
def acceptZ : List Nat := [128, 191, 160, 191, 128, 159, 144, 191, 128, 143, 0, 0, 0, 0, 0, 0, 0, 0, 0, 0, 0, 0, 0, 0, 0, 0, 0, 0, 0, 0, 0, 0]
def acceptL : List Value := acceptZ.map fun n => .int .u8 (.ofNat n)
def firstL : List Value := Go.Pinned.utf8FirstZ.map fun n => .int .u8 (.ofNat n)
def tabsB : List (Nat × List Value) := [(0, spaceL)]
def tabsF : List (Nat × List Value) := [(0, spaceL), (1, firstL), (2, acceptL)]
theorem mixed : Tryz.prog.follows .mixedOrders = true := by kernel_rfl
theorem progOk : Am.progOk Tryz.prog = true := by kernel_rfl
theorem ext116 : Am.ExtIs Tryz.prog 116 Extern.BytealgCount.count := ⟨Tryz.f116, Tryz.func116, by kernel_rfl, by kernel_rfl, by kernel_rfl, by kernel_rfl⟩
theorem ext172 : Am.ExtIs Tryz.prog 172 Extern.BytealgIndexByte.indexByte := ⟨Tryz.f172, Tryz.func172, by kernel_rfl, by kernel_rfl, by kernel_rfl, by kernel_rfl⟩
theorem ext84 : Am.ExtIs Tryz.prog 84 Extern.AbiNoEscape.same := ⟨Tryz.f84, Tryz.func84, by kernel_rfl, by kernel_rfl, by kernel_rfl, by kernel_rfl⟩
theorem ext198 : ∃ ps rs t, rs[0]? = some t ∧ Tryz.prog.underlying t = some (.slice (ext 198 - 16)) ∧ Am.ExtIs Tryz.prog 198 (Extern.BytealgMakeNoZero.makeNoZero ps rs) :=
 ⟨Tryz.f198.params, Tryz.f198.resultTypes, 38, by kernel_rfl, by kernel_rfl, ⟨Tryz.f198, Tryz.func198, by kernel_rfl, by kernel_rfl, by kernel_rfl, by kernel_rfl⟩⟩
theorem ext_inv (f : Nat) : (ext f = 1 ∧ f = 116) ∨ (ext f = 2 ∧ f = 172) ∨ (ext f = 3 ∧ f = 84) ∨ (ext f = 21 ∧ f = 198) ∨ ext f = 0 := by
 by_cases h0 : f = 116
 ·exact .inl ⟨by rw [h0]; rfl, h0⟩
 by_cases h1 : f = 172
 ·exact .inr (.inl ⟨by rw [h1]; rfl, h1⟩)
 by_cases h2 : f = 84
 ·exact .inr (.inr (.inl ⟨by rw [h2]; rfl, h2⟩))
 by_cases h3 : f = 198
 ·exact .inr (.inr (.inr (.inl ⟨by rw [h3]; rfl, h3⟩)))
 exact .inr (.inr (.inr (.inr (by
  unfold ext
  rw [show Nat.beq f 116 = false from by cases c : Nat.beq f 116 with | false => rfl | true => exact absurd (Nat.eq_of_beq_eq_true c) h0]
  rw [show Nat.beq f 172 = false from by cases c : Nat.beq f 172 with | false => rfl | true => exact absurd (Nat.eq_of_beq_eq_true c) h1]
  rw [show Nat.beq f 84 = false from by cases c : Nat.beq f 84 with | false => rfl | true => exact absurd (Nat.eq_of_beq_eq_true c) h2]
  rw [show Nat.beq f 198 = false from by cases c : Nat.beq f 198 with | false => rfl | true => exact absurd (Nat.eq_of_beq_eq_true c) h3]))))
theorem extOk (orc : Nat → Am.AV → Am.H → Option Am.Res) : Am.ExtOk Tryz.prog (Am.gOfO Tryz.prog ext orc) :=
 have e : ∀ f, (Am.gOfO Tryz.prog ext orc).ext f = ext f := fun _ => rfl
 Am.ext_ok
  (fun f h => by
   rw [e] at h
   rcases ext_inv f with ⟨a, rfl⟩ | ⟨a, rfl⟩ | ⟨a, rfl⟩ | ⟨a, rfl⟩ | a
   ·exact ext116
   ·rw [a] at h; omega
   ·rw [a] at h; omega
   ·rw [a] at h; omega
   ·rw [a] at h; omega)
  (fun f h => by
   rw [e] at h
   rcases ext_inv f with ⟨a, rfl⟩ | ⟨a, rfl⟩ | ⟨a, rfl⟩ | ⟨a, rfl⟩ | a
   ·rw [a] at h; omega
   ·exact ext172
   ·rw [a] at h; omega
   ·rw [a] at h; omega
   ·rw [a] at h; omega)
  (fun f h => by
   rw [e] at h
   rcases ext_inv f with ⟨a, rfl⟩ | ⟨a, rfl⟩ | ⟨a, rfl⟩ | ⟨a, rfl⟩ | a
   ·rw [a] at h; omega
   ·rw [a] at h; omega
   ·exact ext84
   ·rw [a] at h; omega
   ·rw [a] at h; omega)
  (fun f h => by
   rw [e] at h
   rcases ext_inv f with ⟨a, rfl⟩ | ⟨a, rfl⟩ | ⟨a, rfl⟩ | ⟨a, rfl⟩ | a
   ·rw [a] at h; omega
   ·rw [a] at h; omega
   ·rw [a] at h; omega
   ·exact ext198
   ·rw [a] at h; omega)
noncomputable def orc0 : Nat → Am.AV → Am.H → Option Am.Res := Am.orcT [] []
theorem orc0Ok : Am.OrcOk Tryz.prog (Am.gOfO Tryz.prog ext orc0) := Am.orcT_ok Am.kt_nil
theorem oneA_orc0 {e : Am.Known} (R : List Nat) (h : Am.and2 (Am.fnOf Tryz.prog e.f).isSome (Am.and2 (orc0 e.f e.args (Am.tabH [])).isNone (Am.chkK e R ((Am.run (Am.gOfO Tryz.prog ext orc0) (Nat.succ 3999)).call e.f e.args (Am.tabH [])))) = true) : Am.OneOk Tryz.prog [] e := by
 obtain ⟨h1, h2⟩ := Am.and2_ok h
 obtain ⟨h3, h4⟩ := Am.and2_ok h2
 exact Am.one_of_run (N := 3999) mixed progOk (extOk _) orc0Ok h1 (Option.isNone_iff_eq_none.1 h3) (by kernel_rfl) h4
theorem oneB_orc0 {e : Am.Known} (R : List Nat) (h : Am.and2 (Am.fnOf Tryz.prog e.f).isSome (Am.and2 (orc0 e.f e.args (Am.tabH tabsB)).isNone (Am.chkK e R ((Am.run (Am.gOfO Tryz.prog ext orc0) (Nat.succ 3999)).call e.f e.args (Am.tabH tabsB)))) = true) : Am.OneOk Tryz.prog tabsB e := by
 obtain ⟨h1, h2⟩ := Am.and2_ok h
 obtain ⟨h3, h4⟩ := Am.and2_ok h2
 exact Am.one_of_run (N := 3999) mixed progOk (extOk _) orc0Ok h1 (Option.isNone_iff_eq_none.1 h3) (by kernel_rfl) h4
open Go.Proofs.YtmpkgddioiaonaaGreatDoor.Am in
/-- an argument that is a text -/
noncomputable abbrev S (a b : Nat) (t : AV) : AV := .cons (.str ⟨a, b⟩) t
open Go.Proofs.YtmpkgddioiaonaaGreatDoor.Am in
/-- an argument that is a number -/
noncomputable abbrev I (k : IntKind) (n : Nat) (t : AV) : AV := .cons (.int k (.ofNat n)) t
open Go.Proofs.YtmpkgddioiaonaaGreatDoor.Am in
/-- a number -/
noncomputable abbrev J (k : IntKind) (n : Nat) : AV := .int k (.ofNat n)
open Go.Proofs.YtmpkgddioiaonaaGreatDoor.Am in
/-- an argument that is a slice -/
noncomputable abbrev Q (b o n e : Nat) (t : AV) : AV := .cons (.slice b o n e false) t
open Go.Proofs.YtmpkgddioiaonaaGreatDoor.Am in
noncomputable abbrev F (t : AV) : AV := .cons (.bool false) t
open Go.Proofs.YtmpkgddioiaonaaGreatDoor.Am in
noncomputable abbrev T (t : AV) : AV := .cons (.bool true) t
open Go.Proofs.YtmpkgddioiaonaaGreatDoor.Am in
noncomputable abbrev Z (t : AV) : AV := .cons .nils t
abbrev OA (k : Am.Known) : Prop := Am.OneOk Tryz.prog [] k
end Go.Proofs.YtmpkgddioiaonaaGreatDoor.searchLeft
