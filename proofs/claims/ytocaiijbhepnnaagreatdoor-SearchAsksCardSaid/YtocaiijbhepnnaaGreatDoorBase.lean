/- SearchAsks's closed run: what the machine is told of the program. -/
import Derived.Test.YtocaiijbhepnnaaGreatDoorAm48
import Derived.Test.YtocaiijbhepnnaaGreatDoorProg
import Derived.KernelRfl
import GoSem.PinnedTables
namespace Go.Proofs.YtocaiijbhepnnaaGreatDoor.searchAsks
noncomputable def ext (f:Nat):Nat:=Bool.rec (Bool.rec (Bool.rec (Bool.rec 0 21 (Nat.beq f 355)) 3 (Nat.beq f 185)) 2 (Nat.beq f 325)) 1 (Nat.beq f 242)
def PN:List Nat:=[0,0,0,0,0,0,0,0,0,1,1,1,1,1,0,0,0,0,0,0,0,0,0,0,0,0,0,0,0,0,0,0,1,0,0,0,0,0,0,0,0,0,0,0,0,0,0,0,0,0,0,0,0,0,0,0,0,0,0,0,0,0,0,0,0,0,0,0,0,0,0,0,0,0,0,0,0,0,0,0,0,0,0,0,0,0,0,0,0,0,0,0,0,0,0,0,0,0,0,0,0,0,0,0,0,0,0,0,0,0,0,0,0,0,0,0,0,0,0,0,0,0,0,0,0,0,0,0,0,0,0,0,0,0,0,0,0,0,0,0,0,0,0,0,0,0,0,0,0,0,0,0,0,0,0,0,0,0,0,0,0,0,0,0,0,0,0,0,0,0,0,0,0,0,0,0,0,0,0,0,0,0,0,0,0,0,0,0,0,0,0,0,0,0,0,0,0,0,0,0,0,0,0,0,0,0,0,0,0,0,0,0,0,0,0,0,0,0,0,0,0,0,0,0,0,0,0,0,0,0,0,0,0,0,0,0,0,0,0,0,0,0,0,0,0,0,0,0,0,0,0,0,0,0,0,0]
def tH:List Value:=PN.map fun n=> .int .u8 (.ofNat n)
def aa9:List Nat:=[128,191,160,191,128,159,144,191,128,143,0,0,0,0,0,0,0,0,0,0,0,0,0,0,0,0,0,0,0,0,0,0]
def jY:List Value:=aa9.map fun n=> .int .u8 (.ofNat n)
def firstL:List Value:=Go.Pinned.utf8FirstZ.map fun n=> .int .u8 (.ofNat n)
def x9:List (Nat×List Value):=[(0,tH)]
def adj:List (Nat×List Value):=[(0,tH),(2,firstL),(3,jY)]
theorem mixed:Tryz.prog.follows .mixedOrders=true:=by kernel_rfl
theorem gu:Am.gu Tryz.prog=true:=by kernel_rfl
theorem aeV:Am.zT Tryz.prog 242 Extern.BytealgCount.count:=⟨Tryz.f242,Tryz.func242,by kernel_rfl,by kernel_rfl,by kernel_rfl,by kernel_rfl⟩
theorem aeW:Am.zT Tryz.prog 325 Extern.BytealgIndexByte.indexByte:=⟨Tryz.f325,Tryz.func325,by kernel_rfl,by kernel_rfl,by kernel_rfl,by kernel_rfl⟩
theorem aeX:Am.zT Tryz.prog 185 Extern.AbiNoEscape.same:=⟨Tryz.f185,Tryz.func185,by kernel_rfl,by kernel_rfl,by kernel_rfl,by kernel_rfl⟩
theorem aeY:∃ps rs t,rs[0]? =some t∧Tryz.prog.underlying t=some (.slice (ext 355-16))∧Am.zT Tryz.prog 355 (Extern.BytealgMakeNoZero.makeNoZero ps rs):=
 ⟨Tryz.f355.params,Tryz.f355.resultTypes,65,by kernel_rfl,by kernel_rfl,⟨Tryz.f355,Tryz.func355,by kernel_rfl,by kernel_rfl,by kernel_rfl,by kernel_rfl⟩⟩
theorem Es (f:Nat):(ext f=1∧f=242)∨(ext f=2∧f=325)∨(ext f=3∧f=185)∨(ext f=21∧f=355)∨ext f=0:=by
 by_cases h0:f=242;·exact .inl ⟨by rw[h0];rfl,h0⟩
 by_cases h1:f=325;·exact .inr (.inl ⟨by rw[h1];rfl,h1⟩)
 by_cases h2:f=185;·exact .inr (.inr (.inl ⟨by rw[h2];rfl,h2⟩))
 by_cases h3:f=355;·exact .inr (.inr (.inr (.inl ⟨by rw[h3];rfl,h3⟩)))
 exact .inr (.inr (.inr (.inr (by
  unfold ext;rw[show Nat.beq f 242=false from by cases c:Nat.beq f 242 with|false=>rfl|true=>exact absurd (aP c) h0];rw[show Nat.beq f 325=false from by cases c:Nat.beq f 325 with|false=>rfl|true=>exact absurd (aP c) h1];rw[show Nat.beq f 185=false from by cases c:Nat.beq f 185 with|false=>rfl|true=>exact absurd (aP c) h2];rw[show Nat.beq f 355=false from by cases c:Nat.beq f 355 with|false=>rfl|true=>exact absurd (aP c) h3]))))
theorem vw (jl:Nat→Am.AV→Am.H→Option Am.bJ):Am.oN Tryz.prog (Am.cK Tryz.prog ext jl):=
 have e:∀f,(Am.cK Tryz.prog ext jl).ext f=ext f:=fun _=>rfl
 Am.aey
  (fun f h=>by
   rw[e]at h;rcases Es f with⟨a,rfl⟩|⟨a,rfl⟩|⟨a,rfl⟩|⟨a,rfl⟩|a;·exact aeV
   ·rw[a]at h;omega
   ·rw[a]at h;omega
   ·rw[a]at h;omega
   ·rw[a]at h;omega)
  (fun f h=>by
   rw[e]at h;rcases Es f with⟨a,rfl⟩|⟨a,rfl⟩|⟨a,rfl⟩|⟨a,rfl⟩|a;·rw[a]at h;omega
   ·exact aeW
   ·rw[a]at h;omega
   ·rw[a]at h;omega
   ·rw[a]at h;omega)
  (fun f h=>by
   rw[e]at h;rcases Es f with⟨a,rfl⟩|⟨a,rfl⟩|⟨a,rfl⟩|⟨a,rfl⟩|a;·rw[a]at h;omega
   ·rw[a]at h;omega
   ·exact aeX
   ·rw[a]at h;omega
   ·rw[a]at h;omega)
  (fun f h=>by
   rw[e]at h;rcases Es f with⟨a,rfl⟩|⟨a,rfl⟩|⟨a,rfl⟩|⟨a,rfl⟩|a;·rw[a]at h;omega
   ·rw[a]at h;omega
   ·rw[a]at h;omega
   ·exact aeY
   ·rw[a]at h;omega)
noncomputable def ami:Nat→Am.AV→Am.H→Option Am.bJ:=Am.zW [] []
theorem yN:Am.gq Tryz.prog (Am.cK Tryz.prog ext ami):=Am.lG Am.oZ
theorem tokA:Am.yL []=true:=by kernel_rfl
theorem tokB:Am.yL x9=true:=by kernel_rfl
abbrev AA (l:List Am.Known):Prop:=∀e∈l,Am.qj Tryz.prog [] e
abbrev AB (l:List Am.Known):Prop:=∀e∈l,Am.qj Tryz.prog x9 e
theorem oA {jl:Nat→Am.AV→Am.H→Option Am.bJ} (ho:Am.gq Tryz.prog (Am.cK Tryz.prog ext jl)) {l:List Am.Known} (r:List (List Nat)) (h:Am.all2 (fun(e:Am.Known) R=>Am.aA (Am.fnOf Tryz.prog e.f).isSome (Am.aA (jl e.f e.args (Am.jR [])).isNone (Am.XI e R ((Am.run (Am.cK Tryz.prog ext jl) (Nat.succ 3999)).call e.f e.args (Am.jR []))))) l r=true):AA l:=Am.RJ mixed gu (vw _) ho tokA r h
theorem oB {jl:Nat→Am.AV→Am.H→Option Am.bJ} (ho:Am.gq Tryz.prog (Am.cK Tryz.prog ext jl)) {l:List Am.Known} (r:List (List Nat)) (h:Am.all2 (fun(e:Am.Known) R=>Am.aA (Am.fnOf Tryz.prog e.f).isSome (Am.aA (jl e.f e.args (Am.jR x9)).isNone (Am.XI e R ((Am.run (Am.cK Tryz.prog ext jl) (Nat.succ 3999)).call e.f e.args (Am.jR x9))))) l r=true):AB l:=Am.RJ mixed gu (vw _) ho tokB r h
theorem oM {jl:Nat→Am.AV→Am.H→Option Am.bJ} (ho:Am.gq Tryz.prog (Am.cK Tryz.prog ext jl)) {l:List Am.iR} (h:Am.MF (fun(e:Am.iR)=>Am.aA (Am.fnOf Tryz.prog e.f).isSome (Am.aA (jl e.f e.args (Am.ql e)).isNone (Am.aA (Am.Un e) (Am.XM e ((Am.run (Am.cK Tryz.prog ext jl) (Nat.succ 3999)).call e.f e.args (Am.ql e)))))) l=true):∀e∈l,Am.uZ Tryz.prog e:=Am.aa4 mixed gu (vw _) ho h
open Go.Proofs.YtocaiijbhepnnaaGreatDoor.Am in
noncomputable abbrev S (a b:Nat) (t:AV):AV:= .cons (.str ⟨a,b⟩) t
open Go.Proofs.YtocaiijbhepnnaaGreatDoor.Am in
noncomputable abbrev I (k:IntKind) (n:Nat) (t:AV):AV:= .cons (.int k (.ofNat n)) t
open Go.Proofs.YtocaiijbhepnnaaGreatDoor.Am in
noncomputable abbrev J (k:IntKind) (n:Nat):AV:= .int k (.ofNat n)
open Go.Proofs.YtocaiijbhepnnaaGreatDoor.Am in
noncomputable abbrev Q (b o n e:Nat) (t:AV):AV:= .cons (.slice b o n e false) t
open Go.Proofs.YtocaiijbhepnnaaGreatDoor.Am in
noncomputable abbrev F (t:AV):AV:= .cons (.bool false) t
open Go.Proofs.YtocaiijbhepnnaaGreatDoor.Am in
noncomputable abbrev T (t:AV):AV:= .cons (.bool true) t
open Go.Proofs.YtocaiijbhepnnaaGreatDoor.Am in
noncomputable abbrev Z (t:AV):AV:= .cons .jP t
abbrev OA (k:Am.Known):Prop:=Am.qj Tryz.prog [] k
end Go.Proofs.YtocaiijbhepnnaaGreatDoor.searchAsks
