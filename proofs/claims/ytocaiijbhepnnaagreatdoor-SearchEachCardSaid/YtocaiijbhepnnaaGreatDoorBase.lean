/- SearchEach's closed run: what the machine is told of the program. -/
import Derived.Test.YtocaiijbhepnnaaGreatDoorAm48
import Derived.Test.YtocaiijbhepnnaaGreatDoorProg
import Derived.KernelRfl
import GoSem.PinnedTables
namespace Go.Proofs.YtocaiijbhepnnaaGreatDoor.searchEach
noncomputable def ext (f:Nat):Nat:=Bool.rec (Bool.rec (Bool.rec (Bool.rec 0 21 (Nat.beq f 355)) 3 (Nat.beq f 185)) 2 (Nat.beq f 325)) 1 (Nat.beq f 242)
def Qc:List Nat:=[0,0,0,0,0,0,0,0,0,1,1,1,1,1,0,0,0,0,0,0,0,0,0,0,0,0,0,0,0,0,0,0,1,0,0,0,0,0,0,0,0,0,0,0,0,0,0,0,0,0,0,0,0,0,0,0,0,0,0,0,0,0,0,0,0,0,0,0,0,0,0,0,0,0,0,0,0,0,0,0,0,0,0,0,0,0,0,0,0,0,0,0,0,0,0,0,0,0,0,0,0,0,0,0,0,0,0,0,0,0,0,0,0,0,0,0,0,0,0,0,0,0,0,0,0,0,0,0,0,0,0,0,0,0,0,0,0,0,0,0,0,0,0,0,0,0,0,0,0,0,0,0,0,0,0,0,0,0,0,0,0,0,0,0,0,0,0,0,0,0,0,0,0,0,0,0,0,0,0,0,0,0,0,0,0,0,0,0,0,0,0,0,0,0,0,0,0,0,0,0,0,0,0,0,0,0,0,0,0,0,0,0,0,0,0,0,0,0,0,0,0,0,0,0,0,0,0,0,0,0,0,0,0,0,0,0,0,0,0,0,0,0,0,0,0,0,0,0,0,0,0,0,0,0,0,0]
def tN:List Value:=Qc.map fun n=> .int .u8 (.ofNat n)
def abz:List Nat:=[128,191,160,191,128,159,144,191,128,143,0,0,0,0,0,0,0,0,0,0,0,0,0,0,0,0,0,0,0,0,0,0]
def jW:List Value:=abz.map fun n=> .int .u8 (.ofNat n)
def firstL:List Value:=Go.Pinned.utf8FirstZ.map fun n=> .int .u8 (.ofNat n)
def yA:List (Nat×List Value):=[(0,tN)]
def adI:List (Nat×List Value):=[(0,tN),(2,firstL),(3,jW)]
theorem mixed:Tryz.prog.follows .mixedOrders=true:=by kernel_rfl
theorem fZ:Am.fZ Tryz.prog=true:=by kernel_rfl
theorem afj:Am.Ae Tryz.prog 242 Extern.BytealgCount.count:=⟨Tryz.f242,Tryz.func242,by kernel_rfl,by kernel_rfl,by kernel_rfl,by kernel_rfl⟩
theorem afk:Am.Ae Tryz.prog 325 Extern.BytealgIndexByte.indexByte:=⟨Tryz.f325,Tryz.func325,by kernel_rfl,by kernel_rfl,by kernel_rfl,by kernel_rfl⟩
theorem afl:Am.Ae Tryz.prog 185 Extern.AbiNoEscape.same:=⟨Tryz.f185,Tryz.func185,by kernel_rfl,by kernel_rfl,by kernel_rfl,by kernel_rfl⟩
theorem afm:∃ps rs t,rs[0]? =some t∧Tryz.prog.underlying t=some (.slice (ext 355-16))∧Am.Ae Tryz.prog 355 (Extern.BytealgMakeNoZero.makeNoZero ps rs):=
 ⟨Tryz.f355.params,Tryz.f355.resultTypes,65,by kernel_rfl,by kernel_rfl,⟨Tryz.f355,Tryz.func355,by kernel_rfl,by kernel_rfl,by kernel_rfl,by kernel_rfl⟩⟩
theorem ED (f:Nat):(ext f=1∧f=242)∨(ext f=2∧f=325)∨(ext f=3∧f=185)∨(ext f=21∧f=355)∨ext f=0:=by
 by_cases h0:f=242;·exact .inl ⟨by rw[h0];rfl,h0⟩
 by_cases h1:f=325;·exact .inr (.inl ⟨by rw[h1];rfl,h1⟩)
 by_cases h2:f=185;·exact .inr (.inr (.inl ⟨by rw[h2];rfl,h2⟩))
 by_cases h3:f=355;·exact .inr (.inr (.inr (.inl ⟨by rw[h3];rfl,h3⟩)))
 exact .inr (.inr (.inr (.inr (by
  unfold ext;rw[show Nat.beq f 242=false from by cases c:Nat.beq f 242 with|false=>rfl|true=>exact absurd (aO c) h0];rw[show Nat.beq f 325=false from by cases c:Nat.beq f 325 with|false=>rfl|true=>exact absurd (aO c) h1];rw[show Nat.beq f 185=false from by cases c:Nat.beq f 185 with|false=>rfl|true=>exact absurd (aO c) h2];rw[show Nat.beq f 355=false from by cases c:Nat.beq f 355 with|false=>rfl|true=>exact absurd (aO c) h3]))))
theorem vF (jh:Nat→Am.AV→Am.H→Option Am.bF):Am.oW Tryz.prog (Am.cB Tryz.prog ext jh):=
 have e:∀f,(Am.cB Tryz.prog ext jh).ext f=ext f:=fun _=>rfl
 Am.aeW
  (fun f h=>by
   rw[e]at h;rcases ED f with⟨a,rfl⟩|⟨a,rfl⟩|⟨a,rfl⟩|⟨a,rfl⟩|a;·exact afj
   ·rw[a]at h;omega
   ·rw[a]at h;omega
   ·rw[a]at h;omega
   ·rw[a]at h;omega)
  (fun f h=>by
   rw[e]at h;rcases ED f with⟨a,rfl⟩|⟨a,rfl⟩|⟨a,rfl⟩|⟨a,rfl⟩|a;·rw[a]at h;omega
   ·exact afk
   ·rw[a]at h;omega
   ·rw[a]at h;omega
   ·rw[a]at h;omega)
  (fun f h=>by
   rw[e]at h;rcases ED f with⟨a,rfl⟩|⟨a,rfl⟩|⟨a,rfl⟩|⟨a,rfl⟩|a;·rw[a]at h;omega
   ·rw[a]at h;omega
   ·exact afl
   ·rw[a]at h;omega
   ·rw[a]at h;omega)
  (fun f h=>by
   rw[e]at h;rcases ED f with⟨a,rfl⟩|⟨a,rfl⟩|⟨a,rfl⟩|⟨a,rfl⟩|a;·rw[a]at h;omega
   ·rw[a]at h;omega
   ·rw[a]at h;omega
   ·exact afm
   ·rw[a]at h;omega)
noncomputable def amG:Nat→Am.AV→Am.H→Option Am.bF:=Am.Ah [] []
theorem yV:Am.fV Tryz.prog (Am.cB Tryz.prog ext amG):=Am.lG Am.pq
theorem tokA:Am.yS []=true:=by kernel_rfl
theorem tokB:Am.yS yA=true:=by kernel_rfl
abbrev AA (l:List Am.Known):Prop:=∀e∈l,Am.qw Tryz.prog [] e
abbrev AB (l:List Am.Known):Prop:=∀e∈l,Am.qw Tryz.prog yA e
theorem oA {jh:Nat→Am.AV→Am.H→Option Am.bF} (ho:Am.fV Tryz.prog (Am.cB Tryz.prog ext jh)) {l:List Am.Known} (r:List (List Nat)) (h:Am.all2 (fun(e:Am.Known) R=>Am.aA (Am.fnOf Tryz.prog e.f).isSome (Am.aA (jh e.f e.args (Am.jQ [])).isNone (Am.X5 e R ((Am.run (Am.cB Tryz.prog ext jh) (Nat.succ 3999)).call e.f e.args (Am.jQ []))))) l r=true):AA l:=Am.Sd mixed fZ (vF _) ho tokA r h
theorem oB {jh:Nat→Am.AV→Am.H→Option Am.bF} (ho:Am.fV Tryz.prog (Am.cB Tryz.prog ext jh)) {l:List Am.Known} (r:List (List Nat)) (h:Am.all2 (fun(e:Am.Known) R=>Am.aA (Am.fnOf Tryz.prog e.f).isSome (Am.aA (jh e.f e.args (Am.jQ yA)).isNone (Am.X5 e R ((Am.run (Am.cB Tryz.prog ext jh) (Nat.succ 3999)).call e.f e.args (Am.jQ yA))))) l r=true):AB l:=Am.Sd mixed fZ (vF _) ho tokB r h
theorem oM {jh:Nat→Am.AV→Am.H→Option Am.bF} (ho:Am.fV Tryz.prog (Am.cB Tryz.prog ext jh)) {l:List Am.iR} (h:Am.MX (fun(e:Am.iR)=>Am.aA (Am.fnOf Tryz.prog e.f).isSome (Am.aA (jh e.f e.args (Am.qx e)).isNone (Am.aA (Am.UE e) (Am.X9 e ((Am.run (Am.cB Tryz.prog ext jh) (Nat.succ 3999)).call e.f e.args (Am.qx e)))))) l=true):∀e∈l,Am.vE Tryz.prog e:=Am.abu mixed fZ (vF _) ho h
open Go.Proofs.YtocaiijbhepnnaaGreatDoor.Am in
noncomputable abbrev S (a b:Nat) (t:AV):AV:= .cons (.str ⟨a,b⟩) t
open Go.Proofs.YtocaiijbhepnnaaGreatDoor.Am in
noncomputable abbrev I (k:IntKind) (n:Nat) (t:AV):AV:= .cons (.int k (.ofNat n)) t
open Go.Proofs.YtocaiijbhepnnaaGreatDoor.Am in
noncomputable abbrev J (k:IntKind) (n:Nat):AV:= .int k (.ofNat n)
open Go.Proofs.YtocaiijbhepnnaaGreatDoor.Am in
noncomputable abbrev Q (b o n e:Nat) (t:AV):AV:= .cons (.slice b o n e false) t
open Go.Proofs.YtocaiijbhepnnaaGreatDoor.Am in
noncomputable abbrev F (t:AV):AV:= .cons (.bool false) t
open Go.Proofs.YtocaiijbhepnnaaGreatDoor.Am in
noncomputable abbrev T (t:AV):AV:= .cons (.bool true) t
open Go.Proofs.YtocaiijbhepnnaaGreatDoor.Am in
noncomputable abbrev Z (t:AV):AV:= .cons .jO t
abbrev OA (k:Am.Known):Prop:=Am.qw Tryz.prog [] k
end Go.Proofs.YtocaiijbhepnnaaGreatDoor.searchEach
