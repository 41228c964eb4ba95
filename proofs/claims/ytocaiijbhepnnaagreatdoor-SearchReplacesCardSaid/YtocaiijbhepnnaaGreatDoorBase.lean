/- SearchReplaces's closed run: what the machine is told of the program. -/
import Derived.Test.YtocaiijbhepnnaaGreatDoorAm48
import Derived.Test.YtocaiijbhepnnaaGreatDoorProg
import GoSem.PinnedTables
namespace Go.Proofs.YtocaiijbhepnnaaGreatDoor.searchReplaces
noncomputable def ext (f:Nat):Nat:=Bool.rec (Bool.rec (Bool.rec (Bool.rec 0 21 (Nat.beq f 355)) 3 (Nat.beq f 185)) 2 (Nat.beq f 325)) 1 (Nat.beq f 242)
def QA:List Nat:=[0,0,0,0,0,0,0,0,0,1,1,1,1,1,0,0,0,0,0,0,0,0,0,0,0,0,0,0,0,0,0,0,1,0,0,0,0,0,0,0,0,0,0,0,0,0,0,0,0,0,0,0,0,0,0,0,0,0,0,0,0,0,0,0,0,0,0,0,0,0,0,0,0,0,0,0,0,0,0,0,0,0,0,0,0,0,0,0,0,0,0,0,0,0,0,0,0,0,0,0,0,0,0,0,0,0,0,0,0,0,0,0,0,0,0,0,0,0,0,0,0,0,0,0,0,0,0,0,0,0,0,0,0,0,0,0,0,0,0,0,0,0,0,0,0,0,0,0,0,0,0,0,0,0,0,0,0,0,0,0,0,0,0,0,0,0,0,0,0,0,0,0,0,0,0,0,0,0,0,0,0,0,0,0,0,0,0,0,0,0,0,0,0,0,0,0,0,0,0,0,0,0,0,0,0,0,0,0,0,0,0,0,0,0,0,0,0,0,0,0,0,0,0,0,0,0,0,0,0,0,0,0,0,0,0,0,0,0,0,0,0,0,0,0,0,0,0,0,0,0,0,0,0,0,0,0]
def uD:List Value:=QA.map λn=> .int .u8 (.ofNat n)
def acf:List Nat:=[128,191,160,191,128,159,144,191,128,143,0,0,0,0,0,0,0,0,0,0,0,0,0,0,0,0,0,0,0,0,0,0]
def kE:List Value:=acf.map λn=> .int .u8 (.ofNat n)
def firstL:List Value:=Go.Pinned.utf8FirstZ.map λn=> .int .u8 (.ofNat n)
def yT:List (Nat×List Value):=[(0,uD)]
def aen:List (Nat×List Value):=[(0,uD),(2,firstL),(3,kE)]
theorem mixed:Tryz.prog.follows .mixedOrders=true:=by kernel_rfl
theorem gH:Am.gH Tryz.prog=true:=by kernel_rfl
theorem afX:Am.AO Tryz.prog 242 Extern.BytealgCount.count:=⟨Tryz.f242,Tryz.func242,by kernel_rfl,by kernel_rfl,by kernel_rfl,by kernel_rfl⟩
theorem afY:Am.AO Tryz.prog 325 Extern.BytealgIndexByte.indexByte:=⟨Tryz.f325,Tryz.func325,by kernel_rfl,by kernel_rfl,by kernel_rfl,by kernel_rfl⟩
theorem afZ:Am.AO Tryz.prog 185 Extern.AbiNoEscape.same:=⟨Tryz.f185,Tryz.func185,by kernel_rfl,by kernel_rfl,by kernel_rfl,by kernel_rfl⟩
theorem af0:∃ps rs t,rs[0]? =some t/\Tryz.prog.underlying t=some (.slice (ext 355-16))/\Am.AO Tryz.prog 355 (Extern.BytealgMakeNoZero.makeNoZero ps rs):=
 ⟨Tryz.f355.params,Tryz.f355.resultTypes,65,by kernel_rfl,by kernel_rfl,⟨Tryz.f355,Tryz.func355,by kernel_rfl,by kernel_rfl,by kernel_rfl,by kernel_rfl⟩⟩
theorem E8 (f:Nat):(ext f=1/\f=242)\/(ext f=2/\f=325)\/(ext f=3/\f=185)\/(ext f=21/\f=355)\/ext f=0:=by
 by_cases h0:f=242;·exact .inl ⟨by rw[h0];rfl,h0⟩
 by_cases h1:f=325;·exact .inr (.inl ⟨by rw[h1];rfl,h1⟩)
 by_cases h2:f=185;·exact .inr (.inr (.inl ⟨by rw[h2];rfl,h2⟩))
 by_cases h3:f=355;·exact .inr (.inr (.inr (.inl ⟨by rw[h3];rfl,h3⟩)))
 exact .inr (.inr (.inr (.inr (by
  unfold ext;rw[show Nat.beq f 242=false from by cases c:Nat.beq f 242 with|false=>rfl|true=>exact absurd (aO c) h0];rw[show Nat.beq f 325=false from by cases c:Nat.beq f 325 with|false=>rfl|true=>exact absurd (aO c) h1];rw[show Nat.beq f 185=false from by cases c:Nat.beq f 185 with|false=>rfl|true=>exact absurd (aO c) h2];rw[show Nat.beq f 355=false from by cases c:Nat.beq f 355 with|false=>rfl|true=>exact absurd (aO c) h3]))))
theorem vV (jD:Nat->Am.AV->Am.H->Option Am.bI):Am.pU Tryz.prog (Am.dh Tryz.prog ext jD):=
 have e:∀f,(Am.dh Tryz.prog ext jD).ext f=ext f:=λ_=>rfl
 Am.afA
  (λf h=>by
   rw[e]at h;rcases E8 f with⟨a,rfl⟩|⟨a,rfl⟩|⟨a,rfl⟩|⟨a,rfl⟩|a;·exact afX
   ·rw[a]at h;omega
   ·rw[a]at h;omega
   ·rw[a]at h;omega
   ·rw[a]at h;omega)
  (λf h=>by
   rw[e]at h;rcases E8 f with⟨a,rfl⟩|⟨a,rfl⟩|⟨a,rfl⟩|⟨a,rfl⟩|a;·rw[a]at h;omega
   ·exact afY
   ·rw[a]at h;omega
   ·rw[a]at h;omega
   ·rw[a]at h;omega)
  (λf h=>by
   rw[e]at h;rcases E8 f with⟨a,rfl⟩|⟨a,rfl⟩|⟨a,rfl⟩|⟨a,rfl⟩|a;·rw[a]at h;omega
   ·rw[a]at h;omega
   ·exact afZ
   ·rw[a]at h;omega
   ·rw[a]at h;omega)
  (λf h=>by
   rw[e]at h;rcases E8 f with⟨a,rfl⟩|⟨a,rfl⟩|⟨a,rfl⟩|⟨a,rfl⟩|a;·rw[a]at h;omega
   ·rw[a]at h;omega
   ·rw[a]at h;omega
   ·exact af0
   ·rw[a]at h;omega)
noncomputable def ano:Nat->Am.AV->Am.H->Option Am.bI:=Am.AU [] []
theorem zx:Am.gG Tryz.prog (Am.dh Tryz.prog ext ano):=Am.mq Am.qb
theorem tokA:Am.zu []=true:=by kernel_rfl
theorem tokB:Am.zu yT=true:=by kernel_rfl
abbrev AA (l:List Am.Known):Prop:=∀e∈l,Am.qO Tryz.prog [] e
abbrev AB (l:List Am.Known):Prop:=∀e∈l,Am.qO Tryz.prog yT e
theorem oA {jD:Nat->Am.AV->Am.H->Option Am.bI} (ho:Am.gG Tryz.prog (Am.dh Tryz.prog ext jD)) {l:List Am.Known} (r:List (List Nat)) (h:Am.all2 (λ(e:Am.Known) R=>Am.aA (Am.fnOf Tryz.prog e.f).isSome (Am.aA (jD e.f e.args (Am.j5 [])).isNone (Am.YI e R ((Am.run (Am.dh Tryz.prog ext jD) (Nat.succ 3999)).call e.f e.args (Am.j5 []))))) l r=true):AA l:=Am.Td mixed gH (vV _) ho tokA r h
theorem oB {jD:Nat->Am.AV->Am.H->Option Am.bI} (ho:Am.gG Tryz.prog (Am.dh Tryz.prog ext jD)) {l:List Am.Known} (r:List (List Nat)) (h:Am.all2 (λ(e:Am.Known) R=>Am.aA (Am.fnOf Tryz.prog e.f).isSome (Am.aA (jD e.f e.args (Am.j5 yT)).isNone (Am.YI e R ((Am.run (Am.dh Tryz.prog ext jD) (Nat.succ 3999)).call e.f e.args (Am.j5 yT))))) l r=true):AB l:=Am.Td mixed gH (vV _) ho tokB r h
theorem oM {jD:Nat->Am.AV->Am.H->Option Am.bI} (ho:Am.gG Tryz.prog (Am.dh Tryz.prog ext jD)) {l:List Am.jc} (h:Am.Nt (λ(e:Am.jc)=>Am.aA (Am.fnOf Tryz.prog e.f).isSome (Am.aA (jD e.f e.args (Am.qP e)).isNone (Am.aA (Am.Vk e) (Am.YM e ((Am.run (Am.dh Tryz.prog ext jD) (Nat.succ 3999)).call e.f e.args (Am.qP e)))))) l=true):∀e∈l,Am.vT Tryz.prog e:=Am.ab7 mixed gH (vV _) ho h
open Go.Proofs.YtocaiijbhepnnaaGreatDoor.Am in
noncomputable abbrev S (a b:Nat) (t:AV):AV:= .cons (.str ⟨a,b⟩) t
open Go.Proofs.YtocaiijbhepnnaaGreatDoor.Am in
noncomputable abbrev I (k:IntKind) (n:Nat) (t:AV):AV:= .cons (.int k (.ofNat n)) t
open Go.Proofs.YtocaiijbhepnnaaGreatDoor.Am in
noncomputable abbrev J (k:IntKind) (n:Nat):AV:= .int k (.ofNat n)
open Go.Proofs.YtocaiijbhepnnaaGreatDoor.Am in
noncomputable abbrev Q (b o n e:Nat) (t:AV):AV:= .cons (.slice b o n e false) t
open Go.Proofs.YtocaiijbhepnnaaGreatDoor.Am in
noncomputable abbrev F (t:AV):AV:= .cons (.bool false) t
open Go.Proofs.YtocaiijbhepnnaaGreatDoor.Am in
noncomputable abbrev T (t:AV):AV:= .cons (.bool true) t
open Go.Proofs.YtocaiijbhepnnaaGreatDoor.Am in
noncomputable abbrev Z (t:AV):AV:= .cons .jY t
abbrev OA (k:Am.Known):Prop:=Am.qO Tryz.prog [] k
