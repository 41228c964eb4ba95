/- SearchWide's closed run: what the machine is told of the program. -/
import Derived.Test.YtocaiijbhepnnaaGreatDoorAm48
import Derived.Test.YtocaiijbhepnnaaGreatDoorProg
import GoSem.PinnedTables
namespace Go.Proofs.YtocaiijbhepnnaaGreatDoor.searchWide
noncomputable def ext (f:Nat):Nat:=Bool.rec (Bool.rec (Bool.rec (Bool.rec 0 21 (Nat.beq f 355)) 3 (Nat.beq f 185)) 2 (Nat.beq f 325)) 1 (Nat.beq f 242)
def NR:List Nat:=[0,0,0,0,0,0,0,0,0,1,1,1,1,1,0,0,0,0,0,0,0,0,0,0,0,0,0,0,0,0,0,0,1,0,0,0,0,0,0,0,0,0,0,0,0,0,0,0,0,0,0,0,0,0,0,0,0,0,0,0,0,0,0,0,0,0,0,0,0,0,0,0,0,0,0,0,0,0,0,0,0,0,0,0,0,0,0,0,0,0,0,0,0,0,0,0,0,0,0,0,0,0,0,0,0,0,0,0,0,0,0,0,0,0,0,0,0,0,0,0,0,0,0,0,0,0,0,0,0,0,0,0,0,0,0,0,0,0,0,0,0,0,0,0,0,0,0,0,0,0,0,0,0,0,0,0,0,0,0,0,0,0,0,0,0,0,0,0,0,0,0,0,0,0,0,0,0,0,0,0,0,0,0,0,0,0,0,0,0,0,0,0,0,0,0,0,0,0,0,0,0,0,0,0,0,0,0,0,0,0,0,0,0,0,0,0,0,0,0,0,0,0,0,0,0,0,0,0,0,0,0,0,0,0,0,0,0,0,0,0,0,0,0,0,0,0,0,0,0,0,0,0,0,0,0,0]
def rO:List Value:=NR.map λn=> .int .u8 (.ofNat n)
def YU:List Nat:=[128,191,160,191,128,159,144,191,128,143,0,0,0,0,0,0,0,0,0,0,0,0,0,0,0,0,0,0,0,0,0,0]
def jB:List Value:=YU.map λn=> .int .u8 (.ofNat n)
def firstL:List Value:=Go.Pinned.utf8FirstZ.map λn=> .int .u8 (.ofNat n)
def wP:List (Nat×List Value):=[(0,rO)]
def aaP:List (Nat×List Value):=[(0,rO),(2,firstL),(3,jB)]
theorem mixed:Tryz.prog.follows .mixedOrders=true:=by kernel_rfl
theorem fC:Am.fC Tryz.prog=true:=by kernel_rfl
theorem acs:Am.yT Tryz.prog 242 Extern.BytealgCount.count:=⟨Tryz.f242,Tryz.func242,by kernel_rfl,by kernel_rfl,by kernel_rfl,by kernel_rfl⟩
theorem acu:Am.yT Tryz.prog 325 Extern.BytealgIndexByte.indexByte:=⟨Tryz.f325,Tryz.func325,by kernel_rfl,by kernel_rfl,by kernel_rfl,by kernel_rfl⟩
theorem acv:Am.yT Tryz.prog 185 Extern.AbiNoEscape.same:=⟨Tryz.f185,Tryz.func185,by kernel_rfl,by kernel_rfl,by kernel_rfl,by kernel_rfl⟩
theorem acw:∃ps rs t,rs[0]? =some t/\Tryz.prog.underlying t=some (.slice (ext 355-16))/\Am.yT Tryz.prog 355 (Extern.BytealgMakeNoZero.makeNoZero ps rs):=
 ⟨Tryz.f355.params,Tryz.f355.resultTypes,65,by kernel_rfl,by kernel_rfl,⟨Tryz.f355,Tryz.func355,by kernel_rfl,by kernel_rfl,by kernel_rfl,by kernel_rfl⟩⟩
theorem Db (f:Nat):(ext f=1/\f=242)\/(ext f=2/\f=325)\/(ext f=3/\f=185)\/(ext f=21/\f=355)\/ext f=0:=by
 by_cases h0:f=242;·exact .inl ⟨by rw[h0];rfl,h0⟩
 by_cases h1:f=325;·exact .inr (.inl ⟨by rw[h1];rfl,h1⟩)
 by_cases h2:f=185;·exact .inr (.inr (.inl ⟨by rw[h2];rfl,h2⟩))
 by_cases h3:f=355;·exact .inr (.inr (.inr (.inl ⟨by rw[h3];rfl,h3⟩)))
 exact .inr (.inr (.inr (.inr (by
  unfold ext;rw[show Nat.beq f 242=false from by cases c:Nat.beq f 242 with|false=>rfl|true=>exact absurd (aR c) h0];rw[show Nat.beq f 325=false from by cases c:Nat.beq f 325 with|false=>rfl|true=>exact absurd (aR c) h1];rw[show Nat.beq f 185=false from by cases c:Nat.beq f 185 with|false=>rfl|true=>exact absurd (aR c) h2];rw[show Nat.beq f 355=false from by cases c:Nat.beq f 355 with|false=>rfl|true=>exact absurd (aR c) h3]))))
theorem wQ (iP:Nat->Am.AV->Am.H->Option Am.bF):Am.mO Tryz.prog (Am.bY Tryz.prog ext iP):=
 have e:∀f,(Am.bY Tryz.prog ext iP).ext f=ext f:=λ_=>rfl
 Am.abY
  (λf h=>by
   rw[e]at h;rcases Db f with⟨a,rfl⟩|⟨a,rfl⟩|⟨a,rfl⟩|⟨a,rfl⟩|a;·exact acs
   ·rw[a]at h;omega
   ·rw[a]at h;omega
   ·rw[a]at h;omega
   ·rw[a]at h;omega)
  (λf h=>by
   rw[e]at h;rcases Db f with⟨a,rfl⟩|⟨a,rfl⟩|⟨a,rfl⟩|⟨a,rfl⟩|a;·rw[a]at h;omega
   ·exact acu
   ·rw[a]at h;omega
   ·rw[a]at h;omega
   ·rw[a]at h;omega)
  (λf h=>by
   rw[e]at h;rcases Db f with⟨a,rfl⟩|⟨a,rfl⟩|⟨a,rfl⟩|⟨a,rfl⟩|a;·rw[a]at h;omega
   ·rw[a]at h;omega
   ·exact acv
   ·rw[a]at h;omega
   ·rw[a]at h;omega)
  (λf h=>by
   rw[e]at h;rcases Db f with⟨a,rfl⟩|⟨a,rfl⟩|⟨a,rfl⟩|⟨a,rfl⟩|a;·rw[a]at h;omega
   ·rw[a]at h;omega
   ·rw[a]at h;omega
   ·exact acw
   ·rw[a]at h;omega)
noncomputable def ajb:Nat->Am.AV->Am.H->Option Am.bF:=Am.AL [] []
theorem xI:Am.fO Tryz.prog (Am.bY Tryz.prog ext ajb):=Am.lX Am.pY
theorem tokA:Am.xG []=true:=by kernel_rfl
theorem tokB:Am.xG wP=true:=by kernel_rfl
abbrev AA (l:List Am.Known):Prop:=∀e∈l,Am.oZ Tryz.prog [] e
abbrev AB (l:List Am.Known):Prop:=∀e∈l,Am.oZ Tryz.prog wP e
theorem oA {iP:Nat->Am.AV->Am.H->Option Am.bF} (ho:Am.fO Tryz.prog (Am.bY Tryz.prog ext iP)) {l:List Am.Known} (r:List (List Nat)) (h:Am.all2 (λ(e:Am.Known) R=>Am.aA (Am.fnOf Tryz.prog e.f).isSome (Am.aA (iP e.f e.args (Am.lu [])).isNone (Am.Vs e R ((Am.run (Am.bY Tryz.prog ext iP) (Nat.succ 3999)).call e.f e.args (Am.lu []))))) l r=true):AA l:=Am.P9 mixed fC (wQ _) ho tokA r h
theorem oB {iP:Nat->Am.AV->Am.H->Option Am.bF} (ho:Am.fO Tryz.prog (Am.bY Tryz.prog ext iP)) {l:List Am.Known} (r:List (List Nat)) (h:Am.all2 (λ(e:Am.Known) R=>Am.aA (Am.fnOf Tryz.prog e.f).isSome (Am.aA (iP e.f e.args (Am.lu wP)).isNone (Am.Vs e R ((Am.run (Am.bY Tryz.prog ext iP) (Nat.succ 3999)).call e.f e.args (Am.lu wP))))) l r=true):AB l:=Am.P9 mixed fC (wQ _) ho tokB r h
theorem oM {iP:Nat->Am.AV->Am.H->Option Am.bF} (ho:Am.fO Tryz.prog (Am.bY Tryz.prog ext iP)) {l:List Am.gW} (h:Am.Lb (λ(e:Am.gW)=>Am.aA (Am.fnOf Tryz.prog e.f).isSome (Am.aA (iP e.f e.args (Am.nA e)).isNone (Am.aA (Am.P6 e) (Am.Vx e ((Am.run (Am.bY Tryz.prog ext iP) (Nat.succ 3999)).call e.f e.args (Am.nA e)))))) l=true):∀e∈l,Am.xH Tryz.prog e:=Am.YP mixed fC (wQ _) ho h
open Go.Proofs.YtocaiijbhepnnaaGreatDoor.Am in
noncomputable abbrev S (a b:Nat) (t:AV):AV:= .cons (.str ⟨a,b⟩) t
open Go.Proofs.YtocaiijbhepnnaaGreatDoor.Am in
noncomputable abbrev I (k:IntKind) (n:Nat) (t:AV):AV:= .cons (.int k (.ofNat n)) t
open Go.Proofs.YtocaiijbhepnnaaGreatDoor.Am in
noncomputable abbrev J (k:IntKind) (n:Nat):AV:= .int k (.ofNat n)
open Go.Proofs.YtocaiijbhepnnaaGreatDoor.Am in
noncomputable abbrev Q (b o n e:Nat) (t:AV):AV:= .cons (.slice b o n e false) t
open Go.Proofs.YtocaiijbhepnnaaGreatDoor.Am in
noncomputable abbrev F (t:AV):AV:= .cons (.bool false) t
open Go.Proofs.YtocaiijbhepnnaaGreatDoor.Am in
noncomputable abbrev T (t:AV):AV:= .cons (.bool true) t
open Go.Proofs.YtocaiijbhepnnaaGreatDoor.Am in
noncomputable abbrev Z (t:AV):AV:= .cons .jq t
abbrev OA (k:Am.Known):Prop:=Am.oZ Tryz.prog [] k
