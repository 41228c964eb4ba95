/- FoldTitles's closed run: what the machine is told of the program. -/
import Derived.Test.YtocaiijbhepnnaaGreatDoorAm48
import Derived.Test.YtocaiijbhepnnaaGreatDoorProg
import GoSem.PinnedTables
namespace Go.Proofs.YtocaiijbhepnnaaGreatDoor.foldTitles
noncomputable def ext (f:Nat):Nat:=Bool.rec (Bool.rec (Bool.rec (Bool.rec 0 21 (Nat.beq f 355)) 3 (Nat.beq f 185)) 2 (Nat.beq f 325)) 1 (Nat.beq f 242)
def MZ:List Nat:=[0,0,0,0,0,0,0,0,0,1,1,1,1,1,0,0,0,0,0,0,0,0,0,0,0,0,0,0,0,0,0,0,1,0,0,0,0,0,0,0,0,0,0,0,0,0,0,0,0,0,0,0,0,0,0,0,0,0,0,0,0,0,0,0,0,0,0,0,0,0,0,0,0,0,0,0,0,0,0,0,0,0,0,0,0,0,0,0,0,0,0,0,0,0,0,0,0,0,0,0,0,0,0,0,0,0,0,0,0,0,0,0,0,0,0,0,0,0,0,0,0,0,0,0,0,0,0,0,0,0,0,0,0,0,0,0,0,0,0,0,0,0,0,0,0,0,0,0,0,0,0,0,0,0,0,0,0,0,0,0,0,0,0,0,0,0,0,0,0,0,0,0,0,0,0,0,0,0,0,0,0,0,0,0,0,0,0,0,0,0,0,0,0,0,0,0,0,0,0,0,0,0,0,0,0,0,0,0,0,0,0,0,0,0,0,0,0,0,0,0,0,0,0,0,0,0,0,0,0,0,0,0,0,0,0,0,0,0,0,0,0,0,0,0,0,0,0,0,0,0,0,0,0,0,0,0]
def rU:List Value:=MZ.map λn=> .int .u8 (.ofNat n)
def Yd:List Nat:=[128,191,160,191,128,159,144,191,128,143,0,0,0,0,0,0,0,0,0,0,0,0,0,0,0,0,0,0,0,0,0,0]
def jy:List Value:=Yd.map λn=> .int .u8 (.ofNat n)
def firstL:List Value:=Go.Pinned.utf8FirstZ.map λn=> .int .u8 (.ofNat n)
def wO:List (Nat×List Value):=[(0,rU)]
def ZY:List (Nat×List Value):=[(0,rU),(2,firstL),(3,jy)]
theorem mixed:Tryz.prog.follows .mixedOrders=true:=by kernel_rfl
theorem gV:Am.gV Tryz.prog=true:=by kernel_rfl
theorem abx:Am.yR Tryz.prog 242 Extern.BytealgCount.count:=⟨Tryz.f242,Tryz.func242,by kernel_rfl,by kernel_rfl,by kernel_rfl,by kernel_rfl⟩
theorem aby:Am.yR Tryz.prog 325 Extern.BytealgIndexByte.indexByte:=⟨Tryz.f325,Tryz.func325,by kernel_rfl,by kernel_rfl,by kernel_rfl,by kernel_rfl⟩
theorem abz:Am.yR Tryz.prog 185 Extern.AbiNoEscape.same:=⟨Tryz.f185,Tryz.func185,by kernel_rfl,by kernel_rfl,by kernel_rfl,by kernel_rfl⟩
theorem abA:∃ps rs t,rs[0]? =some t/\Tryz.prog.underlying t=some (.slice (ext 355-16))/\Am.yR Tryz.prog 355 (Extern.BytealgMakeNoZero.makeNoZero ps rs):=
 ⟨Tryz.f355.params,Tryz.f355.resultTypes,65,by kernel_rfl,by kernel_rfl,⟨Tryz.f355,Tryz.func355,by kernel_rfl,by kernel_rfl,by kernel_rfl,by kernel_rfl⟩⟩
theorem Cv (f:Nat):(ext f=1/\f=242)\/(ext f=2/\f=325)\/(ext f=3/\f=185)\/(ext f=21/\f=355)\/ext f=0:=by
 by_cases h0:f=242;·exact .inl ⟨by rw[h0];rfl,h0⟩
 by_cases h1:f=325;·exact .inr (.inl ⟨by rw[h1];rfl,h1⟩)
 by_cases h2:f=185;·exact .inr (.inr (.inl ⟨by rw[h2];rfl,h2⟩))
 by_cases h3:f=355;·exact .inr (.inr (.inr (.inl ⟨by rw[h3];rfl,h3⟩)))
 exact .inr (.inr (.inr (.inr (by
  unfold ext;rw[show Nat.beq f 242=false from by cases c:Nat.beq f 242 with|false=>rfl|true=>exact absurd (aI c) h0];rw[show Nat.beq f 325=false from by cases c:Nat.beq f 325 with|false=>rfl|true=>exact absurd (aI c) h1];rw[show Nat.beq f 185=false from by cases c:Nat.beq f 185 with|false=>rfl|true=>exact absurd (aI c) h2];rw[show Nat.beq f 355=false from by cases c:Nat.beq f 355 with|false=>rfl|true=>exact absurd (aI c) h3]))))
theorem Ee (iK:Nat->Am.AV->Am.H->Option Am.bB):Am.qw Tryz.prog (Am.dL Tryz.prog ext iK):=
 have e:∀f,(Am.dL Tryz.prog ext iK).ext f=ext f:=λ_=>rfl
 Am.aa6
  (λf h=>by
   rw[e]at h;rcases Cv f with⟨a,rfl⟩|⟨a,rfl⟩|⟨a,rfl⟩|⟨a,rfl⟩|a;·exact abx
   ·rw[a]at h;omega
   ·rw[a]at h;omega
   ·rw[a]at h;omega
   ·rw[a]at h;omega)
  (λf h=>by
   rw[e]at h;rcases Cv f with⟨a,rfl⟩|⟨a,rfl⟩|⟨a,rfl⟩|⟨a,rfl⟩|a;·rw[a]at h;omega
   ·exact aby
   ·rw[a]at h;omega
   ·rw[a]at h;omega
   ·rw[a]at h;omega)
  (λf h=>by
   rw[e]at h;rcases Cv f with⟨a,rfl⟩|⟨a,rfl⟩|⟨a,rfl⟩|⟨a,rfl⟩|a;·rw[a]at h;omega
   ·rw[a]at h;omega
   ·exact abz
   ·rw[a]at h;omega
   ·rw[a]at h;omega)
  (λf h=>by
   rw[e]at h;rcases Cv f with⟨a,rfl⟩|⟨a,rfl⟩|⟨a,rfl⟩|⟨a,rfl⟩|a;·rw[a]at h;omega
   ·rw[a]at h;omega
   ·rw[a]at h;omega
   ·exact abA
   ·rw[a]at h;omega)
noncomputable def ahE:Nat->Am.AV->Am.H->Option Am.bB:=Am.uf [] []
theorem xH:Am.gM Tryz.prog (Am.dL Tryz.prog ext ahE):=Am.lI Am.pY
theorem tokA:Am.xC []=true:=by kernel_rfl
theorem tokB:Am.xC wO=true:=by kernel_rfl
abbrev AA (l:List Am.Known):Prop:=∀e∈l,Am.oL Tryz.prog [] e
abbrev AB (l:List Am.Known):Prop:=∀e∈l,Am.oL Tryz.prog wO e
theorem oA {iK:Nat->Am.AV->Am.H->Option Am.bB} (ho:Am.gM Tryz.prog (Am.dL Tryz.prog ext iK)) {l:List Am.Known} (r:List (List Nat)) (h:Am.all2 (λ(e:Am.Known) R=>Am.aA (Am.fnOf Tryz.prog e.f).isSome (Am.aA (iK e.f e.args (Am.kV [])).isNone (Am.Uw e R ((Am.run (Am.dL Tryz.prog ext iK) (Nat.succ 3999)).call e.f e.args (Am.kV []))))) l r=true):AA l:=Am.Pf mixed gV (Ee _) ho tokA r h
theorem oB {iK:Nat->Am.AV->Am.H->Option Am.bB} (ho:Am.gM Tryz.prog (Am.dL Tryz.prog ext iK)) {l:List Am.Known} (r:List (List Nat)) (h:Am.all2 (λ(e:Am.Known) R=>Am.aA (Am.fnOf Tryz.prog e.f).isSome (Am.aA (iK e.f e.args (Am.kV wO)).isNone (Am.Uw e R ((Am.run (Am.dL Tryz.prog ext iK) (Nat.succ 3999)).call e.f e.args (Am.kV wO))))) l r=true):AB l:=Am.Pf mixed gV (Ee _) ho tokB r h
theorem oM {iK:Nat->Am.AV->Am.H->Option Am.bB} (ho:Am.gM Tryz.prog (Am.dL Tryz.prog ext iK)) {l:List Am.jk} (h:Am.Kr (λ(e:Am.jk)=>Am.aA (Am.fnOf Tryz.prog e.f).isSome (Am.aA (iK e.f e.args (Am.IU e)).isNone (Am.aA (Am.okM e) (Am.UC e ((Am.run (Am.dL Tryz.prog ext iK) (Nat.succ 3999)).call e.f e.args (Am.IU e)))))) l=true):∀e∈l,Am.xD Tryz.prog e:=Am.X8 mixed gV (Ee _) ho h
open Go.Proofs.YtocaiijbhepnnaaGreatDoor.Am in
noncomputable abbrev S (a b:Nat) (t:AV):AV:= .cons (.str ⟨a,b⟩) t
open Go.Proofs.YtocaiijbhepnnaaGreatDoor.Am in
noncomputable abbrev I (k:IntKind) (n:Nat) (t:AV):AV:= .cons (.int k (.ofNat n)) t
open Go.Proofs.YtocaiijbhepnnaaGreatDoor.Am in
noncomputable abbrev J (k:IntKind) (n:Nat):AV:= .int k (.ofNat n)
open Go.Proofs.YtocaiijbhepnnaaGreatDoor.Am in
noncomputable abbrev Q (b o n e:Nat) (t:AV):AV:= .cons (.slice b o n e false) t
open Go.Proofs.YtocaiijbhepnnaaGreatDoor.Am in
noncomputable abbrev F (t:AV):AV:= .cons (.bool false) t
open Go.Proofs.YtocaiijbhepnnaaGreatDoor.Am in
noncomputable abbrev T (t:AV):AV:= .cons (.bool true) t
open Go.Proofs.YtocaiijbhepnnaaGreatDoor.Am in
noncomputable abbrev Z (t:AV):AV:= .cons .jm t
abbrev OA (k:Am.Known):Prop:=Am.oL Tryz.prog [] k
