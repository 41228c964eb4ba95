/- SearchEach, the rules of words and letters; the document's Every and All of texts. -/
import Derived.Test.YtocaiijbhepnnaaGreatDoorHE
import Derived.Test.YtocaiijbhepnnaaGreatDoorGC
import Derived.Test.YtocaiijbhepnnaaGreatDoorFJ
import Derived.Test.YtocaiijbhepnnaaGreatDoorHB
import Derived.Test.YtocaiijbhepnnaaGreatDoorGB
import Derived.BigQuiet
import Derived.Test.YtocaiijbhepnnaaGreatDoorHA
set_option maxRecDepth 100000
set_option maxHeartbeats 8000000
namespace Go.Proofs.YtocaiijbhepnnaaGreatDoor.searchEach
open Go.Shelf Go.RowKit Go.Lib Go.Proofs.YtocaiijbhepnnaaGreatDoor.Am
section
open KX
theorem pV (c:List Int) (n:Nat):∀k,k≤n→dw (c.take n) k=dw c k
 |0,_=>rfl
 |k+1,h=>by rw[dw,dw,takeD c (show k<n by omega),pV c n k (by omega)]
theorem Bz (c:List Int) {n:Nat} {x:Int} (h:x<n) (hn:n≤c.length):iF (c.take n) x=iF c x:=by
 unfold iF;rw[gH,zD hn];by_cases e:x<0;·rw[ak (.inl e),ak (.inl e)]
 ·rw[aj (by omega),aj (by omega),takeD c (by omega)]
theorem DI (c:List Int) {n:Nat} {x:Int} (h:x≤n):eF (c.take n) x=eF c x:=by
 unfold eF;split;·exact pV c n _ (by omega)
 ·rfl
theorem JD (c:List Int) (x:Int):eF c x<x:=by
 unfold eF;split;·have:=(kK c x.toNat).2;omega
 ·omega
theorem JE (c:List Int) {n:Nat} (hn:n≤c.length):∀(f:Nat) (x:Int),x<n→vN (c.take n) f x=vN c f x
 |0,_,_=>rfl
 |f+1,x,h=>by have:=JD c x;rw[vN,vN,Bz c h hn,DI c (by omega),JE c hn f _ (by omega)]
theorem l6 (A:List Nat) (h:(A.all fun y=> !cK y)=true):Apart A:=by rintro x ⟨y,hy,rfl⟩;have:=fU.1 h y hy;exact⟨by simpa using this,by omega⟩
theorem Q9 (A:List Nat) (d:List Int) (h:0<d.length):(∃i,aS (pS A) d i d.length)↔Mem A (d.getD (d.length-1) 0):=by
 constructor;·rintro⟨i,e⟩;obtain⟨e1,e2,e3⟩:=(dD _ _ _ _).1 e;rwa [e2,qm]
 ·intro e;exact⟨d.length-1,(dD _ _ _ _).2 ⟨by omega,by omega,e⟩⟩
theorem ZX (d:List Int):∃i,aS p0 d i d.length:=⟨d.length,(vQ _ _ _ _ _).2 ⟨ay _,rfl⟩⟩
theorem Tz (d:List Int):∃k,aS p0 d 0 k:=⟨0,(vQ _ _ _ _ _).2 ⟨aH _,rfl⟩⟩
def dG:List PR:=[
 ⟨false,false,false,pS [1],pS [2]⟩,
 ⟨true,false,false,pS [1,2,3],p0⟩,
 ⟨true,false,false,p0,pS [1,2,3]⟩,
 ⟨false,false,false,pS [5],pS [19]⟩,
 ⟨false,false,false,pS [18],pS [18]⟩,
 ⟨false,false,false,p0,pS [4,5,6]⟩,
 ⟨false,false,false,pT [pS [9,10],pX],pS [9,10]⟩,
 ⟨false,false,false,pT [pS [9,10],pX],pT [pS [11,13,14],pX,pS [9,10]]⟩,
 ⟨false,false,false,pT [pS [9,10],pX,pS [11,13,14],pX],pS [9,10]⟩,
 ⟨false,false,false,pT [pS [9],pX],pS [11]⟩,
 ⟨false,false,false,pT [pS [9],pX],pT [pS [12],pX,pS [9]]⟩,
 ⟨false,false,false,pT [pS [9],pX,pS [12],pX],pS [9]⟩,
 ⟨false,false,false,pT [pS [16],pX],pS [16]⟩,
 ⟨false,false,false,pT [pS [9,10],pX],pS [16]⟩,
 ⟨false,false,false,pT [pS [16],pX],pS [9,10]⟩,
 ⟨false,false,false,pT [pS [16],pX,pS [11,13,15],pX],pS [16]⟩,
 ⟨false,false,false,pT [pS [16],pX],pT [pS [11,13,15],pX,pS [16]]⟩,
 ⟨false,false,false,pT [pS [8],pX],pS [8]⟩,
 ⟨false,false,false,pT [pS [8,9,10,16,17],pX],pS [17]⟩,
 ⟨false,false,false,pT [pS [17],pX],pS [8,9,10,16]⟩,
 ⟨false,true,false,pR1,pS [7]⟩,
 ⟨false,false,false,pR2,pS [7]⟩]
section
variable {c:List Int} {n:Nat} (h2:n<c.length)
include h2
theorem take_len:(c.take n).length=n:=by rw[gH];omega
theorem dM {b:Bool} {L R:PT} {P Q:Prop} (hL:(∃i,aS L (c.take n) i (c.take n).length)↔P) (hR:(∃k,aS R (c.drop n) 0 k)↔Q):vV ⟨b,false,false,L,R⟩ c n↔P∧Q:=by rw[take_len h2]at hL;unfold vV;rw[hL,hR];exact⟨fun h=>⟨h.1,h.2.1⟩,fun h=>⟨h.1,h.2,(fun e=>by cases e),(fun e=>by cases e)⟩⟩
theorem lS (h1:1≤n) (A:List Nat):(∃i,aS (pS A) (c.take n) i (c.take n).length)↔Mem A (c.getD (n-1) 0):=by rw[Q9 A _ (by rw[take_len h2];omega),take_len h2,takeD c (by omega)]
theorem l1 {A:List Nat} (hA:Apart A):(∃i,aS (pT [pS A,pX]) (c.take n) i (c.take n).length)↔Mem A (iF c (dw c n)):=by rw[af7 hA,take_len h2,pV c n n (ay _),Bz c (kK c n).2 (by omega)]
theorem l2 {A B:List Nat} (hA:Apart A) (hB:Apart B):(∃i,aS (pT [pS A,pX,pS B,pX]) (c.take n) i (c.take n).length)↔Mem B (iF c (dw c n))∧Mem A (iF c (eF c (dw c n))):=by have e:=(kK c n).2;have g:=JD c (dw c n);rw[af8 hA hB,take_len h2,pV c n n (ay _),Bz c e (by omega),DI c (by omega),Bz c (by omega) (by omega)]
theorem rS (B:List Nat):(∃k,aS (pS B) (c.drop n) 0 k)↔Mem B (c.getD n 0):=Li B c n h2
theorem r2 (B:List Nat) {A:List Nat} (hA:Apart A):(∃k,aS (pT [pS B,pX,pS A]) (c.drop n) 0 k)↔Mem B (c.getD n 0)∧Mem A (D6 c n):=acQ hA c n h2
theorem acT (hd:∀j,j<c.length→0≤c.getD j 0∧c.getD j 0≤19):(aS pR1 (c.take n) 0 n∨∃i,aS pR2 (c.take n) i n)↔Qu c n%2=1:=by have hl:=take_len h2;have:=ZN (d:=c.take n) (fun j hj=>by rw[takeD c (by omega)];exact hd j (by omega)) (f:=n+1) (by omega);rw[hl]at this;rw[this];unfold Qu;rw[pV c n n (ay _),JE c (by omega) _ _ (kK c n).2,uo]
end
section
variable (x:Int)
theorem m1 (k:Nat):Mem [k] x↔(x==(k:Int))=true:=by unfold Mem;simp only[fE,mI,bL];omega
theorem anQ:Mem [1,2,3] x↔vM x=true:=by unfold Mem vM;simp only[aU,lH,jD,pz,mI,cu,bL];omega
theorem anR:Mem [9,10] x↔rU x=true:=by unfold Mem rU;simp only[aU,lH,jD,pz,mI,cu,bL];omega
theorem anS:Mem [11,13,14] x↔Ns x=true:=by unfold Mem Ns;simp only[aU,lH,jD,pz,mI,cu,bL];omega
theorem anT:Mem [11,13,15] x↔Nt x=true:=by unfold Mem Nt;simp only[aU,lH,jD,pz,mI,cu,bL];omega
theorem aju:Mem [8,9,10,16] x↔yC x=true:=by unfold Mem yC rU;simp only[aU,lH,jD,pz,mI,cu,bL];omega
theorem agc:Mem [8,9,10,16,17] x↔(yC x||x==17)=true:=by unfold Mem yC rU;simp only[aU,lH,jD,pz,mI,cu,bL];omega
end
theorem ZY {a b:Bool}:a=true∨b=true→(a||b)=true:=fun h=>by rcases h with rfl|rfl<;>simp
theorem Z0 {c:List Int} {n:Nat} (h1:1≤n) (h2:n<c.length) (hd:∀j,j<c.length→0≤c.getD j 0∧c.getD j 0≤19) {b:Bool} (h:fK true c n b dG):b=Gp c n:=by
 have VQ:Apart [9,10]:=l6 _ rfl;have h9:Apart [9]:=l6 _ rfl;have h12:Apart [12]:=l6 _ rfl;have h16:Apart [16]:=l6 _ rfl;have h8:Apart [8]:=l6 _ rfl;have h17:Apart [17]:=l6 _ rfl;have hW:Apart [11,13,14]:=l6 _ rfl;have hN:Apart [11,13,15]:=l6 _ rfl;have hJ:Apart [8,9,10,16,17]:=l6 _ rfl;have L0:(∃i,aS p0 (c.take n) i (c.take n).length)↔True:=⟨fun _=>trivial,fun _=>ZX _⟩
 have R0:(∃k,aS p0 (c.drop n) 0 k)↔True:=⟨fun _=>trivial,fun _=>Tz _⟩
 have odd:=acT h2 hd;have a21:vV ⟨false,true,false,pR1,pS [7]⟩ c n↔aS pR1 (c.take n) 0 n∧Mem [7] (c.getD n 0):=by unfold vV;rw[rS h2];exact⟨fun h=>⟨h.2.2.1 rfl,h.2.1⟩,fun h=>⟨⟨0,h.1⟩,h.2,(fun _=>h.1),(fun e=>by cases e)⟩⟩
 have a22:vV ⟨false,false,false,pR2,pS [7]⟩ c n↔(∃i,aS pR2 (c.take n) i n)∧Mem [7] (c.getD n 0):=by have:=dM h2 (b:=false) (L:=pR2) (R:=pS [7]) Iff.rfl (rS h2 [7]);rwa [take_len h2]at this
 unfold dG at h;simp only[fK]at h;rw[dM h2 (lS h2 h1 _) (rS h2 _),dM h2 (lS h2 h1 _) R0,dM h2 L0 (rS h2 _),dM h2 (lS h2 h1 _) (rS h2 _),dM h2 (lS h2 h1 _) (rS h2 _),dM h2 L0 (rS h2 _),
  dM h2 (l1 h2 VQ) (rS h2 _),dM h2 (l1 h2 VQ) (r2 h2 _ VQ),dM h2 (l2 h2 VQ hW) (rS h2 _),dM h2 (l1 h2 h9) (rS h2 _),dM h2 (l1 h2 h9) (r2 h2 _ h9),
  dM h2 (l2 h2 h9 h12) (rS h2 _),dM h2 (l1 h2 h16) (rS h2 _),dM h2 (l1 h2 VQ) (rS h2 _),dM h2 (l1 h2 h16) (rS h2 _),dM h2 (l2 h2 h16 hN) (rS h2 _),dM h2 (l1 h2 h16) (r2 h2 _ h16),
  dM h2 (l1 h2 h8) (rS h2 _),dM h2 (l1 h2 hJ) (rS h2 _),dM h2 (l1 h2 h17) (rS h2 _),a21,a22]at h
 simp only[m1,anQ,anR,anS,anT,aju,agc,GV]at h;unfold Gp;generalize Qu c n=R at*
 generalize c.getD (n-1) 0=x at*
 generalize c.getD n 0=y at*
 generalize iF c (eF c (dw c n))=z at*
 generalize iF c (dw c n)=a at*
 generalize D6 c n=m at*
 generalize aS pR1 (c.take n) 0 n=P1 at*
 generalize(∃i,aS pR2 (c.take n) i n)=P2 at*
 clear hd h1 h2 a21 a22 L0 R0 VQ h9 h12 h16 h8 h17 hW hN hJ;unfold afz;rcases h with⟨⟨e1,e2⟩,rfl⟩|⟨n1,h⟩
 ·rw[ak (by rw[show(x==1)=true from e1,show(y==2)=true from e2];rfl)]
 rw[aj (by rw[aP];exact n1)];rcases h with⟨⟨e1,_⟩,rfl⟩|⟨n2,h⟩
 ·rw[ak (ZY (.inl e1))]
 rcases h with⟨⟨_,e1⟩,rfl⟩|⟨n3,h⟩
 ·rw[ak (ZY (.inr e1))]
 rw[aj (by rw[cu];rintro(e|e);exact n2 ⟨e,trivial⟩;exact n3 ⟨trivial,e⟩)];rcases h with⟨⟨e1,e2⟩,rfl⟩|⟨n4,h⟩
 ·rw[ak (by rw[show(x==5)=true from e1,show(y==19)=true from e2];rfl)]
 rw[aj (by rw[aP];exact n4)];rcases h with⟨⟨e1,e2⟩,rfl⟩|⟨n5,h⟩
 ·rw[ak (by rw[show(x==18)=true from e1,show(y==18)=true from e2];rfl)]
 rw[aj (by rw[aP];exact n5)];rcases h with⟨⟨_,e1⟩,rfl⟩|⟨n6,h⟩
 ·rw[ak e1]
 rw[aj (fun e=>n6 ⟨trivial,e⟩)];clear n1 n2 n3 n4 n5 n6;by_cases hl:lM z a y m=true
 ·rw[ak hl];rcases h with⟨_,rfl⟩|⟨n7,h⟩
  ·rfl
  rcases h with⟨_,rfl⟩|⟨n8,h⟩
  ·rfl
  rcases h with⟨_,rfl⟩|⟨n9,h⟩
  ·rfl
  rcases h with⟨_,rfl⟩|⟨n10,h⟩
  ·rfl
  rcases h with⟨_,rfl⟩|⟨n11,h⟩
  ·rfl
  rcases h with⟨_,rfl⟩|⟨n12,h⟩
  ·rfl
  rcases h with⟨_,rfl⟩|⟨n13,h⟩
  ·rfl
  rcases h with⟨_,rfl⟩|⟨n14,h⟩
  ·rfl
  rcases h with⟨_,rfl⟩|⟨n15,h⟩
  ·rfl
  rcases h with⟨_,rfl⟩|⟨n16,h⟩
  ·rfl
  rcases h with⟨_,rfl⟩|⟨n17,h⟩
  ·rfl
  rcases h with⟨_,rfl⟩|⟨n18,h⟩
  ·rfl
  rcases h with⟨_,rfl⟩|⟨n19,h⟩
  ·rfl
  rcases h with⟨_,rfl⟩|⟨n20,h⟩
  ·rfl
  exfalso;unfold lM l1F l2F l3F h1F h2F h3F d1F d2F n1F n2F U6 at hl;simp only[cu,aP]at hl n19;rcases hl with(((((((((hl|hl)|hl)|hl)|hl)|hl)|hl)|hl)|hl)|hl)|((hl|hl)|hl)
  ·exact n7 hl
  ·exact n8 ⟨hl.1.1,hl.1.2,hl.2⟩
  ·exact n9 ⟨⟨hl.1.2,hl.1.1⟩,hl.2⟩
  ·exact n10 hl
  ·exact n11 ⟨hl.1.1,hl.1.2,hl.2⟩
  ·exact n12 ⟨⟨hl.1.2,hl.1.1⟩,hl.2⟩
  ·rcases hl with⟨e1,e2|e2⟩
   ·exact n13 ⟨e1,e2⟩
   ·exact n15 ⟨e1,e2⟩
  ·exact n14 hl
  ·exact n16 ⟨⟨hl.1.2,hl.1.1⟩,hl.2⟩
  ·exact n17 ⟨hl.1.1,hl.1.2,hl.2⟩
  ·exact n18 hl
  ·exact n19 hl
  ·exact n20 hl
 ·rw[aj hl];unfold lM l1F l2F l3F h1F h2F h3F d1F d2F n1F n2F U6 at hl;simp only[cu,aP,not_or]at hl;obtain⟨⟨⟨⟨⟨⟨⟨⟨⟨⟨q1,q2⟩,q3⟩,q4⟩,q5⟩,q6⟩,q7⟩,q8⟩,q9⟩,q10⟩,⟨⟨q11,q12⟩,q13⟩⟩:=hl;rcases h with⟨e,rfl⟩|⟨_,h⟩
  ·exact absurd e q1
  rcases h with⟨e,rfl⟩|⟨_,h⟩
  ·exact absurd ⟨⟨e.1,e.2.1⟩,e.2.2⟩ q2
  rcases h with⟨e,rfl⟩|⟨_,h⟩
  ·exact absurd ⟨⟨e.1.2,e.1.1⟩,e.2⟩ q3
  rcases h with⟨e,rfl⟩|⟨_,h⟩
  ·exact absurd e q4
  rcases h with⟨e,rfl⟩|⟨_,h⟩
  ·exact absurd ⟨⟨e.1,e.2.1⟩,e.2.2⟩ q5
  rcases h with⟨e,rfl⟩|⟨_,h⟩
  ·exact absurd ⟨⟨e.1.2,e.1.1⟩,e.2⟩ q6
  rcases h with⟨e,rfl⟩|⟨_,h⟩
  ·exact absurd ⟨e.1, .inl e.2⟩ q7
  rcases h with⟨e,rfl⟩|⟨_,h⟩
  ·exact absurd e q8
  rcases h with⟨e,rfl⟩|⟨_,h⟩
  ·exact absurd ⟨e.1, .inr e.2⟩ q7
  rcases h with⟨e,rfl⟩|⟨_,h⟩
  ·exact absurd ⟨⟨e.1.2,e.1.1⟩,e.2⟩ q9
  rcases h with⟨e,rfl⟩|⟨_,h⟩
  ·exact absurd ⟨⟨e.1,e.2.1⟩,e.2.2⟩ q10
  rcases h with⟨e,rfl⟩|⟨_,h⟩
  ·exact absurd e q11
  rcases h with⟨e,rfl⟩|⟨_,h⟩
  ·exact absurd ⟨by simpa using e.1,e.2⟩ q12
  rcases h with⟨e,rfl⟩|⟨_,h⟩
  ·exact absurd e q13
  rcases h with⟨⟨e,e7⟩,rfl⟩|⟨n21,h⟩
  ·have:=odd.1 (.inl e);rw[show(y==7)=true from e7,this];rfl
  rcases h with⟨⟨e,e7⟩,rfl⟩|⟨n22,rfl⟩
  ·have:=odd.1 (.inr e);rw[show(y==7)=true from e7,this];rfl
  by_cases g:(y==7)=true
  ·rw[g];have:¬R%2=1:=fun k=>by
    rcases odd.2 k with e|e;·exact n21 ⟨e,g⟩
    ·exact n22 ⟨e,g⟩
   have:R%2=0:=by omega
   rw[this];rfl
  ·rw[Bool.not_eq_true]at g;rw[g];rfl
end
section
open KX
def pO (l:List PT):PT:= .node 3 [] l
def TA:PT:= .node 4 [] [pT [pS [13],pS [13]]]
def TD:PT:=pO [pS [1],pS [2],pS [3]]
def DJ:List Nat:=[0,1,2,3,4,5,6,7,8,9,10,11,12]
def su:List PR:=[
 ⟨false,false,false,pS [1],pS [2]⟩,
 ⟨true,false,false,TD,p0⟩,
 ⟨true,false,false,p0,TD⟩,
 ⟨false,false,false,pS [8],pO [pS [8],pS [9],pS [11]]⟩,
 ⟨false,false,false,pO [pS [9],pS [11]],pO [pS [9],pS [10]]⟩,
 ⟨false,false,false,pS [10],pS [10]⟩,
 ⟨false,false,false,p0,pO [pS [4],pS [5],pS [6]]⟩,
 ⟨false,false,false,pS [7],p0⟩,
 ⟨false,false,false,pT [pS [12], .node 4 [] [pS [4]],pS [5]],pS [12]⟩,
 ⟨false,true,false,pT [TA,pS [13]],pS [13]⟩,
 ⟨false,false,false,pT [pS DJ,TA,pS [13]],pS [13]⟩]
def Eb (c:List Int):Nat→Bool
 |0=>false
 |n+1=>c.getD n 0==12||(Eb c n&&c.getD n 0==4)
def Ra (c:List Int):Nat→Bool
 |0=>false
 |n+1=>Eb c n&&c.getD n 0==5
def flF (c:List Int):Nat→Nat
 |0=>0
 |n+1=>if c.getD n 0=13 then flF c n+1 else 0
def DK (c:List Int) (n:Nat):Bool:= !(qQ (c.getD (n-1) 0) (c.getD n 0)||(Ra c n&&c.getD n 0==12)||(c.getD n 0==13&&flF c n%2==1))
theorem OG (A:List Nat) (d:List Int) {i k:Nat} (hi:i≤d.length):aS (.node 4 [] [pS A]) d i k↔i≤k∧k≤d.length∧∀j,i≤j→j<k→Mem A (d.getD j 0):=by
 rw[mK _ _ _ _ _ hi];constructor
 ·intro h;induction h with
  |nil=>exact⟨ay _,hi,fun j h1 h2=>by omega⟩
  |snoc _ s ih=>
   obtain⟨h1,h2,h3⟩:=(dD _ _ _ _).1 s;subst h2;refine⟨by omega,by omega,fun j e1 e2=> ?_⟩;rename_i m _;by_cases c:j<m;·exact ih.2.2 j e1 c
   ·obtain rfl:j=m:=by omega
    exact h3
 ·rintro⟨h1,h2,h3⟩;obtain⟨m,rfl⟩:∃m,k=i+m:=⟨k-i,by omega⟩
  clear h1;induction m with
  |zero=>exact .nil
  |succ m ih=>exact .snoc (ih (by omega) fun j e1 e2=>h3 j e1 (by omega)) ((dD _ _ _ _).2 ⟨by omega,by omega,h3 _ (by omega) (by omega)⟩)
theorem Ll (c:List Int):∀n,Eb c n=true↔∃m,m<n∧c.getD m 0=12∧∀j,m<j→j<n→c.getD j 0=4
 |0=>⟨fun h=>(by cases h),fun⟨m,h,_⟩=>absurd h (iN m)⟩
 |n+1=>by
  rw[Eb,cu,aP,Ll c n,bL,bL];constructor
  ·rintro(h|⟨⟨m,h1,h2,h3⟩,h4⟩)
   ·exact⟨n,kD n,h,fun j e1 e2=>by omega⟩
   ·refine⟨m,by omega,h2,fun j e1 e2=> ?_⟩;rcases aK j n with e|e
    ·exact h3 j e1 e
    ·obtain rfl:j=n:=by omega
     exact h4
  ·rintro⟨m,h1,h2,h3⟩;rcases aK m n with e|e
   ·exact .inr ⟨⟨m,e,h2,fun j e1 e2=>h3 j e1 (by omega)⟩,h3 n e (kD n)⟩
   ·obtain rfl:m=n:=by omega
    exact .inl h2
theorem Wh (k:Nat) (x:Int):Mem [k] x↔x=(k:Int):=by rw[m1,bL]
theorem agd (d:List Int):(∃i,aS (pT [pS [12], .node 4 [] [pS [4]],pS [5]]) d i d.length)↔Ra d d.length=true:=by
 constructor;·rintro⟨i,h⟩;obtain⟨_,j,h1,k,h2,m,h3,e⟩:=(bE _ _ _ _ _).1 h;cases e;obtain⟨a1,rfl,a2⟩:=(dD _ _ _ _).1 h1;obtain⟨b1,b2,b3⟩:=(OG _ d (by omega)).1 h2;obtain⟨c1,c2,c3⟩:=(dD _ _ _ _).1 h3;rw[c2,Ra,aP,bL,Ll];exact⟨⟨i,by omega,(Wh 12 _).1 a2,fun j e1 e2=>(Wh 4 _).1 (b3 j e1 e2)⟩,(Wh 5 _).1 c3⟩
 ·intro h;obtain⟨n,hn⟩:∃n,d.length=n:=⟨_,rfl⟩
  rw[hn]at h⊢;cases n with
  |zero=>cases h
  |succ n=>rw[Ra,aP,bL,Ll]at h;obtain⟨⟨m,h1,h2,h3⟩,h4⟩:=h;exact⟨m,(bE _ _ _ _ _).2 ⟨by omega,m+1,(dD _ _ _ _).2 ⟨by omega,rfl,(Wh 12 _).2 h2⟩,n,(OG _ d (by omega)).2 ⟨h1,by omega,fun j e1 e2=>(Wh 4 _).2 (h3 j e1 e2)⟩,n+1,(dD _ _ _ _).2 ⟨by omega,rfl,(Wh 5 _).2 h4⟩,rfl⟩⟩
theorem fl_pair {d:List Int} {i k:Nat}:aS (pT [pS [13],pS [13]]) d i k↔k=i+2∧k≤d.length∧d.getD i 0=13∧d.getD (i+1) 0=13:=by
 constructor;·intro h;obtain⟨_,j,h1,m,h2,e⟩:=(bE _ _ _ _ _).1 h;cases e;obtain⟨a1,rfl,a2⟩:=(dD _ _ _ _).1 h1;obtain⟨b1,b2,b3⟩:=(dD _ _ _ _).1 h2;exact⟨b2,by omega,(Wh 13 _).1 a2,(Wh 13 _).1 b3⟩
 ·rintro⟨rfl,h1,h2,h3⟩;exact(bE _ _ _ _ _).2 ⟨by omega,i+1,(dD _ _ _ _).2 ⟨by omega,rfl,(Wh 13 _).2 h2⟩,i+2,(dD _ _ _ _).2 ⟨by omega,rfl,(Wh 13 _).2 h3⟩,rfl⟩
theorem fl_star {d:List Int} {i k:Nat} (hi:i≤d.length):aS TA d i k↔i≤k∧k≤d.length∧(k-i)%2=0∧∀j,i≤j→j<k→d.getD j 0=13:=by
 unfold TA;rw[mK _ _ _ _ _ hi];constructor
 ·intro h;induction h with
  |nil=>exact⟨ay _,hi,by omega,fun j h1 h2=>by omega⟩
  |snoc _ s ih=>
   obtain⟨rfl,h1,h2,h3⟩:=fl_pair.1 s;rename_i m _;refine⟨by omega,h1,by omega,fun j e1 e2=> ?_⟩;rcases kW j m with c|rfl|c;·exact ih.2.2.2 j e1 c
   ·exact h2
   ·obtain rfl:j=m+1:=by omega
    exact h3
 ·rintro⟨h1,h2,h3,h4⟩;obtain⟨m,rfl⟩:∃m,k=i+2*m:=⟨(k-i)/2,by omega⟩
  clear h1 h3;induction m with
  |zero=>exact .nil
  |succ m ih=>exact .snoc (ih (by omega) fun j e1 e2=>h4 j e1 (by omega)) (fl_pair.2 ⟨by omega,by omega,h4 _ (by omega) (by omega),h4 _ (by omega) (by omega)⟩)
theorem fl_all {d:List Int} {i:Nat} (hi:i≤d.length):jS [TA,pS [13]] d i d.length↔(d.length-i)%2=1∧∀j,i≤j→j<d.length→d.getD j 0=13:=by
 constructor
 ·rintro⟨a,h1,b,h2,e⟩;cases e;obtain⟨a1,a2,a3,a4⟩:=(fl_star hi).1 h1;obtain⟨b1,b2,b3⟩:=(dD _ _ _ _).1 h2;refine⟨by omega,fun j e1 e2=> ?_⟩;rcases aK j a with c|c
  ·exact a4 j e1 c
  ·obtain rfl:j=a:=by omega
   exact(Wh 13 _).1 b3
 ·rintro⟨h1,h2⟩;exact⟨d.length-1,(fl_star hi).2 ⟨by omega,by omega,by omega,fun j e1 e2=>h2 j e1 (by omega)⟩,d.length,(dD _ _ _ _).2 ⟨by omega,by omega,(Wh 13 _).2 (h2 _ (by omega) (by omega))⟩,rfl⟩
theorem fl_spec (c:List Int):∀n,flF c n≤n∧(∀j,n-flF c n≤j→j<n→c.getD j 0=13)∧(flF c n=n∨c.getD (n-flF c n-1) 0≠13)
 |0=>⟨ay _,fun j h1 h2=>by omega, .inl rfl⟩
 |n+1=>by
  obtain⟨h1,h2,h3⟩:=fl_spec c n;rw[flF];by_cases e:c.getD n 0=13
  ·rw[ak e];refine⟨by omega,fun j a1 a2=> ?_,?_⟩
   ·rcases aK j n with g|g
    ·exact h2 j (by omega) g
    ·obtain rfl:j=n:=by omega
     exact e
   ·rcases h3 with h3|h3
    ·exact .inl (by omega)
    ·exact .inr (by rw[show n+1-(flF c n+1)-1=n-flF c n-1 by omega];exact h3)
  ·rw[aj e];exact⟨by omega,fun j a1 a2=>by omega, .inr e⟩
theorem JF {x:Int} (h0:0≤x) (h1:x≤13):Mem DJ x↔x≠13:=by unfold Mem DJ;simp only[aU,lH,jD,pz,mI];omega
theorem fl_odd {d:List Int} (hd:∀j,j<d.length→0≤d.getD j 0∧d.getD j 0≤13):(aS (pT [TA,pS [13]]) d 0 d.length∨∃i,aS (pT [pS DJ,TA,pS [13]]) d i d.length)↔flF d d.length%2=1:=by
 obtain⟨e1,e2,e3⟩:=fl_spec d d.length;constructor
 ·rintro(h|⟨i,h⟩)
  ·obtain⟨_,h⟩:=(bE _ _ _ _ _).1 h;obtain⟨h1,h2⟩:=(fl_all (aH _)).1 h;rcases e3 with e3|e3
   ·omega
   ·rcases aK (flF d d.length) d.length with g|g
    ·exact absurd (h2 _ (aH _) (by omega)) e3
    ·omega
  ·obtain⟨_,j,h1,h2⟩:=(bE _ _ _ _ _).1 h;obtain⟨g1,rfl,g2⟩:=(dD _ _ _ _).1 h1;obtain⟨k1,k2⟩:=(fl_all (by omega)).1 h2;rw[JF (hd i g1).1 (hd i g1).2]at g2;have hq:d.length-flF d d.length=i+1:=by
    rcases kW (d.length-flF d d.length) (i+1)with c|c|c;·exact absurd (e2 i (by omega) g1) g2
    ·exact c
    ·rcases e3 with e3|e3
     ·omega
     ·exact absurd (k2 _ (by omega) (by omega)) e3
   omega
 ·intro h;by_cases g:flF d d.length=d.length
  ·exact .inl ((bE _ _ _ _ _).2 ⟨aH _,(fl_all (aH _)).2 ⟨by omega,fun j a1 a2=>e2 j (by omega) a2⟩⟩)
  ·rcases e3 with e3|e3
   ·exact absurd e3 g
   ·have hb:=hd (d.length-flF d d.length-1) (by omega);exact .inr ⟨d.length-flF d d.length-1,(bE _ _ _ _ _).2 ⟨by omega,d.length-flF d d.length,(dD _ _ _ _).2 ⟨by omega,by omega,(JF hb.1 hb.2).2 e3⟩,(fl_all (by omega)).2 ⟨by omega,e2⟩⟩⟩
theorem agf (L:List (List Nat)) (d:List Int) (h:0<d.length):(∃i,aS (pO (L.map pS)) d i d.length)↔∃A∈L,Mem A (d.getD (d.length-1) 0):=by
 constructor;·rintro⟨i,e⟩;obtain⟨p,hp,e⟩:=(vP _ _ _ _ _).1 e;obtain⟨A,hA,rfl⟩:=dz.1 hp;exact⟨A,hA,(Q9 A d h).1 ⟨i,e⟩⟩
 ·rintro⟨A,hA,e⟩;obtain⟨i,e⟩:=(Q9 A d h).2 e;exact⟨i,(vP _ _ _ _ _).2 ⟨pS A,List.mem_map_of_mem hA,e⟩⟩
theorem acU (L:List (List Nat)) (c:List Int) (n:Nat) (hn:n<c.length):(∃k,aS (pO (L.map pS)) (c.drop n) 0 k)↔∃A∈L,Mem A (c.getD n 0):=by
 constructor;·rintro⟨k,e⟩;obtain⟨p,hp,e⟩:=(vP _ _ _ _ _).1 e;obtain⟨A,hA,rfl⟩:=dz.1 hp;exact⟨A,hA,(Li A c n hn).1 ⟨k,e⟩⟩
 ·rintro⟨A,hA,e⟩;obtain⟨k,e⟩:=(Li A c n hn).2 e;exact⟨k,(vP _ _ _ _ _).2 ⟨pS A,List.mem_map_of_mem hA,e⟩⟩
theorem mo3 (a b e:Nat) (x:Int):(∃A∈[[a],[b],[e]],Mem A x)↔(x==(a:Int)||x==(b:Int)||x==(e:Int))=true:=by simp only[aU,lH,jD,pz,mI,m1,cu,or_assoc]
theorem mo2 (a b:Nat) (x:Int):(∃A∈[[a],[b]],Mem A x)↔(x==(a:Int)||x==(b:Int))=true:=by simp only[aU,lH,jD,pz,mI,m1,cu]
theorem OH (c:List Int) (n:Nat):∀k,k≤n→Eb (c.take n) k=Eb c k
 |0,_=>rfl
 |k+1,h=>by rw[Eb,Eb,takeD c (show k<n by omega),OH c n k (by omega)]
theorem acV (c:List Int) (n:Nat):∀k,k≤n→Ra (c.take n) k=Ra c k
 |0,_=>rfl
 |k+1,h=>by rw[Ra,Ra,takeD c (show k<n by omega),OH c n k (by omega)]
theorem fl_take (c:List Int) (n:Nat):∀k,k≤n→flF (c.take n) k=flF c k
 |0,_=>rfl
 |k+1,h=>by rw[flF,flF,takeD c (show k<n by omega),fl_take c n k (by omega)]
def GJ (x y:Int):Prop:=(x=1∧y=2)∨(¬(x=1∨x=2∨x=3)∧¬(y=1∨y=2∨y=3)∧(y=4∨y=5∨y=6∨x=7∨(x=8∧(y=8∨y=9∨y=11))∨((x=9∨x=11)∧(y=9∨y=10))∨(x=10∧y=10)))
theorem agh (x y:Int):qQ x y=true↔GJ x y:=by
 unfold qQ yD GJ;repeat' split
 all_goals simp only[aP,cu,bL,bn,eq_self,true_iff,false_iff]at*
 all_goals omega
theorem anU {c:List Int}:∀{n:Nat},Ra c n=true→c.getD (n-1) 0=5
 |0,h=>by cases h
 |n+1,h=>by rw[Ra,aP,bL]at h;exact h.2
theorem fl_x {c:List Int}:∀{n:Nat},flF c n%2=1→c.getD (n-1) 0=13
 |0,h=>by cases h
 |n+1,h=>by
  rw[flF]at h;split at h;·assumption
  ·cases h
theorem acW {c:List Int} {n:Nat} (h1:1≤n) (h2:n<c.length) (hd:∀j,j<c.length→0≤c.getD j 0∧c.getD j 0≤13) {b:Bool} (h:fK true c n b su):b=DK c n:=by
 have hl:=take_len h2;have L0:(∃i,aS p0 (c.take n) i (c.take n).length)↔True:=⟨fun _=>trivial,fun _=>ZX _⟩
 have R0:(∃k,aS p0 (c.drop n) 0 k)↔True:=⟨fun _=>trivial,fun _=>Tz _⟩
 have LO:∀L:List (List Nat),(∃i,aS (pO (L.map pS)) (c.take n) i (c.take n).length)↔∃A∈L,Mem A (c.getD (n-1) 0):=fun L=>by rw[agf L _ (by omega),hl,takeD c (by omega)]
 have RO:=fun L=>acU L c n h2;have LE:(∃i,aS TD (c.take n) i (c.take n).length)↔∃A∈[[1],[2],[3]],Mem A (c.getD (n-1) 0):=LO [[1],[2],[3]];have RE:(∃k,aS TD (c.drop n) 0 k)↔∃A∈[[1],[2],[3]],Mem A (c.getD n 0):=RO [[1],[2],[3]];have ajv:(∃i,aS (pO [pS [9],pS [11]]) (c.take n) i (c.take n).length)↔∃A∈[[9],[11]],Mem A (c.getD (n-1) 0):=LO [[9],[11]];have R8:(∃k,aS (pO [pS [8],pS [9],pS [11]]) (c.drop n) 0 k)↔∃A∈[[8],[9],[11]],Mem A (c.getD n 0):=RO [[8],[9],[11]];have ajw:(∃k,aS (pO [pS [9],pS [10]]) (c.drop n) 0 k)↔∃A∈[[9],[10]],Mem A (c.getD n 0):=RO [[9],[10]];have R4:(∃k,aS (pO [pS [4],pS [5],pS [6]]) (c.drop n) 0 k)↔∃A∈[[4],[5],[6]],Mem A (c.getD n 0):=RO [[4],[5],[6]];have odd:=fl_odd (d:=c.take n) (fun j hj=>by rw[takeD c (by omega)];exact hd j (by omega));rw[hl,fl_take c n n (ay _)]at odd;have jn:=agd (c.take n);rw[show Ra (c.take n) (c.take n).length=Ra c n by rw[hl];exact acV c n n (ay _)]at jn;have a10:vV ⟨false,true,false,pT [TA,pS [13]],pS [13]⟩ c n↔aS (pT [TA,pS [13]]) (c.take n) 0 n∧Mem [13] (c.getD n 0):=by unfold vV;rw[rS h2];exact⟨fun h=>⟨h.2.2.1 rfl,h.2.1⟩,fun h=>⟨⟨0,h.1⟩,h.2,(fun _=>h.1),(fun e=>by cases e)⟩⟩
 have a11:vV ⟨false,false,false,pT [pS DJ,TA,pS [13]],pS [13]⟩ c n↔(∃i,aS (pT [pS DJ,TA,pS [13]]) (c.take n) i n)∧Mem [13] (c.getD n 0):=by have:=dM h2 (b:=false) (L:=pT [pS DJ,TA,pS [13]]) (R:=pS [13]) Iff.rfl (rS h2 [13]);rwa [hl]at this
 unfold su at h;simp only[fK]at h;rw[dM h2 (lS h2 h1 _) (rS h2 _),dM h2 LE R0,dM h2 L0 RE,dM h2 (lS h2 h1 _) R8,dM h2 ajv ajw,dM h2 (lS h2 h1 _) (rS h2 _),dM h2 L0 R4,dM h2 (lS h2 h1 _) R0,
  dM h2 jn (rS h2 _),a10,a11]at h
 simp only[m1,mo3,mo2]at h;have jx:=anU (c:=c) (n:=n);have fx:=fl_x (c:=c) (n:=n);unfold DK;generalize Ra c n=J at*
 generalize flF c n=R at*
 generalize c.getD (n-1) 0=x at*
 generalize c.getD n 0=y at*
 generalize aS (pT [TA,pS [13]]) (c.take n) 0 n=P1 at*
 generalize(∃i,aS (pT [pS DJ,TA,pS [13]]) (c.take n) i n)=P2 at*
 clear hd h1 h2 a10 a11 L0 R0 LO RO jn hl LE RE ajv R8 ajw R4;have key:(!(qQ x y||(J&&y==12)||(y==13&&R%2==1)))=true↔¬(GJ x y∨(J=true∧y=12)∨(y=13∧R%2=1)):=by
  have e:∀X:Bool,(!X)=true↔¬X=true:=by decide
  rw[e];simp only[cu,aP,bL,agh,or_assoc]
 have no:(GJ x y∨(J=true∧y=12)∨(y=13∧R%2=1))→false= !(qQ x y||(J&&y==12)||(y==13&&R%2==1)):=fun e=>by symm;rw[Au];exact fun k=>key.1 k e
 have yes:¬(GJ x y∨(J=true∧y=12)∨(y=13∧R%2=1))→true= !(qQ x y||(J&&y==12)||(y==13&&R%2==1)):=fun e=>(key.2 e).symm;simp only[cu,bL]at h;rcases h with⟨⟨e1,e2⟩,rfl⟩|⟨n1,h⟩
 ·exact no (.inl (.inl ⟨e1,e2⟩))
 rcases h with⟨⟨e1,_⟩,rfl⟩|⟨n2,h⟩
 ·refine yes ?_;rintro(e|⟨e,_⟩|⟨_,e⟩)
  ·unfold GJ at e;omega
  ·have:=jx e;omega
  ·have:=fx e;omega
 rcases h with⟨⟨_,e1⟩,rfl⟩|⟨n3,h⟩
 ·refine yes ?_;rintro(e|⟨_,e⟩|⟨e,_⟩)
  ·unfold GJ at e;omega
  ·omega
  ·omega
 have n2':¬(x=1∨x=2∨x=3):=fun e=>n2 ⟨by omega,trivial⟩;have n3':¬(y=1∨y=2∨y=3):=fun e=>n3 ⟨trivial,by omega⟩;clear n2 n3;rcases h with⟨e1,rfl⟩|⟨n4,h⟩
 ·exact no (.inl (by unfold GJ;omega))
 rcases h with⟨e1,rfl⟩|⟨n5,h⟩
 ·exact no (.inl (by unfold GJ;omega))
 rcases h with⟨e1,rfl⟩|⟨n6,h⟩
 ·exact no (.inl (by unfold GJ;omega))
 rcases h with⟨⟨_,e1⟩,rfl⟩|⟨n7,h⟩
 ·exact no (.inl (by unfold GJ;omega))
 rcases h with⟨⟨e1,_⟩,rfl⟩|⟨n8,h⟩
 ·exact no (.inl (by unfold GJ;omega))
 have n7':¬(y=4∨y=5∨y=6):=fun e=>n7 ⟨trivial,by omega⟩;have n8':¬x=7:=fun e=>n8 ⟨e,trivial⟩;clear n7 n8;rcases h with⟨e1,rfl⟩|⟨n9,h⟩
 ·exact no (.inr (.inl e1))
 rcases h with⟨⟨e1,e2⟩,rfl⟩|⟨n10,h⟩
 ·exact no (.inr (.inr ⟨e2,odd.1 (.inl e1)⟩))
 rcases h with⟨⟨e1,e2⟩,rfl⟩|⟨n11,rfl⟩
 ·exact no (.inr (.inr ⟨e2,odd.1 (.inr e1)⟩))
 refine yes ?_;rintro(e|e|⟨e,k⟩);·unfold GJ at e;omega
 ·exact n9 e
 ·rcases odd.2 k with g|g
  ·exact n10 ⟨g,e⟩
  ·exact n11 ⟨g,e⟩
end
def BA (cut:Nat→Bool) (ats:List Int) (L:Int) (n:Nat):Nat→Nat→List Int
 |0,_=>[]
 |f+1,k=>(if k=0∨k=n∨cut k=true then[if k<n then ats.getD k 0 else L]else[])++BA cut ats L n f (k+1)
theorem OJ (cut:Nat→Bool) (ats:List Int) (L:Int) (n:Nat):BA cut ats L n 1 n=[L]:=by unfold BA;rw[ak (.inr (.inl rfl)),aj (dA n)];rfl
theorem JG (cls ats:List Int) (L:Int) (n:Nat):∀f k,f+k=n→BA (Gp cls) ats L n (f+1) k=Gq cls ats f k++[L]
 |0,k,h=>by
  obtain rfl:k=n:=by omega
  rw[OJ];rfl
 |f+1,k,h=>by
  have ih:=JG cls ats L n f (k+1) (by omega);rw[BA,ih,Gq,ak (show k<n by omega)];by_cases c:k=0∨Gp cls k=true;·rw[ak (by rcases c with c|c;exact .inl c;exact .inr (.inr c))];rw[ak c];rfl
  ·rw[aj (by rintro(e|e|e);exact c (.inl e);omega;exact c (.inr e))];rw[aj c];rfl
theorem OM (cls ats:List Int) (L:Int) (n:Nat):∀(l:List (Nat×Nat)) k,l.length+k=n→(∀j x,l[j]? =some x→(x.1:Int)=ats.getD (k+j) 0)→1≤n→
 BA (DK cls) ats L n (l.length+1) k=(if k=0 then[ats.getD 0 0]else[])++gbF cls l k (Eb cls k) (Ra cls k) (flF cls k)++[L]
 |[],k,h,_,h1=>by
   obtain rfl:k=n:=by simpa using h
   rw[iw,OJ,aj (by omega)];rfl
 |x::r,k,h,hx,h1=>by
  have h':r.length+1+k=n:=by simpa using h
  have ih:=OM cls ats L n r (k+1) (by omega) (fun j y hy=>by rw[show k+1+j=k+(j+1)by omega];exact hx (j+1) y hy) h1;have h0:(x.1:Int)=ats.getD k 0:=hx 0 x rfl;rw[bJ,BA,ih,aj (Nat.succ_ne_zero k),lC,ak (show k<n by omega),gbF];have e1:Eb cls (k+1)=(cls.getD k 0==12||(Eb cls k&&cls.getD k 0==4)):=rfl;have e2:Ra cls (k+1)=(Eb cls k&&cls.getD k 0==5):=rfl;have e3:flF cls (k+1)=if cls.getD k 0=13 then flF cls k+1 else 0:=rfl
  rw[←e1,←e2,←e3,←h0];by_cases c:k=0;·subst c;rw[ak (.inl rfl),ak rfl,ak (.inl rfl),dI,h0]
  ·rw[aj c,lC];by_cases g:DK cls k=true
   ·rw[ak (.inr (.inr g)),aj]
    ·rfl
    ·unfold DK at g;simp only[Bool.not_eq_true',Bool.or_eq_false_iff,Bool.and_eq_false_iff,bW]at g;obtain⟨⟨g1,g2⟩,g3⟩:=g;rintro(e|e|⟨e,e'⟩|⟨e,e'⟩)
     ·exact c e
     ·rw[g1]at e;cases e
     ·rcases g2 with g2|g2
      ·rw[g2]at e;cases e
      ·exact g2 e'
     ·rcases g3 with g3|g3
      ·exact g3 e
      ·exact g3 e'
   ·rw[aj (by rintro(e|e|e);exact c e;omega;exact g e),ak]
    ·rfl
    ·unfold DK at g;simp only[Bool.not_eq_true',Bool.not_eq_false,cu,aP,bL]at g;rcases g with(g|⟨g,g'⟩)|⟨g,g'⟩
     ·exact .inr (.inl g)
     ·exact .inr (.inr (.inl ⟨g,g'⟩))
     ·exact .inr (.inr (.inr ⟨g,g'⟩))
section
open Folds (dec aZ bV)
def up:List Int→Prop:=List.Pairwise (·<·)
theorem up_at {l:List Int} (h:up l) {i j:Nat} (hij:i<j) (hj:j<l.length):l.getD i 0<l.getD j 0:=by rw[aM,aM,aY hj,aY (by omega)];exact List.pairwise_iff_getElem.1 h i j (by omega) hj hij
theorem G6 {zs:List Int} (hz:up zs) (x:Int):∀(f lo hi:Nat),hi≤lo+f→lo≤hi→hi≤zs.length→(∀j,j<lo→zs.getD j 0<x)→(∀j,hi≤j→j<zs.length→¬zs.getD j 0<x)→
 LD zs x f lo hi≤zs.length∧(∀j,j<LD zs x f lo hi→zs.getD j 0<x)∧∀j,LD zs x f lo hi≤j→j<zs.length→¬zs.getD j 0<x
 |0,lo,hi,h1,h2,h3,h4,h5=>by
  obtain rfl:lo=hi:=by omega
  exact⟨h3,h4,h5⟩
 |f+1,lo,hi,h1,h2,h3,h4,h5=>by
  unfold LD;by_cases c:lo<hi
  ·rw[ak c];by_cases d:zs.getD ((lo+hi)/2) 0<x
   ·rw[ak d];refine G6 hz x f _ hi (by omega) (by omega) h3 (fun j hj=> ?_) h5;rcases aK j ((lo+hi)/2)with e|e
    ·exact Int.lt_trans (up_at hz e (by omega)) d
    ·obtain rfl:j=(lo+hi)/2:=by omega
     exact d
   ·rw[aj d];refine G6 hz x f lo _ (by omega) (by omega) (by omega) h4 (fun j hj hl=> ?_);rcases aK ((lo+hi)/2) j with e|e
    ·have:=up_at hz e hl;omega
    ·obtain rfl:j=(lo+hi)/2:=by omega
     exact d
  ·rw[aj c];obtain rfl:lo=hi:=by omega
   exact⟨h3,h4,h5⟩
theorem TF {zs:List Int} (hz:up zs) (x:Int):Sy zs x=decide (x∈zs):=by
 obtain⟨h1,h2,h3⟩:=G6 hz x zs.length 0 zs.length (by omega) (aH _) (ay _) (fun j hj=>absurd hj (iN j)) (fun j h1 h2=>absurd h2 (by omega));unfold Sy;generalize LD zs x zs.length 0 zs.length=p at*
 rw[fA,aP,iB,iB,iB];constructor;·rintro⟨c,e⟩;rw[←e,aM,aY c];exact mG c
 ·intro hx;obtain⟨j,hj,e⟩:=tH.1 hx;have e:zs.getD j 0=x:=by rw[aM,aY hj];exact e
  have hpj:p≤j:=by
   rcases aK j p with c|c;·have:=h2 j c;omega
   ·exact c
  refine⟨by omega,?_⟩;have:=h3 p (ay _) (by omega);rcases aK p j with c|c;·have:=up_at hz c hj;omega
  ·obtain rfl:p=j:=by omega
   exact e
theorem OO (cut:Nat→Bool) (ats:List Int) (L:Int) (n:Nat):∀f k,BA cut ats L n f k=((List.range' k f).filter (kN cut n)).map fun i=>if i<n then ats.getD i 0 else L
 |0,_=>rfl
 |f+1,k=>by
  have ih:=OO cut ats L n f (k+1);rw[BA,ih,List.range'_succ,List.filter_cons];have e:(k=0∨k=n∨cut k=true)↔kN cut n k=true:=by unfold kN;simp only[cu,iB,or_assoc]
  by_cases c:kN cut n k=true;·rw[ak (e.2 c),ak c];rfl
  ·rw[aj (fun d=>c (e.1 d)),aj c];rfl
theorem TG (cut:Nat→Bool) (ats:List Int) (L:Int) (n:Nat):r9 cut ats L n (n+1)=BA cut ats L n (n+1) 0:=by rw[OO,←List.range_eq_range'];rfl
theorem TH (t:List UInt8) (cut:Nat→Bool):CV (gJ t) (kN cut (marks t).length) ((marks t).length+1)=BA cut (dV t) t.length (marks t).length ((marks t).length+1) 0:=by rw[←TG];unfold CV r9;refine List.map_congr_left fun k hk=> ?_;have:=lF.1 (nL.1 hk).1;exact VP t (by omega)
theorem OQ (t:List UInt8) (h:t≠[]):BA (Gp (Qx t)) (dV t) t.length (marks t).length ((marks t).length+1) 0=qH t:=by rw[JG _ _ _ _ _ 0 (by omega)];unfold qH;rw[ak (xg.2 h)]
theorem CX {t:List UInt8} (h:t≠[]):1≤(marks t).length:=by
 have hp:=xg.2 h;obtain⟨n,hn⟩:∃n,t.length=n+1:=⟨t.length-1,by omega⟩
 unfold marks;rw[hn];unfold aD;rw[ak (by omega)];exact F6 (aH _)
theorem Z4 {t:List UInt8} (h:t≠[]):(dV t).getD 0 0=0:=by
 have hp:=xg.2 h;obtain⟨n,hn⟩:∃n,t.length=n+1:=⟨t.length-1,by omega⟩
 unfold dV marks;rw[hn];unfold aD;rw[ak (by omega)];rfl
theorem TI (t:List UInt8) (h:t≠[]):BA (DK (Ba t)) (dV t) t.length (marks t).length ((marks t).length+1) 0=D8 t:=by
 rw[OM (Ba t) (dV t) t.length (marks t).length (marks t) 0 (cZ _) (fun j x hx=> ?_) (CX h)];·unfold D8;rw[aj h,ak rfl,Z4 h];rfl
 ·unfold dV;rw[bK,aM,fF,hx];rfl
theorem l7 (t:List UInt8):∀n e,∀x∈aD t n e,e≤x.1∧x.1<t.length
 |0,_,x,h=>by cases h
 |n+1,e,x,h=>by
  unfold aD at h;by_cases c:e<t.length
  ·rw[ak c]at h;rcases aU.1 h with rfl|h
   ·exact⟨ay _,c⟩
   ·have:=l7 t n _ x h;omega
  ·rw[aj c]at h;cases h
theorem uq (t:List UInt8):∀n e,(aD t n e).Pairwise fun x y=>x.1<y.1
 |0,_=> .nil
 |n+1,e=>by
  unfold aD;by_cases c:e<t.length;·rw[ak c];refine .cons (fun y hy=> ?_) (uq t n _);have:=l7 t n _ y hy;have hd:=aZ (t.drop e);show e<y.1;omega
  ·rw[aj c];exact .nil
theorem Z5 (t:List UInt8):up (gJ t):=by
 unfold gJ up;refine List.pairwise_append.2 ⟨?_,List.pairwise_singleton _ _,fun a ha b hb=> ?_⟩;·unfold dV;exact List.pairwise_map.2 ((uq t _ _).imp fun h=>by omega)
 ·obtain rfl:=fE.1 hb;unfold dV at ha;obtain⟨x,hx,rfl⟩:=dz.1 ha;have:=l7 t _ _ x hx;omega
theorem TJ (t:List UInt8) (cut:Nat→Bool):up (BA cut (dV t) t.length (marks t).length ((marks t).length+1) 0):=by
 rw[←TH];unfold CV up;refine List.pairwise_map.2 ?_;have hl:(gJ t).length=(marks t).length+1:=by unfold gJ;rw[bf,qJ];rfl
 refine List.Pairwise.imp_of_mem (fun{a b} _ hb h=> ?_) ((List.pairwise_lt_range (n:=(marks t).length+1)).filter _);have:=lF.1 (nL.1 hb).1;exact up_at (Z5 t) h (by omega)
theorem acX (t:List UInt8):up (qH t):=by
 by_cases h:t=[]
 ·subst h;exact .nil
 ·rw[←OQ t h];exact TJ t _
theorem agi (t:List UInt8):up (D8 t):=by
 by_cases h:t=[]
 ·subst h;exact .nil
 ·rw[←TI t h];exact TJ t _
theorem G7 (sh:List UInt8→List UInt8) (may:Int→Bool) (t:List UInt8):∀n e,e≤t.length→t.length≤n+e→EvL.places (CJ sh may t (n+1) e)=(((aD t n e).map (·.1))++[t.length]).filter fun(k:Nat)=>may (k:Int)
 |0,e,he,hn=>by
  obtain rfl:e=t.length:=by omega
  unfold CJ;rw[aj (dA _)];unfold EvL.places aD;rw[List.filter_cons];cases hm:may (t.length:Int)<;>simp[hm]
 |n+1,e,he,hn=>by
  by_cases c:e<t.length
  ·have hd:=aZ (t.drop e);have hle:=bV (t.drop e) (by intro d;rw[je]at d;omega);rw[dQ]at hle;have ih:=G7 sh may t n (e+(dec (t.drop e)).2) (by omega) (by omega);have hu:CJ sh may t (n+1+1) e=(e,may e,sh ((t.drop e).take (dec (t.drop e)).2))::CJ sh may t (n+1) (e+(dec (t.drop e)).2):=by rw[CJ,ak c]
   have hm2:aD t (n+1) e=(e,(dec (t.drop e)).1)::aD t n (e+(dec (t.drop e)).2):=by rw[aD,ak c]
   rw[hu,hm2,kT,yU,List.filter_cons];cases hm:may (e:Int);·rw[EvL.CB (by exact yT),ih];rfl
   ·rw[EvL.za rfl,ih];rfl
  ·obtain rfl:e=t.length:=by omega
   have hu:CJ sh may t (n+1+1) t.length=[(t.length,may t.length,sh [])]:=by rw[CJ,aj (dA _)]
   have hm2:aD t (n+1) t.length=[]:=by rw[aD,aj (dA _)]
   rw[hu,hm2];unfold EvL.places;cases hm:may (t.length:Int)<;>simp[hm]
theorem VT (fo le wo:Bool) (t:List UInt8):EL le wo (D8 t) (qH t) t=(EvL.places (mW t fo le wo)).map fun(x:Nat)=>(x:Int):=by
 unfold mW;rw[G7 _ _ t t.length 0 (aH _) (by omega)];have he:gJ t=(((aD t t.length 0).map (·.1))++[t.length]).map fun(x:Nat)=>(x:Int):=by unfold gJ dV marks;rw[Av,List.map_map];rfl
 unfold EL Jt;rw[he];generalize((aD t t.length 0).map (·.1))++[t.length]=E;have hf:∀(p:Int→Bool) (l:List Nat),(l.map fun(x:Nat)=>(x:Int)).filter p=(l.filter fun(x:Nat)=>p (x:Int)).map fun(x:Nat)=>(x:Int):=fun p l=>by rw[List.filter_map];rfl
 cases le<;>cases wo<;>simp only[bn,jy,if_true,hf,List.filter_filter,qb,TF (agi t),TF (acX t),Bool.not_true,Bool.not_false,Bool.true_or,wB,Bool.and_true,Bool.true_and];·rw[List.filter_eq_self.2 (fun _ _=>rfl)]
 ·congr 1;refine List.filter_congr fun x _=> ?_;rw[Bool.and_comm]
end
def Z6:Str:=⟨1239,16983688660106157009570488931193595442953107727362697348698502898743891337987601912811442152140848915195218518379124089510504932305425114690415539191125757913835572295267866357906823241293212694826526346530186368289348728572866632743141100790802786163077476849748589102664189972857987426749438047995552844920970046586800354162427901493382669774537207555345621054780984839276127320181858724016905468958622732518396727768133478410052657617104433752237841162813837227047176210036393671310160316833494071084495929120555724615246570309048266810790532980774731119273088391966407116197419778995339913200973934506281731569688733745703694911618764243998846986861655334508084331219743283891669562605981883255340733285053435849634257607425662603387012180065999549635563665533118945312141351402192326845696118171048781092218929489590182776199354391800753940675242290329165199918258260194355255730160107473845495574602617449756753475326740374162076956744402559754809107134770578042815104663778929419475790174850613133441963469826079736913410471363417265880106979994768501642238637919744138297727810040540618254258070380424006253436614312122422797732766942733410332428147762026168474482704556957506018551334555464472094841448845553367249737708827737178185054837867034380174090203369352877267463416488074791676004674742807756973441587677501806310801734708916638807922890866271757407574649726190954945227831852619148535043881190313916956869119511045531571194745496284287226108453314960356131585134898189194512160507941009297387503938763558920150984750625152387375905106629566652099504335165656756044284723251305822022910368866480099976844837738024965182722313524342300815285852558269386009916687972577585332692697838682604217412439588793348735990738877142146829165277161926581719485958847505397587772586806972133020656097135610469425891652839689613220987689687829165956305578299854808392731958721530377326446005895639760018885390606280310499347258131808841392165903531624062443981624037559915810892373839811675688973442655370760259575703214391310852774077846997461364519570252985104657799982184338654675918732688910238894589055980538684586569121613151840832866287170426727716327979471278456160045165227685534343993305867649712737686699180418750360635332346543342046937319552141688953932648254688237651633616055649870854686105201388418925425417373211467273445604511604834715745196035483139015180679607050869548836594020839406790163210365471454639166413369612180073451807626457638253682377177656833953115479407242033924559941335236122976663655959442720823549377020344710232826688391157346704799470758795950775287156677157010434376068184849864453758598176070201318050051362172995082889227412200264359252897992688903084824991143178654046849050588329427289743201811100804961302484061674885088592490078820819500109032274569694492582859014179354020799483589073428946985092742997715901978862031807912411112186740892482670960309114917692524838948323772436696131719654521351323775915115168206459322504493149962⟩
def TK (W:World):Prop:=Calls Tryz.prog 75 #[] W fun e w1=>∃d,e= .returned d∧Below W.heap.size W w1∧DbT w1 d gW 19∧∀w2,Below w1.heap.size w1 w2→
 Calls Tryz.prog 77 #[d] w2 fun e w3=>∃nv,e= .returned nv∧Below w2.heap.size w2 w3∧∀w4,Below w3.heap.size w3 w4→∀b:ByteArray,Str.of b=Z6→
 Calls Tryz.prog 76 #[.string b,nv] w4 fun e w5=>∃gr og cr,e= .returned (.tuple #[.agg #[.slice (some ⟨gr,og,none⟩) dG.length cr, .bool true], .int .i64 0, .int .i64 0])∧Below w4.heap.size w4 w5∧kg w5 gr og dG∧
 ∃ss,xW dG ss=true∧∀w6,Below w5.heap.size w5 w6→Bw w6 (.agg #[.slice (some ⟨gr,og,none⟩) dG.length cr, .bool true]) ss
theorem OT {R:List gI} {N:Nat} (h:(R.all fun x=>decide (1≤x.2.2)&&decide (x.2.2≤(N:Int)))=true) (q:Int):0≤fM R q∧fM R q≤N:=by
 unfold fM;cases hf:R.find? (fun x=>decide (q≤x.2.1))with
 |none=>exact⟨Int.le_refl _,by show(0:Int)≤N;omega⟩
 |some x=>
  have:=fU.1 h x (List.mem_of_find?_eq_some hf);rw[aP,iB,iB]at this;dsimp only;split;·omega
  ·omega
theorem Rb {R:List gI} {N:Nat} (hT:yE R N) (t:List UInt8):∀j,j<(iQ R t).length→0≤(iQ R t).getD j 0∧(iQ R t).getD j 0≤N:=fun j hj=>by
 have:(iQ R t).getD j 0∈iQ R t:=by rw[aM,aY hj];exact mG hj
 unfold iQ at this;obtain⟨x,_,e⟩:=dz.1 this;unfold iQ;rw[←e];exact OT hT.cls _
theorem agj:yE gW 19:=⟨by decide+kernel,by decide+kernel,by decide+kernel,by decide⟩
theorem ajx:yE gV 13:=⟨by decide+kernel,by decide+kernel,by decide+kernel,by decide⟩
theorem Lm (R:List gI) (NN:Nat) (hT:yE R NN) (rs:List PR) (ss:List SD) (rest:Bool) (gr og cr:Nat) (d:Value) (W:World) (hD:DbT W d R NN) (hS:Bw W (.agg #[.slice (some ⟨gr,og,none⟩) rs.length cr, .bool rest]) ss):
 Calls Tryz.prog 78 #[d, .agg #[.slice (some ⟨gr,og,none⟩) rs.length cr, .bool rest], .string ⟨#[]⟩] W (dF [] W):=by
 have ZV:=ah (fun w=>CO [] w (aH _));obtain⟨s,hs⟩:∃s:ByteArray,(⟨#[]⟩:ByteArray)=s:=⟨_,rfl⟩
 rw[show(⟨([]:List UInt8).toArray⟩:ByteArray)=s from hs]at ZV;rw[hs];obtain⟨D,oD,hd⟩:∃D oD,d= .pointer (some ⟨D,oD,none⟩):=by obtain⟨D,o,_,_,_,h,_⟩:=hD;exact⟨D,o,h⟩
 subst hd;have HS:=ah hS;have HD:=ah hD;have HT:=ah hT;obtain⟨N,hN⟩:∃N,rs.length=N:=⟨_,rfl⟩
 rw[hN]at HS⊢;have HB0:=ah (Bx.start 122 W #[.slice (some ⟨gr,og,none⟩) N cr, .bool rest]);obtain⟨wz,hwz⟩:∃wz,(W.alloc (.cells #[.slice (some ⟨gr,og,none⟩) N cr, .bool rest] 122)).alloc (.cells #[.pointer (some ⟨D,oD,none⟩), .slice (some ⟨gr,og,none⟩) N cr, .bool rest, .slice none 0 0, .slice none 0 0, .int .i64 0, .int .i64 0] 192)=wz:=⟨_,rfl⟩
 have hx0:wz.cell? ⟨W.heap.size+1,0,none⟩=some (.pointer (some ⟨D,oD,none⟩)):=by have h:=dh (W.alloc (.cells #[.slice (some ⟨gr,og,none⟩) N cr, .bool rest] 122)) (.cells #[.pointer (some ⟨D,oD,none⟩), .slice (some ⟨gr,og,none⟩) N cr, .bool rest, .slice none 0 0, .slice none 0 0, .int .i64 0, .int .i64 0] 192);rw[gy,hwz]at h;exact(bC _ _ _ _ _ _ h).trans rfl
 have HBz:=ah (HB0.out.go (show Below _ _ wz from by rw[←hwz];exact(aF _ _).alloc (ay _) _));have hsz:W.heap.size+1<wz.heap.size:=by rw[←hwz,gy,gy];omega
 have HX0:=ah hx0;have uN:=ah hsz;have HWZ:=ah hwz;clear hS hD hT hs hN hx0 hsz hwz;go_enter Tryz.func78,Tryz.ntmps78;go_wp2_with (first
  |(go_at_call 89;rw[HWZ.out];refine(ZV.out _).mono ?_;rintro e w2 ⟨A,n,c,rfl,hR,hb⟩;have HR:=ah hR;have HX2:=ah ((hb.cell (p:=⟨W.heap.size+1,0,none⟩) uN.out).trans HX0.out);have HB2:=ah (HBz.out.go hb);have HS2:=ah (bH uN.out hb.size);clear hR hb)
  |(go_at_call 125;refine(DF R NN HT.out [] (W.heap.size+1) _ A n c w2 HS2.out HX2.out (jF HD.out HB2.out.aB) HR.out (aH _)).mono ?_;rintro e w3 ⟨A3,n3,c3,rfl,hI,_,hb⟩;obtain rfl:n3=0:=hI.len.symm;have HB3:=ah (HB2.out.go hb);clear hI hb;have y0:=(HB3.out.c 0).trans rfl;have y1:=(HB3.out.c 1).trans rfl)
  |(go_at_call 126;refine(HS.out w3 HB3.out.aB).mono ?_;rintro e w4 ⟨A4,n4,c4,rfl,_,hb⟩;have Ea:=ah (HB3.out.go hb);clear hb y0 y1))
 go_loopw [11,12] (fun vo vi wr=>vi= .int .i64 0∧vo= .slice none 0 0∧wr=w4) (fun _ _ _=>0);case atStart=>exact⟨rfl,rfl,rfl⟩
 case round=>obtain⟨rfl,rfl,rfl⟩:=hrel;go_wp2_with fail;go_ret;exact⟨none,0,0,rfl,AY _,Ea.out.aB⟩
theorem DL {R:List gI} {t:List UInt8} {rs:List PR} {cut:Nat→Bool} {N:Nat} (hT:yE R N) (h:∀{n:Nat},1≤n→n<(iQ R t).length→(∀j,j<(iQ R t).length→0≤(iQ R t).getD j 0∧(iQ R t).getD j 0≤N)→∀{b:Bool},fK true (iQ R t) n b rs→b=cut n):
 ∀k b,1≤k→k<(marks t).length→fK true (iQ R t) k b rs→b=cut k:=fun k b h1 h2 hd=>h h1 (by rw[pU];exact h2) (Rb hT t) hd
theorem agk (t:List UInt8) (gr og cr:Nat) (d:Value) (ss:List SD) (W:World) (hD:DbT W d gW 19) (hR:kg W gr og dG) (hs:xW dG ss=true) (hS:Bw W (.agg #[.slice (some ⟨gr,og,none⟩) dG.length cr, .bool true]) ss) (hn:t.length≤48):
 Calls Tryz.prog 78 #[d, .agg #[.slice (some ⟨gr,og,none⟩) dG.length cr, .bool true], .string ⟨t.toArray⟩] W (dF (qH t) W):=by
 by_cases h0:t=[]
 ·subst h0;exact Lm gW 19 agj dG ss true gr og cr d W hD hS
 ·obtain⟨hl,hm⟩:=JB hs;have hml:=pJ t;have:=OD gW 19 agj t dG ss true gr og cr d W hD hR hS (by omega) (Gp (Qx t)) (CX h0) (by omega) (DL agj fun{n} h1 h2 h3 {b} h4=>Z0 h1 h2 h3 h4) hl (fun i r x k hr hx h1 h2 ha=>ZR (hm i r x hr hx) h1 (by rw[pU];exact h2) ha);rwa [TG,OQ t h0]at this
theorem anV (t:List UInt8) (W:World) (h:TK W) (hn:t.length≤48):afT ⟨t.toArray⟩ (qH t) W:=by
 unfold afT;have HM:=ah h;have HW:=ah (fun gr og cr d ss w=>agk t gr og cr d ss w);have HN:=ah hn;clear h;obtain⟨s,hs⟩:∃s:ByteArray,(⟨t.toArray⟩:ByteArray)=s:=⟨_,rfl⟩
 rw[hs]at HW⊢;clear hs hn;go_enter Tryz.func21,Tryz.ntmps21;go_wp2_with (first
  |(go_at_call 75;refine HM.out.mono ?_;rintro e w1 ⟨d,rfl,hb,hD,hnx⟩;have HB1:=ah hb;have HD:=ah hD;have HN1:=ah hnx;clear hb hD hnx)
  |(go_at_call 77;refine(HN1.out w1 (aF _ w1)).mono ?_;rintro e w3 ⟨nv,rfl,hb,hnx⟩;have HB3:=ah hb;have HN3:=ah hnx;clear hb hnx)
  |(go_at_call 76;refine(HN3.out w3 (aF _ w3) _ (by kernel_rfl)).mono ?_;rintro e w5 ⟨gr,og,cr,rfl,hb,hR,ss,hs,hS⟩;have H6:=ah (HB3.out.trans (hb.mono HB3.out.size));have HR:=ah hR;have HS:=ah hs;have V5:=ah hS;clear hb hR hs hS)
  |(go_at_call 78;(refine(HW.out gr og cr d ss _ (jF HD.out (H6.out.alloc H6.out.size _)) (HR.out.below ((aF _ w5).alloc (ay _) _)) HS.out (V5.out _ ((aF _ w5).alloc (ay _) _)) HN.out).mono ?_);rintro e w7 ⟨A,n,c,rfl,hI,hb⟩;have HI:=ah hI;have HB7:=ah ((H6.out.alloc H6.out.size _).trans (hb.mono (H6.out.alloc H6.out.size _).size));clear hI hb))
 go_ret;exact⟨A,n,c,rfl,HI.out,HB1.out.trans (HB7.out.mono HB1.out.size)⟩
def Z7 (w:World):Prop:=Calls Tryz.prog 12 #[] w fun e w'=>∃v,e= .returned v∧Below w.heap.size w w'∧Dm w' v
def Z8 (w:World):Prop:=Calls Tryz.prog 58 #[] w fun e w'=>∃v,e= .returned v∧Below w.heap.size w w'∧ZU w' v gV 13 su true
structure VU (W:World):Prop where
 book:∀w,Below W.heap.size W w→Z7 w
 brk:∀w,Below W.heap.size W w→Z8 w
 word:∀w,Below W.heap.size W w→TK w
theorem VU.go {W w:World} (h:VU W) (hb:Below W.heap.size W w):VU w:=
 ⟨fun v hv=>h.book v (hb.trans (hv.mono hb.size)),fun v hv=>h.brk v (hb.trans (hv.mono hb.size)),fun v hv=>h.word v (hb.trans (hv.mono hb.size))⟩
theorem Lp (v:Value) (W:World):Calls Tryz.prog 64 #[v, .string ⟨#[]⟩] W (dF [] W):=by go_enter Tryz.func64,Tryz.ntmps64;go_wp2_with fail;go_ret;exact⟨none,0,0,rfl,AY _,aF _ _⟩
theorem anW (t:List UInt8) (W:World) (h:Z8 W) (hn:t.length≤48):ai3 ⟨t.toArray⟩ (D8 t) W:=by
 refine h.mono ?_;rintro e w ⟨v,rfl,hb,hB⟩;refine⟨v,rfl,hb,?_⟩;by_cases h0:t=[]
 ·subst h0;exact Lp v w
 ·have hml:=pJ t;have:=OC gV 13 ajx t v su true w hB (by omega) (DK (Ba t)) (by omega) h0 (CX h0) (DL ajx fun{n} h1 h2 h3 {b} h4=>acW h1 h2 h3 h4);rwa [TH,TI t h0]at this
theorem ajy (fo:Bool) (W:World) (h:Z7 W):afV fo W:=by refine h.mono ?_;rintro e w ⟨v,rfl,hb,hB⟩;exact⟨v,rfl,hb,fun _ x w2 hb2 hx=>Ze x v w2 (Dw hB hb2) (by omega)⟩
theorem ajz {s:List UInt8} {fo le wo:Bool}:(∀x∈EvL.places (mW s fo le wo),x≤s.length)∧(EvL.places (mW s fo le wo)).Pairwise (·<·)∧(EvL.places (mW s fo le wo)).length≤s.length+1:=by
 unfold mW;rw[G7 _ _ s s.length 0 (aH _) (by omega)];refine⟨fun x hx=> ?_,?_,?_⟩
 ·rcases jk.1 (nL.1 hx).1 with h|h
  ·obtain⟨y,hy,rfl⟩:=dz.1 h;exact dJ (l7 s _ _ y hy).2
  ·exact Nat.le_of_eq (fE.1 h)
 ·refine List.Pairwise.filter _ (List.pairwise_append.2 ⟨List.pairwise_map.2 (uq s _ _),List.pairwise_singleton _ _,fun a ha b hb=> ?_⟩);obtain rfl:=fE.1 hb;obtain⟨y,hy,rfl⟩:=dz.1 ha;exact(l7 s _ _ y hy).2
 ·refine aQ (EC _ _) ?_;rw[bf,dx];have:=pJ s;unfold marks at this;simp only[bJ,iw];omega
theorem Rf (s t:List UInt8) (fo le wo:Bool) (W:World) (h:VU W) (hs:s.length≤48) (ht:t.length≤60):
 Calls Tryz.prog 19 #[.string ⟨s.toArray⟩, .string ⟨t.toArray⟩, .agg #[.bool fo, .bool le, .bool wo]] W (jG (qR s t fo le wo) W):=by
 by_cases hn:t=[]
 ·subst hn;exact QT _ fo le wo W
 ·unfold qR;rw[aj hn];obtain⟨p1,p2,p3⟩:=ajz (s:=s) (fo:=fo) (le:=le) (wo:=wo);have hw:uI fo t≠[]:=by
   unfold uI;split;·exact adX hn
   ·exact hn
  have ho:=Zk fo le wo s (uI fo t) (D8 s) (qH s) hw;rw[show Left.every (uI fo t) (mW s fo le wo)=EvL.outer (uI fo t) (eG fo s) (EvL.places (mW s fo le wo))from ho.symm];have hP:∀w,Below W.heap.size W w→Calls Tryz.prog 72 #[.string ⟨s.toArray⟩, .agg #[.bool fo, .bool le, .bool wo]] w (dF ((EvL.places (mW s fo le wo)).map fun(x:Nat)=>(x:Int)) w):=fun w hb=>by have h':=h.go hb;rw[←VT];exact QS s _ rfl fo le wo (D8 s) (qH s) w (by omega) (fun _ v hv=>anW s v (h'.brk v hv) hs) (fun _ v hv=>anV s v (h'.word v hv) hs)
  cases fo with
  |false=>exact Zl s t _ _ rfl le wo _ W hn (by omega) ht rfl hP (fun w hb=>ajy false w (h.book w hb)) p1 p2 (by omega)
  |true=>exact Zo s t _ _ rfl le wo _ W hn (by omega) ht rfl hP (fun w hb=>ajy true w (h.book w hb)) p1 p2 (by omega)
theorem Z9 (s t:List UInt8) (fo le wo:Bool) (W:World) (h:VU W) (hs:s.length≤48) (ht:t.length≤60):
 Calls Tryz.prog 18 #[.string ⟨s.toArray⟩, .string ⟨t.toArray⟩, .agg #[.bool fo, .bool le, .bool wo]] W (rY (Left.mJ 0 (qR s t fo le wo)) W):=
 acD _ _ _ fo le wo W (aQ (zf s t fo le wo) (by omega)) fun w hb=>Rf s t fo le wo w (h.go hb) hs ht
end Go.Proofs.YtocaiijbhepnnaaGreatDoor.searchEach
