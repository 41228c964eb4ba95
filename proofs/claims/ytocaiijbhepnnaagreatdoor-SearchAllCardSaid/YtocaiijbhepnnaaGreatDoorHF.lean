/- SearchAll, the rules of words and letters; the document's Every and All of texts. -/
import Derived.Test.YtocaiijbhepnnaaGreatDoorHE
import Derived.Test.YtocaiijbhepnnaaGreatDoorGC
import Derived.Test.YtocaiijbhepnnaaGreatDoorFJ
import Derived.Test.YtocaiijbhepnnaaGreatDoorHB
import Derived.Test.YtocaiijbhepnnaaGreatDoorGB
import Derived.BigQuiet
import Derived.Test.YtocaiijbhepnnaaGreatDoorHA
set_option maxRecDepth 100000
set_option maxHeartbeats 8000000
namespace Go.Proofs.YtocaiijbhepnnaaGreatDoor.searchAll
open Go.Shelf Go.RowKit Go.Lib Go.Proofs.YtocaiijbhepnnaaGreatDoor.Am
section
open KM
theorem pW (c:List Int) (n:Nat):∀k,k≤n→dx (c.take n) k=dx c k
 |0,_=>rfl
 |k+1,h=>by rw[dx,dx,gTk c (show k<n by omega),pW c n k (by omega)]
theorem Bq (c:List Int) {n:Nat} {x:Int} (h:x<n) (hn:n≤c.length):iD (c.take n) x=iD c x:=by
 unfold iD;rw[gZ,zu hn];by_cases e:x<0;·rw[ak (.inl e),ak (.inl e)]
 ·rw[aj (by omega),aj (by omega),gTk c (by omega)]
theorem Du (c:List Int) {n:Nat} {x:Int} (h:x≤n):eu (c.take n) x=eu c x:=by
 unfold eu;split;·exact pW c n _ (by omega)
 ·rfl
theorem Js (c:List Int) (x:Int):eu c x<x:=by
 unfold eu;split;·have:=(kI c x.toNat).2;omega
 ·omega
theorem Jt (c:List Int) {n:Nat} (hn:n≤c.length):∀(f:Nat) (x:Int),x<n→vM (c.take n) f x=vM c f x
 |0,_,_=>rfl
 |f+1,x,h=>by have:=Js c x;rw[vM,vM,Bq c h hn,Du c (by omega),Jt c hn f _ (by omega)]
theorem lZ (A:List Nat) (h:(A.all fun y=> !cB y)=true):Apart A:=by rintro x ⟨y,hy,rfl⟩;have:=fU.1 h y hy;exact⟨by simpa using this,by omega⟩
theorem QT (A:List Nat) (d:List Int) (h:0<d.length):(∃i,aS (pS A) d i d.length)↔Mem A (d.getD (d.length-1) 0):=by
 constructor;·rintro⟨i,e⟩;obtain⟨e1,e2,e3⟩:=(dD _ _ _ _).1 e;rwa [e2,qm]
 ·intro e;exact⟨d.length-1,(dD _ _ _ _).2 ⟨by omega,by omega,e⟩⟩
theorem ZK (d:List Int):∃i,aS p0 d i d.length:=⟨d.length,(vP _ _ _ _ _).2 ⟨ay _,rfl⟩⟩
theorem Te (d:List Int):∃k,aS p0 d 0 k:=⟨0,(vP _ _ _ _ _).2 ⟨aH _,rfl⟩⟩
def dG:List PR:=[
 ⟨false,false,false,pS [1],pS [2]⟩,
 ⟨true,false,false,pS [1,2,3],p0⟩,
 ⟨true,false,false,p0,pS [1,2,3]⟩,
 ⟨false,false,false,pS [5],pS [19]⟩,
 ⟨false,false,false,pS [18],pS [18]⟩,
 ⟨false,false,false,p0,pS [4,5,6]⟩,
 ⟨false,false,false,pT [pS [9,10],pX],pS [9,10]⟩,
 ⟨false,false,false,pT [pS [9,10],pX],pT [pS [11,13,14],pX,pS [9,10]]⟩,
 ⟨false,false,false,pT [pS [9,10],pX,pS [11,13,14],pX],pS [9,10]⟩,
 ⟨false,false,false,pT [pS [9],pX],pS [11]⟩,
 ⟨false,false,false,pT [pS [9],pX],pT [pS [12],pX,pS [9]]⟩,
 ⟨false,false,false,pT [pS [9],pX,pS [12],pX],pS [9]⟩,
 ⟨false,false,false,pT [pS [16],pX],pS [16]⟩,
 ⟨false,false,false,pT [pS [9,10],pX],pS [16]⟩,
 ⟨false,false,false,pT [pS [16],pX],pS [9,10]⟩,
 ⟨false,false,false,pT [pS [16],pX,pS [11,13,15],pX],pS [16]⟩,
 ⟨false,false,false,pT [pS [16],pX],pT [pS [11,13,15],pX,pS [16]]⟩,
 ⟨false,false,false,pT [pS [8],pX],pS [8]⟩,
 ⟨false,false,false,pT [pS [8,9,10,16,17],pX],pS [17]⟩,
 ⟨false,false,false,pT [pS [17],pX],pS [8,9,10,16]⟩,
 ⟨false,true,false,pR1,pS [7]⟩,
 ⟨false,false,false,pR2,pS [7]⟩]
section
variable {c:List Int} {n:Nat} (h2:n<c.length)
include h2
theorem take_len:(c.take n).length=n:=by rw[gZ];omega
theorem dL {b:Bool} {L R:PT} {P Q:Prop} (hL:(∃i,aS L (c.take n) i (c.take n).length)↔P) (hR:(∃k,aS R (c.drop n) 0 k)↔Q):vU ⟨b,false,false,L,R⟩ c n↔P∧Q:=by rw[take_len h2]at hL;unfold vU;rw[hL,hR];exact⟨fun h=>⟨h.1,h.2.1⟩,fun h=>⟨h.1,h.2,(fun e=>by cases e),(fun e=>by cases e)⟩⟩
theorem lS (h1:1≤n) (A:List Nat):(∃i,aS (pS A) (c.take n) i (c.take n).length)↔Mem A (c.getD (n-1) 0):=by rw[QT A _ (by rw[take_len h2];omega),take_len h2,gTk c (by omega)]
theorem l1 {A:List Nat} (hA:Apart A):(∃i,aS (pT [pS A,pX]) (c.take n) i (c.take n).length)↔Mem A (iD c (dx c n)):=by rw[afM hA,take_len h2,pW c n n (ay _),Bq c (kI c n).2 (by omega)]
theorem l2 {A B:List Nat} (hA:Apart A) (hB:Apart B):(∃i,aS (pT [pS A,pX,pS B,pX]) (c.take n) i (c.take n).length)↔Mem B (iD c (dx c n))∧Mem A (iD c (eu c (dx c n))):=by have e:=(kI c n).2;have g:=Js c (dx c n);rw[afN hA hB,take_len h2,pW c n n (ay _),Bq c e (by omega),Du c (by omega),Bq c (by omega) (by omega)]
theorem rS (B:List Nat):(∃k,aS (pS B) (c.drop n) 0 k)↔Mem B (c.getD n 0):=K7 B c n h2
theorem r2 (B:List Nat) {A:List Nat} (hA:Apart A):(∃k,aS (pT [pS B,pX,pS A]) (c.drop n) 0 k)↔Mem B (c.getD n 0)∧Mem A (DR c n):=acz hA c n h2
theorem acC (hd:∀j,j<c.length→0≤c.getD j 0∧c.getD j 0≤19):(aS pR1 (c.take n) 0 n∨∃i,aS pR2 (c.take n) i n)↔Qh c n%2=1:=by have hl:=take_len h2;have:=ZA (d:=c.take n) (fun j hj=>by rw[gTk c (by omega)];exact hd j (by omega)) (f:=n+1) (by omega);rw[hl]at this;rw[this];unfold Qh;rw[pW c n n (ay _),Jt c (by omega) _ _ (kI c n).2,um]
end
section
variable (x:Int)
theorem m1 (k:Nat):Mem [k] x↔(x==(k:Int))=true:=by unfold Mem;simp only[fE,mG,bT];omega
theorem anq:Mem [1,2,3] x↔vL x=true:=by unfold Mem vL;simp only[aV,lG,jG,pq,mG,bZ,bT];omega
theorem anr:Mem [9,10] x↔rR x=true:=by unfold Mem rR;simp only[aV,lG,jG,pq,mG,bZ,bT];omega
theorem ant:Mem [11,13,14] x↔Nb x=true:=by unfold Mem Nb;simp only[aV,lG,jG,pq,mG,bZ,bT];omega
theorem anu:Mem [11,13,15] x↔Nc x=true:=by unfold Mem Nc;simp only[aV,lG,jG,pq,mG,bZ,bT];omega
theorem ajb:Mem [8,9,10,16] x↔yj x=true:=by unfold Mem yj rR;simp only[aV,lG,jG,pq,mG,bZ,bT];omega
theorem afR:Mem [8,9,10,16,17] x↔(yj x||x==17)=true:=by unfold Mem yj rR;simp only[aV,lG,jG,pq,mG,bZ,bT];omega
end
theorem ZL {a b:Bool}:a=true∨b=true→(a||b)=true:=fun h=>by rcases h with rfl|rfl<;>simp
theorem ZM {c:List Int} {n:Nat} (h1:1≤n) (h2:n<c.length) (hd:∀j,j<c.length→0≤c.getD j 0∧c.getD j 0≤19) {b:Bool} (h:fK true c n b dG):b=Gf c n:=by
 have Vy:Apart [9,10]:=lZ _ rfl;have h9:Apart [9]:=lZ _ rfl;have h12:Apart [12]:=lZ _ rfl;have h16:Apart [16]:=lZ _ rfl;have h8:Apart [8]:=lZ _ rfl;have h17:Apart [17]:=lZ _ rfl;have hW:Apart [11,13,14]:=lZ _ rfl;have hN:Apart [11,13,15]:=lZ _ rfl;have hJ:Apart [8,9,10,16,17]:=lZ _ rfl;have L0:(∃i,aS p0 (c.take n) i (c.take n).length)↔True:=⟨fun _=>trivial,fun _=>ZK _⟩
 have R0:(∃k,aS p0 (c.drop n) 0 k)↔True:=⟨fun _=>trivial,fun _=>Te _⟩
 have odd:=acC h2 hd;have a21:vU ⟨false,true,false,pR1,pS [7]⟩ c n↔aS pR1 (c.take n) 0 n∧Mem [7] (c.getD n 0):=by unfold vU;rw[rS h2];exact⟨fun h=>⟨h.2.2.1 rfl,h.2.1⟩,fun h=>⟨⟨0,h.1⟩,h.2,(fun _=>h.1),(fun e=>by cases e)⟩⟩
 have a22:vU ⟨false,false,false,pR2,pS [7]⟩ c n↔(∃i,aS pR2 (c.take n) i n)∧Mem [7] (c.getD n 0):=by have:=dL h2 (b:=false) (L:=pR2) (R:=pS [7]) Iff.rfl (rS h2 [7]);rwa [take_len h2]at this
 unfold dG at h;simp only[fK]at h;rw[dL h2 (lS h2 h1 _) (rS h2 _),dL h2 (lS h2 h1 _) R0,dL h2 L0 (rS h2 _),dL h2 (lS h2 h1 _) (rS h2 _),dL h2 (lS h2 h1 _) (rS h2 _),dL h2 L0 (rS h2 _),
  dL h2 (l1 h2 Vy) (rS h2 _),dL h2 (l1 h2 Vy) (r2 h2 _ Vy),dL h2 (l2 h2 Vy hW) (rS h2 _),dL h2 (l1 h2 h9) (rS h2 _),dL h2 (l1 h2 h9) (r2 h2 _ h9),
  dL h2 (l2 h2 h9 h12) (rS h2 _),dL h2 (l1 h2 h16) (rS h2 _),dL h2 (l1 h2 Vy) (rS h2 _),dL h2 (l1 h2 h16) (rS h2 _),dL h2 (l2 h2 h16 hN) (rS h2 _),dL h2 (l1 h2 h16) (r2 h2 _ h16),
  dL h2 (l1 h2 h8) (rS h2 _),dL h2 (l1 h2 hJ) (rS h2 _),dL h2 (l1 h2 h17) (rS h2 _),a21,a22]at h
 simp only[m1,anq,anr,ant,anu,ajb,afR,GA]at h;unfold Gf;generalize Qh c n=R at*
 generalize c.getD (n-1) 0=x at*
 generalize c.getD n 0=y at*
 generalize iD c (eu c (dx c n))=z at*
 generalize iD c (dx c n)=a at*
 generalize DR c n=m at*
 generalize aS pR1 (c.take n) 0 n=P1 at*
 generalize(∃i,aS pR2 (c.take n) i n)=P2 at*
 clear hd h1 h2 a21 a22 L0 R0 Vy h9 h12 h16 h8 h17 hW hN hJ;unfold afg;rcases h with⟨⟨e1,e2⟩,rfl⟩|⟨n1,h⟩
 ·rw[ak (by rw[show(x==1)=true from e1,show(y==2)=true from e2];rfl)]
 rw[aj (by rw[aP];exact n1)];rcases h with⟨⟨e1,_⟩,rfl⟩|⟨n2,h⟩
 ·rw[ak (ZL (.inl e1))]
 rcases h with⟨⟨_,e1⟩,rfl⟩|⟨n3,h⟩
 ·rw[ak (ZL (.inr e1))]
 rw[aj (by rw[bZ];rintro(e|e);exact n2 ⟨e,trivial⟩;exact n3 ⟨trivial,e⟩)];rcases h with⟨⟨e1,e2⟩,rfl⟩|⟨n4,h⟩
 ·rw[ak (by rw[show(x==5)=true from e1,show(y==19)=true from e2];rfl)]
 rw[aj (by rw[aP];exact n4)];rcases h with⟨⟨e1,e2⟩,rfl⟩|⟨n5,h⟩
 ·rw[ak (by rw[show(x==18)=true from e1,show(y==18)=true from e2];rfl)]
 rw[aj (by rw[aP];exact n5)];rcases h with⟨⟨_,e1⟩,rfl⟩|⟨n6,h⟩
 ·rw[ak e1]
 rw[aj (fun e=>n6 ⟨trivial,e⟩)];clear n1 n2 n3 n4 n5 n6;by_cases hl:lK z a y m=true
 ·rw[ak hl];rcases h with⟨_,rfl⟩|⟨n7,h⟩
  ·rfl
  rcases h with⟨_,rfl⟩|⟨n8,h⟩
  ·rfl
  rcases h with⟨_,rfl⟩|⟨n9,h⟩
  ·rfl
  rcases h with⟨_,rfl⟩|⟨n10,h⟩
  ·rfl
  rcases h with⟨_,rfl⟩|⟨n11,h⟩
  ·rfl
  rcases h with⟨_,rfl⟩|⟨n12,h⟩
  ·rfl
  rcases h with⟨_,rfl⟩|⟨n13,h⟩
  ·rfl
  rcases h with⟨_,rfl⟩|⟨n14,h⟩
  ·rfl
  rcases h with⟨_,rfl⟩|⟨n15,h⟩
  ·rfl
  rcases h with⟨_,rfl⟩|⟨n16,h⟩
  ·rfl
  rcases h with⟨_,rfl⟩|⟨n17,h⟩
  ·rfl
  rcases h with⟨_,rfl⟩|⟨n18,h⟩
  ·rfl
  rcases h with⟨_,rfl⟩|⟨n19,h⟩
  ·rfl
  rcases h with⟨_,rfl⟩|⟨n20,h⟩
  ·rfl
  exfalso;unfold lK l1F l2F l3F h1F h2F h3F d1F d2F n1F n2F UM at hl;simp only[bZ,aP]at hl n19;rcases hl with(((((((((hl|hl)|hl)|hl)|hl)|hl)|hl)|hl)|hl)|hl)|((hl|hl)|hl)
  ·exact n7 hl
  ·exact n8 ⟨hl.1.1,hl.1.2,hl.2⟩
  ·exact n9 ⟨⟨hl.1.2,hl.1.1⟩,hl.2⟩
  ·exact n10 hl
  ·exact n11 ⟨hl.1.1,hl.1.2,hl.2⟩
  ·exact n12 ⟨⟨hl.1.2,hl.1.1⟩,hl.2⟩
  ·rcases hl with⟨e1,e2|e2⟩
   ·exact n13 ⟨e1,e2⟩
   ·exact n15 ⟨e1,e2⟩
  ·exact n14 hl
  ·exact n16 ⟨⟨hl.1.2,hl.1.1⟩,hl.2⟩
  ·exact n17 ⟨hl.1.1,hl.1.2,hl.2⟩
  ·exact n18 hl
  ·exact n19 hl
  ·exact n20 hl
 ·rw[aj hl];unfold lK l1F l2F l3F h1F h2F h3F d1F d2F n1F n2F UM at hl;simp only[bZ,aP,not_or]at hl;obtain⟨⟨⟨⟨⟨⟨⟨⟨⟨⟨q1,q2⟩,q3⟩,q4⟩,q5⟩,q6⟩,q7⟩,q8⟩,q9⟩,q10⟩,⟨⟨q11,q12⟩,q13⟩⟩:=hl;rcases h with⟨e,rfl⟩|⟨_,h⟩
  ·exact absurd e q1
  rcases h with⟨e,rfl⟩|⟨_,h⟩
  ·exact absurd ⟨⟨e.1,e.2.1⟩,e.2.2⟩ q2
  rcases h with⟨e,rfl⟩|⟨_,h⟩
  ·exact absurd ⟨⟨e.1.2,e.1.1⟩,e.2⟩ q3
  rcases h with⟨e,rfl⟩|⟨_,h⟩
  ·exact absurd e q4
  rcases h with⟨e,rfl⟩|⟨_,h⟩
  ·exact absurd ⟨⟨e.1,e.2.1⟩,e.2.2⟩ q5
  rcases h with⟨e,rfl⟩|⟨_,h⟩
  ·exact absurd ⟨⟨e.1.2,e.1.1⟩,e.2⟩ q6
  rcases h with⟨e,rfl⟩|⟨_,h⟩
  ·exact absurd ⟨e.1, .inl e.2⟩ q7
  rcases h with⟨e,rfl⟩|⟨_,h⟩
  ·exact absurd e q8
  rcases h with⟨e,rfl⟩|⟨_,h⟩
  ·exact absurd ⟨e.1, .inr e.2⟩ q7
  rcases h with⟨e,rfl⟩|⟨_,h⟩
  ·exact absurd ⟨⟨e.1.2,e.1.1⟩,e.2⟩ q9
  rcases h with⟨e,rfl⟩|⟨_,h⟩
  ·exact absurd ⟨⟨e.1,e.2.1⟩,e.2.2⟩ q10
  rcases h with⟨e,rfl⟩|⟨_,h⟩
  ·exact absurd e q11
  rcases h with⟨e,rfl⟩|⟨_,h⟩
  ·exact absurd ⟨by simpa using e.1,e.2⟩ q12
  rcases h with⟨e,rfl⟩|⟨_,h⟩
  ·exact absurd e q13
  rcases h with⟨⟨e,e7⟩,rfl⟩|⟨n21,h⟩
  ·have:=odd.1 (.inl e);rw[show(y==7)=true from e7,this];rfl
  rcases h with⟨⟨e,e7⟩,rfl⟩|⟨n22,rfl⟩
  ·have:=odd.1 (.inr e);rw[show(y==7)=true from e7,this];rfl
  by_cases g:(y==7)=true
  ·rw[g];have:¬R%2=1:=fun k=>by
    rcases odd.2 k with e|e;·exact n21 ⟨e,g⟩
    ·exact n22 ⟨e,g⟩
   have:R%2=0:=by omega
   rw[this];rfl
  ·rw[Bool.not_eq_true]at g;rw[g];rfl
end
section
open KM
def pO (l:List PT):PT:= .node 3 [] l
def Tf:PT:= .node 4 [] [pT [pS [13],pS [13]]]
def Tg:PT:=pO [pS [1],pS [2],pS [3]]
def Dv:List Nat:=[0,1,2,3,4,5,6,7,8,9,10,11,12]
def r9:List PR:=[
 ⟨false,false,false,pS [1],pS [2]⟩,
 ⟨true,false,false,Tg,p0⟩,
 ⟨true,false,false,p0,Tg⟩,
 ⟨false,false,false,pS [8],pO [pS [8],pS [9],pS [11]]⟩,
 ⟨false,false,false,pO [pS [9],pS [11]],pO [pS [9],pS [10]]⟩,
 ⟨false,false,false,pS [10],pS [10]⟩,
 ⟨false,false,false,p0,pO [pS [4],pS [5],pS [6]]⟩,
 ⟨false,false,false,pS [7],p0⟩,
 ⟨false,false,false,pT [pS [12], .node 4 [] [pS [4]],pS [5]],pS [12]⟩,
 ⟨false,true,false,pT [Tf,pS [13]],pS [13]⟩,
 ⟨false,false,false,pT [pS Dv,Tf,pS [13]],pS [13]⟩]
def DW (c:List Int):Nat→Bool
 |0=>false
 |n+1=>c.getD n 0==12||(DW c n&&c.getD n 0==4)
def QU (c:List Int):Nat→Bool
 |0=>false
 |n+1=>DW c n&&c.getD n 0==5
def flF (c:List Int):Nat→Nat
 |0=>0
 |n+1=>if c.getD n 0=13 then flF c n+1 else 0
def Dw (c:List Int) (n:Nat):Bool:= !(qR (c.getD (n-1) 0) (c.getD n 0)||(QU c n&&c.getD n 0==12)||(c.getD n 0==13&&flF c n%2==1))
theorem Oo (A:List Nat) (d:List Int) {i k:Nat} (hi:i≤d.length):aS (.node 4 [] [pS A]) d i k↔i≤k∧k≤d.length∧∀j,i≤j→j<k→Mem A (d.getD j 0):=by
 rw[mH _ _ _ _ _ hi];constructor
 ·intro h;induction h with
  |nil=>exact⟨ay _,hi,fun j h1 h2=>by omega⟩
  |snoc _ s ih=>
   obtain⟨h1,h2,h3⟩:=(dD _ _ _ _).1 s;subst h2;refine⟨by omega,by omega,fun j e1 e2=> ?_⟩;rename_i m _;by_cases c:j<m;·exact ih.2.2 j e1 c
   ·obtain rfl:j=m:=by omega
    exact h3
 ·rintro⟨h1,h2,h3⟩;obtain⟨m,rfl⟩:∃m,k=i+m:=⟨k-i,by omega⟩
  clear h1;induction m with
  |zero=>exact .nil
  |succ m ih=>exact .snoc (ih (by omega) fun j e1 e2=>h3 j e1 (by omega)) ((dD _ _ _ _).2 ⟨by omega,by omega,h3 _ (by omega) (by omega)⟩)
theorem K9 (c:List Int):∀n,DW c n=true↔∃m,m<n∧c.getD m 0=12∧∀j,m<j→j<n→c.getD j 0=4
 |0=>⟨fun h=>(by cases h),fun⟨m,h,_⟩=>absurd h (iU m)⟩
 |n+1=>by
  rw[DW,bZ,aP,K9 c n,bT,bT];constructor
  ·rintro(h|⟨⟨m,h1,h2,h3⟩,h4⟩)
   ·exact⟨n,kX n,h,fun j e1 e2=>by omega⟩
   ·refine⟨m,by omega,h2,fun j e1 e2=> ?_⟩;rcases aK j n with e|e
    ·exact h3 j e1 e
    ·obtain rfl:j=n:=by omega
     exact h4
  ·rintro⟨m,h1,h2,h3⟩;rcases aK m n with e|e
   ·exact .inr ⟨⟨m,e,h2,fun j e1 e2=>h3 j e1 (by omega)⟩,h3 n e (kX n)⟩
   ·obtain rfl:m=n:=by omega
    exact .inl h2
theorem VP (k:Nat) (x:Int):Mem [k] x↔x=(k:Int):=by rw[m1,bT]
theorem afS (d:List Int):(∃i,aS (pT [pS [12], .node 4 [] [pS [4]],pS [5]]) d i d.length)↔QU d d.length=true:=by
 constructor;·rintro⟨i,h⟩;obtain⟨_,j,h1,k,h2,m,h3,e⟩:=(bE _ _ _ _ _).1 h;cases e;obtain⟨a1,rfl,a2⟩:=(dD _ _ _ _).1 h1;obtain⟨b1,b2,b3⟩:=(Oo _ d (by omega)).1 h2;obtain⟨c1,c2,c3⟩:=(dD _ _ _ _).1 h3;rw[c2,QU,aP,bT,K9];exact⟨⟨i,by omega,(VP 12 _).1 a2,fun j e1 e2=>(VP 4 _).1 (b3 j e1 e2)⟩,(VP 5 _).1 c3⟩
 ·intro h;obtain⟨n,hn⟩:∃n,d.length=n:=⟨_,rfl⟩
  rw[hn]at h⊢;cases n with
  |zero=>cases h
  |succ n=>rw[QU,aP,bT,K9]at h;obtain⟨⟨m,h1,h2,h3⟩,h4⟩:=h;exact⟨m,(bE _ _ _ _ _).2 ⟨by omega,m+1,(dD _ _ _ _).2 ⟨by omega,rfl,(VP 12 _).2 h2⟩,n,(Oo _ d (by omega)).2 ⟨h1,by omega,fun j e1 e2=>(VP 4 _).2 (h3 j e1 e2)⟩,n+1,(dD _ _ _ _).2 ⟨by omega,rfl,(VP 5 _).2 h4⟩,rfl⟩⟩
theorem fl_pair {d:List Int} {i k:Nat}:aS (pT [pS [13],pS [13]]) d i k↔k=i+2∧k≤d.length∧d.getD i 0=13∧d.getD (i+1) 0=13:=by
 constructor;·intro h;obtain⟨_,j,h1,m,h2,e⟩:=(bE _ _ _ _ _).1 h;cases e;obtain⟨a1,rfl,a2⟩:=(dD _ _ _ _).1 h1;obtain⟨b1,b2,b3⟩:=(dD _ _ _ _).1 h2;exact⟨b2,by omega,(VP 13 _).1 a2,(VP 13 _).1 b3⟩
 ·rintro⟨rfl,h1,h2,h3⟩;exact(bE _ _ _ _ _).2 ⟨by omega,i+1,(dD _ _ _ _).2 ⟨by omega,rfl,(VP 13 _).2 h2⟩,i+2,(dD _ _ _ _).2 ⟨by omega,rfl,(VP 13 _).2 h3⟩,rfl⟩
theorem fl_star {d:List Int} {i k:Nat} (hi:i≤d.length):aS Tf d i k↔i≤k∧k≤d.length∧(k-i)%2=0∧∀j,i≤j→j<k→d.getD j 0=13:=by
 unfold Tf;rw[mH _ _ _ _ _ hi];constructor
 ·intro h;induction h with
  |nil=>exact⟨ay _,hi,by omega,fun j h1 h2=>by omega⟩
  |snoc _ s ih=>
   obtain⟨rfl,h1,h2,h3⟩:=fl_pair.1 s;rename_i m _;refine⟨by omega,h1,by omega,fun j e1 e2=> ?_⟩;rcases kU j m with c|rfl|c;·exact ih.2.2.2 j e1 c
   ·exact h2
   ·obtain rfl:j=m+1:=by omega
    exact h3
 ·rintro⟨h1,h2,h3,h4⟩;obtain⟨m,rfl⟩:∃m,k=i+2*m:=⟨(k-i)/2,by omega⟩
  clear h1 h3;induction m with
  |zero=>exact .nil
  |succ m ih=>exact .snoc (ih (by omega) fun j e1 e2=>h4 j e1 (by omega)) (fl_pair.2 ⟨by omega,by omega,h4 _ (by omega) (by omega),h4 _ (by omega) (by omega)⟩)
theorem fl_all {d:List Int} {i:Nat} (hi:i≤d.length):jS [Tf,pS [13]] d i d.length↔(d.length-i)%2=1∧∀j,i≤j→j<d.length→d.getD j 0=13:=by
 constructor
 ·rintro⟨a,h1,b,h2,e⟩;cases e;obtain⟨a1,a2,a3,a4⟩:=(fl_star hi).1 h1;obtain⟨b1,b2,b3⟩:=(dD _ _ _ _).1 h2;refine⟨by omega,fun j e1 e2=> ?_⟩;rcases aK j a with c|c
  ·exact a4 j e1 c
  ·obtain rfl:j=a:=by omega
   exact(VP 13 _).1 b3
 ·rintro⟨h1,h2⟩;exact⟨d.length-1,(fl_star hi).2 ⟨by omega,by omega,by omega,fun j e1 e2=>h2 j e1 (by omega)⟩,d.length,(dD _ _ _ _).2 ⟨by omega,by omega,(VP 13 _).2 (h2 _ (by omega) (by omega))⟩,rfl⟩
theorem fl_spec (c:List Int):∀n,flF c n≤n∧(∀j,n-flF c n≤j→j<n→c.getD j 0=13)∧(flF c n=n∨c.getD (n-flF c n-1) 0≠13)
 |0=>⟨ay _,fun j h1 h2=>by omega, .inl rfl⟩
 |n+1=>by
  obtain⟨h1,h2,h3⟩:=fl_spec c n;rw[flF];by_cases e:c.getD n 0=13
  ·rw[ak e];refine⟨by omega,fun j a1 a2=> ?_,?_⟩
   ·rcases aK j n with g|g
    ·exact h2 j (by omega) g
    ·obtain rfl:j=n:=by omega
     exact e
   ·rcases h3 with h3|h3
    ·exact .inl (by omega)
    ·exact .inr (by rw[show n+1-(flF c n+1)-1=n-flF c n-1 by omega];exact h3)
  ·rw[aj e];exact⟨by omega,fun j a1 a2=>by omega, .inr e⟩
theorem Ju {x:Int} (h0:0≤x) (h1:x≤13):Mem Dv x↔x≠13:=by unfold Mem Dv;simp only[aV,lG,jG,pq,mG];omega
theorem fl_odd {d:List Int} (hd:∀j,j<d.length→0≤d.getD j 0∧d.getD j 0≤13):(aS (pT [Tf,pS [13]]) d 0 d.length∨∃i,aS (pT [pS Dv,Tf,pS [13]]) d i d.length)↔flF d d.length%2=1:=by
 obtain⟨e1,e2,e3⟩:=fl_spec d d.length;constructor
 ·rintro(h|⟨i,h⟩)
  ·obtain⟨_,h⟩:=(bE _ _ _ _ _).1 h;obtain⟨h1,h2⟩:=(fl_all (aH _)).1 h;rcases e3 with e3|e3
   ·omega
   ·rcases aK (flF d d.length) d.length with g|g
    ·exact absurd (h2 _ (aH _) (by omega)) e3
    ·omega
  ·obtain⟨_,j,h1,h2⟩:=(bE _ _ _ _ _).1 h;obtain⟨g1,rfl,g2⟩:=(dD _ _ _ _).1 h1;obtain⟨k1,k2⟩:=(fl_all (by omega)).1 h2;rw[Ju (hd i g1).1 (hd i g1).2]at g2;have hq:d.length-flF d d.length=i+1:=by
    rcases kU (d.length-flF d d.length) (i+1)with c|c|c;·exact absurd (e2 i (by omega) g1) g2
    ·exact c
    ·rcases e3 with e3|e3
     ·omega
     ·exact absurd (k2 _ (by omega) (by omega)) e3
   omega
 ·intro h;by_cases g:flF d d.length=d.length
  ·exact .inl ((bE _ _ _ _ _).2 ⟨aH _,(fl_all (aH _)).2 ⟨by omega,fun j a1 a2=>e2 j (by omega) a2⟩⟩)
  ·rcases e3 with e3|e3
   ·exact absurd e3 g
   ·have hb:=hd (d.length-flF d d.length-1) (by omega);exact .inr ⟨d.length-flF d d.length-1,(bE _ _ _ _ _).2 ⟨by omega,d.length-flF d d.length,(dD _ _ _ _).2 ⟨by omega,by omega,(Ju hb.1 hb.2).2 e3⟩,(fl_all (by omega)).2 ⟨by omega,e2⟩⟩⟩
theorem afT (L:List (List Nat)) (d:List Int) (h:0<d.length):(∃i,aS (pO (L.map pS)) d i d.length)↔∃A∈L,Mem A (d.getD (d.length-1) 0):=by
 constructor;·rintro⟨i,e⟩;obtain⟨p,hp,e⟩:=(vO _ _ _ _ _).1 e;obtain⟨A,hA,rfl⟩:=dA.1 hp;exact⟨A,hA,(QT A d h).1 ⟨i,e⟩⟩
 ·rintro⟨A,hA,e⟩;obtain⟨i,e⟩:=(QT A d h).2 e;exact⟨i,(vO _ _ _ _ _).2 ⟨pS A,List.mem_map_of_mem hA,e⟩⟩
theorem acD (L:List (List Nat)) (c:List Int) (n:Nat) (hn:n<c.length):(∃k,aS (pO (L.map pS)) (c.drop n) 0 k)↔∃A∈L,Mem A (c.getD n 0):=by
 constructor;·rintro⟨k,e⟩;obtain⟨p,hp,e⟩:=(vO _ _ _ _ _).1 e;obtain⟨A,hA,rfl⟩:=dA.1 hp;exact⟨A,hA,(K7 A c n hn).1 ⟨k,e⟩⟩
 ·rintro⟨A,hA,e⟩;obtain⟨k,e⟩:=(K7 A c n hn).2 e;exact⟨k,(vO _ _ _ _ _).2 ⟨pS A,List.mem_map_of_mem hA,e⟩⟩
theorem mo3 (a b e:Nat) (x:Int):(∃A∈[[a],[b],[e]],Mem A x)↔(x==(a:Int)||x==(b:Int)||x==(e:Int))=true:=by simp only[aV,lG,jG,pq,mG,m1,bZ,or_assoc]
theorem mo2 (a b:Nat) (x:Int):(∃A∈[[a],[b]],Mem A x)↔(x==(a:Int)||x==(b:Int))=true:=by simp only[aV,lG,jG,pq,mG,m1,bZ]
theorem Oq (c:List Int) (n:Nat):∀k,k≤n→DW (c.take n) k=DW c k
 |0,_=>rfl
 |k+1,h=>by rw[DW,DW,gTk c (show k<n by omega),Oq c n k (by omega)]
theorem acE (c:List Int) (n:Nat):∀k,k≤n→QU (c.take n) k=QU c k
 |0,_=>rfl
 |k+1,h=>by rw[QU,QU,gTk c (show k<n by omega),Oq c n k (by omega)]
theorem fl_take (c:List Int) (n:Nat):∀k,k≤n→flF (c.take n) k=flF c k
 |0,_=>rfl
 |k+1,h=>by rw[flF,flF,gTk c (show k<n by omega),fl_take c n k (by omega)]
def GJ (x y:Int):Prop:=(x=1∧y=2)∨(¬(x=1∨x=2∨x=3)∧¬(y=1∨y=2∨y=3)∧(y=4∨y=5∨y=6∨x=7∨(x=8∧(y=8∨y=9∨y=11))∨((x=9∨x=11)∧(y=9∨y=10))∨(x=10∧y=10)))
theorem afU (x y:Int):qR x y=true↔GJ x y:=by
 unfold qR yw GJ;repeat' split
 all_goals simp only[aP,bZ,bT,bq,eq_self,true_iff,false_iff]at*
 all_goals omega
theorem anv {c:List Int}:∀{n:Nat},QU c n=true→c.getD (n-1) 0=5
 |0,h=>by cases h
 |n+1,h=>by rw[QU,aP,bT]at h;exact h.2
theorem fl_x {c:List Int}:∀{n:Nat},flF c n%2=1→c.getD (n-1) 0=13
 |0,h=>by cases h
 |n+1,h=>by
  rw[flF]at h;split at h;·assumption
  ·cases h
theorem acF {c:List Int} {n:Nat} (h1:1≤n) (h2:n<c.length) (hd:∀j,j<c.length→0≤c.getD j 0∧c.getD j 0≤13) {b:Bool} (h:fK true c n b r9):b=Dw c n:=by
 have hl:=take_len h2;have L0:(∃i,aS p0 (c.take n) i (c.take n).length)↔True:=⟨fun _=>trivial,fun _=>ZK _⟩
 have R0:(∃k,aS p0 (c.drop n) 0 k)↔True:=⟨fun _=>trivial,fun _=>Te _⟩
 have LO:∀L:List (List Nat),(∃i,aS (pO (L.map pS)) (c.take n) i (c.take n).length)↔∃A∈L,Mem A (c.getD (n-1) 0):=fun L=>by rw[afT L _ (by omega),hl,gTk c (by omega)]
 have RO:=fun L=>acD L c n h2;have LE:(∃i,aS Tg (c.take n) i (c.take n).length)↔∃A∈[[1],[2],[3]],Mem A (c.getD (n-1) 0):=LO [[1],[2],[3]];have RE:(∃k,aS Tg (c.drop n) 0 k)↔∃A∈[[1],[2],[3]],Mem A (c.getD n 0):=RO [[1],[2],[3]];have ajc:(∃i,aS (pO [pS [9],pS [11]]) (c.take n) i (c.take n).length)↔∃A∈[[9],[11]],Mem A (c.getD (n-1) 0):=LO [[9],[11]];have R8:(∃k,aS (pO [pS [8],pS [9],pS [11]]) (c.drop n) 0 k)↔∃A∈[[8],[9],[11]],Mem A (c.getD n 0):=RO [[8],[9],[11]];have ajd:(∃k,aS (pO [pS [9],pS [10]]) (c.drop n) 0 k)↔∃A∈[[9],[10]],Mem A (c.getD n 0):=RO [[9],[10]];have R4:(∃k,aS (pO [pS [4],pS [5],pS [6]]) (c.drop n) 0 k)↔∃A∈[[4],[5],[6]],Mem A (c.getD n 0):=RO [[4],[5],[6]];have odd:=fl_odd (d:=c.take n) (fun j hj=>by rw[gTk c (by omega)];exact hd j (by omega));rw[hl,fl_take c n n (ay _)]at odd;have jn:=afS (c.take n);rw[show QU (c.take n) (c.take n).length=QU c n by rw[hl];exact acE c n n (ay _)]at jn;have a10:vU ⟨false,true,false,pT [Tf,pS [13]],pS [13]⟩ c n↔aS (pT [Tf,pS [13]]) (c.take n) 0 n∧Mem [13] (c.getD n 0):=by unfold vU;rw[rS h2];exact⟨fun h=>⟨h.2.2.1 rfl,h.2.1⟩,fun h=>⟨⟨0,h.1⟩,h.2,(fun _=>h.1),(fun e=>by cases e)⟩⟩
 have a11:vU ⟨false,false,false,pT [pS Dv,Tf,pS [13]],pS [13]⟩ c n↔(∃i,aS (pT [pS Dv,Tf,pS [13]]) (c.take n) i n)∧Mem [13] (c.getD n 0):=by have:=dL h2 (b:=false) (L:=pT [pS Dv,Tf,pS [13]]) (R:=pS [13]) Iff.rfl (rS h2 [13]);rwa [hl]at this
 unfold r9 at h;simp only[fK]at h;rw[dL h2 (lS h2 h1 _) (rS h2 _),dL h2 LE R0,dL h2 L0 RE,dL h2 (lS h2 h1 _) R8,dL h2 ajc ajd,dL h2 (lS h2 h1 _) (rS h2 _),dL h2 L0 R4,dL h2 (lS h2 h1 _) R0,
  dL h2 jn (rS h2 _),a10,a11]at h
 simp only[m1,mo3,mo2]at h;have jx:=anv (c:=c) (n:=n);have fx:=fl_x (c:=c) (n:=n);unfold Dw;generalize QU c n=J at*
 generalize flF c n=R at*
 generalize c.getD (n-1) 0=x at*
 generalize c.getD n 0=y at*
 generalize aS (pT [Tf,pS [13]]) (c.take n) 0 n=P1 at*
 generalize(∃i,aS (pT [pS Dv,Tf,pS [13]]) (c.take n) i n)=P2 at*
 clear hd h1 h2 a10 a11 L0 R0 LO RO jn hl LE RE ajc R8 ajd R4;have key:(!(qR x y||(J&&y==12)||(y==13&&R%2==1)))=true↔¬(GJ x y∨(J=true∧y=12)∨(y=13∧R%2=1)):=by
  have e:∀X:Bool,(!X)=true↔¬X=true:=by decide
  rw[e];simp only[bZ,aP,bT,afU,or_assoc]
 have no:(GJ x y∨(J=true∧y=12)∨(y=13∧R%2=1))→false= !(qR x y||(J&&y==12)||(y==13&&R%2==1)):=fun e=>by symm;rw[Aj];exact fun k=>key.1 k e
 have yes:¬(GJ x y∨(J=true∧y=12)∨(y=13∧R%2=1))→true= !(qR x y||(J&&y==12)||(y==13&&R%2==1)):=fun e=>(key.2 e).symm;simp only[bZ,bT]at h;rcases h with⟨⟨e1,e2⟩,rfl⟩|⟨n1,h⟩
 ·exact no (.inl (.inl ⟨e1,e2⟩))
 rcases h with⟨⟨e1,_⟩,rfl⟩|⟨n2,h⟩
 ·refine yes ?_;rintro(e|⟨e,_⟩|⟨_,e⟩)
  ·unfold GJ at e;omega
  ·have:=jx e;omega
  ·have:=fx e;omega
 rcases h with⟨⟨_,e1⟩,rfl⟩|⟨n3,h⟩
 ·refine yes ?_;rintro(e|⟨_,e⟩|⟨e,_⟩)
  ·unfold GJ at e;omega
  ·omega
  ·omega
 have n2':¬(x=1∨x=2∨x=3):=fun e=>n2 ⟨by omega,trivial⟩;have n3':¬(y=1∨y=2∨y=3):=fun e=>n3 ⟨trivial,by omega⟩;clear n2 n3;rcases h with⟨e1,rfl⟩|⟨n4,h⟩
 ·exact no (.inl (by unfold GJ;omega))
 rcases h with⟨e1,rfl⟩|⟨n5,h⟩
 ·exact no (.inl (by unfold GJ;omega))
 rcases h with⟨e1,rfl⟩|⟨n6,h⟩
 ·exact no (.inl (by unfold GJ;omega))
 rcases h with⟨⟨_,e1⟩,rfl⟩|⟨n7,h⟩
 ·exact no (.inl (by unfold GJ;omega))
 rcases h with⟨⟨e1,_⟩,rfl⟩|⟨n8,h⟩
 ·exact no (.inl (by unfold GJ;omega))
 have n7':¬(y=4∨y=5∨y=6):=fun e=>n7 ⟨trivial,by omega⟩;have n8':¬x=7:=fun e=>n8 ⟨e,trivial⟩;clear n7 n8;rcases h with⟨e1,rfl⟩|⟨n9,h⟩
 ·exact no (.inr (.inl e1))
 rcases h with⟨⟨e1,e2⟩,rfl⟩|⟨n10,h⟩
 ·exact no (.inr (.inr ⟨e2,odd.1 (.inl e1)⟩))
 rcases h with⟨⟨e1,e2⟩,rfl⟩|⟨n11,rfl⟩
 ·exact no (.inr (.inr ⟨e2,odd.1 (.inr e1)⟩))
 refine yes ?_;rintro(e|e|⟨e,k⟩);·unfold GJ at e;omega
 ·exact n9 e
 ·rcases odd.2 k with g|g
  ·exact n10 ⟨g,e⟩
  ·exact n11 ⟨g,e⟩
end
def Br (cut:Nat→Bool) (ats:List Int) (L:Int) (n:Nat):Nat→Nat→List Int
 |0,_=>[]
 |f+1,k=>(if k=0∨k=n∨cut k=true then[if k<n then ats.getD k 0 else L]else[])++Br cut ats L n f (k+1)
theorem Ot (cut:Nat→Bool) (ats:List Int) (L:Int) (n:Nat):Br cut ats L n 1 n=[L]:=by unfold Br;rw[ak (.inr (.inl rfl)),aj (dh n)];rfl
theorem Jv (cls ats:List Int) (L:Int) (n:Nat):∀f k,f+k=n→Br (Gf cls) ats L n (f+1) k=Gg cls ats f k++[L]
 |0,k,h=>by
  obtain rfl:k=n:=by omega
  rw[Ot];rfl
 |f+1,k,h=>by
  have ih:=Jv cls ats L n f (k+1) (by omega);rw[Br,ih,Gg,ak (show k<n by omega)];by_cases c:k=0∨Gf cls k=true;·rw[ak (by rcases c with c|c;exact .inl c;exact .inr (.inr c))];rw[ak c];rfl
  ·rw[aj (by rintro(e|e|e);exact c (.inl e);omega;exact c (.inr e))];rw[aj c];rfl
theorem Ou (cls ats:List Int) (L:Int) (n:Nat):∀(l:List (Nat×Nat)) k,l.length+k=n→(∀j x,l[j]? =some x→(x.1:Int)=ats.getD (k+j) 0)→1≤n→
 Br (Dw cls) ats L n (l.length+1) k=(if k=0 then[ats.getD 0 0]else[])++gbF cls l k (DW cls k) (QU cls k) (flF cls k)++[L]
 |[],k,h,_,h1=>by
   obtain rfl:k=n:=by simpa using h
   rw[je,Ot,aj (by omega)];rfl
 |x::r,k,h,hx,h1=>by
  have h':r.length+1+k=n:=by simpa using h
  have ih:=Ou cls ats L n r (k+1) (by omega) (fun j y hy=>by rw[show k+1+j=k+(j+1)by omega];exact hx (j+1) y hy) h1;have h0:(x.1:Int)=ats.getD k 0:=hx 0 x rfl;rw[bW,Br,ih,aj (Nat.succ_ne_zero k),o8,ak (show k<n by omega),gbF];have e1:DW cls (k+1)=(cls.getD k 0==12||(DW cls k&&cls.getD k 0==4)):=rfl;have e2:QU cls (k+1)=(DW cls k&&cls.getD k 0==5):=rfl;have e3:flF cls (k+1)=if cls.getD k 0=13 then flF cls k+1 else 0:=rfl
  rw[←e1,←e2,←e3,←h0];by_cases c:k=0;·subst c;rw[ak (.inl rfl),ak rfl,ak (.inl rfl),dJ,h0]
  ·rw[aj c,o8];by_cases g:Dw cls k=true
   ·rw[ak (.inr (.inr g)),aj]
    ·rfl
    ·unfold Dw at g;simp only[Bool.not_eq_true',Bool.or_eq_false_iff,Bool.and_eq_false_iff,cZ]at g;obtain⟨⟨g1,g2⟩,g3⟩:=g;rintro(e|e|⟨e,e'⟩|⟨e,e'⟩)
     ·exact c e
     ·rw[g1]at e;cases e
     ·rcases g2 with g2|g2
      ·rw[g2]at e;cases e
      ·exact g2 e'
     ·rcases g3 with g3|g3
      ·exact g3 e
      ·exact g3 e'
   ·rw[aj (by rintro(e|e|e);exact c e;omega;exact g e),ak]
    ·rfl
    ·unfold Dw at g;simp only[Bool.not_eq_true',Bool.not_eq_false,bZ,aP,bT]at g;rcases g with(g|⟨g,g'⟩)|⟨g,g'⟩
     ·exact .inr (.inl g)
     ·exact .inr (.inr (.inl ⟨g,g'⟩))
     ·exact .inr (.inr (.inr ⟨g,g'⟩))
section
open Folds (dec bf bU)
def up:List Int→Prop:=List.Pairwise (·<·)
theorem up_at {l:List Int} (h:up l) {i j:Nat} (hij:i<j) (hj:j<l.length):l.getD i 0<l.getD j 0:=by rw[aM,aM,aZ hj,aZ (by omega)];exact List.pairwise_iff_getElem.1 h i j (by omega) hj hij
theorem GQ {zs:List Int} (hz:up zs) (x:Int):∀(f lo hi:Nat),hi≤lo+f→lo≤hi→hi≤zs.length→(∀j,j<lo→zs.getD j 0<x)→(∀j,hi≤j→j<zs.length→¬zs.getD j 0<x)→
 Lj zs x f lo hi≤zs.length∧(∀j,j<Lj zs x f lo hi→zs.getD j 0<x)∧∀j,Lj zs x f lo hi≤j→j<zs.length→¬zs.getD j 0<x
 |0,lo,hi,h1,h2,h3,h4,h5=>by
  obtain rfl:lo=hi:=by omega
  exact⟨h3,h4,h5⟩
 |f+1,lo,hi,h1,h2,h3,h4,h5=>by
  unfold Lj;by_cases c:lo<hi
  ·rw[ak c];by_cases d:zs.getD ((lo+hi)/2) 0<x
   ·rw[ak d];refine GQ hz x f _ hi (by omega) (by omega) h3 (fun j hj=> ?_) h5;rcases aK j ((lo+hi)/2)with e|e
    ·exact Int.lt_trans (up_at hz e (by omega)) d
    ·obtain rfl:j=(lo+hi)/2:=by omega
     exact d
   ·rw[aj d];refine GQ hz x f lo _ (by omega) (by omega) (by omega) h4 (fun j hj hl=> ?_);rcases aK ((lo+hi)/2) j with e|e
    ·have:=up_at hz e hl;omega
    ·obtain rfl:j=(lo+hi)/2:=by omega
     exact d
  ·rw[aj c];obtain rfl:lo=hi:=by omega
   exact⟨h3,h4,h5⟩
theorem Ti {zs:List Int} (hz:up zs) (x:Int):R9 zs x=decide (x∈zs):=by
 obtain⟨h1,h2,h3⟩:=GQ hz x zs.length 0 zs.length (by omega) (aH _) (ay _) (fun j hj=>absurd hj (iU j)) (fun j h1 h2=>absurd h2 (by omega));unfold R9;generalize Lj zs x zs.length 0 zs.length=p at*
 rw[fA,aP,iy,iy,iy];constructor;·rintro⟨c,e⟩;rw[←e,aM,aZ c];exact mF c
 ·intro hx;obtain⟨j,hj,e⟩:=tF.1 hx;have e:zs.getD j 0=x:=by rw[aM,aZ hj];exact e
  have hpj:p≤j:=by
   rcases aK j p with c|c;·have:=h2 j c;omega
   ·exact c
  refine⟨by omega,?_⟩;have:=h3 p (ay _) (by omega);rcases aK p j with c|c;·have:=up_at hz c hj;omega
  ·obtain rfl:p=j:=by omega
   exact e
theorem Ov (cut:Nat→Bool) (ats:List Int) (L:Int) (n:Nat):∀f k,Br cut ats L n f k=((List.range' k f).filter (kM cut n)).map fun i=>if i<n then ats.getD i 0 else L
 |0,_=>rfl
 |f+1,k=>by
  have ih:=Ov cut ats L n f (k+1);rw[Br,ih,List.range'_succ,List.filter_cons];have e:(k=0∨k=n∨cut k=true)↔kM cut n k=true:=by unfold kM;simp only[bZ,iy,or_assoc]
  by_cases c:kM cut n k=true;·rw[ak (e.2 c),ak c];rfl
  ·rw[aj (fun d=>c (e.1 d)),aj c];rfl
theorem Tj (cut:Nat→Bool) (ats:List Int) (L:Int) (n:Nat):rZ cut ats L n (n+1)=Br cut ats L n (n+1) 0:=by rw[Ov,←List.range_eq_range'];rfl
theorem Tk (t:List UInt8) (cut:Nat→Bool):CF (gH t) (kM cut (marks t).length) ((marks t).length+1)=Br cut (dR t) t.length (marks t).length ((marks t).length+1) 0:=by rw[←Tj];unfold CF rZ;refine List.map_congr_left fun k hk=> ?_;have:=lC.1 (nE.1 hk).1;exact Vx t (by omega)
theorem Ow (t:List UInt8) (h:t≠[]):Br (Gf (Qj t)) (dR t) t.length (marks t).length ((marks t).length+1) 0=qG t:=by rw[Jv _ _ _ _ _ 0 (by omega)];unfold qG;rw[ak (wY.2 h)]
theorem CG {t:List UInt8} (h:t≠[]):1≤(marks t).length:=by
 have hp:=wY.2 h;obtain⟨n,hn⟩:∃n,t.length=n+1:=⟨t.length-1,by omega⟩
 unfold marks;rw[hn];unfold aD;rw[ak (by omega)];exact FV (aH _)
theorem ZN {t:List UInt8} (h:t≠[]):(dR t).getD 0 0=0:=by
 have hp:=wY.2 h;obtain⟨n,hn⟩:∃n,t.length=n+1:=⟨t.length-1,by omega⟩
 unfold dR marks;rw[hn];unfold aD;rw[ak (by omega)];rfl
theorem Tm (t:List UInt8) (h:t≠[]):Br (Dw (AP t)) (dR t) t.length (marks t).length ((marks t).length+1) 0=DU t:=by
 rw[Ou (AP t) (dR t) t.length (marks t).length (marks t) 0 (cO _) (fun j x hx=> ?_) (CG h)];·unfold DU;rw[aj h,ak rfl,ZN h];rfl
 ·unfold dR;rw[bJ,aM,fF,hx];rfl
theorem l6 (t:List UInt8):∀n e,∀x∈aD t n e,e≤x.1∧x.1<t.length
 |0,_,x,h=>by cases h
 |n+1,e,x,h=>by
  unfold aD at h;by_cases c:e<t.length
  ·rw[ak c]at h;rcases aV.1 h with rfl|h
   ·exact⟨ay _,c⟩
   ·have:=l6 t n _ x h;omega
  ·rw[aj c]at h;cases h
theorem uo (t:List UInt8):∀n e,(aD t n e).Pairwise fun x y=>x.1<y.1
 |0,_=> .nil
 |n+1,e=>by
  unfold aD;by_cases c:e<t.length;·rw[ak c];refine .cons (fun y hy=> ?_) (uo t n _);have:=l6 t n _ y hy;have hd:=bf (t.drop e);show e<y.1;omega
  ·rw[aj c];exact .nil
theorem ZO (t:List UInt8):up (gH t):=by
 unfold gH up;refine List.pairwise_append.2 ⟨?_,List.pairwise_singleton _ _,fun a ha b hb=> ?_⟩;·unfold dR;exact List.pairwise_map.2 ((uo t _ _).imp fun h=>by omega)
 ·obtain rfl:=fE.1 hb;unfold dR at ha;obtain⟨x,hx,rfl⟩:=dA.1 ha;have:=l6 t _ _ x hx;omega
theorem Tn (t:List UInt8) (cut:Nat→Bool):up (Br cut (dR t) t.length (marks t).length ((marks t).length+1) 0):=by
 rw[←Tk];unfold CF up;refine List.pairwise_map.2 ?_;have hl:(gH t).length=(marks t).length+1:=by unfold gH;rw[bg,qI];rfl
 refine List.Pairwise.imp_of_mem (fun{a b} _ hb h=> ?_) ((List.pairwise_lt_range (n:=(marks t).length+1)).filter _);have:=lC.1 (nE.1 hb).1;exact up_at (ZO t) h (by omega)
theorem acG (t:List UInt8):up (qG t):=by
 by_cases h:t=[]
 ·subst h;exact .nil
 ·rw[←Ow t h];exact Tn t _
theorem afV (t:List UInt8):up (DU t):=by
 by_cases h:t=[]
 ·subst h;exact .nil
 ·rw[←Tm t h];exact Tn t _
theorem GR (sh:List UInt8→List UInt8) (may:Int→Bool) (t:List UInt8):∀n e,e≤t.length→t.length≤n+e→EvL.places (Cu sh may t (n+1) e)=(((aD t n e).map (·.1))++[t.length]).filter fun(k:Nat)=>may (k:Int)
 |0,e,he,hn=>by
  obtain rfl:e=t.length:=by omega
  unfold Cu;rw[aj (dh _)];unfold EvL.places aD;rw[List.filter_cons];cases hm:may (t.length:Int)<;>simp[hm]
 |n+1,e,he,hn=>by
  by_cases c:e<t.length
  ·have hd:=bf (t.drop e);have hle:=bU (t.drop e) (by intro d;rw[jf]at d;omega);rw[dO]at hle;have ih:=GR sh may t n (e+(dec (t.drop e)).2) (by omega) (by omega);have hu:Cu sh may t (n+1+1) e=(e,may e,sh ((t.drop e).take (dec (t.drop e)).2))::Cu sh may t (n+1) (e+(dec (t.drop e)).2):=by rw[Cu,ak c]
   have hm2:aD t (n+1) e=(e,(dec (t.drop e)).1)::aD t n (e+(dec (t.drop e)).2):=by rw[aD,ak c]
   rw[hu,hm2,jD,Em,List.filter_cons];cases hm:may (e:Int);·rw[EvL.Cr (by exact yO),ih];rfl
   ·rw[EvL.yT rfl,ih];rfl
  ·obtain rfl:e=t.length:=by omega
   have hu:Cu sh may t (n+1+1) t.length=[(t.length,may t.length,sh [])]:=by rw[Cu,aj (dh _)]
   have hm2:aD t (n+1) t.length=[]:=by rw[aD,aj (dh _)]
   rw[hu,hm2];unfold EvL.places;cases hm:may (t.length:Int)<;>simp[hm]
theorem Vz (fo le wo:Bool) (t:List UInt8):EA le wo (DU t) (qG t) t=(EvL.places (mP t fo le wo)).map fun(x:Nat)=>(x:Int):=by
 unfold mP;rw[GR _ _ t t.length 0 (aH _) (by omega)];have he:gH t=(((aD t t.length 0).map (·.1))++[t.length]).map fun(x:Nat)=>(x:Int):=by unfold gH dR marks;rw[Ak,List.map_map];rfl
 unfold EA Ji;rw[he];generalize((aD t t.length 0).map (·.1))++[t.length]=E;have hf:∀(p:Int→Bool) (l:List Nat),(l.map fun(x:Nat)=>(x:Int)).filter p=(l.filter fun(x:Nat)=>p (x:Int)).map fun(x:Nat)=>(x:Int):=fun p l=>by rw[List.filter_map];rfl
 cases le<;>cases wo<;>simp only[bq,jB,if_true,hf,List.filter_filter,qc,Ti (afV t),Ti (acG t),Bool.not_true,Bool.not_false,Bool.true_or,wu,Bool.and_true,Bool.true_and];·rw[List.filter_eq_self.2 (fun _ _=>rfl)]
 ·congr 1;refine List.filter_congr fun x _=> ?_;rw[Bool.and_comm]
end
def ZP:Str:=⟨1239,16983688660106157009570488931193595442953107727362697348698502898743891337987601912811442152140848915195218518379124089510504932305425114690415539191125757913835572295267866357906823241293212694826526346530186368289348728572866632743141100790802786163077476849748589102664189972857987426749438047995552844920970046586800354162427901493382669774537207555345621054780984839276127320181858724016905468958622732518396727768133478410052657617104433752237841162813837227047176210036393671310160316833494071084495929120555724615246570309048266810790532980774731119273088391966407116197419778995339913200973934506281731569688733745703694911618764243998846986861655334508084331219743283891669562605981883255340733285053435849634257607425662603387012180065999549635563665533118945312141351402192326845696118171048781092218929489590182776199354391800753940675242290329165199918258260194355255730160107473845495574602617449756753475326740374162076956744402559754809107134770578042815104663778929419475790174850613133441963469826079736913410471363417265880106979994768501642238637919744138297727810040540618254258070380424006253436614312122422797732766942733410332428147762026168474482704556957506018551334555464472094841448845553367249737708827737178185054837867034380174090203369352877267463416488074791676004674742807756973441587677501806310801734708916638807922890866271757407574649726190954945227831852619148535043881190313916956869119511045531571194745496284287226108453314960356131585134898189194512160507941009297387503938763558920150984750625152387375905106629566652099504335165656756044284723251305822022910368866480099976844837738024965182722313524342300815285852558269386009916687972577585332692697838682604217412439588793348735990738877142146829165277161926581719485958847505397587772586806972133020656097135610469425891652839689613220987689687829165956305578299854808392731958721530377326446005895639760018885390606280310499347258131808841392165903531624062443981624037559915810892373839811675688973442655370760259575703214391310852774077846997461364519570252985104657799982184338654675918732688910238894589055980538684586569121613151840832866287170426727716327979471278456160045165227685534343993305867649712737686699180418750360635332346543342046937319552141688953932648254688237651633616055649870854686105201388418925425417373211467273445604511604834715745196035483139015180679607050869548836594020839406790163210365471454639166413369612180073451807626457638253682377177656833953115479407242033924559941335236122976663655959442720823549377020344710232826688391157346704799470758795950775287156677157010434376068184849864453758598176070201318050051362172995082889227412200264359252897992688903084824991143178654046849050588329427289743201811100804961302484061674885088592490078820819500109032274569694492582859014179354020799483589073428946985092742997715901978862031807912411112186740892482670960309114917692524838948323772436696131719654521351323775915115168206459322504493149962⟩
def Tp (W:World):Prop:=Calls Tryz.prog 75 #[] W fun e w1=>∃d,e= .returned d∧Below W.heap.size W w1∧DbT w1 d gV 19∧∀w2,Below w1.heap.size w1 w2→
 Calls Tryz.prog 77 #[d] w2 fun e w3=>∃nv,e= .returned nv∧Below w2.heap.size w2 w3∧∀w4,Below w3.heap.size w3 w4→∀b:ByteArray,Str.of b=ZP→
 Calls Tryz.prog 76 #[.string b,nv] w4 fun e w5=>∃gr og cr,e= .returned (.tuple #[.agg #[.slice (some ⟨gr,og,none⟩) dG.length cr, .bool true], .int .i64 0, .int .i64 0])∧Below w4.heap.size w4 w5∧kg w5 gr og dG∧
 ∃ss,xR dG ss=true∧∀w6,Below w5.heap.size w5 w6→Bp w6 (.agg #[.slice (some ⟨gr,og,none⟩) dG.length cr, .bool true]) ss
theorem Ox {R:List gG} {N:Nat} (h:(R.all fun x=>decide (1≤x.2.2)&&decide (x.2.2≤(N:Int)))=true) (q:Int):0≤fM R q∧fM R q≤N:=by
 unfold fM;cases hf:R.find? (fun x=>decide (q≤x.2.1))with
 |none=>exact⟨Int.le_refl _,by show(0:Int)≤N;omega⟩
 |some x=>
  have:=fU.1 h x (List.mem_of_find?_eq_some hf);rw[aP,iy,iy]at this;dsimp only;split;·omega
  ·omega
theorem QV {R:List gG} {N:Nat} (hT:yx R N) (t:List UInt8):∀j,j<(iO R t).length→0≤(iO R t).getD j 0∧(iO R t).getD j 0≤N:=fun j hj=>by
 have:(iO R t).getD j 0∈iO R t:=by rw[aM,aZ hj];exact mF hj
 unfold iO at this;obtain⟨x,_,e⟩:=dA.1 this;unfold iO;rw[←e];exact Ox hT.cls _
theorem afW:yx gV 19:=⟨by decide+kernel,by decide+kernel,by decide+kernel,by decide⟩
theorem aje:yx gU 13:=⟨by decide+kernel,by decide+kernel,by decide+kernel,by decide⟩
theorem La (R:List gG) (NN:Nat) (hT:yx R NN) (rs:List PR) (ss:List SD) (rest:Bool) (gr og cr:Nat) (d:Value) (W:World) (hD:DbT W d R NN) (hS:Bp W (.agg #[.slice (some ⟨gr,og,none⟩) rs.length cr, .bool rest]) ss):
 Calls Tryz.prog 78 #[d, .agg #[.slice (some ⟨gr,og,none⟩) rs.length cr, .bool rest], .string ⟨#[]⟩] W (dF [] W):=by
 have ZI:=ah (fun w=>Cv [] w (aH _));obtain⟨s,hs⟩:∃s:ByteArray,(⟨#[]⟩:ByteArray)=s:=⟨_,rfl⟩
 rw[show(⟨([]:List UInt8).toArray⟩:ByteArray)=s from hs]at ZI;rw[hs];obtain⟨D,oD,hd⟩:∃D oD,d= .pointer (some ⟨D,oD,none⟩):=by obtain⟨D,o,_,_,_,h,_⟩:=hD;exact⟨D,o,h⟩
 subst hd;have HS:=ah hS;have HD:=ah hD;have HT:=ah hT;obtain⟨N,hN⟩:∃N,rs.length=N:=⟨_,rfl⟩
 rw[hN]at HS⊢;have HB0:=ah (Bx.start 122 W #[.slice (some ⟨gr,og,none⟩) N cr, .bool rest]);obtain⟨wz,hwz⟩:∃wz,(W.alloc (.cells #[.slice (some ⟨gr,og,none⟩) N cr, .bool rest] 122)).alloc (.cells #[.pointer (some ⟨D,oD,none⟩), .slice (some ⟨gr,og,none⟩) N cr, .bool rest, .slice none 0 0, .slice none 0 0, .int .i64 0, .int .i64 0] 192)=wz:=⟨_,rfl⟩
 have hx0:wz.cell? ⟨W.heap.size+1,0,none⟩=some (.pointer (some ⟨D,oD,none⟩)):=by have h:=dw (W.alloc (.cells #[.slice (some ⟨gr,og,none⟩) N cr, .bool rest] 122)) (.cells #[.pointer (some ⟨D,oD,none⟩), .slice (some ⟨gr,og,none⟩) N cr, .bool rest, .slice none 0 0, .slice none 0 0, .int .i64 0, .int .i64 0] 192);rw[iV,hwz]at h;exact(aQ _ _ _ _ _ _ h).trans rfl
 have HBz:=ah (HB0.out.go (show Below _ _ wz from by rw[←hwz];exact(aG _ _).alloc (ay _) _));have hsz:W.heap.size+1<wz.heap.size:=by rw[←hwz,iV,iV];omega
 have HX0:=ah hx0;have uL:=ah hsz;have HWZ:=ah hwz;clear hS hD hT hs hN hx0 hsz hwz;go_enter Tryz.func78,Tryz.ntmps78;go_wp2_with (first
  |(go_at_call 89;rw[HWZ.out];refine(ZI.out _).mono ?_;rintro e w2 ⟨A,n,c,rfl,hR,hb⟩;have HR:=ah hR;have HX2:=ah ((hb.cell (p:=⟨W.heap.size+1,0,none⟩) uL.out).trans HX0.out);have HB2:=ah (HBz.out.go hb);have HS2:=ah (bK uL.out hb.size);clear hR hb)
  |(go_at_call 125;refine(Dt R NN HT.out [] (W.heap.size+1) _ A n c w2 HS2.out HX2.out (jI HD.out HB2.out.aB) HR.out (aH _)).mono ?_;rintro e w3 ⟨A3,n3,c3,rfl,hI,_,hb⟩;obtain rfl:n3=0:=hI.len.symm;have HB3:=ah (HB2.out.go hb);clear hI hb;have y0:=(HB3.out.c 0).trans rfl;have y1:=(HB3.out.c 1).trans rfl)
  |(go_at_call 126;refine(HS.out w3 HB3.out.aB).mono ?_;rintro e w4 ⟨A4,n4,c4,rfl,_,hb⟩;have N8:=ah (HB3.out.go hb);clear hb y0 y1))
 go_loopw [11,12] (fun vo vi wr=>vi= .int .i64 0∧vo= .slice none 0 0∧wr=w4) (fun _ _ _=>0);case atStart=>exact⟨rfl,rfl,rfl⟩
 case round=>obtain⟨rfl,rfl,rfl⟩:=hrel;go_wp2_with fail;go_ret;exact⟨none,0,0,rfl,AJ _,N8.out.aB⟩
theorem Dx {R:List gG} {t:List UInt8} {rs:List PR} {cut:Nat→Bool} {N:Nat} (hT:yx R N) (h:∀{n:Nat},1≤n→n<(iO R t).length→(∀j,j<(iO R t).length→0≤(iO R t).getD j 0∧(iO R t).getD j 0≤N)→∀{b:Bool},fK true (iO R t) n b rs→b=cut n):
 ∀k b,1≤k→k<(marks t).length→fK true (iO R t) k b rs→b=cut k:=fun k b h1 h2 hd=>h h1 (by rw[pV];exact h2) (QV hT t) hd
theorem afX (t:List UInt8) (gr og cr:Nat) (d:Value) (ss:List SD) (W:World) (hD:DbT W d gV 19) (hR:kg W gr og dG) (hs:xR dG ss=true) (hS:Bp W (.agg #[.slice (some ⟨gr,og,none⟩) dG.length cr, .bool true]) ss) (hn:t.length≤48):
 Calls Tryz.prog 78 #[d, .agg #[.slice (some ⟨gr,og,none⟩) dG.length cr, .bool true], .string ⟨t.toArray⟩] W (dF (qG t) W):=by
 by_cases h0:t=[]
 ·subst h0;exact La gV 19 afW dG ss true gr og cr d W hD hS
 ·obtain⟨hl,hm⟩:=Jq hs;have hml:=pK t;have:=Ol gV 19 afW t dG ss true gr og cr d W hD hR hS (by omega) (Gf (Qj t)) (CG h0) (by omega) (Dx afW fun{n} h1 h2 h3 {b} h4=>ZM h1 h2 h3 h4) hl (fun i r x k hr hx h1 h2 ha=>ZF (hm i r x hr hx) h1 (by rw[pV];exact h2) ha);rwa [Tj,Ow t h0]at this
theorem anw (t:List UInt8) (W:World) (h:Tp W) (hn:t.length≤48):afz ⟨t.toArray⟩ (qG t) W:=by
 unfold afz;have HM:=ah h;have HW:=ah (fun gr og cr d ss w=>afX t gr og cr d ss w);have HN:=ah hn;clear h;obtain⟨s,hs⟩:∃s:ByteArray,(⟨t.toArray⟩:ByteArray)=s:=⟨_,rfl⟩
 rw[hs]at HW⊢;clear hs hn;go_enter Tryz.func21,Tryz.ntmps21;go_wp2_with (first
  |(go_at_call 75;refine HM.out.mono ?_;rintro e w1 ⟨d,rfl,hb,hD,hnx⟩;have HB1:=ah hb;have HD:=ah hD;have HN1:=ah hnx;clear hb hD hnx)
  |(go_at_call 77;refine(HN1.out w1 (aG _ w1)).mono ?_;rintro e w3 ⟨nv,rfl,hb,hnx⟩;have HB3:=ah hb;have HN3:=ah hnx;clear hb hnx)
  |(go_at_call 76;refine(HN3.out w3 (aG _ w3) _ (by kernel_rfl)).mono ?_;rintro e w5 ⟨gr,og,cr,rfl,hb,hR,ss,hs,hS⟩;have HB5:=ah (HB3.out.trans (hb.mono HB3.out.size));have HR:=ah hR;have HS:=ah hs;have VJ:=ah hS;clear hb hR hs hS)
  |(go_at_call 78;(refine(HW.out gr og cr d ss _ (jI HD.out (HB5.out.alloc HB5.out.size _)) (HR.out.below ((aG _ w5).alloc (ay _) _)) HS.out (VJ.out _ ((aG _ w5).alloc (ay _) _)) HN.out).mono ?_);rintro e w7 ⟨A,n,c,rfl,hI,hb⟩;have HI:=ah hI;have HB7:=ah ((HB5.out.alloc HB5.out.size _).trans (hb.mono (HB5.out.alloc HB5.out.size _).size));clear hI hb))
 go_ret;exact⟨A,n,c,rfl,HI.out,HB1.out.trans (HB7.out.mono HB1.out.size)⟩
theorem y9 (L:List (Nat×Nat)) (A B:Option Addr) (n m c d:Nat) (W:World) (h1:KP W A n L) (h2:KP W B m L):
 Calls Tryz.prog 17 #[.slice A n c, .slice B m d] W fun e w'=>e= .returned (.bool true)∧Below W.heap.size W w':=by
 obtain rfl:m=n:=by rw[←h2.len,←h1.len]
 have HA:=ah h1;have HB:=ah h2;have hsm:=h1.small;clear h1 h2;go_enter Tryz.func17,Tryz.ntmps17;go_wp2_with fail;go_loopw [5] (fun vi wr=>∃k:Nat,k≤m∧vi= .int .i64 k∧Below W.heap.size W wr) (fun vi _=>m-(RowKit.intOf vi).toNat);case atStart=>exact⟨0,aH _,rfl,aG _ _⟩
 case round=>
  obtain⟨k,hk,rfl,hb⟩:=hrel;have Qk:=ah hb;clear hb;by_cases hlt:k<m
  ·obtain⟨g,rfl,hg,hc⟩:=HA.out.at_ (by omega);obtain⟨g2,rfl,hg2,hc2⟩:=HB.out.at_ (by omega);obtain⟨c0,c1⟩:=hc k hlt;obtain⟨e0,e1⟩:=hc2 k hlt;obtain⟨⟨a,b⟩,hab⟩:∃p,L.getD k Left.m0=p:=⟨_,rfl⟩
   rw[hab]at c0 c1 e0 e1;have d0:=(Qk.out.cell (p:=⟨g,k*2,none⟩) hg).trans c0;have d1:=(Qk.out.cell (p:=⟨g,k*2+1,none⟩) hg).trans c1;have d2:=(Qk.out.cell (p:=⟨g2,k*2,none⟩) hg2).trans e0;have d3:=(Qk.out.cell (p:=⟨g2,k*2+1,none⟩) hg2).trans e1;clear c0 c1 e0 e1 hab hc hc2 hg hg2;have kJ:=ah (show wrap64 ((k:Int)+1)=((k+1:Nat):Int)by unfold wrap64;omega);have hk0:(0:Int)≤k:=by omega
   have hk1:(k:Int)<m:=by omega
   go_wp2_with fail;go_quiet (fail);have HQ:=ah (show Below W.heap.size W (wr.drewN nq)from⟨Qk.out.os,Qk.out.tape,Qk.out.output,Qk.out.size,Qk.out.block⟩);go_wp2_with fail;(try rw[kJ.out]);exact⟨⟨k+1,hlt,rfl,HQ.out⟩,by simp[RowKit.intOf];omega⟩
  ·have hk1:¬(k:Int)<m:=by omega
   go_wp2;go_ret;exact⟨rfl,Qk.out⟩
def ZQ (w:World):Prop:=Calls Tryz.prog 12 #[] w fun e w'=>∃v,e= .returned v∧Below w.heap.size w w'∧Db w' v
def ZR (w:World):Prop:=Calls Tryz.prog 58 #[] w fun e w'=>∃v,e= .returned v∧Below w.heap.size w w'∧ZH w' v gU 13 r9 true
structure VA (W:World):Prop where
 book:∀w,Below W.heap.size W w→ZQ w
 brk:∀w,Below W.heap.size W w→ZR w
 word:∀w,Below W.heap.size W w→Tp w
theorem VA.go {W w:World} (h:VA W) (hb:Below W.heap.size W w):VA w:=
 ⟨fun v hv=>h.book v (hb.trans (hv.mono hb.size)),fun v hv=>h.brk v (hb.trans (hv.mono hb.size)),fun v hv=>h.word v (hb.trans (hv.mono hb.size))⟩
theorem Lb (v:Value) (W:World):Calls Tryz.prog 64 #[v, .string ⟨#[]⟩] W (dF [] W):=by go_enter Tryz.func64,Tryz.ntmps64;go_wp2_with fail;go_ret;exact⟨none,0,0,rfl,AJ _,aG _ _⟩
theorem anx (t:List UInt8) (W:World) (h:ZR W) (hn:t.length≤48):aiL ⟨t.toArray⟩ (DU t) W:=by
 refine h.mono ?_;rintro e w ⟨v,rfl,hb,hB⟩;refine⟨v,rfl,hb,?_⟩;by_cases h0:t=[]
 ·subst h0;exact Lb v w
 ·have hml:=pK t;have:=Oj gU 13 aje t v r9 true w hB (by omega) (Dw (AP t)) (by omega) h0 (CG h0) (Dx aje fun{n} h1 h2 h3 {b} h4=>acF h1 h2 h3 h4);rwa [Tk,Tm t h0]at this
theorem ajf (fo:Bool) (W:World) (h:ZQ W):afB fo W:=by refine h.mono ?_;rintro e w ⟨v,rfl,hb,hB⟩;exact⟨v,rfl,hb,fun _ x w2 hb2 hx=>Y1 x v w2 (Dm hB hb2) (by omega)⟩
theorem ajg {s:List UInt8} {fo le wo:Bool}:(∀x∈EvL.places (mP s fo le wo),x≤s.length)∧(EvL.places (mP s fo le wo)).Pairwise (·<·)∧(EvL.places (mP s fo le wo)).length≤s.length+1:=by
 unfold mP;rw[GR _ _ s s.length 0 (aH _) (by omega)];refine⟨fun x hx=> ?_,?_,?_⟩
 ·rcases jl.1 (nE.1 hx).1 with h|h
  ·obtain⟨y,hy,rfl⟩:=dA.1 h;exact dW (l6 s _ _ y hy).2
  ·exact Nat.le_of_eq (fE.1 h)
 ·refine List.Pairwise.filter _ (List.pairwise_append.2 ⟨List.pairwise_map.2 (uo s _ _),List.pairwise_singleton _ _,fun a ha b hb=> ?_⟩);obtain rfl:=fE.1 hb;obtain⟨y,hy,rfl⟩:=dA.1 ha;exact(l6 s _ _ y hy).2
 ·refine aT (Es _ _) ?_;rw[bg,dz];have:=pK s;unfold marks at this;simp only[bW,je];omega
theorem GU (s t:List UInt8) (fo le wo:Bool) (W:World) (h:VA W) (hs:s.length≤48) (ht:t.length≤60):
 Calls Tryz.prog 19 #[.string ⟨s.toArray⟩, .string ⟨t.toArray⟩, .agg #[.bool fo, .bool le, .bool wo]] W (iM (qU s t fo le wo) W):=by
 by_cases hn:t=[]
 ·subst hn;exact QE _ fo le wo W
 ·unfold qU;rw[aj hn];obtain⟨p1,p2,p3⟩:=ajg (s:=s) (fo:=fo) (le:=le) (wo:=wo);have hw:uG fo t≠[]:=by
   unfold uG;split;·exact adD hn
   ·exact hn
  have ho:=Y7 fo le wo s (uG fo t) (DU s) (qG s) hw;rw[show Left.every (uG fo t) (mP s fo le wo)=EvL.outer (uG fo t) (eD fo s) (EvL.places (mP s fo le wo))from ho.symm];have hP:∀w,Below W.heap.size W w→Calls Tryz.prog 72 #[.string ⟨s.toArray⟩, .agg #[.bool fo, .bool le, .bool wo]] w (dF ((EvL.places (mP s fo le wo)).map fun(x:Nat)=>(x:Int)) w):=fun w hb=>by have h':=h.go hb;rw[←Vz];exact QD s _ rfl fo le wo (DU s) (qG s) w (by omega) (fun _ v hv=>anx s v (h'.brk v hv) hs) (fun _ v hv=>anw s v (h'.word v hv) hs)
  cases fo with
  |false=>exact Y8 s t _ _ rfl le wo _ W hn (by omega) ht rfl hP (fun w hb=>ajf false w (h.book w hb)) p1 p2 (by omega)
  |true=>exact Zb s t _ _ rfl le wo _ W hn (by omega) ht rfl hP (fun w hb=>ajf true w (h.book w hb)) p1 p2 (by omega)
theorem ZT (s t:List UInt8) (fo le wo:Bool) (W:World) (h:VA W) (hs:s.length≤48) (ht:t.length≤60):
 Calls Tryz.prog 18 #[.string ⟨s.toArray⟩, .string ⟨t.toArray⟩, .agg #[.bool fo, .bool le, .bool wo]] W (rX (Left.nI 0 (qU s t fo le wo)) W):=
 acg _ _ _ fo le wo W (aT (yV s t fo le wo) (by omega)) fun w hb=>GU s t fo le wo w (h.go hb) hs ht
end Go.Proofs.YtocaiijbhepnnaaGreatDoor.searchAll
