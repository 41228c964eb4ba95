/- SearchAsks, the rules of words and letters; the document's Every and All of texts. -/
import Derived.Test.YtocaiijbhepnnaaGreatDoorHE
import Derived.Test.YtocaiijbhepnnaaGreatDoorGC
import Derived.Test.YtocaiijbhepnnaaGreatDoorFJ
import Derived.Test.YtocaiijbhepnnaaGreatDoorHB
import Derived.Test.YtocaiijbhepnnaaGreatDoorGB
import Derived.BigQuiet
import Derived.Test.YtocaiijbhepnnaaGreatDoorHA
set_option maxRecDepth 100000
set_option maxHeartbeats 8000000
namespace Go.Proofs.YtocaiijbhepnnaaGreatDoor.searchAsks
open Go.Shelf Go.RowKit Go.Lib Go.Proofs.YtocaiijbhepnnaaGreatDoor.Am
section
open KO
theorem pK (c:List Int) (n:Nat):∀k,k≤n→dx (c.take n) k=dx c k
 |0,_=>rfl
 |k+1,h=>by rw[dx,dx,getD_take c (show k<n by omega),pK c n k (by omega)]
theorem Bn (c:List Int) {n:Nat} {x:Int} (h:x<n) (hn:n≤c.length):iG (c.take n) x=iG c x:=by
 unfold iG;rw[iw,zn hn];by_cases e:x<0;·rw[ak (.inl e),ak (.inl e)]
 ·rw[aj (by omega),aj (by omega),getD_take c (by omega)]
theorem Dt (c:List Int) {n:Nat} {x:Int} (h:x≤n):eD (c.take n) x=eD c x:=by
 unfold eD;split;·exact pK c n _ (by omega)
 ·rfl
theorem Jt (c:List Int) (x:Int):eD c x<x:=by
 unfold eD;split;·have:=(kK c x.toNat).2;omega
 ·omega
theorem Ju (c:List Int) {n:Nat} (hn:n≤c.length):∀(f:Nat) (x:Int),x<n→vI (c.take n) f x=vI c f x
 |0,_,_=>rfl
 |f+1,x,h=>by have:=Jt c x;rw[vI,vI,Bn c h hn,Dt c (by omega),Ju c hn f _ (by omega)]
theorem l6 (A:List Nat) (h:(A.all fun y=> !cO y)=true):Apart A:=by rintro x ⟨y,hy,rfl⟩;have:=fZ.1 h y hy;exact⟨by simpa using this,by omega⟩
theorem QM (A:List Nat) (d:List Int) (h:0<d.length):(∃i,aR (pS A) d i d.length)↔Mem A (d.getD (d.length-1) 0):=by
 constructor;·rintro⟨i,e⟩;obtain⟨e1,e2,e3⟩:=(dF _ _ _ _).1 e;rwa [e2,qd]
 ·intro e;exact⟨d.length-1,(dF _ _ _ _).2 ⟨by omega,by omega,e⟩⟩
theorem ZG (d:List Int):∃i,aR p0 d i d.length:=⟨d.length,(vM _ _ _ _ _).2 ⟨ay _,rfl⟩⟩
theorem Te (d:List Int):∃k,aR p0 d 0 k:=⟨0,(vM _ _ _ _ _).2 ⟨aH _,rfl⟩⟩
def dH:List PR:=[
 ⟨false,false,false,pS [1],pS [2]⟩,
 ⟨true,false,false,pS [1,2,3],p0⟩,
 ⟨true,false,false,p0,pS [1,2,3]⟩,
 ⟨false,false,false,pS [5],pS [19]⟩,
 ⟨false,false,false,pS [18],pS [18]⟩,
 ⟨false,false,false,p0,pS [4,5,6]⟩,
 ⟨false,false,false,pT [pS [9,10],pX],pS [9,10]⟩,
 ⟨false,false,false,pT [pS [9,10],pX],pT [pS [11,13,14],pX,pS [9,10]]⟩,
 ⟨false,false,false,pT [pS [9,10],pX,pS [11,13,14],pX],pS [9,10]⟩,
 ⟨false,false,false,pT [pS [9],pX],pS [11]⟩,
 ⟨false,false,false,pT [pS [9],pX],pT [pS [12],pX,pS [9]]⟩,
 ⟨false,false,false,pT [pS [9],pX,pS [12],pX],pS [9]⟩,
 ⟨false,false,false,pT [pS [16],pX],pS [16]⟩,
 ⟨false,false,false,pT [pS [9,10],pX],pS [16]⟩,
 ⟨false,false,false,pT [pS [16],pX],pS [9,10]⟩,
 ⟨false,false,false,pT [pS [16],pX,pS [11,13,15],pX],pS [16]⟩,
 ⟨false,false,false,pT [pS [16],pX],pT [pS [11,13,15],pX,pS [16]]⟩,
 ⟨false,false,false,pT [pS [8],pX],pS [8]⟩,
 ⟨false,false,false,pT [pS [8,9,10,16,17],pX],pS [17]⟩,
 ⟨false,false,false,pT [pS [17],pX],pS [8,9,10,16]⟩,
 ⟨false,true,false,pR1,pS [7]⟩,
 ⟨false,false,false,pR2,pS [7]⟩]
section
variable {c:List Int} {n:Nat} (h2:n<c.length)
include h2
theorem take_len:(c.take n).length=n:=by rw[iw];omega
theorem dK {b:Bool} {L R:PT} {P Q:Prop} (hL:(∃i,aR L (c.take n) i (c.take n).length)↔P) (hR:(∃k,aR R (c.drop n) 0 k)↔Q):vS ⟨b,false,false,L,R⟩ c n↔P∧Q:=by rw[take_len h2]at hL;unfold vS;rw[hL,hR];exact⟨fun h=>⟨h.1,h.2.1⟩,fun h=>⟨h.1,h.2,(fun e=>by cases e),(fun e=>by cases e)⟩⟩
theorem lS (h1:1≤n) (A:List Nat):(∃i,aR (pS A) (c.take n) i (c.take n).length)↔Mem A (c.getD (n-1) 0):=by rw[QM A _ (by rw[take_len h2];omega),take_len h2,getD_take c (by omega)]
theorem l1 {A:List Nat} (hA:Apart A):(∃i,aR (pT [pS A,pX]) (c.take n) i (c.take n).length)↔Mem A (iG c (dx c n)):=by rw[afL hA,take_len h2,pK c n n (ay _),Bn c (kK c n).2 (by omega)]
theorem l2 {A B:List Nat} (hA:Apart A) (hB:Apart B):(∃i,aR (pT [pS A,pX,pS B,pX]) (c.take n) i (c.take n).length)↔Mem B (iG c (dx c n))∧Mem A (iG c (eD c (dx c n))):=by have e:=(kK c n).2;have g:=Jt c (dx c n);rw[afM hA hB,take_len h2,pK c n n (ay _),Bn c e (by omega),Dt c (by omega),Bn c (by omega) (by omega)]
theorem rS (B:List Nat):(∃k,aR (pS B) (c.drop n) 0 k)↔Mem B (c.getD n 0):=K7 B c n h2
theorem r2 (B:List Nat) {A:List Nat} (hA:Apart A):(∃k,aR (pT [pS B,pX,pS A]) (c.drop n) 0 k)↔Mem B (c.getD n 0)∧Mem A (DN c n):=acp hA c n h2
theorem acu (hd:∀j,j<c.length→0≤c.getD j 0∧c.getD j 0≤19):(aR pR1 (c.take n) 0 n∨∃i,aR pR2 (c.take n) i n)↔Qf c n%2=1:=by have hl:=take_len h2;have:=Zw (d:=c.take n) (fun j hj=>by rw[getD_take c (by omega)];exact hd j (by omega)) (f:=n+1) (by omega);rw[hl]at this;rw[this];unfold Qf;rw[pK c n n (ay _),Ju c (by omega) _ _ (kK c n).2,tY]
end
section
variable (x:Int)
theorem m1 (k:Nat):Mem [k] x↔(x==(k:Int))=true:=by unfold Mem;simp only[fG,mI,bU];omega
theorem anr:Mem [1,2,3] x↔vH x=true:=by unfold Mem vH;simp only[aW,lH,jE,o7,mI,cB,bU];omega
theorem ant:Mem [9,10] x↔rJ x=true:=by unfold Mem rJ;simp only[aW,lH,jE,o7,mI,cB,bU];omega
theorem anu:Mem [11,13,14] x↔Na x=true:=by unfold Mem Na;simp only[aW,lH,jE,o7,mI,cB,bU];omega
theorem anv:Mem [11,13,15] x↔Nb x=true:=by unfold Mem Nb;simp only[aW,lH,jE,o7,mI,cB,bU];omega
theorem aje:Mem [8,9,10,16] x↔yg x=true:=by unfold Mem yg rJ;simp only[aW,lH,jE,o7,mI,cB,bU];omega
theorem afQ:Mem [8,9,10,16,17] x↔(yg x||x==17)=true:=by unfold Mem yg rJ;simp only[aW,lH,jE,o7,mI,cB,bU];omega
end
theorem ZH {a b:Bool}:a=true∨b=true→(a||b)=true:=fun h=>by rcases h with rfl|rfl<;>simp
theorem ZI {c:List Int} {n:Nat} (h1:1≤n) (h2:n<c.length) (hd:∀j,j<c.length→0≤c.getD j 0∧c.getD j 0≤19) {b:Bool} (h:fM true c n b dH):b=Gd c n:=by
 have Vz:Apart [9,10]:=l6 _ rfl;have h9:Apart [9]:=l6 _ rfl;have h12:Apart [12]:=l6 _ rfl;have h16:Apart [16]:=l6 _ rfl;have h8:Apart [8]:=l6 _ rfl;have h17:Apart [17]:=l6 _ rfl;have hW:Apart [11,13,14]:=l6 _ rfl;have hN:Apart [11,13,15]:=l6 _ rfl;have hJ:Apart [8,9,10,16,17]:=l6 _ rfl;have L0:(∃i,aR p0 (c.take n) i (c.take n).length)↔True:=⟨fun _=>trivial,fun _=>ZG _⟩
 have R0:(∃k,aR p0 (c.drop n) 0 k)↔True:=⟨fun _=>trivial,fun _=>Te _⟩
 have odd:=acu h2 hd;have a21:vS ⟨false,true,false,pR1,pS [7]⟩ c n↔aR pR1 (c.take n) 0 n∧Mem [7] (c.getD n 0):=by unfold vS;rw[rS h2];exact⟨fun h=>⟨h.2.2.1 rfl,h.2.1⟩,fun h=>⟨⟨0,h.1⟩,h.2,(fun _=>h.1),(fun e=>by cases e)⟩⟩
 have a22:vS ⟨false,false,false,pR2,pS [7]⟩ c n↔(∃i,aR pR2 (c.take n) i n)∧Mem [7] (c.getD n 0):=by have:=dK h2 (b:=false) (L:=pR2) (R:=pS [7]) Iff.rfl (rS h2 [7]);rwa [take_len h2]at this
 unfold dH at h;simp only[fM]at h;rw[dK h2 (lS h2 h1 _) (rS h2 _),dK h2 (lS h2 h1 _) R0,dK h2 L0 (rS h2 _),dK h2 (lS h2 h1 _) (rS h2 _),dK h2 (lS h2 h1 _) (rS h2 _),dK h2 L0 (rS h2 _),
  dK h2 (l1 h2 Vz) (rS h2 _),dK h2 (l1 h2 Vz) (r2 h2 _ Vz),dK h2 (l2 h2 Vz hW) (rS h2 _),dK h2 (l1 h2 h9) (rS h2 _),dK h2 (l1 h2 h9) (r2 h2 _ h9),
  dK h2 (l2 h2 h9 h12) (rS h2 _),dK h2 (l1 h2 h16) (rS h2 _),dK h2 (l1 h2 Vz) (rS h2 _),dK h2 (l1 h2 h16) (rS h2 _),dK h2 (l2 h2 h16 hN) (rS h2 _),dK h2 (l1 h2 h16) (r2 h2 _ h16),
  dK h2 (l1 h2 h8) (rS h2 _),dK h2 (l1 h2 hJ) (rS h2 _),dK h2 (l1 h2 h17) (rS h2 _),a21,a22]at h
 simp only[m1,anr,ant,anu,anv,aje,afQ,Gz]at h;unfold Gd;generalize Qf c n=R at*
 generalize c.getD (n-1) 0=x at*
 generalize c.getD n 0=y at*
 generalize iG c (eD c (dx c n))=z at*
 generalize iG c (dx c n)=a at*
 generalize DN c n=m at*
 generalize aR pR1 (c.take n) 0 n=P1 at*
 generalize(∃i,aR pR2 (c.take n) i n)=P2 at*
 clear hd h1 h2 a21 a22 L0 R0 Vz h9 h12 h16 h8 h17 hW hN hJ;unfold afc;rcases h with⟨⟨e1,e2⟩,rfl⟩|⟨n1,h⟩
 ·rw[ak (by rw[show(x==1)=true from e1,show(y==2)=true from e2];rfl)]
 rw[aj (by rw[aJ];exact n1)];rcases h with⟨⟨e1,_⟩,rfl⟩|⟨n2,h⟩
 ·rw[ak (ZH (.inl e1))]
 rcases h with⟨⟨_,e1⟩,rfl⟩|⟨n3,h⟩
 ·rw[ak (ZH (.inr e1))]
 rw[aj (by rw[cB];rintro(e|e);exact n2 ⟨e,trivial⟩;exact n3 ⟨trivial,e⟩)];rcases h with⟨⟨e1,e2⟩,rfl⟩|⟨n4,h⟩
 ·rw[ak (by rw[show(x==5)=true from e1,show(y==19)=true from e2];rfl)]
 rw[aj (by rw[aJ];exact n4)];rcases h with⟨⟨e1,e2⟩,rfl⟩|⟨n5,h⟩
 ·rw[ak (by rw[show(x==18)=true from e1,show(y==18)=true from e2];rfl)]
 rw[aj (by rw[aJ];exact n5)];rcases h with⟨⟨_,e1⟩,rfl⟩|⟨n6,h⟩
 ·rw[ak e1]
 rw[aj (fun e=>n6 ⟨trivial,e⟩)];clear n1 n2 n3 n4 n5 n6;by_cases hl:lM z a y m=true
 ·rw[ak hl];rcases h with⟨_,rfl⟩|⟨n7,h⟩
  ·rfl
  rcases h with⟨_,rfl⟩|⟨n8,h⟩
  ·rfl
  rcases h with⟨_,rfl⟩|⟨n9,h⟩
  ·rfl
  rcases h with⟨_,rfl⟩|⟨n10,h⟩
  ·rfl
  rcases h with⟨_,rfl⟩|⟨n11,h⟩
  ·rfl
  rcases h with⟨_,rfl⟩|⟨n12,h⟩
  ·rfl
  rcases h with⟨_,rfl⟩|⟨n13,h⟩
  ·rfl
  rcases h with⟨_,rfl⟩|⟨n14,h⟩
  ·rfl
  rcases h with⟨_,rfl⟩|⟨n15,h⟩
  ·rfl
  rcases h with⟨_,rfl⟩|⟨n16,h⟩
  ·rfl
  rcases h with⟨_,rfl⟩|⟨n17,h⟩
  ·rfl
  rcases h with⟨_,rfl⟩|⟨n18,h⟩
  ·rfl
  rcases h with⟨_,rfl⟩|⟨n19,h⟩
  ·rfl
  rcases h with⟨_,rfl⟩|⟨n20,h⟩
  ·rfl
  exfalso;unfold lM l1F l2F l3F h1F h2F h3F d1F d2F n1F n2F UL at hl;simp only[cB,aJ]at hl n19;rcases hl with(((((((((hl|hl)|hl)|hl)|hl)|hl)|hl)|hl)|hl)|hl)|((hl|hl)|hl)
  ·exact n7 hl
  ·exact n8 ⟨hl.1.1,hl.1.2,hl.2⟩
  ·exact n9 ⟨⟨hl.1.2,hl.1.1⟩,hl.2⟩
  ·exact n10 hl
  ·exact n11 ⟨hl.1.1,hl.1.2,hl.2⟩
  ·exact n12 ⟨⟨hl.1.2,hl.1.1⟩,hl.2⟩
  ·rcases hl with⟨e1,e2|e2⟩
   ·exact n13 ⟨e1,e2⟩
   ·exact n15 ⟨e1,e2⟩
  ·exact n14 hl
  ·exact n16 ⟨⟨hl.1.2,hl.1.1⟩,hl.2⟩
  ·exact n17 ⟨hl.1.1,hl.1.2,hl.2⟩
  ·exact n18 hl
  ·exact n19 hl
  ·exact n20 hl
 ·rw[aj hl];unfold lM l1F l2F l3F h1F h2F h3F d1F d2F n1F n2F UL at hl;simp only[cB,aJ,not_or]at hl;obtain⟨⟨⟨⟨⟨⟨⟨⟨⟨⟨q1,q2⟩,q3⟩,q4⟩,q5⟩,q6⟩,q7⟩,q8⟩,q9⟩,q10⟩,⟨⟨q11,q12⟩,q13⟩⟩:=hl;rcases h with⟨e,rfl⟩|⟨_,h⟩
  ·exact absurd e q1
  rcases h with⟨e,rfl⟩|⟨_,h⟩
  ·exact absurd ⟨⟨e.1,e.2.1⟩,e.2.2⟩ q2
  rcases h with⟨e,rfl⟩|⟨_,h⟩
  ·exact absurd ⟨⟨e.1.2,e.1.1⟩,e.2⟩ q3
  rcases h with⟨e,rfl⟩|⟨_,h⟩
  ·exact absurd e q4
  rcases h with⟨e,rfl⟩|⟨_,h⟩
  ·exact absurd ⟨⟨e.1,e.2.1⟩,e.2.2⟩ q5
  rcases h with⟨e,rfl⟩|⟨_,h⟩
  ·exact absurd ⟨⟨e.1.2,e.1.1⟩,e.2⟩ q6
  rcases h with⟨e,rfl⟩|⟨_,h⟩
  ·exact absurd ⟨e.1, .inl e.2⟩ q7
  rcases h with⟨e,rfl⟩|⟨_,h⟩
  ·exact absurd e q8
  rcases h with⟨e,rfl⟩|⟨_,h⟩
  ·exact absurd ⟨e.1, .inr e.2⟩ q7
  rcases h with⟨e,rfl⟩|⟨_,h⟩
  ·exact absurd ⟨⟨e.1.2,e.1.1⟩,e.2⟩ q9
  rcases h with⟨e,rfl⟩|⟨_,h⟩
  ·exact absurd ⟨⟨e.1,e.2.1⟩,e.2.2⟩ q10
  rcases h with⟨e,rfl⟩|⟨_,h⟩
  ·exact absurd e q11
  rcases h with⟨e,rfl⟩|⟨_,h⟩
  ·exact absurd ⟨by simpa using e.1,e.2⟩ q12
  rcases h with⟨e,rfl⟩|⟨_,h⟩
  ·exact absurd e q13
  rcases h with⟨⟨e,e7⟩,rfl⟩|⟨n21,h⟩
  ·have:=odd.1 (.inl e);rw[show(y==7)=true from e7,this];rfl
  rcases h with⟨⟨e,e7⟩,rfl⟩|⟨n22,rfl⟩
  ·have:=odd.1 (.inr e);rw[show(y==7)=true from e7,this];rfl
  by_cases g:(y==7)=true
  ·rw[g];have:¬R%2=1:=fun k=>by
    rcases odd.2 k with e|e;·exact n21 ⟨e,g⟩
    ·exact n22 ⟨e,g⟩
   have:R%2=0:=by omega
   rw[this];rfl
  ·rw[Bool.not_eq_true]at g;rw[g];rfl
end
section
open KO
def pO (l:List PT):PT:= .node 3 [] l
def Tf:PT:= .node 4 [] [pT [pS [13],pS [13]]]
def Tg:PT:=pO [pS [1],pS [2],pS [3]]
def Du:List Nat:=[0,1,2,3,4,5,6,7,8,9,10,11,12]
def rV:List PR:=[
 ⟨false,false,false,pS [1],pS [2]⟩,
 ⟨true,false,false,Tg,p0⟩,
 ⟨true,false,false,p0,Tg⟩,
 ⟨false,false,false,pS [8],pO [pS [8],pS [9],pS [11]]⟩,
 ⟨false,false,false,pO [pS [9],pS [11]],pO [pS [9],pS [10]]⟩,
 ⟨false,false,false,pS [10],pS [10]⟩,
 ⟨false,false,false,p0,pO [pS [4],pS [5],pS [6]]⟩,
 ⟨false,false,false,pS [7],p0⟩,
 ⟨false,false,false,pT [pS [12], .node 4 [] [pS [4]],pS [5]],pS [12]⟩,
 ⟨false,true,false,pT [Tf,pS [13]],pS [13]⟩,
 ⟨false,false,false,pT [pS Du,Tf,pS [13]],pS [13]⟩]
def DV (c:List Int):Nat→Bool
 |0=>false
 |n+1=>c.getD n 0==12||(DV c n&&c.getD n 0==4)
def QN (c:List Int):Nat→Bool
 |0=>false
 |n+1=>DV c n&&c.getD n 0==5
def flF (c:List Int):Nat→Nat
 |0=>0
 |n+1=>if c.getD n 0=13 then flF c n+1 else 0
def Dv (c:List Int) (n:Nat):Bool:= !(qL (c.getD (n-1) 0) (c.getD n 0)||(QN c n&&c.getD n 0==12)||(c.getD n 0==13&&flF c n%2==1))
theorem Om (A:List Nat) (d:List Int) {i k:Nat} (hi:i≤d.length):aR (.node 4 [] [pS A]) d i k↔i≤k∧k≤d.length∧∀j,i≤j→j<k→Mem A (d.getD j 0):=by
 rw[mJ _ _ _ _ _ hi];constructor
 ·intro h;induction h with
  |nil=>exact⟨ay _,hi,fun j h1 h2=>by omega⟩
  |snoc _ s ih=>
   obtain⟨h1,h2,h3⟩:=(dF _ _ _ _).1 s;subst h2;refine⟨by omega,by omega,fun j e1 e2=> ?_⟩;rename_i m _;by_cases c:j<m;·exact ih.2.2 j e1 c
   ·obtain rfl:j=m:=by omega
    exact h3
 ·rintro⟨h1,h2,h3⟩;obtain⟨m,rfl⟩:∃m,k=i+m:=⟨k-i,by omega⟩
  clear h1;induction m with
  |zero=>exact .nil
  |succ m ih=>exact .snoc (ih (by omega) fun j e1 e2=>h3 j e1 (by omega)) ((dF _ _ _ _).2 ⟨by omega,by omega,h3 _ (by omega) (by omega)⟩)
theorem K9 (c:List Int):∀n,DV c n=true↔∃m,m<n∧c.getD m 0=12∧∀j,m<j→j<n→c.getD j 0=4
 |0=>⟨fun h=>(by cases h),fun⟨m,h,_⟩=>absurd h (iW m)⟩
 |n+1=>by
  rw[DV,cB,aJ,K9 c n,bU,bU];constructor
  ·rintro(h|⟨⟨m,h1,h2,h3⟩,h4⟩)
   ·exact⟨n,kZ n,h,fun j e1 e2=>by omega⟩
   ·refine⟨m,by omega,h2,fun j e1 e2=> ?_⟩;rcases aL j n with e|e
    ·exact h3 j e1 e
    ·obtain rfl:j=n:=by omega
     exact h4
  ·rintro⟨m,h1,h2,h3⟩;rcases aL m n with e|e
   ·exact .inr ⟨⟨m,e,h2,fun j e1 e2=>h3 j e1 (by omega)⟩,h3 n e (kZ n)⟩
   ·obtain rfl:m=n:=by omega
    exact .inl h2
theorem VN (k:Nat) (x:Int):Mem [k] x↔x=(k:Int):=by rw[m1,bU]
theorem afR (d:List Int):(∃i,aR (pT [pS [12], .node 4 [] [pS [4]],pS [5]]) d i d.length)↔QN d d.length=true:=by
 constructor;·rintro⟨i,h⟩;obtain⟨_,j,h1,k,h2,m,h3,e⟩:=(bH _ _ _ _ _).1 h;cases e;obtain⟨a1,rfl,a2⟩:=(dF _ _ _ _).1 h1;obtain⟨b1,b2,b3⟩:=(Om _ d (by omega)).1 h2;obtain⟨c1,c2,c3⟩:=(dF _ _ _ _).1 h3;rw[c2,QN,aJ,bU,K9];exact⟨⟨i,by omega,(VN 12 _).1 a2,fun j e1 e2=>(VN 4 _).1 (b3 j e1 e2)⟩,(VN 5 _).1 c3⟩
 ·intro h;obtain⟨n,hn⟩:∃n,d.length=n:=⟨_,rfl⟩
  rw[hn]at h⊢;cases n with
  |zero=>cases h
  |succ n=>rw[QN,aJ,bU,K9]at h;obtain⟨⟨m,h1,h2,h3⟩,h4⟩:=h;exact⟨m,(bH _ _ _ _ _).2 ⟨by omega,m+1,(dF _ _ _ _).2 ⟨by omega,rfl,(VN 12 _).2 h2⟩,n,(Om _ d (by omega)).2 ⟨h1,by omega,fun j e1 e2=>(VN 4 _).2 (h3 j e1 e2)⟩,n+1,(dF _ _ _ _).2 ⟨by omega,rfl,(VN 5 _).2 h4⟩,rfl⟩⟩
theorem fl_pair {d:List Int} {i k:Nat}:aR (pT [pS [13],pS [13]]) d i k↔k=i+2∧k≤d.length∧d.getD i 0=13∧d.getD (i+1) 0=13:=by
 constructor;·intro h;obtain⟨_,j,h1,m,h2,e⟩:=(bH _ _ _ _ _).1 h;cases e;obtain⟨a1,rfl,a2⟩:=(dF _ _ _ _).1 h1;obtain⟨b1,b2,b3⟩:=(dF _ _ _ _).1 h2;exact⟨b2,by omega,(VN 13 _).1 a2,(VN 13 _).1 b3⟩
 ·rintro⟨rfl,h1,h2,h3⟩;exact(bH _ _ _ _ _).2 ⟨by omega,i+1,(dF _ _ _ _).2 ⟨by omega,rfl,(VN 13 _).2 h2⟩,i+2,(dF _ _ _ _).2 ⟨by omega,rfl,(VN 13 _).2 h3⟩,rfl⟩
theorem fl_star {d:List Int} {i k:Nat} (hi:i≤d.length):aR Tf d i k↔i≤k∧k≤d.length∧(k-i)%2=0∧∀j,i≤j→j<k→d.getD j 0=13:=by
 unfold Tf;rw[mJ _ _ _ _ _ hi];constructor
 ·intro h;induction h with
  |nil=>exact⟨ay _,hi,by omega,fun j h1 h2=>by omega⟩
  |snoc _ s ih=>
   obtain⟨rfl,h1,h2,h3⟩:=fl_pair.1 s;rename_i m _;refine⟨by omega,h1,by omega,fun j e1 e2=> ?_⟩;rcases kW j m with c|rfl|c;·exact ih.2.2.2 j e1 c
   ·exact h2
   ·obtain rfl:j=m+1:=by omega
    exact h3
 ·rintro⟨h1,h2,h3,h4⟩;obtain⟨m,rfl⟩:∃m,k=i+2*m:=⟨(k-i)/2,by omega⟩
  clear h1 h3;induction m with
  |zero=>exact .nil
  |succ m ih=>exact .snoc (ih (by omega) fun j e1 e2=>h4 j e1 (by omega)) (fl_pair.2 ⟨by omega,by omega,h4 _ (by omega) (by omega),h4 _ (by omega) (by omega)⟩)
theorem fl_all {d:List Int} {i:Nat} (hi:i≤d.length):jT [Tf,pS [13]] d i d.length↔(d.length-i)%2=1∧∀j,i≤j→j<d.length→d.getD j 0=13:=by
 constructor
 ·rintro⟨a,h1,b,h2,e⟩;cases e;obtain⟨a1,a2,a3,a4⟩:=(fl_star hi).1 h1;obtain⟨b1,b2,b3⟩:=(dF _ _ _ _).1 h2;refine⟨by omega,fun j e1 e2=> ?_⟩;rcases aL j a with c|c
  ·exact a4 j e1 c
  ·obtain rfl:j=a:=by omega
   exact(VN 13 _).1 b3
 ·rintro⟨h1,h2⟩;exact⟨d.length-1,(fl_star hi).2 ⟨by omega,by omega,by omega,fun j e1 e2=>h2 j e1 (by omega)⟩,d.length,(dF _ _ _ _).2 ⟨by omega,by omega,(VN 13 _).2 (h2 _ (by omega) (by omega))⟩,rfl⟩
theorem fl_spec (c:List Int):∀n,flF c n≤n∧(∀j,n-flF c n≤j→j<n→c.getD j 0=13)∧(flF c n=n∨c.getD (n-flF c n-1) 0≠13)
 |0=>⟨ay _,fun j h1 h2=>by omega, .inl rfl⟩
 |n+1=>by
  obtain⟨h1,h2,h3⟩:=fl_spec c n;rw[flF];by_cases e:c.getD n 0=13
  ·rw[ak e];refine⟨by omega,fun j a1 a2=> ?_,?_⟩
   ·rcases aL j n with g|g
    ·exact h2 j (by omega) g
    ·obtain rfl:j=n:=by omega
     exact e
   ·rcases h3 with h3|h3
    ·exact .inl (by omega)
    ·exact .inr (by rw[show n+1-(flF c n+1)-1=n-flF c n-1 by omega];exact h3)
  ·rw[aj e];exact⟨by omega,fun j a1 a2=>by omega, .inr e⟩
theorem Jv {x:Int} (h0:0≤x) (h1:x≤13):Mem Du x↔x≠13:=by unfold Mem Du;simp only[aW,lH,jE,o7,mI];omega
theorem fl_odd {d:List Int} (hd:∀j,j<d.length→0≤d.getD j 0∧d.getD j 0≤13):(aR (pT [Tf,pS [13]]) d 0 d.length∨∃i,aR (pT [pS Du,Tf,pS [13]]) d i d.length)↔flF d d.length%2=1:=by
 obtain⟨e1,e2,e3⟩:=fl_spec d d.length;constructor
 ·rintro(h|⟨i,h⟩)
  ·obtain⟨_,h⟩:=(bH _ _ _ _ _).1 h;obtain⟨h1,h2⟩:=(fl_all (aH _)).1 h;rcases e3 with e3|e3
   ·omega
   ·rcases aL (flF d d.length) d.length with g|g
    ·exact absurd (h2 _ (aH _) (by omega)) e3
    ·omega
  ·obtain⟨_,j,h1,h2⟩:=(bH _ _ _ _ _).1 h;obtain⟨g1,rfl,g2⟩:=(dF _ _ _ _).1 h1;obtain⟨k1,k2⟩:=(fl_all (by omega)).1 h2;rw[Jv (hd i g1).1 (hd i g1).2]at g2;have hq:d.length-flF d d.length=i+1:=by
    rcases kW (d.length-flF d d.length) (i+1)with c|c|c;·exact absurd (e2 i (by omega) g1) g2
    ·exact c
    ·rcases e3 with e3|e3
     ·omega
     ·exact absurd (k2 _ (by omega) (by omega)) e3
   omega
 ·intro h;by_cases g:flF d d.length=d.length
  ·exact .inl ((bH _ _ _ _ _).2 ⟨aH _,(fl_all (aH _)).2 ⟨by omega,fun j a1 a2=>e2 j (by omega) a2⟩⟩)
  ·rcases e3 with e3|e3
   ·exact absurd e3 g
   ·have hb:=hd (d.length-flF d d.length-1) (by omega);exact .inr ⟨d.length-flF d d.length-1,(bH _ _ _ _ _).2 ⟨by omega,d.length-flF d d.length,(dF _ _ _ _).2 ⟨by omega,by omega,(Jv hb.1 hb.2).2 e3⟩,(fl_all (by omega)).2 ⟨by omega,e2⟩⟩⟩
theorem afS (L:List (List Nat)) (d:List Int) (h:0<d.length):(∃i,aR (pO (L.map pS)) d i d.length)↔∃A∈L,Mem A (d.getD (d.length-1) 0):=by
 constructor;·rintro⟨i,e⟩;obtain⟨p,hp,e⟩:=(vL _ _ _ _ _).1 e;obtain⟨A,hA,rfl⟩:=dA.1 hp;exact⟨A,hA,(QM A d h).1 ⟨i,e⟩⟩
 ·rintro⟨A,hA,e⟩;obtain⟨i,e⟩:=(QM A d h).2 e;exact⟨i,(vL _ _ _ _ _).2 ⟨pS A,List.mem_map_of_mem hA,e⟩⟩
theorem acv (L:List (List Nat)) (c:List Int) (n:Nat) (hn:n<c.length):(∃k,aR (pO (L.map pS)) (c.drop n) 0 k)↔∃A∈L,Mem A (c.getD n 0):=by
 constructor;·rintro⟨k,e⟩;obtain⟨p,hp,e⟩:=(vL _ _ _ _ _).1 e;obtain⟨A,hA,rfl⟩:=dA.1 hp;exact⟨A,hA,(K7 A c n hn).1 ⟨k,e⟩⟩
 ·rintro⟨A,hA,e⟩;obtain⟨k,e⟩:=(K7 A c n hn).2 e;exact⟨k,(vL _ _ _ _ _).2 ⟨pS A,List.mem_map_of_mem hA,e⟩⟩
theorem mo3 (a b e:Nat) (x:Int):(∃A∈[[a],[b],[e]],Mem A x)↔(x==(a:Int)||x==(b:Int)||x==(e:Int))=true:=by simp only[aW,lH,jE,o7,mI,m1,cB,or_assoc]
theorem mo2 (a b:Nat) (x:Int):(∃A∈[[a],[b]],Mem A x)↔(x==(a:Int)||x==(b:Int))=true:=by simp only[aW,lH,jE,o7,mI,m1,cB]
theorem Oo (c:List Int) (n:Nat):∀k,k≤n→DV (c.take n) k=DV c k
 |0,_=>rfl
 |k+1,h=>by rw[DV,DV,getD_take c (show k<n by omega),Oo c n k (by omega)]
theorem acw (c:List Int) (n:Nat):∀k,k≤n→QN (c.take n) k=QN c k
 |0,_=>rfl
 |k+1,h=>by rw[QN,QN,getD_take c (show k<n by omega),Oo c n k (by omega)]
theorem fl_take (c:List Int) (n:Nat):∀k,k≤n→flF (c.take n) k=flF c k
 |0,_=>rfl
 |k+1,h=>by rw[flF,flF,getD_take c (show k<n by omega),fl_take c n k (by omega)]
def GJ (x y:Int):Prop:=(x=1∧y=2)∨(¬(x=1∨x=2∨x=3)∧¬(y=1∨y=2∨y=3)∧(y=4∨y=5∨y=6∨x=7∨(x=8∧(y=8∨y=9∨y=11))∨((x=9∨x=11)∧(y=9∨y=10))∨(x=10∧y=10)))
theorem afT (x y:Int):qL x y=true↔GJ x y:=by
 unfold qL yh GJ;repeat' split
 all_goals simp only[aJ,cB,bU,bC,eq_self,true_iff,false_iff]at*
 all_goals omega
theorem anw {c:List Int}:∀{n:Nat},QN c n=true→c.getD (n-1) 0=5
 |0,h=>by cases h
 |n+1,h=>by rw[QN,aJ,bU]at h;exact h.2
theorem fl_x {c:List Int}:∀{n:Nat},flF c n%2=1→c.getD (n-1) 0=13
 |0,h=>by cases h
 |n+1,h=>by
  rw[flF]at h;split at h;·assumption
  ·cases h
theorem acy {c:List Int} {n:Nat} (h1:1≤n) (h2:n<c.length) (hd:∀j,j<c.length→0≤c.getD j 0∧c.getD j 0≤13) {b:Bool} (h:fM true c n b rV):b=Dv c n:=by
 have hl:=take_len h2;have L0:(∃i,aR p0 (c.take n) i (c.take n).length)↔True:=⟨fun _=>trivial,fun _=>ZG _⟩
 have R0:(∃k,aR p0 (c.drop n) 0 k)↔True:=⟨fun _=>trivial,fun _=>Te _⟩
 have LO:∀L:List (List Nat),(∃i,aR (pO (L.map pS)) (c.take n) i (c.take n).length)↔∃A∈L,Mem A (c.getD (n-1) 0):=fun L=>by rw[afS L _ (by omega),hl,getD_take c (by omega)]
 have RO:=fun L=>acv L c n h2;have LE:(∃i,aR Tg (c.take n) i (c.take n).length)↔∃A∈[[1],[2],[3]],Mem A (c.getD (n-1) 0):=LO [[1],[2],[3]];have RE:(∃k,aR Tg (c.drop n) 0 k)↔∃A∈[[1],[2],[3]],Mem A (c.getD n 0):=RO [[1],[2],[3]];have ajf:(∃i,aR (pO [pS [9],pS [11]]) (c.take n) i (c.take n).length)↔∃A∈[[9],[11]],Mem A (c.getD (n-1) 0):=LO [[9],[11]];have R8:(∃k,aR (pO [pS [8],pS [9],pS [11]]) (c.drop n) 0 k)↔∃A∈[[8],[9],[11]],Mem A (c.getD n 0):=RO [[8],[9],[11]];have ajg:(∃k,aR (pO [pS [9],pS [10]]) (c.drop n) 0 k)↔∃A∈[[9],[10]],Mem A (c.getD n 0):=RO [[9],[10]];have R4:(∃k,aR (pO [pS [4],pS [5],pS [6]]) (c.drop n) 0 k)↔∃A∈[[4],[5],[6]],Mem A (c.getD n 0):=RO [[4],[5],[6]];have odd:=fl_odd (d:=c.take n) (fun j hj=>by rw[getD_take c (by omega)];exact hd j (by omega));rw[hl,fl_take c n n (ay _)]at odd;have jn:=afR (c.take n);rw[show QN (c.take n) (c.take n).length=QN c n by rw[hl];exact acw c n n (ay _)]at jn;have a10:vS ⟨false,true,false,pT [Tf,pS [13]],pS [13]⟩ c n↔aR (pT [Tf,pS [13]]) (c.take n) 0 n∧Mem [13] (c.getD n 0):=by unfold vS;rw[rS h2];exact⟨fun h=>⟨h.2.2.1 rfl,h.2.1⟩,fun h=>⟨⟨0,h.1⟩,h.2,(fun _=>h.1),(fun e=>by cases e)⟩⟩
 have a11:vS ⟨false,false,false,pT [pS Du,Tf,pS [13]],pS [13]⟩ c n↔(∃i,aR (pT [pS Du,Tf,pS [13]]) (c.take n) i n)∧Mem [13] (c.getD n 0):=by have:=dK h2 (b:=false) (L:=pT [pS Du,Tf,pS [13]]) (R:=pS [13]) Iff.rfl (rS h2 [13]);rwa [hl]at this
 unfold rV at h;simp only[fM]at h;rw[dK h2 (lS h2 h1 _) (rS h2 _),dK h2 LE R0,dK h2 L0 RE,dK h2 (lS h2 h1 _) R8,dK h2 ajf ajg,dK h2 (lS h2 h1 _) (rS h2 _),dK h2 L0 R4,dK h2 (lS h2 h1 _) R0,
  dK h2 jn (rS h2 _),a10,a11]at h
 simp only[m1,mo3,mo2]at h;have jx:=anw (c:=c) (n:=n);have fx:=fl_x (c:=c) (n:=n);unfold Dv;generalize QN c n=J at*
 generalize flF c n=R at*
 generalize c.getD (n-1) 0=x at*
 generalize c.getD n 0=y at*
 generalize aR (pT [Tf,pS [13]]) (c.take n) 0 n=P1 at*
 generalize(∃i,aR (pT [pS Du,Tf,pS [13]]) (c.take n) i n)=P2 at*
 clear hd h1 h2 a10 a11 L0 R0 LO RO jn hl LE RE ajf R8 ajg R4;have key:(!(qL x y||(J&&y==12)||(y==13&&R%2==1)))=true↔¬(GJ x y∨(J=true∧y=12)∨(y=13∧R%2=1)):=by
  have e:∀X:Bool,(!X)=true↔¬X=true:=by decide
  rw[e];simp only[cB,aJ,bU,afT,or_assoc]
 have no:(GJ x y∨(J=true∧y=12)∨(y=13∧R%2=1))→false= !(qL x y||(J&&y==12)||(y==13&&R%2==1)):=fun e=>by symm;rw[Af];exact fun k=>key.1 k e
 have yes:¬(GJ x y∨(J=true∧y=12)∨(y=13∧R%2=1))→true= !(qL x y||(J&&y==12)||(y==13&&R%2==1)):=fun e=>(key.2 e).symm;simp only[cB,bU]at h;rcases h with⟨⟨e1,e2⟩,rfl⟩|⟨n1,h⟩
 ·exact no (.inl (.inl ⟨e1,e2⟩))
 rcases h with⟨⟨e1,_⟩,rfl⟩|⟨n2,h⟩
 ·refine yes ?_;rintro(e|⟨e,_⟩|⟨_,e⟩)
  ·unfold GJ at e;omega
  ·have:=jx e;omega
  ·have:=fx e;omega
 rcases h with⟨⟨_,e1⟩,rfl⟩|⟨n3,h⟩
 ·refine yes ?_;rintro(e|⟨_,e⟩|⟨e,_⟩)
  ·unfold GJ at e;omega
  ·omega
  ·omega
 have n2':¬(x=1∨x=2∨x=3):=fun e=>n2 ⟨by omega,trivial⟩;have n3':¬(y=1∨y=2∨y=3):=fun e=>n3 ⟨trivial,by omega⟩;clear n2 n3;rcases h with⟨e1,rfl⟩|⟨n4,h⟩
 ·exact no (.inl (by unfold GJ;omega))
 rcases h with⟨e1,rfl⟩|⟨n5,h⟩
 ·exact no (.inl (by unfold GJ;omega))
 rcases h with⟨e1,rfl⟩|⟨n6,h⟩
 ·exact no (.inl (by unfold GJ;omega))
 rcases h with⟨⟨_,e1⟩,rfl⟩|⟨n7,h⟩
 ·exact no (.inl (by unfold GJ;omega))
 rcases h with⟨⟨e1,_⟩,rfl⟩|⟨n8,h⟩
 ·exact no (.inl (by unfold GJ;omega))
 have n7':¬(y=4∨y=5∨y=6):=fun e=>n7 ⟨trivial,by omega⟩;have n8':¬x=7:=fun e=>n8 ⟨e,trivial⟩;clear n7 n8;rcases h with⟨e1,rfl⟩|⟨n9,h⟩
 ·exact no (.inr (.inl e1))
 rcases h with⟨⟨e1,e2⟩,rfl⟩|⟨n10,h⟩
 ·exact no (.inr (.inr ⟨e2,odd.1 (.inl e1)⟩))
 rcases h with⟨⟨e1,e2⟩,rfl⟩|⟨n11,rfl⟩
 ·exact no (.inr (.inr ⟨e2,odd.1 (.inr e1)⟩))
 refine yes ?_;rintro(e|e|⟨e,k⟩);·unfold GJ at e;omega
 ·exact n9 e
 ·rcases odd.2 k with g|g
  ·exact n10 ⟨g,e⟩
  ·exact n11 ⟨g,e⟩
end
def Bo (cut:Nat→Bool) (ats:List Int) (L:Int) (n:Nat):Nat→Nat→List Int
 |0,_=>[]
 |f+1,k=>(if k=0∨k=n∨cut k=true then[if k<n then ats.getD k 0 else L]else[])++Bo cut ats L n f (k+1)
theorem Oq (cut:Nat→Bool) (ats:List Int) (L:Int) (n:Nat):Bo cut ats L n 1 n=[L]:=by unfold Bo;rw[ak (.inr (.inl rfl)),aj (dB n)];rfl
theorem Jw (cls ats:List Int) (L:Int) (n:Nat):∀f k,f+k=n→Bo (Gd cls) ats L n (f+1) k=Gf cls ats f k++[L]
 |0,k,h=>by
  obtain rfl:k=n:=by omega
  rw[Oq];rfl
 |f+1,k,h=>by
  have ih:=Jw cls ats L n f (k+1) (by omega);rw[Bo,ih,Gf,ak (show k<n by omega)];by_cases c:k=0∨Gd cls k=true;·rw[ak (by rcases c with c|c;exact .inl c;exact .inr (.inr c))];rw[ak c];rfl
  ·rw[aj (by rintro(e|e|e);exact c (.inl e);omega;exact c (.inr e))];rw[aj c];rfl
theorem Ot (cls ats:List Int) (L:Int) (n:Nat):∀(l:List (Nat×Nat)) k,l.length+k=n→(∀j x,l[j]? =some x→(x.1:Int)=ats.getD (k+j) 0)→1≤n→
 Bo (Dv cls) ats L n (l.length+1) k=(if k=0 then[ats.getD 0 0]else[])++gbF cls l k (DV cls k) (QN cls k) (flF cls k)++[L]
 |[],k,h,_,h1=>by
   obtain rfl:k=n:=by simpa using h
   rw[jf,Oq,aj (by omega)];rfl
 |x::r,k,h,hx,h1=>by
  have h':r.length+1+k=n:=by simpa using h
  have ih:=Ot cls ats L n r (k+1) (by omega) (fun j y hy=>by rw[show k+1+j=k+(j+1)by omega];exact hx (j+1) y hy) h1;have h0:(x.1:Int)=ats.getD k 0:=hx 0 x rfl;rw[bY,Bo,ih,aj (Nat.succ_ne_zero k),oW,ak (show k<n by omega),gbF];have e1:DV cls (k+1)=(cls.getD k 0==12||(DV cls k&&cls.getD k 0==4)):=rfl;have e2:QN cls (k+1)=(DV cls k&&cls.getD k 0==5):=rfl;have e3:flF cls (k+1)=if cls.getD k 0=13 then flF cls k+1 else 0:=rfl
  rw[←e1,←e2,←e3,←h0];by_cases c:k=0;·subst c;rw[ak (.inl rfl),ak rfl,ak (.inl rfl),dW,h0]
  ·rw[aj c,oW];by_cases g:Dv cls k=true
   ·rw[ak (.inr (.inr g)),aj]
    ·rfl
    ·unfold Dv at g;simp only[Bool.not_eq_true',Bool.or_eq_false_iff,Bool.and_eq_false_iff,bW]at g;obtain⟨⟨g1,g2⟩,g3⟩:=g;rintro(e|e|⟨e,e'⟩|⟨e,e'⟩)
     ·exact c e
     ·rw[g1]at e;cases e
     ·rcases g2 with g2|g2
      ·rw[g2]at e;cases e
      ·exact g2 e'
     ·rcases g3 with g3|g3
      ·exact g3 e
      ·exact g3 e'
   ·rw[aj (by rintro(e|e|e);exact c e;omega;exact g e),ak]
    ·rfl
    ·unfold Dv at g;simp only[Bool.not_eq_true',Bool.not_eq_false,cB,aJ,bU]at g;rcases g with(g|⟨g,g'⟩)|⟨g,g'⟩
     ·exact .inr (.inl g)
     ·exact .inr (.inr (.inl ⟨g,g'⟩))
     ·exact .inr (.inr (.inr ⟨g,g'⟩))
section
open Folds (dec bn bV)
def up:List Int→Prop:=List.Pairwise (·<·)
theorem up_at {l:List Int} (h:up l) {i j:Nat} (hij:i<j) (hj:j<l.length):l.getD i 0<l.getD j 0:=by rw[aN,aN,bf hj,bf (by omega)];exact List.pairwise_iff_getElem.1 h i j (by omega) hj hij
theorem GN {zs:List Int} (hz:up zs) (x:Int):∀(f lo hi:Nat),hi≤lo+f→lo≤hi→hi≤zs.length→(∀j,j<lo→zs.getD j 0<x)→(∀j,hi≤j→j<zs.length→¬zs.getD j 0<x)→
 Lj zs x f lo hi≤zs.length∧(∀j,j<Lj zs x f lo hi→zs.getD j 0<x)∧∀j,Lj zs x f lo hi≤j→j<zs.length→¬zs.getD j 0<x
 |0,lo,hi,h1,h2,h3,h4,h5=>by
  obtain rfl:lo=hi:=by omega
  exact⟨h3,h4,h5⟩
 |f+1,lo,hi,h1,h2,h3,h4,h5=>by
  unfold Lj;by_cases c:lo<hi
  ·rw[ak c];by_cases d:zs.getD ((lo+hi)/2) 0<x
   ·rw[ak d];refine GN hz x f _ hi (by omega) (by omega) h3 (fun j hj=> ?_) h5;rcases aL j ((lo+hi)/2)with e|e
    ·exact Int.lt_trans (up_at hz e (by omega)) d
    ·obtain rfl:j=(lo+hi)/2:=by omega
     exact d
   ·rw[aj d];refine GN hz x f lo _ (by omega) (by omega) (by omega) h4 (fun j hj hl=> ?_);rcases aL ((lo+hi)/2) j with e|e
    ·have:=up_at hz e hl;omega
    ·obtain rfl:j=(lo+hi)/2:=by omega
     exact d
  ·rw[aj c];obtain rfl:lo=hi:=by omega
   exact⟨h3,h4,h5⟩
theorem Ti {zs:List Int} (hz:up zs) (x:Int):R9 zs x=decide (x∈zs):=by
 obtain⟨h1,h2,h3⟩:=GN hz x zs.length 0 zs.length (by omega) (aH _) (ay _) (fun j hj=>absurd hj (iW j)) (fun j h1 h2=>absurd h2 (by omega));unfold R9;generalize Lj zs x zs.length 0 zs.length=p at*
 rw[fC,aJ,iC,iC,iC];constructor;·rintro⟨c,e⟩;rw[←e,aN,bf c];exact mH c
 ·intro hx;obtain⟨j,hj,e⟩:=sW.1 hx;have e:zs.getD j 0=x:=by rw[aN,bf hj];exact e
  have hpj:p≤j:=by
   rcases aL j p with c|c;·have:=h2 j c;omega
   ·exact c
  refine⟨by omega,?_⟩;have:=h3 p (ay _) (by omega);rcases aL p j with c|c;·have:=up_at hz c hj;omega
  ·obtain rfl:p=j:=by omega
   exact e
theorem Ou (cut:Nat→Bool) (ats:List Int) (L:Int) (n:Nat):∀f k,Bo cut ats L n f k=((List.range' k f).filter (kN cut n)).map fun i=>if i<n then ats.getD i 0 else L
 |0,_=>rfl
 |f+1,k=>by
  have ih:=Ou cut ats L n f (k+1);rw[Bo,ih,List.range'_succ,List.filter_cons];have e:(k=0∨k=n∨cut k=true)↔kN cut n k=true:=by unfold kN;simp only[cB,iC,or_assoc]
  by_cases c:kN cut n k=true;·rw[ak (e.2 c),ak c];rfl
  ·rw[aj (fun d=>c (e.1 d)),aj c];rfl
theorem Tj (cut:Nat→Bool) (ats:List Int) (L:Int) (n:Nat):rU cut ats L n (n+1)=Bo cut ats L n (n+1) 0:=by rw[Ou,←List.range_eq_range'];rfl
theorem Tk (t:List UInt8) (cut:Nat→Bool):CB (gJ t) (kN cut (marks t).length) ((marks t).length+1)=Bo cut (dR t) t.length (marks t).length ((marks t).length+1) 0:=by rw[←Tj];unfold CB rU;refine List.map_congr_left fun k hk=> ?_;have:=lF.1 (nD.1 hk).1;exact Vy t (by omega)
theorem Ov (t:List UInt8) (h:t≠[]):Bo (Gd (Qh t)) (dR t) t.length (marks t).length ((marks t).length+1) 0=qA t:=by rw[Jw _ _ _ _ _ 0 (by omega)];unfold qA;rw[ak (wX.2 h)]
theorem CF {t:List UInt8} (h:t≠[]):1≤(marks t).length:=by
 have hp:=wX.2 h;obtain⟨n,hn⟩:∃n,t.length=n+1:=⟨t.length-1,by omega⟩
 unfold marks;rw[hn];unfold aD;rw[ak (by omega)];exact FU (aH _)
theorem ZJ {t:List UInt8} (h:t≠[]):(dR t).getD 0 0=0:=by
 have hp:=wX.2 h;obtain⟨n,hn⟩:∃n,t.length=n+1:=⟨t.length-1,by omega⟩
 unfold dR marks;rw[hn];unfold aD;rw[ak (by omega)];rfl
theorem Tm (t:List UInt8) (h:t≠[]):Bo (Dv (AJ t)) (dR t) t.length (marks t).length ((marks t).length+1) 0=DT t:=by
 rw[Ot (AJ t) (dR t) t.length (marks t).length (marks t) 0 (dh _) (fun j x hx=> ?_) (CF h)];·unfold DT;rw[aj h,ak rfl,ZJ h];rfl
 ·unfold dR;rw[bQ,aN,fH,hx];rfl
theorem l7 (t:List UInt8):∀n e,∀x∈aD t n e,e≤x.1∧x.1<t.length
 |0,_,x,h=>by cases h
 |n+1,e,x,h=>by
  unfold aD at h;by_cases c:e<t.length
  ·rw[ak c]at h;rcases aW.1 h with rfl|h
   ·exact⟨ay _,c⟩
   ·have:=l7 t n _ x h;omega
  ·rw[aj c]at h;cases h
theorem uf (t:List UInt8):∀n e,(aD t n e).Pairwise fun x y=>x.1<y.1
 |0,_=> .nil
 |n+1,e=>by
  unfold aD;by_cases c:e<t.length;·rw[ak c];refine .cons (fun y hy=> ?_) (uf t n _);have:=l7 t n _ y hy;have hd:=bn (t.drop e);show e<y.1;omega
  ·rw[aj c];exact .nil
theorem ZK (t:List UInt8):up (gJ t):=by
 unfold gJ up;refine List.pairwise_append.2 ⟨?_,List.pairwise_singleton _ _,fun a ha b hb=> ?_⟩;·unfold dR;exact List.pairwise_map.2 ((uf t _ _).imp fun h=>by omega)
 ·obtain rfl:=fG.1 hb;unfold dR at ha;obtain⟨x,hx,rfl⟩:=dA.1 ha;have:=l7 t _ _ x hx;omega
theorem Tn (t:List UInt8) (cut:Nat→Bool):up (Bo cut (dR t) t.length (marks t).length ((marks t).length+1) 0):=by
 rw[←Tk];unfold CB up;refine List.pairwise_map.2 ?_;have hl:(gJ t).length=(marks t).length+1:=by unfold gJ;rw[bB,qC];rfl
 refine List.Pairwise.imp_of_mem (fun{a b} _ hb h=> ?_) ((List.pairwise_lt_range (n:=(marks t).length+1)).filter _);have:=lF.1 (nD.1 hb).1;exact up_at (ZK t) h (by omega)
theorem acz (t:List UInt8):up (qA t):=by
 by_cases h:t=[]
 ·subst h;exact .nil
 ·rw[←Ov t h];exact Tn t _
theorem afU (t:List UInt8):up (DT t):=by
 by_cases h:t=[]
 ·subst h;exact .nil
 ·rw[←Tm t h];exact Tn t _
theorem GQ (sh:List UInt8→List UInt8) (may:Int→Bool) (t:List UInt8):∀n e,e≤t.length→t.length≤n+e→EvL.places (Cr sh may t (n+1) e)=(((aD t n e).map (·.1))++[t.length]).filter fun(k:Nat)=>may (k:Int)
 |0,e,he,hn=>by
  obtain rfl:e=t.length:=by omega
  unfold Cr;rw[aj (dB _)];unfold EvL.places aD;rw[List.filter_cons];cases hm:may (t.length:Int)<;>simp[hm]
 |n+1,e,he,hn=>by
  by_cases c:e<t.length
  ·have hd:=bn (t.drop e);have hle:=bV (t.drop e) (by intro d;rw[jg]at d;omega);rw[dN]at hle;have ih:=GQ sh may t n (e+(dec (t.drop e)).2) (by omega) (by omega);have hu:Cr sh may t (n+1+1) e=(e,may e,sh ((t.drop e).take (dec (t.drop e)).2))::Cr sh may t (n+1) (e+(dec (t.drop e)).2):=by rw[Cr,ak c]
   have hm2:aD t (n+1) e=(e,(dec (t.drop e)).1)::aD t n (e+(dec (t.drop e)).2):=by rw[aD,ak c]
   rw[hu,hm2,kT,El,List.filter_cons];cases hm:may (e:Int);·rw[EvL.Co (by exact yM),ih];rfl
   ·rw[EvL.yS rfl,ih];rfl
  ·obtain rfl:e=t.length:=by omega
   have hu:Cr sh may t (n+1+1) t.length=[(t.length,may t.length,sh [])]:=by rw[Cr,aj (dB _)]
   have hm2:aD t (n+1) t.length=[]:=by rw[aD,aj (dB _)]
   rw[hu,hm2];unfold EvL.places;cases hm:may (t.length:Int)<;>simp[hm]
theorem VA (fo le wo:Bool) (t:List UInt8):EA le wo (DT t) (qA t) t=(EvL.places (mQ t fo le wo)).map fun(x:Nat)=>(x:Int):=by
 unfold mQ;rw[GQ _ _ t t.length 0 (aH _) (by omega)];have he:gJ t=(((aD t t.length 0).map (·.1))++[t.length]).map fun(x:Nat)=>(x:Int):=by unfold gJ dR marks;rw[Ag,List.map_map];rfl
 unfold EA Jj;rw[he];generalize((aD t t.length 0).map (·.1))++[t.length]=E;have hf:∀(p:Int→Bool) (l:List Nat),(l.map fun(x:Nat)=>(x:Int)).filter p=(l.filter fun(x:Nat)=>p (x:Int)).map fun(x:Nat)=>(x:Int):=fun p l=>by rw[List.filter_map];rfl
 cases le<;>cases wo<;>simp only[bC,jA,if_true,hf,List.filter_filter,pW,Ti (afU t),Ti (acz t),Bool.not_true,Bool.not_false,Bool.true_or,wh,Bool.and_true,Bool.true_and];·rw[List.filter_eq_self.2 (fun _ _=>rfl)]
 ·congr 1;refine List.filter_congr fun x _=> ?_;rw[Bool.and_comm]
end
def ZL:Str:=⟨1239,16983688660106157009570488931193595442953107727362697348698502898743891337987601912811442152140848915195218518379124089510504932305425114690415539191125757913835572295267866357906823241293212694826526346530186368289348728572866632743141100790802786163077476849748589102664189972857987426749438047995552844920970046586800354162427901493382669774537207555345621054780984839276127320181858724016905468958622732518396727768133478410052657617104433752237841162813837227047176210036393671310160316833494071084495929120555724615246570309048266810790532980774731119273088391966407116197419778995339913200973934506281731569688733745703694911618764243998846986861655334508084331219743283891669562605981883255340733285053435849634257607425662603387012180065999549635563665533118945312141351402192326845696118171048781092218929489590182776199354391800753940675242290329165199918258260194355255730160107473845495574602617449756753475326740374162076956744402559754809107134770578042815104663778929419475790174850613133441963469826079736913410471363417265880106979994768501642238637919744138297727810040540618254258070380424006253436614312122422797732766942733410332428147762026168474482704556957506018551334555464472094841448845553367249737708827737178185054837867034380174090203369352877267463416488074791676004674742807756973441587677501806310801734708916638807922890866271757407574649726190954945227831852619148535043881190313916956869119511045531571194745496284287226108453314960356131585134898189194512160507941009297387503938763558920150984750625152387375905106629566652099504335165656756044284723251305822022910368866480099976844837738024965182722313524342300815285852558269386009916687972577585332692697838682604217412439588793348735990738877142146829165277161926581719485958847505397587772586806972133020656097135610469425891652839689613220987689687829165956305578299854808392731958721530377326446005895639760018885390606280310499347258131808841392165903531624062443981624037559915810892373839811675688973442655370760259575703214391310852774077846997461364519570252985104657799982184338654675918732688910238894589055980538684586569121613151840832866287170426727716327979471278456160045165227685534343993305867649712737686699180418750360635332346543342046937319552141688953932648254688237651633616055649870854686105201388418925425417373211467273445604511604834715745196035483139015180679607050869548836594020839406790163210365471454639166413369612180073451807626457638253682377177656833953115479407242033924559941335236122976663655959442720823549377020344710232826688391157346704799470758795950775287156677157010434376068184849864453758598176070201318050051362172995082889227412200264359252897992688903084824991143178654046849050588329427289743201811100804961302484061674885088592490078820819500109032274569694492582859014179354020799483589073428946985092742997715901978862031807912411112186740892482670960309114917692524838948323772436696131719654521351323775915115168206459322504493149962⟩
def Tp (W:World):Prop:=Calls Tryz.prog 75 #[] W fun e w1=>∃d,e= .returned d∧Below W.heap.size W w1∧DbT w1 d gW 19∧∀w2,Below w1.heap.size w1 w2→
 Calls Tryz.prog 77 #[d] w2 fun e w3=>∃nv,e= .returned nv∧Below w2.heap.size w2 w3∧∀w4,Below w3.heap.size w3 w4→∀b:ByteArray,Str.of b=ZL→
 Calls Tryz.prog 76 #[.string b,nv] w4 fun e w5=>∃gr og cr,e= .returned (.tuple #[.agg #[.slice (some ⟨gr,og,none⟩) dH.length cr, .bool true], .int .i64 0, .int .i64 0])∧Below w4.heap.size w4 w5∧ko w5 gr og dH∧
 ∃ss,xO dH ss=true∧∀w6,Below w5.heap.size w5 w6→Bl w6 (.agg #[.slice (some ⟨gr,og,none⟩) dH.length cr, .bool true]) ss
theorem Ow {R:List gI} {N:Nat} (h:(R.all fun x=>decide (1≤x.2.2)&&decide (x.2.2≤(N:Int)))=true) (q:Int):0≤fO R q∧fO R q≤N:=by
 unfold fO;cases hf:R.find? (fun x=>decide (q≤x.2.1))with
 |none=>exact⟨Int.le_refl _,by show(0:Int)≤N;omega⟩
 |some x=>
  have:=fZ.1 h x (List.mem_of_find?_eq_some hf);rw[aJ,iC,iC]at this;dsimp only;split;·omega
  ·omega
theorem QO {R:List gI} {N:Nat} (hT:yj R N) (t:List UInt8):∀j,j<(iQ R t).length→0≤(iQ R t).getD j 0∧(iQ R t).getD j 0≤N:=fun j hj=>by
 have:(iQ R t).getD j 0∈iQ R t:=by rw[aN,bf hj];exact mH hj
 unfold iQ at this;obtain⟨x,_,e⟩:=dA.1 this;unfold iQ;rw[←e];exact Ow hT.cls _
theorem afV:yj gW 19:=⟨by decide+kernel,by decide+kernel,by decide+kernel,by decide⟩
theorem ajh:yj gV 13:=⟨by decide+kernel,by decide+kernel,by decide+kernel,by decide⟩
theorem La (R:List gI) (NN:Nat) (hT:yj R NN) (rs:List PR) (ss:List SD) (rest:Bool) (gr og cr:Nat) (d:Value) (W:World) (hD:DbT W d R NN) (hS:Bl W (.agg #[.slice (some ⟨gr,og,none⟩) rs.length cr, .bool rest]) ss):
 Calls Tryz.prog 78 #[d, .agg #[.slice (some ⟨gr,og,none⟩) rs.length cr, .bool rest], .string ⟨#[]⟩] W (dG [] W):=by
 have ZE:=ah (fun w=>Cu [] w (aH _));obtain⟨s,hs⟩:∃s:ByteArray,(⟨#[]⟩:ByteArray)=s:=⟨_,rfl⟩
 rw[show(⟨([]:List UInt8).toArray⟩:ByteArray)=s from hs]at ZE;rw[hs];obtain⟨D,oD,hd⟩:∃D oD,d= .pointer (some ⟨D,oD,none⟩):=by obtain⟨D,o,_,_,_,h,_⟩:=hD;exact⟨D,o,h⟩
 subst hd;have HS:=ah hS;have HD:=ah hD;have HT:=ah hT;obtain⟨N,hN⟩:∃N,rs.length=N:=⟨_,rfl⟩
 rw[hN]at HS⊢;have HB0:=ah (Bx.start 122 W #[.slice (some ⟨gr,og,none⟩) N cr, .bool rest]);obtain⟨wz,hwz⟩:∃wz,(W.alloc (.cells #[.slice (some ⟨gr,og,none⟩) N cr, .bool rest] 122)).alloc (.cells #[.pointer (some ⟨D,oD,none⟩), .slice (some ⟨gr,og,none⟩) N cr, .bool rest, .slice none 0 0, .slice none 0 0, .int .i64 0, .int .i64 0] 192)=wz:=⟨_,rfl⟩
 have hx0:wz.cell? ⟨W.heap.size+1,0,none⟩=some (.pointer (some ⟨D,oD,none⟩)):=by have h:=dw (W.alloc (.cells #[.slice (some ⟨gr,og,none⟩) N cr, .bool rest] 122)) (.cells #[.pointer (some ⟨D,oD,none⟩), .slice (some ⟨gr,og,none⟩) N cr, .bool rest, .slice none 0 0, .slice none 0 0, .int .i64 0, .int .i64 0] 192);rw[jO,hwz]at h;exact(bq _ _ _ _ _ _ h).trans rfl
 have HBz:=ah (HB0.out.go (show Below _ _ wz from by rw[←hwz];exact(aG _ _).alloc (ay _) _));have hsz:W.heap.size+1<wz.heap.size:=by rw[←hwz,jO,jO];omega
 have HX0:=ah hx0;have vJ:=ah hsz;have HWZ:=ah hwz;clear hS hD hT hs hN hx0 hsz hwz;go_enter Tryz.func78,Tryz.ntmps78;go_wp2_with (first
  |(go_at_call 89;rw[HWZ.out];refine(ZE.out _).mono ?_;rintro e w2 ⟨A,n,c,rfl,hR,hb⟩;have HR:=ah hR;have HX2:=ah ((hb.cell (p:=⟨W.heap.size+1,0,none⟩) vJ.out).trans HX0.out);have HB2:=ah (HBz.out.go hb);have HS2:=ah (bM vJ.out hb.size);clear hR hb)
  |(go_at_call 125;refine(Dr R NN HT.out [] (W.heap.size+1) _ A n c w2 HS2.out HX2.out (jG HD.out HB2.out.aB) HR.out (aH _)).mono ?_;rintro e w3 ⟨A3,n3,c3,rfl,hI,_,hb⟩;obtain rfl:n3=0:=hI.len.symm;have HB3:=ah (HB2.out.go hb);clear hI hb;have y0:=(HB3.out.c 0).trans rfl;have y1:=(HB3.out.c 1).trans rfl)
  |(go_at_call 126;refine(HS.out w3 HB3.out.aB).mono ?_;rintro e w4 ⟨A4,n4,c4,rfl,_,hb⟩;have H6:=ah (HB3.out.go hb);clear hb y0 y1))
 go_loopw [11,12] (fun vo vi wr=>vi= .int .i64 0∧vo= .slice none 0 0∧wr=w4) (fun _ _ _=>0);case atStart=>exact⟨rfl,rfl,rfl⟩
 case round=>obtain⟨rfl,rfl,rfl⟩:=hrel;go_wp2_with fail;go_ret;exact⟨none,0,0,rfl,Ay _,H6.out.aB⟩
theorem Dw {R:List gI} {t:List UInt8} {rs:List PR} {cut:Nat→Bool} {N:Nat} (hT:yj R N) (h:∀{n:Nat},1≤n→n<(iQ R t).length→(∀j,j<(iQ R t).length→0≤(iQ R t).getD j 0∧(iQ R t).getD j 0≤N)→∀{b:Bool},fM true (iQ R t) n b rs→b=cut n):
 ∀k b,1≤k→k<(marks t).length→fM true (iQ R t) k b rs→b=cut k:=fun k b h1 h2 hd=>h h1 (by rw[pJ];exact h2) (QO hT t) hd
theorem afW (t:List UInt8) (gr og cr:Nat) (d:Value) (ss:List SD) (W:World) (hD:DbT W d gW 19) (hR:ko W gr og dH) (hs:xO dH ss=true) (hS:Bl W (.agg #[.slice (some ⟨gr,og,none⟩) dH.length cr, .bool true]) ss) (hn:t.length≤48):
 Calls Tryz.prog 78 #[d, .agg #[.slice (some ⟨gr,og,none⟩) dH.length cr, .bool true], .string ⟨t.toArray⟩] W (dG (qA t) W):=by
 by_cases h0:t=[]
 ·subst h0;exact La gW 19 afV dH ss true gr og cr d W hD hS
 ·obtain⟨hl,hm⟩:=Jr hs;have hml:=pE t;have:=Oj gW 19 afV t dH ss true gr og cr d W hD hR hS (by omega) (Gd (Qh t)) (CF h0) (by omega) (Dw afV fun{n} h1 h2 h3 {b} h4=>ZI h1 h2 h3 h4) hl (fun i r x k hr hx h1 h2 ha=>ZA (hm i r x hr hx) h1 (by rw[pJ];exact h2) ha);rwa [Tj,Ov t h0]at this
theorem anx (t:List UInt8) (W:World) (h:Tp W) (hn:t.length≤48):afw ⟨t.toArray⟩ (qA t) W:=by
 unfold afw;have HM:=ah h;have HW:=ah (fun gr og cr d ss w=>afW t gr og cr d ss w);have HN:=ah hn;clear h;obtain⟨s,hs⟩:∃s:ByteArray,(⟨t.toArray⟩:ByteArray)=s:=⟨_,rfl⟩
 rw[hs]at HW⊢;clear hs hn;go_enter Tryz.func21,Tryz.ntmps21;go_wp2_with (first
  |(go_at_call 75;refine HM.out.mono ?_;rintro e w1 ⟨d,rfl,hb,hD,hnx⟩;have HB1:=ah hb;have HD:=ah hD;have HN1:=ah hnx;clear hb hD hnx)
  |(go_at_call 77;refine(HN1.out w1 (aG _ w1)).mono ?_;rintro e w3 ⟨nv,rfl,hb,hnx⟩;have HB3:=ah hb;have HN3:=ah hnx;clear hb hnx)
  |(go_at_call 76;refine(HN3.out w3 (aG _ w3) _ (by kernel_rfl)).mono ?_;rintro e w5 ⟨gr,og,cr,rfl,hb,hR,ss,hs,hS⟩;have HB5:=ah (HB3.out.trans (hb.mono HB3.out.size));have HR:=ah hR;have HS:=ah hs;have VI:=ah hS;clear hb hR hs hS)
  |(go_at_call 78;(refine(HW.out gr og cr d ss _ (jG HD.out (HB5.out.alloc HB5.out.size _)) (HR.out.below ((aG _ w5).alloc (ay _) _)) HS.out (VI.out _ ((aG _ w5).alloc (ay _) _)) HN.out).mono ?_);rintro e w7 ⟨A,n,c,rfl,hI,hb⟩;have HI:=ah hI;have HB7:=ah ((HB5.out.alloc HB5.out.size _).trans (hb.mono (HB5.out.alloc HB5.out.size _).size));clear hI hb))
 go_ret;exact⟨A,n,c,rfl,HI.out,HB1.out.trans (HB7.out.mono HB1.out.size)⟩
def ZM (w:World):Prop:=Calls Tryz.prog 12 #[] w fun e w'=>∃v,e= .returned v∧Below w.heap.size w w'∧Da w' v
def ZN (w:World):Prop:=Calls Tryz.prog 58 #[] w fun e w'=>∃v,e= .returned v∧Below w.heap.size w w'∧ZC w' v gV 13 rV true
structure acA (W:World):Prop where
 book:∀w,Below W.heap.size W w→ZM w
 brk:∀w,Below W.heap.size W w→ZN w
 word:∀w,Below W.heap.size W w→Tp w
theorem acA.go {W w:World} (h:acA W) (hb:Below W.heap.size W w):acA w:=
 ⟨fun v hv=>h.book v (hb.trans (hv.mono hb.size)),fun v hv=>h.brk v (hb.trans (hv.mono hb.size)),fun v hv=>h.word v (hb.trans (hv.mono hb.size))⟩
theorem Lb (v:Value) (W:World):Calls Tryz.prog 64 #[v, .string ⟨#[]⟩] W (dG [] W):=by go_enter Tryz.func64,Tryz.ntmps64;go_wp2_with fail;go_ret;exact⟨none,0,0,rfl,Ay _,aG _ _⟩
theorem anz (t:List UInt8) (W:World) (h:ZN W) (hn:t.length≤48):aiN ⟨t.toArray⟩ (DT t) W:=by
 refine h.mono ?_;rintro e w ⟨v,rfl,hb,hB⟩;refine⟨v,rfl,hb,?_⟩;by_cases h0:t=[]
 ·subst h0;exact Lb v w
 ·have hml:=pE t;have:=Oi gV 13 ajh t v rV true w hB (by omega) (Dv (AJ t)) (by omega) h0 (CF h0) (Dw ajh fun{n} h1 h2 h3 {b} h4=>acy h1 h2 h3 h4);rwa [Tk,Tm t h0]at this
theorem aji (fo:Bool) (W:World) (h:ZM W):afy fo W:=by refine h.mono ?_;rintro e w ⟨v,rfl,hb,hB⟩;exact⟨v,rfl,hb,fun _ x w2 hb2 hx=>YW x v w2 (Dl hB hb2) (by omega)⟩
theorem ajj {s:List UInt8} {fo le wo:Bool}:(∀x∈EvL.places (mQ s fo le wo),x≤s.length)∧(EvL.places (mQ s fo le wo)).Pairwise (·<·)∧(EvL.places (mQ s fo le wo)).length≤s.length+1:=by
 unfold mQ;rw[GQ _ _ s s.length 0 (aH _) (by omega)];refine⟨fun x hx=> ?_,?_,?_⟩
 ·rcases jm.1 (nD.1 hx).1 with h|h
  ·obtain⟨y,hy,rfl⟩:=dA.1 h;exact dX (l7 s _ _ y hy).2
  ·exact tF (fG.1 h)
 ·refine List.Pairwise.filter _ (List.pairwise_append.2 ⟨List.pairwise_map.2 (uf s _ _),List.pairwise_singleton _ _,fun a ha b hb=> ?_⟩);obtain rfl:=fG.1 hb;obtain⟨y,hy,rfl⟩:=dA.1 ha;exact(l7 s _ _ y hy).2
 ·refine aX (Er _ _) ?_;rw[bB,dz];have:=pE s;unfold marks at this;simp only[bY,jf];omega
theorem afX (s t:List UInt8) (fo le wo:Bool) (W:World) (h:acA W) (hs:s.length≤48) (ht:t.length≤60):
 Calls Tryz.prog 19 #[.string ⟨s.toArray⟩, .string ⟨t.toArray⟩, .agg #[.bool fo, .bool le, .bool wo]] W (fQ (Ct s t fo le wo) W):=by
 by_cases hn:t=[]
 ·subst hn;exact Qz _ fo le wo W
 ·unfold Ct;rw[aj hn];obtain⟨p1,p2,p3⟩:=ajj (s:=s) (fo:=fo) (le:=le) (wo:=wo);have hw:uz fo t≠[]:=by
   unfold uz;split;·exact adz hn
   ·exact hn
  have ho:=Y3 fo le wo s (uz fo t) (DT s) (qA s) hw;rw[show Left.every (uz fo t) (mQ s fo le wo)=EvL.outer (uz fo t) (eF fo s) (EvL.places (mQ s fo le wo))from ho.symm];have hP:∀w,Below W.heap.size W w→Calls Tryz.prog 72 #[.string ⟨s.toArray⟩, .agg #[.bool fo, .bool le, .bool wo]] w (dG ((EvL.places (mQ s fo le wo)).map fun(x:Nat)=>(x:Int)) w):=fun w hb=>by have h':=h.go hb;rw[←VA];exact Qy s _ rfl fo le wo (DT s) (qA s) w (by omega) (fun _ v hv=>anz s v (h'.brk v hv) hs) (fun _ v hv=>anx s v (h'.word v hv) hs)
  cases fo with
  |false=>exact Y4 s t _ _ rfl le wo _ W hn (by omega) ht rfl hP (fun w hb=>aji false w (h.book w hb)) p1 p2 (by omega)
  |true=>exact Y7 s t _ _ rfl le wo _ W hn (by omega) ht rfl hP (fun w hb=>aji true w (h.book w hb)) p1 p2 (by omega)
end Go.Proofs.YtocaiijbhepnnaaGreatDoor.searchAsks
