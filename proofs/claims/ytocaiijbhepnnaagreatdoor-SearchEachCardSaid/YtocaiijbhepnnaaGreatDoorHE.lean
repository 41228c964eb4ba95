/- SearchEach, walked: the document's rules, its bounds. -/
import Derived.Test.YtocaiijbhepnnaaGreatDoorFJ
import Derived.Test.YtocaiijbhepnnaaGreatDoorFP
import Derived.Test.YtocaiijbhepnnaaGreatDoorHC
import Derived.Test.YtocaiijbhepnnaaGreatDoorHB
import Derived.Test.YtocaiijbhepnnaaGreatDoorHD
import Derived.Deep.CutBlock
set_option maxRecDepth 100000
set_option maxHeartbeats 8000000
namespace Go.Proofs.YtocaiijbhepnnaaGreatDoor.searchEach
open Go.Shelf Go.RowKit Go.Lib Go.Proofs.YtocaiijbhepnnaaGreatDoor.Am
section
open KX
def Mem (A:List Nat) (x:Int):Prop:=∃y∈A,(y:Int)=x
structure PR where
 brk:Bool
 fst:Bool
 LM:Bool
 left:PT
 right:PT
def vV (r:PR) (c:List Int) (at_:Nat):Prop:=
 (∃i,aS r.left (c.take at_) i at_)∧(∃k,aS r.right (c.drop at_) 0 k)∧(r.fst=true→aS r.left (c.take at_) 0 at_)∧(r.LM=true→aS r.right (c.drop at_) 0 (c.length-at_))
def fK (rest:Bool) (c:List Int) (at_:Nat) (b:Bool):List PR→Prop
 |[]=>b=rest
 |r::l=>(vV r c at_∧b=r.brk)∨(¬vV r c at_∧fK rest c at_ b l)
def pS (l:List Nat):PT:= .node 1 l []
def pX:PT:= .node 4 [] [pS [4,5,6]]
def pT (l:List PT):PT:= .node 2 [] l
def p0:PT:= .node 0 [] []
def Jy:PT:= .node 4 [] [pT [pS [7],pX,pS [7],pX]]
theorem GV (x:Int):Mem [4,5,6] x↔cK x=true:=by unfold Mem cK;simp only[aU,lH,jD,pz,mI,cu,bL];omega
theorem dD (A:List Nat) (d:List Int) (i k:Nat):aS (pS A) d i k↔i<d.length∧k=i+1∧Mem A (d.getD i 0):=Jo A [] d i k
theorem ER (d:List Int) {i k:Nat} (hi:i≤d.length):aS pX d i k↔i≤k∧k≤d.length∧∀j,i≤j→j<k→cK (d.getD j 0)=true:=by
 unfold pX;rw[mK _ _ _ _ _ hi];constructor
 ·intro h;induction h with
  |nil=>exact⟨ay _,hi,fun j h1 h2=>by omega⟩
  |snoc _ s ih=>
   obtain⟨h1,h2,h3⟩:=(dD _ _ _ _).1 s;subst h2;refine⟨by omega,by omega,fun j e1 e2=> ?_⟩;rename_i m _;by_cases c:j<m;·exact ih.2.2 j e1 c
   ·obtain rfl:j=m:=by omega
    exact(GV _).1 h3
 ·rintro⟨h1,h2,h3⟩;obtain⟨m,rfl⟩:∃m,k=i+m:=⟨k-i,by omega⟩
  clear h1;induction m with
  |zero=>exact .nil
  |succ m ih=>refine .snoc (ih (by omega) fun j e1 e2=>h3 j e1 (by omega)) ((dD _ _ _ _).2 ⟨by omega,by omega,(GV _).2 (h3 _ (by omega) (by omega))⟩)
theorem um (d:List Int):∀k,(dw d k= -1∧∀j,j<k→cK (d.getD j 0)=true)∨∃m:Nat,dw d k=m∧m<k∧cK (d.getD m 0)=false∧∀j,m<j→j<k→cK (d.getD j 0)=true
 |0=> .inl ⟨rfl,fun j h=>absurd h (iN j)⟩
 |k+1=>by
  unfold dw;by_cases c:cK (d.getD k 0)=true
  ·rw[ak c];rcases um d k with⟨h1,h2⟩|⟨m,h1,h2,h3,h4⟩
   ·refine .inl ⟨h1,fun j hj=> ?_⟩;rcases aK j k with e|e
    ·exact h2 j e
    ·obtain rfl:j=k:=by omega
     exact c
   ·refine .inr ⟨m,h1,by omega,h3,fun j e1 e2=> ?_⟩;rcases aK j k with e|e
    ·exact h4 j e1 e
    ·obtain rfl:j=k:=by omega
     exact c
  ·rw[aj c];exact .inr ⟨k,rfl,by omega,by simpa using c,fun j e1 e2=>by omega⟩
theorem ES (d:List Int) (m:Nat) (h:m<d.length):iF d m=d.getD m 0:=by unfold iF;rw[aj (by omega),jM]
theorem Tt (d:List Int):iF d (-1)= -1:=by unfold iF;rw[ak (by omega)]
theorem uo (d:List Int) (m:Nat):eF d m=dw d m:=by unfold eF;rw[ak (by omega),jM]
def Apart (A:List Nat):Prop:=∀x,Mem A x→cK x=false∧x≠-1
theorem GX {A:List Nat} (hA:Apart A) (d:List Int) {n:Nat} (hn:n≤d.length):(∃i,i<n∧Mem A (d.getD i 0)∧∀j,i<j→j<n→cK (d.getD j 0)=true)↔Mem A (iF d (dw d n)):=by
 rcases um d n with⟨h1,h2⟩|⟨m,h1,h2,h3,h4⟩
 ·rw[h1,Tt];refine⟨fun⟨i,e1,e2,_⟩=> ?_,fun h=>absurd rfl (hA _ h).2⟩;have:=(hA _ e2).1;rw[h2 i e1]at this;cases this
 ·rw[h1,ES d m (by omega)];refine⟨fun⟨i,e1,e2,e3⟩=> ?_,fun h=>⟨m,h2,h,h4⟩⟩;have g:=(hA _ e2).1;rcases kW i m with c|rfl|c
  ·have:=e3 m c h2;rw[h3]at this;cases this
  ·exact e2
  ·have:=h4 i c e1;rw[g]at this;cases this
theorem Jz {A:List Nat} (hA:Apart A) {d:List Int} {n i:Nat} (h1:i<n) (h2:Mem A (d.getD i 0)) (h3:∀j,i<j→j<n→cK (d.getD j 0)=true):dw d n=i:=by
 rcases um d n with⟨e1,e2⟩|⟨m,e1,e2,e3,e4⟩
 ·have:=(hA _ h2).1;rw[e2 i h1]at this;cases this
 ·have g:=(hA _ h2).1;rcases kW i m with c|rfl|c
  ·have:=h3 m c e2;rw[e3]at this;cases this
  ·exact e1
  ·have:=e4 i c h1;rw[g]at this;cases this
theorem all_cons (p:PT) (r:List PT) (c:List Int) (i k:Nat):jS (p::r) c i k↔∃j,aS p c i j∧jS r c j k:=Iff.rfl
theorem lX {A:List Nat} {d:List Int} {r:List PT} {i k:Nat}:jS (pS A::pX::r) d i k↔i<d.length∧Mem A (d.getD i 0)∧∃m,i<m∧m≤d.length∧(∀j,i<j→j<m→cK (d.getD j 0)=true)∧jS r d m k:=by
 rw[all_cons];constructor;·rintro⟨j,h1,m,h2,h3⟩;obtain⟨e1,rfl,e3⟩:=(dD _ _ _ _).1 h1;obtain⟨f1,f2,f3⟩:=(ER d (by omega)).1 h2;exact⟨e1,e3,m,by omega,f2,fun j g1 g2=>f3 j (by omega) g2,h3⟩
 ·rintro⟨e1,e3,m,f1,f2,f3,h3⟩;exact⟨i+1,(dD _ _ _ _).2 ⟨e1,rfl,e3⟩,m,(ER d (by omega)).2 ⟨by omega,f2,fun j g1 g2=>f3 j (by omega) g2⟩,h3⟩
theorem af7 {A:List Nat} (hA:Apart A) (d:List Int):(∃i,aS (pT [pS A,pX]) d i d.length)↔Mem A (iF d (dw d d.length)):=by
 rw[←GX hA d (ay _)];constructor;·rintro⟨i,h⟩;obtain⟨_,h⟩:=(bE _ _ _ _ _).1 h;obtain⟨e1,e2,m,f1,f2,f3,rfl⟩:=lX.1 h;exact⟨i,e1,e2,f3⟩
 ·rintro⟨i,h1,h2,h3⟩;exact⟨i,(bE _ _ _ _ _).2 ⟨by omega,lX.2 ⟨h1,h2,d.length,h1,ay _,h3,rfl⟩⟩⟩
theorem af8 {A B:List Nat} (hA:Apart A) (hB:Apart B) (d:List Int):(∃i,aS (pT [pS A,pX,pS B,pX]) d i d.length)↔Mem B (iF d (dw d d.length))∧Mem A (iF d (eF d (dw d d.length))):=by
 constructor;·rintro⟨i,h⟩;obtain⟨_,h⟩:=(bE _ _ _ _ _).1 h;obtain⟨e1,e2,m,f1,f2,f3,h⟩:=lX.1 h;obtain⟨g1,g2,q,k1,k2,k3,rfl⟩:=lX.1 h;have hb:=Jz hB g1 g2 k3;refine⟨(GX hB d (ay _)).1 ⟨m,g1,g2,k3⟩,?_⟩;rw[hb,uo];exact(GX hA d (by omega)).1 ⟨i,f1,e2,f3⟩
 ·rintro⟨h1,h2⟩;obtain⟨m,e1,e2,e3⟩:=(GX hB d (ay _)).2 h1;rw[Jz hB e1 e2 e3,uo]at h2;obtain⟨i,f1,f2,f3⟩:=(GX hA d (dJ e1)).2 h2;exact⟨i,(bE _ _ _ _ _).2 ⟨by omega,lX.2 ⟨by omega,f2,m,f1,by omega,f3,lX.2 ⟨e1,e2,d.length,e1,ay _,e3,rfl⟩⟩⟩⟩
theorem JA (c:List Int):∀(f i:Nat),c.length≤f+i→i≤pI c f i∧(∀j,i≤j→j<pI c f i→cK (c.getD j 0)=true)∧(pI c f i<c.length→cK (c.getD (pI c f i) 0)=false)
 |0,i,h=>⟨ay _,fun j e1 e2=>by unfold pI at e2;omega,fun e=>by unfold pI at e;omega⟩
 |f+1,i,h=>by
  unfold pI;by_cases q:i<c.length∧cK (c.getD i 0)=true
  ·rw[ak q];obtain⟨h1,h2,h3⟩:=JA c f (i+1) (by omega);refine⟨by omega,fun j e1 e2=> ?_,h3⟩;rcases aK i j with e|e
   ·exact h2 j e e2
   ·obtain rfl:j=i:=by omega
    exact q.2
  ·rw[aj q];refine⟨ay _,fun j e1 e2=>by omega,fun e=> ?_⟩;rcases Ey (cK (c.getD i 0))with g|g
   ·exact absurd ⟨e,g⟩ q
   ·exact g
theorem getD_drop (c:List Int) (n j:Nat):(c.drop n).getD j 0=c.getD (n+j) 0:=by rw[aM,aM,List.getElem?_drop]
theorem takeD (c:List Int) {n j:Nat} (h:j<n):(c.take n).getD j 0=c.getD j 0:=by rw[aM,aM,List.getElem?_take,ak h]
theorem Li (B:List Nat) (c:List Int) (n:Nat) (hn:n<c.length):(∃k,aS (pS B) (c.drop n) 0 k)↔Mem B (c.getD n 0):=by
 constructor;·rintro⟨k,h⟩;have:=((dD _ _ _ _).1 h).2.2;rwa [getD_drop,cZ]at this
 ·intro h;exact⟨1,(dD _ _ _ _).2 ⟨by rw[dQ];omega,rfl,by rwa [getD_drop,cZ]⟩⟩
theorem acQ {B A:List Nat} (hA:Apart A) (c:List Int) (n:Nat) (hn:n<c.length):(∃k,aS (pT [pS B,pX,pS A]) (c.drop n) 0 k)↔Mem B (c.getD n 0)∧Mem A (D6 c n):=by
 obtain⟨s1,s2,s3⟩:=JA c (c.length-n) (n+1) (by omega);have hl:(c.drop n).length=c.length-n:=dQ;unfold D6;generalize pI c (c.length-n) (n+1)=q at*
 constructor
 ·rintro⟨k,h⟩;obtain⟨_,h⟩:=(bE _ _ _ _ _).1 h;obtain⟨e1,e2,m,f1,f2,f3,j,g1,g2⟩:=lX.1 h;obtain⟨k1,k2,k3⟩:=(dD _ _ _ _).1 g1;rw[getD_drop]at e2 k3;refine⟨e2,?_⟩;have hq:q=n+m:=by
   rcases kW q (n+m)with d|d|d;·have:=f3 (q-n) (by omega) (by omega);rw[getD_drop,show n+(q-n)=q by omega,s3 (by omega)]at this;cases this
   ·exact d
   ·have:=s2 (n+m) (by omega) d;rw[(hA _ k3).1]at this;cases this
  rw[hq,ES c (n+m) (by omega)];exact k3
 ·rintro⟨h1,h2⟩;have hq:q<c.length:=by
   rcases aK q c.length with d|d;·exact d
   ·unfold iF at h2;rw[ak (by omega)]at h2;exact absurd rfl (hA _ h2).2
  rw[ES c q hq]at h2;refine⟨q-n+1,(bE _ _ _ _ _).2 ⟨by omega,lX.2 ⟨by omega,by rwa [getD_drop,cZ],q-n,by omega,by omega,fun j e1 e2=> ?_,q-n+1,(dD _ _ _ _).2 ⟨by omega,rfl,?_⟩,rfl⟩⟩⟩;·rw[getD_drop];exact s2 _ (by omega) (by omega)
  ·rw[getD_drop,show n+(q-n)=q by omega];exact h2
def Ou (x:Int):Prop:=x=7∨cK x=true
def lY (d:List Int) (i:Nat):Nat→Nat
 |0=>0
 |k+1=>if i≤k∧d.getD k 0=7 then lY d i k+1 else lY d i k
theorem Ov (d:List Int) (i k:Nat):lY d i (k+1)=if i≤k∧d.getD k 0=7 then lY d i k+1 else lY d i k:=rfl
theorem ZK (x:Int):Mem [7] x↔x=7:=by unfold Mem;simp only[fE,mI];omega
theorem GY {x:Int} (h:cK x=true):x≠7:=by rintro rfl;cases h
theorem jr (d:List Int) (i:Nat):∀{k m:Nat},k≤m→(∀j,k≤j→j<m→i≤j→d.getD j 0≠7)→lY d i m=lY d i k
 |k,0,h,_=>by obtain rfl:k=0:=by omega
              rfl
 |k,m+1,h,hh=>by
  rcases aK k (m+1)with c|c;·rw[show lY d i (m+1)=if i≤m∧d.getD m 0=7 then lY d i m+1 else lY d i m from rfl,aj (fun e=>hh m (by omega) (by omega) e.1 e.2)];exact jr d i (by omega) fun j e1 e2=>hh j e1 (by omega)
  ·obtain rfl:k=m+1:=by omega
   rfl
theorem nu (d:List Int) {i k:Nat} (h:i≤k) (e:d.getD k 0=7):lY d i (k+1)=lY d i k+1:=by rw[lY,ak ⟨h,e⟩]
theorem lZ (d:List Int) {i:Nat}:∀{k:Nat},k≤i→lY d i k=0
 |0,_=>rfl
 |k+1,h=>by rw[lY,aj (by omega)];exact lZ d (by omega)
theorem jI (d:List Int) {i k:Nat} (h:i≤k):∀{m:Nat},k≤m→lY d i m=lY d i k+lY d k m
 |0,hm=>by
  obtain rfl:k=0:=by omega
  rw[lZ d (ay 0),cZ]
 |m+1,hm=>by
  rcases aK k (m+1)with c|c
  ·have ih:=jI d h (m:=m) (by omega);rw[Ov d i m,Ov d k m];by_cases e:d.getD m 0=7
   ·rw[ak ⟨by omega,e⟩,ak ⟨by omega,e⟩,ih];omega
   ·rw[aj (fun g=>e g.2),aj (fun g=>e g.2)];exact ih
  ·obtain rfl:k=m+1:=by omega
   rw[lZ d (i:=m+1) (k:=m+1) (ay _)];rfl
theorem ZL {d:List Int} {i k:Nat} (h:aS (pT [pS [7],pX,pS [7],pX]) d i k):i≤k∧(∀j,i≤j→j<k→Ou (d.getD j 0))∧lY d i k=2:=by
 obtain⟨_,h⟩:=(bE _ _ _ _ _).1 h;obtain⟨e1,e2,m,f1,f2,f3,h⟩:=lX.1 h;obtain⟨g1,g2,q,k1,k2,k3,rfl⟩:=lX.1 h;rw[ZK]at e2 g2;refine⟨by omega,fun j a1 a2=> ?_,?_⟩
 ·rcases kW j i with c|rfl|c
  ·omega
  ·exact .inl e2
  ·rcases kW j m with c2|rfl|c2
   ·exact .inr (f3 j c c2)
   ·exact .inl g2
   ·exact .inr (k3 j c2 a2)
 ·rw[jr d i (k:=m+1) (by omega) (fun j a1 a2 _=>GY (k3 j (by omega) a2)),nu d (by omega) g2,jr d i (k:=i+1) (by omega) (fun j a1 a2 _=>GY (f3 j (by omega) a2)),nu d (ay _) e2,lZ d (ay _)]
theorem VJ {d:List Int} {i k:Nat} (hi:i≤d.length) (h:aS Jy d i k):i≤k∧(∀j,i≤j→j<k→Ou (d.getD j 0))∧lY d i k%2=0:=by
 unfold Jy at h;rw[mK _ _ _ _ _ hi]at h;induction h with
 |nil=>exact⟨ay _,fun j h1 h2=>by omega,by rw[lZ d (ay _)]⟩
 |snoc _ s ih=>
  obtain⟨a1,a2,a3⟩:=ih;obtain⟨b1,b2,b3⟩:=ZL s;refine⟨by omega,fun j h1 h2=> ?_,?_⟩
  ·rename_i m _ _;rcases aK j m with c|c
   ·exact a2 j h1 c
   ·exact b2 j c h2
  ·rw[jI d a1 b1,b3];omega
theorem Tv (d:List Int) (i:Nat):∀{n:Nat},0<lY d i n→∃p,i≤p∧p<n∧d.getD p 0=7∧∀j,i≤j→j<p→d.getD j 0≠7
 |0,h=>absurd h (dA 0)
 |n+1,h=>by
  by_cases c:0<lY d i n;·obtain⟨p,h1,h2,h3,h4⟩:=Tv d i c;exact⟨p,h1,by omega,h3,h4⟩
  ·unfold lY at h;split at h
   ·rename_i e;refine⟨n,e.1,by omega,e.2,fun j a1 a2 b=>c ?_⟩;have:=nu d a1 b;have g:lY d i (j+1)≤lY d i n:=by rw[jI d (show i≤j+1 by omega) (show j+1≤n by omega)];omega
    omega
   ·exact absurd h c
theorem ad8 {d:List Int} {n:Nat} (hn:n=d.length):∀(f i:Nat),n≤f+i→i<n→d.getD i 0=7→(∀j,i≤j→j<n→Ou (d.getD j 0))→lY d i n%2=1→
 ∃m,Star (aS (pT [pS [7],pX,pS [7],pX]) d) i m∧m<n∧d.getD m 0=7∧∀j,m<j→j<n→cK (d.getD j 0)=true
 |0,i,h,hi,_,_,_=>by omega
 |f+1,i,h,hi,h7,hx,hc=>by
  have s1:=jI d (show i≤i+1 by omega) (show i+1≤n by omega);rw[nu d (ay _) h7,lZ d (ay _)]at s1;by_cases c:0<lY d (i+1) n
  ·obtain⟨p,a1,a2,a3,a4⟩:=Tv d (i+1) c;have s2:=jI d (show i+1≤p+1 by omega) (show p+1≤n by omega);rw[nu d (by omega) a3,jr d (i+1) (k:=i+1) (m:=p) a1 (fun j b1 b2 _=>a4 j b1 b2),lZ d (ay _)]at s2;obtain⟨q,b1,b2,b3,b4⟩:=Tv d (p+1) (n:=n) (by omega);have s3:=jI d (show p+1≤q by omega) (show q≤n by omega);rw[jr d (p+1) (k:=p+1) (m:=q) b1 (fun j e1 e2 _=>b4 j e1 e2),lZ d (ay _)]at s3;obtain⟨m,e1,e2,e3,e4⟩:=ad8 hn f q (by omega) b2 b3 (fun j g1 g2=>hx j (by omega) g2) (by omega);have hp:aS (pT [pS [7],pX,pS [7],pX]) d i q:=by
    refine(bE _ _ _ _ _).2 ⟨by omega,lX.2 ⟨by omega,(ZK _).2 h7,p,by omega,by omega,fun j g1 g2=> ?_,lX.2 ⟨by omega,(ZK _).2 a3,q,by omega,by omega,fun j g1 g2=> ?_,rfl⟩⟩⟩
    ·rcases hx j (by omega) (by omega)with e|e
     ·exact absurd e (a4 j (by omega) g2)
     ·exact e
    ·rcases hx j (by omega) (by omega)with e|e
     ·exact absurd e (b4 j (by omega) g2)
     ·exact e
   exact⟨m,(Star.one hp).trans e1,e2,e3,e4⟩
  ·refine⟨i, .nil,hi,h7,fun j b1 b2=> ?_⟩;rcases hx j (by omega) b2 with e|e
   ·have:=nu d (i:=i+1) (k:=j) (by omega) e;have g:=jI d (show i+1≤j+1 by omega) (show j+1≤n by omega);omega
   ·exact e
theorem vW {d:List Int} {i:Nat} (hi:i≤d.length):jS [pX,Jy,pS [7],pX] d i d.length↔(∀j,i≤j→j<d.length→Ou (d.getD j 0))∧lY d i d.length%2=1:=by
 constructor
 ·rintro⟨a,h1,b,h2,h3⟩;obtain⟨e1,e2,e3⟩:=(ER d hi).1 h1;obtain⟨f1,f2,f3⟩:=VJ e2 h2;obtain⟨g1,g2,m,k1,k2,k3,rfl⟩:=lX.1 h3;rw[ZK]at g2;refine⟨fun j a1 a2=> ?_,?_⟩
  ·rcases aK j a with c|c
   ·exact .inr (e3 j a1 c)
   ·rcases kW j b with c2|rfl|c2
    ·exact f2 j c c2
    ·exact .inl g2
    ·exact .inr (k3 j c2 a2)
  ·rw[jr d i (k:=b+1) (by omega) (fun j a1 a2 _=>GY (k3 j (by omega) a2)),nu d (by omega) g2,jI d e1 f1,jr d i (k:=i) e1 (fun j a1 a2 _=>GY (e3 j a1 a2)),lZ d (ay _)];omega
 ·rintro⟨h1,h2⟩;obtain⟨p,a1,a2,a3,a4⟩:=Tv d i (n:=d.length) (by omega);have s:=jI d a1 (show p≤d.length by omega);rw[jr d i (k:=i) a1 (fun j b1 b2 _=>a4 j b1 b2),lZ d (ay _)]at s;obtain⟨m,e1,e2,e3,e4⟩:=ad8 rfl d.length p (by omega) a2 a3 (fun j g1 g2=>h1 j (by omega) g2) (by omega);refine⟨p,(ER d hi).2 ⟨a1,by omega,fun j b1 b2=> ?_⟩,m,?_,lX.2 ⟨e2,(ZK _).2 e3,d.length,e2,ay _,e4,rfl⟩⟩
  ·rcases h1 j b1 (by omega)with e|e
   ·exact absurd e (a4 j b1 b2)
   ·exact e
  ·unfold Jy;rw[mK _ _ _ _ _ (by omega)];exact e1
theorem Ow (d:List Int):∀(f k:Nat),k≤f→k≤d.length→∃q,q≤k∧(∀j,q≤j→j<k→Ou (d.getD j 0))∧(q=0∨¬Ou (d.getD (q-1) 0))∧vN d f (dw d k)=lY d q k
 |0,k,hk,_=>by
  obtain rfl:k=0:=by omega
  exact⟨0,ay _,fun j h1 h2=>by omega, .inl rfl,rfl⟩
 |f+1,k,hk,hl=>by
  rcases um d k with⟨h1,h2⟩|⟨m,h1,h2,h3,h4⟩
  ·refine⟨0,aH _,fun j _ e=> .inr (h2 j e), .inl rfl,?_⟩;rw[h1,vN,aj (by rw[Tt];decide),jr d 0 (k:=0) (aH _) (fun j _ e _=>GY (h2 j e))];rfl
  ·rw[h1,vN,ES d m (by omega)];by_cases c:d.getD m 0=7
   ·rw[ak c,uo];obtain⟨q,e1,e2,e3,e4⟩:=Ow d f m (by omega) (by omega);refine⟨q,by omega,fun j a1 a2=> ?_,e3,?_⟩
    ·rcases kW j m with g|rfl|g
     ·exact e2 j a1 g
     ·exact .inl c
     ·exact .inr (h4 j g a2)
    ·rw[e4,jr d q (k:=m+1) h2 (fun j a1 a2 _=>GY (h4 j (by omega) a2)),nu d e1 c]
   ·rw[aj c];refine⟨m+1,h2,fun j a1 a2=> .inr (h4 j (by omega) a2), .inr ?_,?_⟩
    ·rw[qm];rintro(g|g)
     ·exact c g
     ·rw[h3]at g;cases g
    ·rw[jr d (m+1) (k:=m+1) h2 (fun j a1 a2 _=>GY (h4 j (by omega) a2)),lZ d (ay _)]
def pR1:PT:=pT [pX,Jy,pS [7],pX]
def ZM:List Nat:=[0,1,2,3,8,9,10,11,12,13,14,15,16,17,18,19]
def pR2:PT:=pT [pS ZM,pX,Jy,pS [7],pX]
theorem Tw {x:Int} (h0:0≤x) (h1:x≤19):Mem ZM x↔¬Ou x:=by unfold Mem ZM Ou cK;simp only[aU,lH,jD,pz,mI,cu,bL];omega
theorem ZN {d:List Int} (hd:∀j,j<d.length→0≤d.getD j 0∧d.getD j 0≤19) {f:Nat} (hf:d.length≤f):(aS pR1 d 0 d.length∨∃i,aS pR2 d i d.length)↔vN d f (dw d d.length)%2=1:=by
 obtain⟨q,e1,e2,e3,e4⟩:=Ow d f d.length hf (ay _);rw[e4];unfold pR1 pR2;constructor
 ·rintro(h|⟨i,h⟩)
  ·obtain⟨_,h⟩:=(bE _ _ _ _ _).1 h;obtain⟨h1,h2⟩:=(vW (aH _)).1 h;rcases e3 with rfl|e3
   ·exact h2
   ·rcases kC q with rfl|c
    ·exact h2
    ·exact absurd (h1 (q-1) (aH _) (by omega)) e3
  ·obtain⟨_,j,h1,h2⟩:=(bE _ _ _ _ _).1 h;obtain⟨g1,rfl,g2⟩:=(dD _ _ _ _).1 h1;obtain⟨k1,k2⟩:=(vW (by omega)).1 h2;rw[Tw (hd i g1).1 (hd i g1).2]at g2;have hq:q=i+1:=by
    rcases kW q (i+1)with c|c|c;·exact absurd (e2 i (by omega) g1) g2
    ·exact c
    ·rcases e3 with rfl|e3
     ·omega
     ·exact absurd (k1 (q-1) (by omega) (by omega)) e3
   rw[hq];exact k2
 ·intro h;rcases e3 with rfl|e3
  ·exact .inl ((bE _ _ _ _ _).2 ⟨aH _,(vW (aH _)).2 ⟨e2,h⟩⟩)
  ·rcases kC q with rfl|c
   ·exact .inl ((bE _ _ _ _ _).2 ⟨aH _,(vW (aH _)).2 ⟨e2,h⟩⟩)
   ·have hb:=hd (q-1) (by omega);exact .inr ⟨q-1,(bE _ _ _ _ _).2 ⟨by omega,q,(dD _ _ _ _).2 ⟨by omega,by omega,(Tw hb.1 hb.2).2 e3⟩,(vW e1).2 ⟨e2,h⟩⟩⟩
end
section
open KX (PT bit rows aS)
theorem up_pos (f:Nat→Bool) (k:Nat):0<(upF f k).length↔∃i,i<k∧f i=true:=by
 constructor;·intro h;obtain⟨x,hx⟩:=List.exists_mem_of_length_pos h;unfold upF at hx;obtain⟨i,hi,_⟩:=dz.1 hx;obtain⟨h1,h2⟩:=nL.1 hi;exact⟨i,lF.1 h1,h2⟩
 ·rintro⟨i,h⟩;exact List.length_pos_of_mem ((up_mem f k i).2 h)
theorem Q6 (p:PT) (d:List Int):0<(j6 p d).length↔∃i,aS p d i d.length:=by unfold j6;rw[up_pos];exact⟨fun⟨i,_,h⟩=>⟨i,h⟩,fun⟨i,h⟩=>⟨i,by have:=(KX.Gv h).1;omega,h⟩⟩
theorem Ox (p:PT) (d:List Int):(0:Int)∈j6 p d↔aS p d 0 d.length:=by unfold j6;rw[show(0:Int)=((0:Nat):Int)from rfl,up_mem];exact⟨fun h=>h.2,fun h=>⟨by omega,h⟩⟩
theorem ZO (p:PT) (d:List Int):0<(CP p d).length↔∃k,aS p d 0 k:=by unfold CP;rw[up_pos];exact⟨fun⟨i,_,h⟩=>⟨i,h⟩,fun⟨i,h⟩=>⟨i,by have:=(KX.Gv h).2;omega,h⟩⟩
theorem VK {w:World} {A:Option Addr} {n k:Nat} {c:List Int} (h:bQ w A n c) (hk:k≤n):bQ w A k (c.take k):=
 ⟨by rw[gH,h.len];omega,aQ hk h.small,fun h0=>by
  obtain⟨g,o,e,hg,hc⟩:=h.at_ (by omega);exact⟨g,o,e,hg,fun j hj=>by rw[takeD c hj];exact hc j (by omega)⟩⟩
theorem VL {w:World} {g o n k:Nat} {c:List Int} (h:bQ w (some ⟨g,o,none⟩) n c) (hk:k<n):bQ w (some ⟨g,o+k,none⟩) (n-k) (c.drop k):=
 ⟨by rw[dQ,h.len],aQ (Nat.sub_le _ _) h.small,fun h0=>by
  obtain⟨g',o',e,hg,hc⟩:=h.at_ (by omega);injection e with e;injection e with e1 e2;subst e1 e2;refine⟨g,o+k,rfl,hg,fun j hj=> ?_⟩;rw[getD_drop,mh];exact hc (k+j) (by omega)⟩
def Q7 (p:PT):Prop:=qV p=true∧QY p=true∧lW p≤2000
structure yF where
 lop:Nat
 lA:Option Addr
 ln:Nat
 lc:Nat
 lB:Option Addr
 lm:Nat
 ld:Nat
 rop:Nat
 rA:Option Addr
 rn:Nat
 rc:Nat
 rB:Option Addr
 rm:Nat
 rd:Nat
def yF.cells (v:yF) (r:PR):Array Value:=#[.bool r.brk, .bool r.fst, .bool r.LM, .int .i64 (v.lop:Nat), .slice v.lA v.ln v.lc, .slice v.lB v.lm v.ld, .int .i64 (v.rop:Nat), .slice v.rA v.rn v.rc, .slice v.rB v.rm v.rd]
structure GZ (w:World) (v:yF) (r:PR):Prop where
 left:eX w (.int .i64 (v.lop:Nat)) (.slice v.lA v.ln v.lc) (.slice v.lB v.lm v.ld) r.left
 right:eX w (.int .i64 (v.rop:Nat)) (.slice v.rA v.rn v.rc) (.slice v.rB v.rm v.rd) r.right
 fl:Q7 r.left
 fr:Q7 r.right
theorem GZ.below {w w':World} {v:yF} {r:PR} (h:GZ w v r) (hb:Below w.heap.size w w'):GZ w' v r:=⟨h.left.below hb,h.right.below hb,h.fl,h.fr⟩
structure VN (W:World) (cs:Array Value) (w:World):Prop where
 aB:Below W.heap.size W w
 o:w.heap[W.heap.size]? =some (.cells cs 203 (0,0))
theorem VN.go {W w w':World} {cs:Array Value} (h:VN W cs w) (hb:Below w.heap.size w w'):VN W cs w':=⟨h.aB.trans (hb.mono h.aB.size),bM hb h.o⟩
theorem VN.drew {W w:World} {cs:Array Value} (h:VN W cs w):VN W cs w.drew:=⟨⟨h.aB.os,h.aB.tape,h.aB.output,h.aB.size,h.aB.block⟩,h.o⟩
theorem VN.start (W:World) (cs:Array Value):VN W cs (W.alloc (.cells cs 203)):=⟨(aF _ W).alloc (ay _) _,dh W _⟩
theorem VN.c {W w:World} {cs:Array Value} (h:VN W cs w) (i:Nat):w.cell? ⟨W.heap.size,i,none⟩=cs[i]? :=(bC w W.heap.size i _ _ _ h.o).trans rfl
theorem G5 (v:yF) (r:PR) (c:List Int) (g o n cc at_:Nat) (W:World) (hR:GZ W v r) (hI:bQ W (some ⟨g,o,none⟩) n c) (h1:1≤at_) (h2:at_<n) (h64:n+1<64) (hcc:n≤cc) (hl:r.LM=false):
 Calls Tryz.prog 128 #[.agg (v.cells r), .slice (some ⟨g,o,none⟩) n cc, .int .i64 at_] W fun e w'=>∃q:Bool,e= .returned (.bool q)∧(q=true↔vV r c at_)∧Below W.heap.size W w':=by
 obtain⟨brk,fst,LM,left,right⟩:=r;obtain rfl:LM=false:=hl;obtain⟨lop,lA,ln,lc,lB,lm,ld,rop,rA,rn,rc,rB,rm,rd⟩:=v;have HR:=ah hR;have HI:=ah hI;unfold yF.cells;dsimp only;have HB0:=ah (VN.start W #[.bool brk, .bool fst, .bool false, .int .i64 (lop:Nat), .slice lA ln lc, .slice lB lm ld, .int .i64 (rop:Nat), .slice rA rn rc, .slice rB rm rd]);have y1:=(HB0.out.c 1).trans rfl;have y2:=(HB0.out.c 2).trans rfl;have y3:=(HB0.out.c 3).trans rfl;have y4:=(HB0.out.c 4).trans rfl;have y5:=(HB0.out.c 5).trans rfl;have y6:=(HB0.out.c 6).trans rfl;have y7:=(HB0.out.c 7).trans rfl;have y8:=(HB0.out.c 8).trans rfl;have hd1:¬(at_:Int)<0:=by omega
 have hd2:¬(n:Int)<at_:=by omega
 have hd3:¬n<at_:=by omega
 have HGL:=ah (fun(w:World) (hb:Below W.heap.size W w)=>Bq left HR.out.fl.1 HR.out.fl.2.2 _ _ _ w (HR.out.left.below hb));have HGR:=ah (fun(w:World) (hb:Below W.heap.size W w)=>Bq right HR.out.fr.1 HR.out.fr.2.2 _ _ _ w (HR.out.right.below hb));clear hR hI;go_enter Tryz.func128,Tryz.ntmps128;go_upto_region 3 with(first
  |(refine(HGL.out _ HB0.out.aB).mono ?_;rintro e w2 ⟨rfl,hb⟩;have HB2:=ah (HB0.out.go hb);clear hb y1 y2 y3 y4 y5 y6 y7 y8;have y6:=(HB2.out.c 6).trans rfl;have y7:=(HB2.out.c 7).trans rfl;have y8:=(HB2.out.c 8).trans rfl)
  |(refine(HGR.out _ HB2.out.aB).mono ?_;rintro e w3 ⟨rfl,hb⟩;have HB3:=ah (HB2.out.go hb);clear hb y6 y7 y8))
 have arG:(at_:Int)≤cc:=by omega
 have arH:(0:Int)≤at_:=by omega
 have hca:¬cc=at_:=by omega
 have arI:(at_:Int)≤n:=by omega
 obtain⟨cs,hcs⟩:∃cs:Array Value,#[.bool brk, .bool fst, .bool false, .int .i64 (lop:Nat), .slice lA ln lc, .slice lB lm ld, .int .i64 (rop:Nat), .slice rA rn rc, .slice rB rm rd]=cs:=⟨_,rfl⟩
 rw[hcs]at HB3;have HCS:=ah hcs;clear hcs;go_cut [7] (fun q wx=>∃A4 n4 c4,q= .slice A4 n4 c4∧bQ wx A4 n4 (j6 left (c.take at_))∧VN W cs wx);case first=>
  have EO:=ah HB3.out.drew;have y3:w3.drew.cell? ⟨W.heap.size,3,none⟩=some (.int .i64 (lop:Nat)):=by rw[EO.out.c 3,←HCS.out];rfl
  have y4:w3.drew.cell? ⟨W.heap.size,4,none⟩=some (.slice lA ln lc):=by rw[EO.out.c 4,←HCS.out];rfl
  have y5:w3.drew.cell? ⟨W.heap.size,5,none⟩=some (.slice lB lm ld):=by rw[EO.out.c 5,←HCS.out];rfl
  go_region_law (go_simp;refine(VF left HR.out.fl.1 HR.out.fl.2.1 HR.out.fl.2.2 (c.take at_) _ _ _ (some ⟨g,o,none⟩) at_ cc _ (HR.out.left.below EO.out.aB) (VK (dO HI.out EO.out.aB) (by omega)) (by omega)).mono ?_;rintro e w4 ⟨A4,n4,c4,rfl,hI4,hb⟩;have HI4:=Lib.hid hI4;have Ea:=Lib.hid (EO.out.go hb);clear hI4 hb;dsimp only);all_goals go_wp2_with fail
  all_goals go_meet
  all_goals exact⟨_,_,_,rfl,HI4.out,Ea.out⟩
 case rest=>
  obtain⟨A4,n4,c4,rfl,hI4,hB4⟩:=hcut;have HI4:=ah hI4;have Ea:=ah hB4;clear hI4 hB4;go_upto_region 4 with fail;go_cut [8] (fun q wx=>∃A5 n5 c5,q= .slice A5 n5 c5∧bQ wx A5 n5 (CP right (c.drop at_))∧bQ wx A4 n4 (j6 left (c.take at_))∧VN W cs wx);case first=>
   have EO:=ah Ea.out.drew;have HId:=ah (show bQ wc.drew A4 n4 (j6 left (c.take at_))from⟨HI4.out.len,HI4.out.small,HI4.out.at_⟩);have y6:wc.drew.cell? ⟨W.heap.size,6,none⟩=some (.int .i64 (rop:Nat)):=by rw[EO.out.c 6,←HCS.out];rfl
   have y7:wc.drew.cell? ⟨W.heap.size,7,none⟩=some (.slice rA rn rc):=by rw[EO.out.c 7,←HCS.out];rfl
   have y8:wc.drew.cell? ⟨W.heap.size,8,none⟩=some (.slice rB rm rd):=by rw[EO.out.c 8,←HCS.out];rfl
   go_region_law (go_simp;(refine(acM right HR.out.fr.1 HR.out.fr.2.1 HR.out.fr.2.2 (c.drop at_) _ _ _ (some ⟨g,o+at_,none⟩) (n-at_) (cc-at_) _ (HR.out.right.below EO.out.aB) (VL (dO HI.out EO.out.aB) h2) (by omega)).mono ?_);rintro e w5 ⟨A5,n5,c5,rfl,hI5,hb⟩;have HI5:=Lib.hid hI5;have HI6:=Lib.hid (dO HId.out hb);have H6:=Lib.hid (EO.out.go hb);clear hI5 hb;dsimp only);all_goals go_wp2_with fail
   all_goals go_meet
   all_goals exact⟨_,_,_,rfl,HI5.out,HI6.out,H6.out⟩
  case rest=>
   obtain⟨A5,n5,c5,rfl,hI5,hI6,hB5⟩:=hcut;have y1:wc.cell? ⟨W.heap.size,1,none⟩=some (.bool fst):=by rw[hB5.c 1,←HCS.out];rfl
   have SC:=ah (HI.out.len);have htl:(c.take at_).length=at_:=by rw[gH,HI.out.len];omega
   have hdl:(c.drop at_).length=n-at_:=by rw[dQ,HI.out.len]
   have p4:=Q6 left (c.take at_);have p5:=ZO right (c.drop at_);have p0:=Ox left (c.take at_);rw[htl]at p4 p0;rw[hI6.len]at p4;rw[hI5.len]at p5;have HP4:=ah p4;have HP5:=ah p5;have HP0:=ah p0;have zn:=ah hB5.aB;have HC0:=ah (acv (j6 left (c.take at_)) 0 A4 n4 c4 wc ⟨hI6.len,hI6.small,hI6.at_⟩);obtain⟨q0,hq0⟩:∃q,decide ((0:Int)∈j6 left (c.take at_))=q:=⟨_,rfl⟩
   rw[hq0]at HC0;have HQ0:=ah hq0;have HS4:=ah hI6.small;have HS5:=ah hI5.small;have HQB:=ah (fun q=>show Below W.heap.size W (wc.drewN q)from⟨hB5.aB.os,hB5.aB.tape,hB5.aB.output,hB5.aB.size,hB5.aB.block⟩);have HY2:=ah (show wc.cell? ⟨W.heap.size,2,none⟩=some (.bool false)by rw[hB5.c 2,←HCS.out];rfl);clear htl hdl p4 p5 p0 hq0 hI5 hI6 hB5;have y2:=HY2.out;rcases kC n4 with h4|h4;·subst h4;go_wp2_with fail;go_ret;exact⟨false,rfl,⟨fun e=>Bool.noConfusion e,fun e=>absurd (HP4.out.2 e.1) (dA 0)⟩,zn.out⟩
   have h40:((n4:Int)==0)=false:=bW.2 (by omega);rcases kC n5 with h5|h5;·subst h5;go_wp2_with fail;go_ret;exact⟨false,rfl,⟨fun e=>Bool.noConfusion e,fun e=>absurd (HP5.out.2 e.2.1) (dA 0)⟩,zn.out⟩
   have h50:((n5:Int)==0)=false:=bW.2 (by omega);cases fst with
   |false=>go_wp2_with fail;go_ret;exact⟨true,rfl,⟨fun _=>⟨HP4.out.1 h4,HP5.out.1 h5,fun e=>Bool.noConfusion e,fun e=>Bool.noConfusion e⟩,fun _=>rfl⟩,zn.out⟩
   |true=>
    cases q0 with
    |false=>go_wp2_with (go_at_call 183;refine HC0.out.mono ?_;rintro e w7 ⟨rfl,rfl⟩);go_ret;exact⟨false,rfl,⟨fun e=>Bool.noConfusion e,fun e=>absurd (HP0.out.2 (e.2.2.1 rfl)) (of_decide_eq_false HQ0.out)⟩,zn.out⟩
    |true=>go_wp2_with (go_at_call 183;refine HC0.out.mono ?_;rintro e w7 ⟨rfl,rfl⟩);go_ret;exact⟨true,rfl,⟨fun _=>⟨HP4.out.1 h4,HP5.out.1 h5,fun _=>HP0.out.1 (iV HQ0.out),fun e=>Bool.noConfusion e⟩,fun _=>rfl⟩,zn.out⟩
end
section
open KX (PT bit rows aS)
structure Bx (t:Nat) (W:World) (cs:Array Value) (w:World):Prop where
 aB:Below W.heap.size W w
 o:w.heap[W.heap.size]? =some (.cells cs t (0,0))
theorem Bx.go {t:Nat} {W w w':World} {cs:Array Value} (h:Bx t W cs w) (hb:Below w.heap.size w w'):Bx t W cs w':=⟨h.aB.trans (hb.mono h.aB.size),bM hb h.o⟩
theorem Bx.start (t:Nat) (W:World) (cs:Array Value):Bx t W cs (W.alloc (.cells cs t)):=⟨(aF _ W).alloc (ay _) _,dh W _⟩
theorem Bx.c {t:Nat} {W w:World} {cs:Array Value} (h:Bx t W cs w) (i:Nat):w.cell? ⟨W.heap.size,i,none⟩=cs[i]? :=(bC w W.heap.size i _ _ _ h.o).trans rfl
structure kg (w:World) (g o:Nat) (rs:List PR):Prop where
 blk:g<w.heap.size
 small:rs.length≤64
 at_:∀i r,rs[i]? =some r→r.LM=false∧∃v:yF,GZ w v r∧∀k x,(v.cells r)[k]? =some x→w.cell? ⟨g,o+i*9+k,none⟩=some x
theorem kg.below {w w':World} {g o:Nat} {rs:List PR} (h:kg w g o rs) (hb:Below w.heap.size w w'):kg w' g o rs:=
 ⟨bH h.blk hb.size,h.small,fun i r hr=>by
  obtain⟨hl,v,hv,hc⟩:=h.at_ i r hr;exact⟨hl,v,hv.below hb,fun k x hx=>(hb.cell (p:=⟨g,o+i*9+k,none⟩) h.blk).trans (hc k x hx)⟩⟩
theorem Bu {rest:Bool} {c:List Int} {at_:Nat} {b:Bool} {rs:List PR} {i:Nat} {r:PR} (hr:rs[i]? =some r) (hn:¬vV r c at_) (h:fK rest c at_ b (rs.drop (i+1))):fK rest c at_ b (rs.drop i):=by rw[oV (nH.1 hr).1];rw[(nH.1 hr).2];exact .inr ⟨hn,h⟩
theorem Bv {rest:Bool} {c:List Int} {at_:Nat} {rs:List PR} {i:Nat} {r:PR} (hr:rs[i]? =some r) (ha:vV r c at_):fK rest c at_ r.brk (rs.drop i):=by rw[oV (nH.1 hr).1];rw[(nH.1 hr).2];exact .inl ⟨ha,rfl⟩
theorem VO (rs:List PR) (rest:Bool) (c:List Int) (g gr og o n cc cr at_:Nat) (W:World) (hR:kg W gr og rs) (hI:bQ W (some ⟨g,o,none⟩) n c) (h1:1≤at_) (h2:at_<n) (h64:n+1<64) (hcc:n≤cc):
 Calls Tryz.prog 161 #[.agg #[.slice (some ⟨gr,og,none⟩) rs.length cr, .bool rest], .slice (some ⟨g,o,none⟩) n cc, .int .i64 at_] W fun e w'=>∃(q:Bool) (x:Int),e= .returned (.tuple #[.bool q, .int .i64 x])∧fK rest c at_ q rs∧Below W.heap.size W w':=by
 have HR:=ah hR;have HI:=ah hI;have HB0:=ah (Bx.start 122 W #[.slice (some ⟨gr,og,none⟩) rs.length cr, .bool rest]);have hsm:=hR.small;have hd0:((n:Int)==0)=false:=bW.2 (by omega);have hd1:¬(at_:Int)<0:=by omega
 have hd2:¬(n:Int)<at_:=by omega
 have hd3:((at_:Int)==0)=false:=bW.2 (by omega);have hd4:((at_:Int)==n)=false:=bW.2 (by omega);obtain⟨N,hN⟩:∃N,rs.length=N:=⟨_,rfl⟩
 have HN:=ah hN;rw[hN]at HB0 hsm⊢;clear hR hI hN;go_enter Tryz.func161,Tryz.ntmps161;go_wp2_with fail;go_loopw [8] (fun vi wr=>∃i:Nat,i≤N∧vi= .int .i64 i∧Bx 122 W #[.slice (some ⟨gr,og,none⟩) N cr, .bool rest] wr∧∀q,fK rest c at_ q (rs.drop i)→fK rest c at_ q rs) (fun vi _=>N-(RowKit.intOf vi).toNat);case atStart=>exact⟨0,aH _,rfl,HB0.out,fun _ h=>h⟩
 case round=>
  obtain⟨i,hi,rfl,hB,hD⟩:=hrel;have HB:=ah hB;have HD:=ah hD;clear hB hD;have y0:=(HB.out.c 0).trans rfl;have y1:=(HB.out.c 1).trans rfl;by_cases hlt:i<N
  ·obtain⟨r,hr⟩:∃r,rs[i]? =some r:=⟨_,aY (by rw[HN.out];exact hlt)⟩
   obtain⟨hl,v,hv,hc⟩:=HR.out.at_ i r hr;have HV:=ah hv;have HRR:=ah hr;have HA:=ah (G5 v r c g o n cc at_ wr (hv.below HB.out.aB) (dO HI.out HB.out.aB) h1 h2 h64 hcc hl);have hcell:∀k x,(v.cells r)[k]? =some x→wr.cell? ⟨gr,og+i*9+k,none⟩=some x:=fun k x hx=>(HB.out.aB.cell (p:=⟨gr,og+i*9+k,none⟩) HR.out.blk).trans (hc k x hx);have k0:wr.cell? ⟨gr,og+i*9,none⟩=some (.bool r.brk):=hcell 0 _ rfl;have k1:wr.cell? ⟨gr,og+i*9+1,none⟩=some (.bool r.fst):=hcell 1 _ rfl;have k2:wr.cell? ⟨gr,og+i*9+2,none⟩=some (.bool r.LM):=hcell 2 _ rfl;have k3:wr.cell? ⟨gr,og+i*9+3,none⟩=some (.int .i64 (v.lop:Nat)):=hcell 3 _ rfl;have k4:wr.cell? ⟨gr,og+i*9+4,none⟩=some (.slice v.lA v.ln v.lc):=hcell 4 _ rfl;have k5:wr.cell? ⟨gr,og+i*9+5,none⟩=some (.slice v.lB v.lm v.ld):=hcell 5 _ rfl;have k6:wr.cell? ⟨gr,og+i*9+6,none⟩=some (.int .i64 (v.rop:Nat)):=hcell 6 _ rfl;have k7:wr.cell? ⟨gr,og+i*9+7,none⟩=some (.slice v.rA v.rn v.rc):=hcell 7 _ rfl;have k8:wr.cell? ⟨gr,og+i*9+8,none⟩=some (.slice v.rB v.rm v.rd):=hcell 8 _ rfl;clear hv hr hc hcell hl;unfold yF.cells at HA;have hii:(i:Int)<N:=by omega
   have hi0:(0:Int)≤i:=by omega
   have qU:=ah (show wrap64 ((i:Int)+1)=((i+1:Nat):Int)by unfold wrap64;omega);go_wp2_with (go_at_call 128;refine HA.out.mono ?_;rintro e w2 ⟨q,rfl,hq,hb⟩;have HB2:=ah (HB.out.go hb);have k0:=(hb.cell (p:=⟨gr,og+i*9,none⟩) (bH HR.out.blk HB.out.aB.size)).trans k0;have y0:=(HB2.out.c 0).trans rfl;have y1:=(HB2.out.c 1).trans rfl;have HQ:=ah hq;clear hb hq;cases q);·(try rw[qU.out]);exact⟨⟨i+1,hlt,rfl,HB2.out,fun q h=>HD.out q (Bu HRR.out (fun e=>by have:=HQ.out.2 e;simp at this) h)⟩,by simp[RowKit.intOf];omega⟩
   ·exact qE (results_tmp2 rfl _ _ _) rfl ⟨_,_,rfl,HD.out _ (Bv HRR.out (HQ.out.1 (by trivial))),HB2.out.aB⟩
  ·obtain rfl:i=N:=by omega
   go_wp2;exact qE (results_tmp2 rfl _ _ _) rfl ⟨_,_,rfl,HD.out _ (by rw[List.drop_of_length_le (Nat.le_of_eq HN.out)];exact rfl),HB.out.aB⟩
end
section
open KX (PT bit rows aS)
theorem ZP (rs:List PR) (rest:Bool) (g gr og o n cc cr:Nat) (W:World) (h1:1≤n) (h64:n<64):
 Calls Tryz.prog 161 #[.agg #[.slice (some ⟨gr,og,none⟩) rs.length cr, .bool rest], .slice (some ⟨g,o,none⟩) n cc, .int .i64 0] W fun e w'=>e= .returned (.tuple #[.bool true, .int .i64 (-1)])∧Below W.heap.size W w':=by
 have HB0:=ah (Bx.start 122 W #[.slice (some ⟨gr,og,none⟩) rs.length cr, .bool rest]);have hd0:((n:Int)==0)=false:=bW.2 (by omega);have hd2:¬(n:Int)<0:=by omega
 go_enter Tryz.func161,Tryz.ntmps161;go_wp2_with fail;exact qE (results_tmp2 rfl _ _ _) rfl ⟨rfl,HB0.out.aB⟩
theorem ZQ (rs:List PR) (rest:Bool) (g gr og o n cc cr:Nat) (W:World) (h1:1≤n) (h64:n<64):
 Calls Tryz.prog 161 #[.agg #[.slice (some ⟨gr,og,none⟩) rs.length cr, .bool rest], .slice (some ⟨g,o,none⟩) n cc, .int .i64 n] W fun e w'=>e= .returned (.tuple #[.bool true, .int .i64 (-1)])∧Below W.heap.size W w':=by
 have HB0:=ah (Bx.start 122 W #[.slice (some ⟨gr,og,none⟩) rs.length cr, .bool rest]);have hd0:((n:Int)==0)=false:=bW.2 (by omega);have hd1:¬(n:Int)<0:=by omega
 have hd2:¬(n:Int)<n:=by omega
 go_enter Tryz.func161,Tryz.ntmps161;go_wp2_with fail;exact qE (results_tmp2 rfl _ _ _) rfl ⟨rfl,HB0.out.aB⟩
def kN (cut:Nat→Bool) (n i:Nat):Bool:=decide (i=0)||decide (i=n)||cut i
theorem Q8 (rs:List PR) (rest:Bool) (cut:Nat→Bool) (c:List Int) (g gr og o n cc cr at_:Nat) (W:World) (hcut:∀k b,1≤k→k<n→fK rest c k b rs→b=cut k) (hR:kg W gr og rs) (hI:bQ W (some ⟨g,o,none⟩) n c) (h1:1≤n) (h2:at_≤n) (h64:n+1<64) (hcc:n≤cc):
 Calls Tryz.prog 161 #[.agg #[.slice (some ⟨gr,og,none⟩) rs.length cr, .bool rest], .slice (some ⟨g,o,none⟩) n cc, .int .i64 at_] W fun e w'=>∃(x:Int),e= .returned (.tuple #[.bool (kN cut n at_), .int .i64 x])∧Below W.heap.size W w':=by
 by_cases c0:at_=0;·subst c0;refine(ZP rs rest g gr og o n cc cr W h1 (by omega)).mono ?_;rintro e w ⟨rfl,hb⟩;exact⟨_,rfl,hb⟩
 by_cases cn:at_=n;·subst cn;refine(ZQ rs rest g gr og o at_ cc cr W h1 (by omega)).mono ?_;rintro e w ⟨rfl,hb⟩;exact⟨-1,by simp[kN],hb⟩
 refine(VO rs rest c g gr og o n cc cr at_ W hR hI (by omega) (by omega) h64 hcc).mono ?_;rintro e w ⟨q,x,rfl,hd,hb⟩;exact⟨x,by rw[hcut at_ q (by omega) (by omega) hd];simp[kN,c0,cn],hb⟩
theorem Oy (rs:List PR) (rest:Bool) (cut:Nat→Bool) (c:List Int) (g gr og o n cc cr:Nat) (W:World) (hcut:∀k b,1≤k→k<n→fK rest c k b rs→b=cut k) (hR:kg W gr og rs) (hI:bQ W (some ⟨g,o,none⟩) n c) (h1:1≤n) (h64:n+1<64) (hcc:n≤cc):
 Calls Tryz.prog 109 #[.agg #[.slice (some ⟨gr,og,none⟩) rs.length cr, .bool rest], .slice (some ⟨g,o,none⟩) n cc] W (dF (upF (kN cut n) (n+1)) W):=by
 have HD:=ah (fun(k:Nat) (w:World) (hb:Below W.heap.size W w) (hk:k≤n)=>Q8 rs rest cut c g gr og o n cc cr k w hcut (hR.below hb) (dO hI hb) h1 hk h64 hcc);clear hR hI hcut;obtain⟨N,hN⟩:∃N,rs.length=N:=⟨_,rfl⟩
 rw[hN]at HD⊢;obtain⟨f,hf⟩:∃f,kN cut n=f:=⟨_,rfl⟩
 rw[hf]at HD⊢;clear hN hf;obtain⟨i0,hI0,hz0,hz1,hz2⟩:=dY gB;obtain⟨w1,hw1⟩:∃w1,W.alloc (.cells #[.slice (some ⟨gr,og,none⟩) N cr, .bool rest] 122)=w1:=⟨_,rfl⟩
 have HB0:=ah (Bx.start 122 W #[.slice (some ⟨gr,og,none⟩) N cr, .bool rest]);rw[hw1]at HB0;have HW1:=ah hw1;clear hw1;have hn0:((n:Int)+1:Int)=((n+1:Nat):Int):=by omega
 clear hn0;go_enter Tryz.func109,Tryz.ntmps109;go_wp2_with fail;rw[HW1.out];go_loopw [5,6] (fun vo vi wr=>∃(i m:Nat) (Ao:Option Addr) (co:Nat),i≤n+1∧m≤i∧vi= .int .i64 i∧vo= .slice Ao m co∧IA w1 (.slice Ao m co) m (upF f i) wr) (fun _ vi _=>n+1-(RowKit.intOf vi).toNat);case atStart=>exact⟨0,0,none,0,aH _,ay _,rfl,rfl,IA.nil w1⟩
 case round=>
  obtain⟨i,m,Ao,co,hi,Oo,rfl,rfl,hA⟩:=hrel;have HA:=ah hA;have HB:=ah (HB0.out.go hA.aB);clear hA;have y0:=(HB.out.c 0).trans rfl;have y1:=(HB.out.c 1).trans rfl;by_cases hlt:i≤n
  ·have DY:=up_succ f i;have HDI:=ah (HD.out i wr HB.out.aB hlt);obtain⟨q,hq⟩:∃q,f i=q:=⟨_,rfl⟩
   rw[hq]at DY HDI;have hii:(i:Int)≤n:=by omega
   have hi0:(0:Int)≤i:=by omega
   have qU:=ah (show wrap64 ((i:Int)+1)=((i+1:Nat):Int)by unfold wrap64;omega);have HLEN:=ah (D9 (show m≤100000 by omega));have Tk:=ah Oo;clear hq Oo;cases q with
   |true=>
    have Lh:=ah (show upF f (i+1)=upF f i++[(i:Int)]by rw[DY,ak rfl]);clear DY;go_wp2_with (first
     |(go_at_call 161;refine HDI.out.mono ?_;rintro e w4 ⟨x,rfl,hb⟩;have LH:=ah (HA.out.below hb);clear hb)
     |(at_builtin;refine aT _ rfl (.tmp 23) (.tmp 25) 41 rfl w1.heap.size 3 i0 _ 8 Tryz.underlying41 hI0 hz0 hz1 hz2 rfl (.slice Ao m co) m (bA (upF f i)) rfl LH.out.dU _ 1 1 [.int .i64 i] rfl (bX _ _ _) (by simp[Value.oneCell']) HLEN.out.1 HLEN.out.2 (by rw[World.size_alloc];have:=LH.out.aB.size;omega) ?_;intro v' wp ho hg hn;obtain⟨B1,d1,rfl,_⟩:=aL ho;have ny:=Lib.hid (LH.out.grow ho hg);clear ho hg hn))
    (try rw[qU.out]);exact⟨⟨i+1,m+1,_,_,by omega,Nat.succ_le_succ Tk.out,rfl,rfl,by rw[Lh.out];exact ny.out⟩,by simp[RowKit.intOf];omega⟩
   |false=>have Lh:=ah (show upF f (i+1)=upF f i by rw[DY,aj (by decide),eD]);clear DY;go_wp2_with (go_at_call 161;refine HDI.out.mono ?_;rintro e w4 ⟨x,rfl,hb⟩;have LH:=ah (HA.out.below hb);clear hb);(try rw[qU.out]);exact⟨⟨i+1,m,_,_,by omega,Nat.le_succ_of_le Tk.out,rfl,rfl,by rw[Lh.out];exact LH.out⟩,by simp[RowKit.intOf];omega⟩
  ·obtain rfl:i=n+1:=by omega
   have HM:=ah (show m≤100000 by omega);have hii:¬((n+1:Nat):Int)≤n:=by omega
   clear Oo;go_wp2;go_ret;exact⟨Ao,m,co,rfl,gD HA.out.own HM.out,HB.out.aB⟩
end
section
open KX
structure SD where
 left:List Int
 right:List Int
 V8:Bool
 V9:Bool
def SD.may (s:SD) (a b:Int):Bool:=(s.V8||decide (a∈s.left))&&(s.V9||decide (b∈s.right))
def Lj (r:PR) (x:SD):Bool:=YS r.left&&YS r.right&&(!QA r.left||x.V8)&&(!QA r.right||x.V9)&&(ND r.left).all (fun y=>decide ((y:Int)∈x.left))&&(firstP r.right).all (fun y=>decide ((y:Int)∈x.right))
theorem ZR {r:PR} {x:SD} (h:Lj r x=true) {c:List Int} {k:Nat} (h1:1≤k) (_:k<c.length) (ha:vV r c k):x.may (c.getD (k-1) 0) (c.getD k 0)=true:=by
 unfold Lj at h;simp only[aP,cu,Bool.not_eq_true',fU,iB]at h;obtain⟨⟨⟨⟨⟨p1,p2⟩,n1⟩,n2⟩,l1⟩,f1⟩:=h;obtain⟨⟨i,hi⟩,⟨m,hm⟩,_,_⟩:=ha;unfold SD.may;rw[aP,cu,cu,iB,iB];constructor
 ·obtain⟨a1,a2,a3⟩:=NG _ p1 _ _ _ hi;rcases aK i k with c1|c1
  ·obtain⟨y,hy,e⟩:=(a3 c1).1;rw[takeD c (by omega)]at e;exact .inr (e▸l1 y hy)
  ·have:=a2 (by omega);rw[this]at n1;exact .inl (n1.resolve_left (by decide))
 ·obtain⟨a1,a2,a3⟩:=NG _ p2 _ _ _ hm;rcases kC m with c1|c1
  ·have:=a2 c1.symm;rw[this]at n2;exact .inl (n2.resolve_left (by decide))
  ·obtain⟨y,hy,e⟩:=(a3 c1).2;rw[getD_drop,cZ]at e;exact .inr (e▸f1 y hy)
def xW:List PR→List SD→Bool
 |[],[]=>true
 |r::rs,x::xs=>Lj r x&&xW rs xs
 |_,_=>false
theorem JB:∀{rs:List PR} {ss:List SD},xW rs ss=true→ss.length=rs.length∧∀(i:Nat) (r:PR) (x:SD),rs[i]? =some r→ss[i]? =some x→Lj r x=true
 |[],[],_=>⟨rfl,fun i r x h=>by simp at h⟩
 |[],_::_,h=>by cases h
 |_::_,[],h=>by cases h
 |r::rs,x::xs,h=>by
  rw[xW,aP]at h;obtain⟨h1,h2⟩:=JB h.2;refine⟨by simp[h1],fun i r' x' hr hx=> ?_⟩;cases i with
  |zero=>
   obtain rfl:r=r':=by simpa using hr
   obtain rfl:x=x':=by simpa using hx
   exact h.1
  |succ i=>exact h2 i r' x' (by simpa using hr) (by simpa using hx)
end
structure Tx (w:World) (A:Option Addr) (n:Nat) (ss:List SD):Prop where
 len:ss.length=n
 at_:∀i s,ss[i]? =some s→∃g o lA ln lc rA rn rc,A=some ⟨g,o,none⟩∧g<w.heap.size∧w.cell? ⟨g,o+i*4,none⟩=some (.slice lA ln lc)∧w.cell? ⟨g,o+i*4+1,none⟩=some (.slice rA rn rc)∧w.cell? ⟨g,o+i*4+2,none⟩=some (.bool s.V8)∧w.cell? ⟨g,o+i*4+3,none⟩=some (.bool s.V9)∧bQ w lA ln s.left∧bQ w rA rn s.right
theorem aga (s:SD) (a b:Int) (lA rA:Option Addr) (ln lc rn rc:Nat) (W:World) (hL:bQ W lA ln s.left) (hR:bQ W rA rn s.right):
 Calls Tryz.prog 127 #[.agg #[.slice lA ln lc, .slice rA rn rc, .bool s.V8, .bool s.V9], .int .i64 a, .int .i64 b] W fun e w'=>e= .returned (.bool (s.may a b))∧Below W.heap.size W w':=by
 obtain⟨left,right,V8,V9⟩:=s;have HB0:=ah (Bx.start 197 W #[.slice lA ln lc, .slice rA rn rc, .bool V8, .bool V9]);have y0:=(HB0.out.c 0).trans rfl;have y1:=(HB0.out.c 1).trans rfl;have y2:=(HB0.out.c 2).trans rfl;have y3:=(HB0.out.c 3).trans rfl;have HL:=ah (Oa left a lA ln lc _ (dO hL HB0.out.aB));have HR:=ah (Oa right b rA rn rc _ (dO hR HB0.out.aB));unfold SD.may;dsimp only;obtain⟨p,hp⟩:∃p,decide (a∈left)=p:=⟨_,rfl⟩
 obtain⟨q,hq⟩:∃q,decide (b∈right)=q:=⟨_,rfl⟩
 rw[hp]at HL⊢;rw[hq]at HR⊢;clear hL hR hp hq;go_enter Tryz.func127,Tryz.ntmps127;cases V8<;>cases V9<;>cases p<;>cases q;all_goals go_wp2_with (first|(go_at_call 179;with_reducible refine HL.out.mono ?_;rintro e w7 ⟨rfl,rfl⟩)|(go_at_call 179;with_reducible refine HR.out.mono ?_;rintro e w7 ⟨rfl,rfl⟩))
 all_goals go_ret
 all_goals exact⟨rfl,HB0.out.aB⟩
theorem VP (t:List UInt8) {k:Nat} (h:k≤(marks t).length):(gJ t).getD k 0=if k<(marks t).length then(dV t).getD k 0 else(t.length:Int):=by
 unfold gJ;rw[aM,aM];by_cases c:k<(marks t).length;·rw[ak c,oL (by rw[qJ];exact c)]
 ·obtain rfl:k=(marks t).length:=by omega
  rw[aj c,nG (by rw[qJ];exact ay _),qJ,qd];rfl
def CV (es:List Int) (f:Nat→Bool) (n:Nat):List Int:=((List.range n).filter f).map fun k=>es.getD k 0
theorem upF_get (es:List Int) (f:Nat→Bool) (n:Nat) {j:Nat} (hj:j<(upF f n).length):∃k,k<n∧(upF f n).getD j 0=(k:Int)∧(CV es f n).getD j 0=es.getD k 0:=by
 unfold upF at hj⊢;rw[dx]at hj;refine⟨((List.range n).filter f)[j],?_,?_,?_⟩;·exact lF.1 (nL.1 (mG hj)).1
 ·rw[aM,fF,aY hj];rfl
 ·unfold CV;rw[aM,fF,aY hj];rfl
theorem Oz (es:List Int) (f:Nat→Bool) (n:Nat):(CV es f n).length=(upF f n).length:=by unfold CV upF;rw[dx,dx]
theorem ZT {l:List Int} {j:Nat} (h:j<l.length):l.take (j+1)=l.take j++[l.getD j 0]:=by rw[xw,aY h,aM,aY h];rfl
structure ZU (w:World) (v:Value) (R:List gI) (N:Nat) (rs:List PR) (rest:Bool):Prop where
 at_:∃g o d gr og cr,v= .pointer (some ⟨g,o,none⟩)∧g<w.heap.size∧w.cell? ⟨g,o,none⟩=some d∧w.cell? ⟨g,o+1,none⟩=some (.slice (some ⟨gr,og,none⟩) rs.length cr)∧w.cell? ⟨g,o+2,none⟩=some (.bool rest)∧DbT w d R N∧kg w gr og rs
theorem OC (R:List gI) (NN:Nat) (hT:yE R NN) (t:List UInt8) (v:Value) (rs:List PR) (rest:Bool) (W:World) (hB:ZU W v R NN rs rest) (hn:t.length≤10000) (cut:Nat→Bool) (h64:(marks t).length+1<64) (hne:t≠[]) (h1:1≤(marks t).length)
 (hcut:∀k b,1≤k→k<(marks t).length→fK rest (iQ R t) k b rs→b=cut k):
 Calls Tryz.prog 64 #[v, .string ⟨t.toArray⟩] W (dF (CV (gJ t) (kN cut (marks t).length) ((marks t).length+1)) W):=by
 obtain⟨M,hM⟩:∃M,(marks t).length=M:=⟨_,rfl⟩
 obtain⟨s,hs⟩:∃s:ByteArray,(⟨t.toArray⟩:ByteArray)=s:=⟨_,rfl⟩
 have hs0:((s.size:Int)==0)=false:=by rw[size_mk t s hs,bW];have:=xg.2 hne;omega
 obtain⟨g,o,d,gr,og,cr,rfl,hg,c0,c1,c2,hD,hR⟩:=hB.at_;have Pd:=ah (fun w=>VI t w hn);have HOF:=ah (fun(w:World) (hb:Below W.heap.size W w)=>af6 R NN hT t d w (jF hD hb) hn);rw[hs]at Pd HOF⊢;have SC:=ah (pU R t);rw[hM]at h64 h1 hcut SC⊢;have HB8:=ah (fun(w:World) (hb:Below W.heap.size W w) (A n c) (hI:bQ w A n (iQ R t)) (hcc:n≤c)=>show Calls Tryz.prog 109 #[.agg #[.slice (some ⟨gr,og,none⟩) rs.length cr, .bool rest], .slice A n c] w (dF (upF (kN cut M) (M+1)) w)from by
  obtain rfl:n=M:=by rw[←hI.len,SC.out]
  obtain⟨g',o',rfl,_⟩:=hI.at_ (by omega);exact Oy rs rest cut (iQ R t) g' gr og o' n c cr w hcut (hR.below hb) hI h1 h64 hcc)
 have HEG:=ah (show(gJ t).length=M+1 by unfold gJ;rw[bf,qJ,hM];rfl);generalize gJ t=es at*
 generalize iQ R t=cs at*
 obtain⟨N,hN⟩:∃N,rs.length=N:=⟨_,rfl⟩
 rw[hN]at c1 HB8;obtain⟨f,hf⟩:∃f,kN cut M=f:=⟨_,rfl⟩
 rw[hf]at HB8⊢;clear hf hN hD hR hcut hn hs hM hB hne hT;have HC:=ah (fun(w:World) (hb:Below W.heap.size W w)=>And.intro ((hb.cell (p:=⟨g,o,none⟩) hg).trans c0) (And.intro ((hb.cell (p:=⟨g,o+1,none⟩) hg).trans c1) ((hb.cell (p:=⟨g,o+2,none⟩) hg).trans c2)));obtain⟨i0,hI0,hz0,hz1,hz2⟩:=dY gB;go_enter Tryz.func64,Tryz.ntmps64;go_upto_region 4 with(go_at_call 108;refine(Pd.out _).mono ?_;rintro e w1 ⟨A1,n1,k1,rfl,hI,hb⟩;have HI1:=ah hI;have HB1:=ah hb;clear hI hb)
 have EO:=ah (show Below W.heap.size W w1.drew from⟨HB1.out.os,HB1.out.tape,HB1.out.output,HB1.out.size,HB1.out.block⟩);have HId:=ah (show bQ w1.drew A1 n1 es from⟨HI1.out.len,HI1.out.small,HI1.out.at_⟩);obtain⟨d0,d1,d2⟩:=HC.out _ EO.out;go_cut [6] (fun q wx=>∃A3 n3 c3,q= .slice A3 n3 c3∧bQ wx A3 n3 (upF f (M+1))∧bQ wx A1 n1 es∧Below W.heap.size W wx);case first=>
  go_region_law (first
   |(go_simp;refine(HOF.out _ EO.out).mono ?_;rintro e w2 ⟨A2,n2,k2,rfl,hI,hcc,hb⟩;have HI2:=Lib.hid hI;have HCC:=Lib.hid hcc;have HB2:=Lib.hid (EO.out.trans (hb.mono EO.out.size));have HJ2:=Lib.hid (dO HId.out hb);clear hI hb hcc;obtain⟨d0,d1,d2⟩:=HC.out _ HB2.out;dsimp only)
   |(go_simp;refine(HB8.out _ HB2.out _ _ _ HI2.out HCC.out).mono ?_;rintro e w3 ⟨A3,n3,k3,rfl,hI,hb⟩;have HI3:=Lib.hid hI;have HB3:=Lib.hid (HB2.out.trans (hb.mono HB2.out.size));have HJ3:=Lib.hid (dO HJ2.out hb);clear hI hb;dsimp only))
  all_goals go_wp2_with fail
  all_goals go_meet
  all_goals exact⟨_,_,_,rfl,HI3.out,HJ3.out,HB3.out⟩
 case rest=>
  obtain⟨A3,n3,c3,rfl,hI3,hJ3,hB3⟩:=hcut;have HI3:=ah hI3;have HJ3:=ah hJ3;have HB3:=ah hB3;clear hI3 hJ3 hB3;have HN1:=ah (show n1=M+1 by rw[←HI1.out.len,HEG.out]);have HN3:=ah (show(upF f (M+1)).length=n3 from HI3.out.len);have hn3:n3≤64:=by have:=up_len f (M+1);have:=HN3.out;omega
  obtain⟨wz,hwz⟩:∃wz,wc=wz:=⟨_,rfl⟩
  subst hwz;go_wp2_with fail;go_loopw [7,8] (fun vl vi wr=>∃(k:Nat) (A2:Option Addr) (c2:Nat),k≤n3∧vi= .int .i64 k∧vl= .slice A2 k c2∧IA wc (.slice A2 k c2) k ((CV es f (M+1)).take k) wr) (fun _ vi _=>n3 - (RowKit.intOf vi).toNat);case atStart=>exact⟨0,none,0,aH _,rfl,rfl,IA.nil wc⟩
  case round=>
   obtain⟨k,A2,c2,hk,rfl,rfl,hA⟩:=hrel;have HA:=ah hA;clear hA;by_cases hlt:k<n3
   ·have HLEN:=ah (D9 (show k≤100000 by omega));obtain⟨q,hq,e1,e2⟩:=upF_get es f (M+1) (j:=k) (by rw[HN3.out];exact hlt);obtain⟨gl,ol,rfl,hgl,hcl⟩:=HI3.out.at_ (by omega);obtain⟨ge,oe,rfl,hge,hce⟩:=HJ3.out.at_ (by have:=HN1.out;omega);have z1:=(HA.out.aB.cell (p:=⟨gl,ol+k,none⟩) hgl).trans (hcl k hlt);have z2:=(HA.out.aB.cell (p:=⟨ge,oe+q,none⟩) hge).trans (hce q (by rw[HN1.out];exact hq));rw[e1]at z1;have htk:=ZT (l:=CV es f (M+1)) (j:=k) (by rw[Oz,HN3.out];exact hlt);rw[e2]at htk;obtain⟨x,hx⟩:∃x,es.getD q 0=x:=⟨_,rfl⟩
    rw[hx]at z2 htk;have BG:=ah htk;have hq0:(0:Int)≤q:=by omega
    have hq1:(q:Int)<n1:=by have:=HN1.out;omega
    have hk0:(0:Int)≤k:=by omega
    have hk1:(k:Int)<n3:=by omega
    have j5:=ah (show wrap64 ((k:Int)+1)=((k+1:Nat):Int)by unfold wrap64;omega);clear hcl hce hgl hge e1 e2 htk hx;go_wp2_with (at_builtin;refine aT _ rfl (.tmp 31) (.tmp 39) 41 rfl wc.heap.size 3 i0 _ 8 Tryz.underlying41 hI0 hz0 hz1 hz2 rfl (.slice A2 k c2) k (bA ((CV es f (M+1)).take k)) rfl HA.out.dU _ 1 1 [.int .i64 x] rfl (bX _ _ _) (by simp[Value.oneCell']) HLEN.out.1 HLEN.out.2 (by rw[World.size_alloc];have:=HA.out.aB.size;omega) ?_;intro v' wp ho hg hn;obtain⟨B1,d1,rfl,_⟩:=aL ho;have ny:=Lib.hid (HA.out.grow ho hg);clear ho hg hn);(try rw[j5.out]);exact⟨⟨k+1,_,_,hlt,rfl,rfl,by rw[BG.out];exact ny.out⟩,by simp[RowKit.intOf];omega⟩
   ·obtain rfl:k=n3:=by omega
    have htk:(CV es f (M+1)).take k=CV es f (M+1):=mH (by rw[Oz,HN3.out];exact ay _);rw[htk]at HA;have HK:=ah (show k≤100000 by omega);clear htk hk;go_wp2;go_ret;exact⟨_,_,_,rfl,gD HA.out.own HK.out,HB3.out.trans (HA.out.aB.mono HB3.out.size)⟩
def r9 (cut:Nat→Bool) (ats:List Int) (L:Int) (n i:Nat):List Int:=((List.range i).filter (kN cut n)).map fun k=>if k<n then ats.getD k 0 else L
theorem JC (cut:Nat→Bool) (ats:List Int) (L:Int) (n i:Nat):r9 cut ats L n (i+1)=r9 cut ats L n i++if kN cut n i=true then[if i<n then ats.getD i 0 else L]else[]:=by
 unfold r9;rw[List.range_succ,List.filter_append,Av];congr 1;by_cases c:kN cut n i=true;·simp[c]
 ·simp[c]
def Bw (W:World) (v:Value) (ss:List SD):Prop:=∀w,Below W.heap.size W w→Calls Tryz.prog 126 #[v] w fun e w'=>∃A n c,e= .returned (.slice A n c)∧Tx w' A n ss∧Below w.heap.size w w'
theorem OD (R:List gI) (NN:Nat) (hT:yE R NN) (t:List UInt8) (rs:List PR) (ss:List SD) (rest:Bool) (gr og cr:Nat) (d:Value) (W:World) (hD:DbT W d R NN) (hRl:kg W gr og rs) (hS:Bw W (.agg #[.slice (some ⟨gr,og,none⟩) rs.length cr, .bool rest]) ss) (hn:t.length≤10000) (cut:Nat→Bool) (h1:1≤(marks t).length) (h64:(marks t).length+1<64) (hcut:∀k b,1≤k→k<(marks t).length→fK rest (iQ R t) k b rs→b=cut k) (hss:ss.length=rs.length)
 (hmay:∀(i:Nat) (r:PR) (x:SD) (k:Nat),rs[i]? =some r→ss[i]? =some x→1≤k→k<(marks t).length→vV r (iQ R t) k→x.may ((iQ R t).getD (k - 1) 0) ((iQ R t).getD k 0)=true):
 Calls Tryz.prog 78 #[d, .agg #[.slice (some ⟨gr,og,none⟩) rs.length cr, .bool rest], .string ⟨t.toArray⟩] W (dF (r9 cut (dV t) t.length (marks t).length ((marks t).length+1)) W):=by
 obtain⟨M,hM⟩:∃M,(marks t).length=M:=⟨_,rfl⟩
 rw[hM]at h1 h64 hcut hmay⊢;have HMM:=ah hM;clear hM;obtain⟨s,hs⟩:∃s:ByteArray,(⟨t.toArray⟩:ByteArray)=s:=⟨_,rfl⟩
 have ZV:=ah (fun w=>CO t w hn);rw[hs]at ZV⊢;obtain⟨D,oD,hd⟩:∃D oD,d= .pointer (some ⟨D,oD,none⟩):=by obtain⟨D,o,_,_,_,h,_⟩:=hD;exact⟨D,o,h⟩
 subst hd;have HRl:=ah hRl;have HS:=ah hS;have HD:=ah hD;have HT:=ah hT;have HNN:=ah hn;obtain⟨N,hN⟩:∃N,rs.length=N:=⟨_,rfl⟩
 have HN:=ah hN;rw[hN]at HS⊢;have HB0:=ah (Bx.start 122 W #[.slice (some ⟨gr,og,none⟩) N cr, .bool rest]);obtain⟨wz,hwz⟩:∃wz,(W.alloc (.cells #[.slice (some ⟨gr,og,none⟩) N cr, .bool rest] 122)).alloc (.cells #[.pointer (some ⟨D,oD,none⟩), .slice (some ⟨gr,og,none⟩) N cr, .bool rest, .slice none 0 0, .slice none 0 0, .int .i64 0, .int .i64 0] 192)=wz:=⟨_,rfl⟩
 have hx0:wz.cell? ⟨W.heap.size+1,0,none⟩=some (.pointer (some ⟨D,oD,none⟩)):=by have h:=dh (W.alloc (.cells #[.slice (some ⟨gr,og,none⟩) N cr, .bool rest] 122)) (.cells #[.pointer (some ⟨D,oD,none⟩), .slice (some ⟨gr,og,none⟩) N cr, .bool rest, .slice none 0 0, .slice none 0 0, .int .i64 0, .int .i64 0] 192);rw[gy,hwz]at h;exact(bC _ _ _ _ _ _ h).trans rfl
 have HBz:=ah (HB0.out.go (show Below _ _ wz from by rw[←hwz];exact(aF _ _).alloc (ay _) _));have hsz:W.heap.size+1<wz.heap.size:=by rw[←hwz,gy,gy];omega
 have HX0:=ah hx0;have uN:=ah hsz;have HWZ:=ah hwz;have La:=ah hcut;have anN:=ah hmay;have kS:=ah hss;have HS1:=ah (size_mk t s hs);clear hRl hS hD hT hn hs hN hx0 hsz hwz hcut hmay hss;obtain⟨i0,hI0,hz0,hz1,hz2⟩:=dY gB;go_enter Tryz.func78,Tryz.ntmps78;go_wp2_with (first
  |(go_at_call 89;rw[HWZ.out];refine(ZV.out _).mono ?_;rintro e w2 ⟨A,n,c,rfl,hR,hb⟩;have HR:=ah hR;have HX2:=ah ((hb.cell (p:=⟨W.heap.size+1,0,none⟩) uN.out).trans HX0.out);have HB2:=ah (HBz.out.go hb);have HS2:=ah (bH uN.out hb.size);clear hR hb)
  |(go_at_call 125;refine(DF R NN HT.out t (W.heap.size+1) _ A n c w2 HS2.out HX2.out (jF HD.out HB2.out.aB) HR.out HNN.out).mono ?_;rintro e w3 ⟨A3,n3,c3,rfl,hI,ajt,hb⟩;have HI3:=ah hI;have HCC:=ah ajt;clear ajt;have HR3:=ah (HR.out.below hb);have HB3:=ah (HB2.out.go hb);clear hI hb;have y0:=(HB3.out.c 0).trans rfl;have y1:=(HB3.out.c 1).trans rfl)
  |(go_at_call 126;refine(HS.out w3 HB3.out.aB).mono ?_;rintro e w4 ⟨A4,n4,c4,rfl,hSd,hb⟩;have HSd:=ah hSd;have HI4:=ah (dO HI3.out hb);have HR4:=ah (HR3.out.below hb);have Ea:=ah (HB3.out.go hb);clear hSd hb y0 y1))
 obtain rfl:n3=n:=by rw[←HI4.out.len,←HR4.out.len,pU,xS]
 obtain rfl:n3=M:=by rw[←HI4.out.len,pU,HMM.out]
 go_loopw [11,12] (fun vo vi wr=>∃(i m:Nat) (Ao:Option Addr) (co:Nat),i≤n3+1∧m≤i∧vi= .int .i64 i∧vo= .slice Ao m co∧IA w4 (.slice Ao m co) m (r9 cut (dV t) t.length n3 i) wr) (fun _ vi _=>n3+1 - (RowKit.intOf vi).toNat);case atStart=>exact⟨0,0,none,0,aH _,ay _,rfl,rfl,IA.nil w4⟩
 case round=>
  obtain⟨i,m,Ao,co,hi,Oo,rfl,rfl,hA⟩:=hrel;have HA:=ah hA;have HB:=ah (Ea.out.go hA.aB);clear hA;have y0:=(HB.out.c 0).trans rfl;have y1:=(HB.out.c 1).trans rfl;by_cases hlt:i≤n3
  ·have hii:(i:Int)≤n3:=by omega
   have hn0:0<n3:=by omega
   have hi0:(0:Int)≤i:=by omega
   have qU:=ah (show wrap64 ((i:Int)+1)=((i+1:Nat):Int)by unfold wrap64;omega);have HLEN:=ah (D9 (show m≤100000 by omega));go_upto_region 9 with fail;go_cut [13] (fun q wx=>q= .bool (decide (i=0)||decide (i=n3))∧wx=wr);case first=>
    by_cases c0:i=0
    ·subst c0;go_wp2_with fail;go_meet;exact⟨rfl,rfl⟩
    ·have hb0:((i:Int)==0)=false:=bW.2 (by omega);by_cases cn:i=n3
     ·have hbn:((i:Int)==n3)=true:=bL.2 (by omega);have hd:(decide (i=0)||decide (i=n3))=true:=by simp[cn]
      have HDD:=ah hd;clear hd cn;go_wp2_with fail;go_meet;rw[HDD.out];exact⟨rfl,rfl⟩
     ·have hbn:((i:Int)==n3)=false:=bW.2 (by omega);have HDD:=Lib.hid (show(decide (i=0)||decide (i=n3))=false by simp[c0,cn]);go_wp2_with fail;go_meet;rw[HDD.out];exact⟨rfl,rfl⟩
   case rest=>
    obtain⟨rfl,rfl⟩:=hcut;by_cases hz:i=0∨i=n3
    ·have hdd:(decide (i=0)||decide (i=n3))=true:=by rcases hz with h|h <;> simp[h]
     rw[hdd];have hsucc:=JC cut (dV t) t.length n3 i;rw[show kN cut n3 i=true by unfold kN;rw[hdd];rfl,ak rfl]at hsucc;have Tk:=ah Oo;clear hdd hz Oo;by_cases OE:i<n3
     ·rw[ak OE]at hsucc;obtain⟨g,rfl,hg,hc⟩:=HR4.out.at_ (by omega);have d1:=hc i OE 1 _ (by decide) rfl;rw[Le t (by rw[HMM.out];exact OE)]at d1;obtain⟨x,hx⟩:∃x,(dV t).getD i 0=x:=⟨_,rfl⟩
      rw[hx]at d1 hsucc;have d2:=(HA.out.aB.cell (p:=⟨g,i*3+1,none⟩) hg).trans d1;have hii2:(i:Int)<n3:=by omega
      have Lh:=ah hsucc;clear hc d1 hx hg hsucc;go_wp2_with (at_builtin;refine aT _ rfl (.tmp 93) (.tmp 99) 41 rfl w4.heap.size 3 i0 _ 8 Tryz.underlying41 hI0 hz0 hz1 hz2 rfl (.slice Ao m co) m (bA (r9 cut (dV t) t.length n3 i)) rfl HA.out.dU _ 1 1 [.int .i64 x] rfl (bX _ _ _) (by simp[Value.oneCell']) HLEN.out.1 HLEN.out.2 (by rw[World.size_alloc];have:=HA.out.aB.size;omega) ?_;intro v' wp ho hg hn;obtain⟨B1,d1,rfl,_⟩:=aL ho;have ny:=Lib.hid (HA.out.grow ho hg);clear ho hg hn);(try rw[qU.out]);exact⟨⟨i+1,m+1,_,_,by omega,Nat.succ_le_succ Tk.out,rfl,rfl,by rw[Lh.out];exact ny.out⟩,by simp[RowKit.intOf];omega⟩
     ·rw[aj OE]at hsucc;have hii2:¬(i:Int)<n3:=by omega
      have Lh:=ah hsucc;have ai2:(s.size:Int)=(t.length:Nat):=by rw[HS1.out]
      clear hsucc;go_wp2_with (at_builtin;refine aT _ rfl (.tmp 102) (.tmp 105) 41 rfl w4.heap.size 3 i0 _ 8 Tryz.underlying41 hI0 hz0 hz1 hz2 rfl (.slice Ao m co) m (bA (r9 cut (dV t) t.length n3 i)) rfl HA.out.dU _ 1 1 [.int .i64 (t.length:Nat)] rfl (bX _ _ _) (by simp[Value.oneCell']) HLEN.out.1 HLEN.out.2 (by rw[World.size_alloc];have:=HA.out.aB.size;omega) ?_;intro v' wp ho hg hn;obtain⟨B1,d1,rfl,_⟩:=aL ho;have ny:=Lib.hid (HA.out.grow ho hg);clear ho hg hn);(try rw[qU.out]);exact⟨⟨i+1,m+1,_,_,by omega,Nat.succ_le_succ Tk.out,rfl,rfl,by rw[Lh.out];exact ny.out⟩,by simp[RowKit.intOf];omega⟩
    ·have hdd:(decide (i=0)||decide (i=n3))=false:=by simp only[Bool.or_eq_false_iff,zq];omega
     rw[hdd];clear hdd;go_upto_block 2 with fail;go_cut [13] (fun q wx=>q= .bool (cut i)∧IA w4 (.slice Ao m co) m (r9 cut (dV t) t.length n3 i) wx);case first=>
      go_wp2_with fail;go_loopw [13,14] (fun vc vi wq=>∃k:Nat,k≤N∧vi= .int .i64 k∧vc= .bool rest∧IA w4 (.slice Ao m co) m (r9 cut (dV t) t.length n3 i) wq∧∀b,fK rest (iQ R t) i b (rs.drop k)→fK rest (iQ R t) i b rs) (fun _ vi _=>N - (RowKit.intOf vi).toNat);case atStart=>exact⟨0,aH _,rfl,rfl,HA.out,fun _ h=>h⟩
      case round=>
       obtain⟨k,hk,rfl,rfl,hA2,hD2⟩:=hrel;have HA2:=ah hA2;have HD2:=ah hD2;clear hA2 hD2;have y0:=((Ea.out.go HA2.out.aB).c 0).trans rfl;by_cases hkN:k<N
       ·obtain⟨r,hr⟩:∃r,rs[k]? =some r:=⟨_,aY (by rw[HN.out];exact hkN)⟩
        obtain⟨x,hx⟩:∃x,ss[k]? =some x:=⟨_,aY (by rw[kS.out,HN.out];exact hkN)⟩
        obtain⟨hl,v,hv,hc⟩:=HRl.out.at_ k r hr;have HRR:=ah hr;obtain⟨gs,os,lA,ln,lc,rA,rn,rc,rfl,hgs,s0,s1,s2,s3,hL,hRr⟩:=HSd.out.at_ k x hx;have HSC:=ah (fun(w:World) (hw:Below w4.heap.size w4 w)=>And.intro ((hw.cell (p:=⟨gs,os+k*4,none⟩) hgs).trans s0) (And.intro ((hw.cell (p:=⟨gs,os+k*4+1,none⟩) hgs).trans s1) (And.intro ((hw.cell (p:=⟨gs,os+k*4+2,none⟩) hgs).trans s2) ((hw.cell (p:=⟨gs,os+k*4+3,none⟩) hgs).trans s3))));obtain⟨gc,oc,rfl,hgc,hcc⟩:=HI4.out.at_ (by omega);have z0:=hcc (i - 1) (by omega);have z1:=hcc i (by omega);have hm:=anN.out k r x i hr hx (by omega) (by omega);obtain⟨a,ha⟩:∃a,(iQ R t).getD (i - 1) 0=a:=⟨_,rfl⟩
        obtain⟨b,hb⟩:∃b,(iQ R t).getD i 0=b:=⟨_,rfl⟩
        obtain⟨i1,hi1⟩:∃i1,i - 1=i1:=⟨_,rfl⟩
        rw[ha]at z0 hm;rw[hb]at z1 hm;rw[hi1]at z0;have acS:=ah (fun(w:World) (hw:Below w4.heap.size w4 w)=>And.intro ((hw.cell (p:=⟨gc,oc+i1,none⟩) hgc).trans z0) ((hw.cell (p:=⟨gc,oc+i,none⟩) hgc).trans z1));have arM:=ah Ea.out.aB;have ZW:=ah (fun(w:World) (hw:Below w4.heap.size w4 w) (j:Nat) (y:Value) (hy:(v.cells r)[j]? =some y)=>show w.cell? ⟨gr,og+k*9+j,none⟩=some y from((Ea.out.go hw).aB.cell (p:=⟨gr,og+k*9+j,none⟩) HRl.out.blk).trans (hc j y hy));have HMA:=ah hm;have HMC:=ah (fun(w:World) (hw:Below w4.heap.size w4 w)=>aga x a b lA rA ln lc rn rc w (dO hL hw) (dO hRr hw));have HAP:=ah (fun(w:World) (hw:Below w4.heap.size w4 w)=>G5 v r (iQ R t) gc oc n3 c3 i w (hv.below (Ea.out.go hw).aB) (dO HI4.out hw) (by omega) (by omega) h64 HCC.out hl);unfold yF.cells at HAP ZW;obtain⟨z,hz2⟩:∃z:Bool,z=true↔vV r (iQ R t) i:=by
         by_cases h:vV r (iQ R t) i
         ·exact⟨true,fun _=>h,fun _=>rfl⟩
         ·exact⟨false,fun e=>Bool.noConfusion e,fun e=>absurd e h⟩
        have HZ2:=ah hz2;have hw1:wrap64 ((i:Int) - 1)=(i1:Int):=by unfold wrap64;omega
        have hw2:IntKind.i64.wrap ((i:Int) - 1)=(i1:Int):=(IntWalk.i64_left _).trans hw1;have arN:(0:Int)≤i1:=by omega
        have arO:(i1:Int)<n3:=by omega
        have hin:(i:Int)<n3:=by omega
        have hkk:(k:Int)<N:=by omega
        have hk0:(0:Int)≤k:=by omega
        have arP:N≤64:=by rw[←HN.out];exact HRl.out.small
        have hn4:n4=N:=by rw[←HSd.out.len,kS.out,HN.out]
        have hk4:k<n4:=by omega
        have arQ:(k:Int)<n4:=by omega
        clear hn4;have j5:=ah (show wrap64 ((k:Int)+1)=((k+1:Nat):Int)by unfold wrap64;omega);have HYC:=ah (fun(w:World) (hw:Below w4.heap.size w4 w)=>And.intro (((Ea.out.go hw).c 0).trans rfl:w.cell? ⟨W.heap.size,0,none⟩=some (.slice (some ⟨gr,og,none⟩) N cr)) (((Ea.out.go hw).c 1).trans rfl:w.cell? ⟨W.heap.size,1,none⟩=some (.bool rest)));clear hr hx hv hc s0 s1 s2 s3 hL hRr z0 z1 hcc ha hb hi1 hm hz2 hgs hgc hl;go_upto_region 15 with fail;go_cut [79] (fun q wx=>q= .bool z∧IA w4 (.slice Ao m co) m (r9 cut (dV t) t.length n3 i) wx);case first=>
         have HQ1:IA w4 (.slice Ao m co) m (r9 cut (dV t) t.length n3 i) (wr.drewN 1):=⟨⟨HA2.out.aB.os,HA2.out.aB.tape,HA2.out.aB.output,HA2.out.aB.size,HA2.out.aB.block⟩,HA2.out.own⟩
         obtain⟨mm,hmm⟩:∃mm,x.may a b=mm:=⟨_,rfl⟩
         have agb:=ah hmm;clear hmm;cases mm with
         |false=>
          obtain rfl:z=false:=by
           cases z
           ·rfl
           ·exact absurd (HMA.out (HZ2.out.1 rfl)) (by rw[agb.out];exact Bool.noConfusion)
          refine jq (C:=IA w4 (.slice Ao m co) m (r9 cut (dV t) t.length n3 i)) (by kernel_rfl) (by kernel_rfl) HQ1 ?_;go_big_quiet_step (exact fun _=>rfl);go_big_quiet_step (exact fun _=>rfl);go_big_quiet_step (exact fun _=>rfl);refine fJ (by kernel_rfl) (fun K hK=> ?_);refine gK (.agg #[.slice lA ln lc, .slice rA rn rc, .bool x.V8, .bool x.V9]) (fun w hw=> ?_) (hK _ ?_)
          ·obtain⟨d0,d1,d2,d3⟩:=HSC.out w hw.aB;go_simp
          clear hK K;(try simp only[Act.put]);(try simp only[bU]);(try simp only[aW]);(try simp only[aV]);go_big_quiet_step (exact fun _=>rfl);go_big_quiet_step (exact fun _=>rfl);go_big_quiet_step (exact fun _=>rfl);go_big_quiet_step (exact fun _=>rfl);refine fJ (by kernel_rfl) (fun K hK=> ?_);refine gK (.int .i64 a) (fun w hw=> ?_) (hK _ ?_)
          ·obtain⟨d0,d1⟩:=acS.out w hw.aB;go_simp
          clear hK K;(try simp only[Act.put]);(try simp only[bU]);(try simp only[aW]);(try simp only[aV]);go_big_quiet_step (exact fun _=>rfl);go_big_quiet_step (exact fun _=>rfl);go_big_quiet_step (exact fun _=>rfl);refine fJ (by kernel_rfl) (fun K hK=> ?_);refine gK (.int .i64 b) (fun w hw=> ?_) (hK _ ?_)
          ·obtain⟨d0,d1⟩:=acS.out w hw.aB;go_simp
          clear hK K;(try simp only[Act.put]);(try simp only[bU]);(try simp only[aW]);(try simp only[aV]);refine fJ (by kernel_rfl) (fun K hK=> ?_);refine jo 127 #[.agg #[.slice lA ln lc, .slice rA rn rc, .bool x.V8, .bool x.V9], .int .i64 a, .int .i64 b] (.bool false) (fun w hw=> ?_) (fun w hw=> ?_) (hK _ ?_)
          ·go_simp
          ·refine(HMC.out w hw.aB).mono ?_;rintro e w2 ⟨rfl,hb⟩;exact⟨by rw[agb.out],hw.below hb⟩
          clear hK K;(try simp only[Act.put]);(try simp only[bU]);(try simp only[aW]);(try simp only[aV]);go_big_quiet_step (exact fun _=>rfl);go_big_quiet_step (exact fun _=>rfl);go_big_quiet_step (exact fun _=>rfl);go_big_quiet_step (exact fun _=>rfl);go_big_quiet_step (exact fun _=>rfl);go_big_quiet_step (exact fun _=>rfl);go_big_quiet_step (exact fun _=>rfl);go_big_quiet_step (exact fun _=>rfl);go_big_quiet_step (exact fun _=>rfl);go_big_quiet_step (exact fun _=>rfl);refine wpQuiet_nil ?_;intro w' hw';go_wp2_with fail;go_meet;exact⟨rfl,hw'⟩
         |true=>
          refine jq (C:=IA w4 (.slice Ao m co) m (r9 cut (dV t) t.length n3 i)) (by kernel_rfl) (by kernel_rfl) HQ1 ?_;go_big_quiet_step (exact fun _=>rfl);go_big_quiet_step (exact fun _=>rfl);go_big_quiet_step (exact fun _=>rfl);refine fJ (by kernel_rfl) (fun K hK=> ?_);refine gK (.agg #[.slice lA ln lc, .slice rA rn rc, .bool x.V8, .bool x.V9]) (fun w hw=> ?_) (hK _ ?_)
          ·obtain⟨d0,d1,d2,d3⟩:=HSC.out w hw.aB;go_simp
          clear hK K;(try simp only[Act.put]);(try simp only[bU]);(try simp only[aW]);(try simp only[aV]);go_big_quiet_step (exact fun _=>rfl);go_big_quiet_step (exact fun _=>rfl);go_big_quiet_step (exact fun _=>rfl);go_big_quiet_step (exact fun _=>rfl);refine fJ (by kernel_rfl) (fun K hK=> ?_);refine gK (.int .i64 a) (fun w hw=> ?_) (hK _ ?_)
          ·obtain⟨d0,d1⟩:=acS.out w hw.aB;go_simp
          clear hK K;(try simp only[Act.put]);(try simp only[bU]);(try simp only[aW]);(try simp only[aV]);go_big_quiet_step (exact fun _=>rfl);go_big_quiet_step (exact fun _=>rfl);go_big_quiet_step (exact fun _=>rfl);refine fJ (by kernel_rfl) (fun K hK=> ?_);refine gK (.int .i64 b) (fun w hw=> ?_) (hK _ ?_)
          ·obtain⟨d0,d1⟩:=acS.out w hw.aB;go_simp
          clear hK K;(try simp only[Act.put]);(try simp only[bU]);(try simp only[aW]);(try simp only[aV]);refine fJ (by kernel_rfl) (fun K hK=> ?_);refine jo 127 #[.agg #[.slice lA ln lc, .slice rA rn rc, .bool x.V8, .bool x.V9], .int .i64 a, .int .i64 b] (.bool true) (fun w hw=> ?_) (fun w hw=> ?_) (hK _ ?_)
          ·go_simp
          ·refine(HMC.out w hw.aB).mono ?_;rintro e w2 ⟨rfl,hb⟩;exact⟨by rw[agb.out],hw.below hb⟩
          clear hK K;(try simp only[Act.put]);(try simp only[bU]);(try simp only[aW]);(try simp only[aV]);go_big_quiet_step (exact fun _=>rfl);go_big_quiet_step (exact fun _=>rfl);refine fJ (by kernel_rfl) (fun K hK=> ?_);refine gK (.slice (some ⟨gr,og,none⟩) N cr) (fun w hw=> ?_) (hK _ ?_)
          ·obtain⟨d0,d1⟩:=HYC.out w hw.aB;go_simp
          clear hK K;(try simp only[Act.put]);(try simp only[bU]);(try simp only[aW]);(try simp only[aV]);go_big_quiet_step (exact fun _=>rfl);go_big_quiet_step (exact fun _=>rfl);refine fJ (by kernel_rfl) (fun K hK=> ?_);refine gK (.agg #[.bool r.brk, .bool r.fst, .bool r.LM, .int .i64 (v.lop:Nat), .slice v.lA v.ln v.lc, .slice v.lB v.lm v.ld, .int .i64 (v.rop:Nat), .slice v.rA v.rn v.rc, .slice v.rB v.rm v.rd]) (fun w hw=> ?_) (hK _ ?_)
          ·have d0:=ZW.out w hw.aB 0 _ rfl;have d1:=ZW.out w hw.aB 1 _ rfl;have d2:=ZW.out w hw.aB 2 _ rfl;have d3:=ZW.out w hw.aB 3 _ rfl;have d4:=ZW.out w hw.aB 4 _ rfl;have d5:=ZW.out w hw.aB 5 _ rfl;have d6:=ZW.out w hw.aB 6 _ rfl;have d7:=ZW.out w hw.aB 7 _ rfl;have d8:=ZW.out w hw.aB 8 _ rfl;rw[cZ]at d0;go_simp
          clear hK K;(try simp only[Act.put]);(try simp only[bU]);(try simp only[aW]);(try simp only[aV]);go_big_quiet_step (exact fun _=>rfl);go_big_quiet_step (exact fun _=>rfl);refine fJ (by kernel_rfl) (fun K hK=> ?_);refine jo 128 #[.agg #[.bool r.brk, .bool r.fst, .bool r.LM, .int .i64 (v.lop:Nat), .slice v.lA v.ln v.lc, .slice v.lB v.lm v.ld, .int .i64 (v.rop:Nat), .slice v.rA v.rn v.rc, .slice v.rB v.rm v.rd], .slice (some ⟨gc,oc,none⟩) n3 c3, .int .i64 i] (.bool z) (fun w hw=> ?_) (fun w hw=> ?_) (hK _ ?_)
          ·go_simp
          ·refine(HAP.out w hw.aB).mono ?_;rintro e w2 ⟨q,rfl,hq,hb⟩;exact⟨by rw[fA.2 (hq.trans HZ2.out.symm)],hw.below hb⟩
          clear hK K;(try simp only[Act.put]);(try simp only[bU]);(try simp only[aW]);(try simp only[aV]);go_big_quiet_step (exact fun _=>rfl);refine wpQuiet_nil ?_;intro w' hw';go_wp2_with fail;go_meet;exact⟨rfl,hw'⟩
        case rest=>
         obtain⟨rfl,hA3⟩:=hcut;have V6:=ah hA3;clear hA3;obtain⟨y0,y1⟩:=HYC.out _ V6.out.aB;have k0:=ZW.out _ V6.out.aB 0 _ rfl;rw[cZ]at k0;cases z with
         |false=> have hD3:=fun b h=>HD2.out b (Bu HRR.out (fun e=>absurd (HZ2.out.2 e) (by decide)) h);have HD3:=ah hD3;clear hD3;go_wp2_with fail;(try rw[j5.out]);exact⟨⟨k+1,hkN,rfl,rfl,V6.out,HD3.out⟩,by simp[RowKit.intOf];omega⟩
         |true=> have hbc:=La.out i r.brk (by omega) (by omega) (HD2.out _ (Bv HRR.out (HZ2.out.1 rfl)));have HBC:=ah hbc;clear hbc;go_wp2_with fail;go_meet;exact⟨by rw[HBC.out],V6.out⟩
       ·obtain rfl:k=N:=by omega
        have hbc:=La.out i rest (by omega) (by omega) (HD2.out _ (by rw[List.drop_of_length_le (Nat.le_of_eq HN.out)];exact rfl));have HBC:=ah hbc;clear hbc;go_wp2;go_meet;exact⟨by rw[HBC.out],HA2.out⟩
     case rest=>
      obtain⟨rfl,hA⟩:=hcut;have HA2:=ah hA;clear hA;have OE:i<n3:=by omega
      have hsucc:=JC cut (dV t) t.length n3 i;have hdc:kN cut n3 i=cut i:=by unfold kN;simp only[show ¬i=0 by omega,show ¬i=n3 by omega,decide_false,wB]
      rw[hdc,ak OE]at hsucc;obtain⟨g,rfl,hg,hc⟩:=HR4.out.at_ (by omega);have d1:=hc i OE 1 _ (by decide) rfl;rw[Le t (by rw[HMM.out];exact OE)]at d1;obtain⟨x,hx⟩:∃x,(dV t).getD i 0=x:=⟨_,rfl⟩
      rw[hx]at d1 hsucc;have d2:=(HA2.out.aB.cell (p:=⟨g,i*3+1,none⟩) hg).trans d1;have hii2:(i:Int)<n3:=by omega
      have Tk:=ah Oo;obtain⟨q,hq⟩:∃q,cut i=q:=⟨_,rfl⟩
      rw[hq]at hsucc⊢;clear hc d1 hx hq hdc hg hz Oo;cases q with
      |true=> have Lh:=ah (show r9 cut (dV t) t.length n3 (i+1)=r9 cut (dV t) t.length n3 i++[x]by rw[hsucc,ak rfl]);clear hsucc;go_wp2_with (at_builtin;refine aT _ rfl (.tmp 93) (.tmp 99) 41 rfl w4.heap.size 3 i0 _ 8 Tryz.underlying41 hI0 hz0 hz1 hz2 rfl (.slice Ao m co) m (bA (r9 cut (dV t) t.length n3 i)) rfl HA2.out.dU _ 1 1 [.int .i64 x] rfl (bX _ _ _) (by simp[Value.oneCell']) HLEN.out.1 HLEN.out.2 (by rw[World.size_alloc];have:=HA2.out.aB.size;omega) ?_;intro v' wp ho hg hn;obtain⟨B1,d1,rfl,_⟩:=aL ho;have ny:=Lib.hid (HA2.out.grow ho hg);clear ho hg hn);(try rw[qU.out]);exact⟨⟨i+1,m+1,_,_,by omega,Nat.succ_le_succ Tk.out,rfl,rfl,by rw[Lh.out];exact ny.out⟩,by simp[RowKit.intOf];omega⟩
      |false=> have Lh:=ah (show r9 cut (dV t) t.length n3 (i+1)=r9 cut (dV t) t.length n3 i by rw[hsucc,aj (by decide),eD]);clear hsucc;go_wp2_with fail;(try rw[qU.out]);exact⟨⟨i+1,m,_,_,by omega,Nat.le_succ_of_le Tk.out,rfl,rfl,by rw[Lh.out];exact HA2.out⟩,by simp[RowKit.intOf];omega⟩
  ·obtain rfl:i=n3+1:=by omega
   have HM:=ah (show m≤100000 by omega);have hii:¬((n3+1:Nat):Int)≤n3:=by omega
   clear Oo;go_wp2;go_ret;exact⟨Ao,m,co,rfl,gD HA.out.own HM.out,HB.out.aB⟩
end Go.Proofs.YtocaiijbhepnnaaGreatDoor.searchEach
