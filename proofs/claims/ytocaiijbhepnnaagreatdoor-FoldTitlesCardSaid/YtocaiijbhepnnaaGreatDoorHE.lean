/- FoldTitles, walked: the document's rules, its bounds. -/
import Derived.Test.YtocaiijbhepnnaaGreatDoorHD
import Derived.Deep.CutBlock
set_option maxRecDepth 100000
set_option maxHeartbeats 8000000
namespace Go.Proofs.YtocaiijbhepnnaaGreatDoor.foldTitles
open Go.Shelf Go.RowKit Go.Lib Go.Proofs.YtocaiijbhepnnaaGreatDoor.Am
section
open Je
def Mem (A:List Nat) (x:Int):Prop:=∃y∈A,(y:Int)=x
structure PR where
 brk:Bool
 fst:Bool
 Y7:Bool
 left:PT
 right:PT
def Fz (r:PR) (c:List Int) (at_:Nat):Prop:=
 (∃i,bK r.left (c.take at_) i at_)/\(∃k,bK r.right (c.drop at_) 0 k)/\(r.fst=true->bK r.left (c.take at_) 0 at_)/\(r.Y7=true->bK r.right (c.drop at_) 0 (c.length-at_))
def iJ (rest:Bool) (c:List Int) (at_:Nat) (b:Bool):List PR->Prop
 |[]=>b=rest
 |r::l=>(Fz r c at_/\b=r.brk)\/(¬Fz r c at_/\iJ rest c at_ b l)
def pS (l:List Nat):PT:= .node 1 l []
def pX:PT:= .node 4 [] [pS [4,5,6]]
def pT (l:List PT):PT:= .node 2 [] l
def p0:PT:= .node 0 [] []
def GN:PT:= .node 4 [] [pT [pS [7],pX,pS [7],pX]]
theorem ER (x:Int):Mem [4,5,6] x↔bY x=true:=by unfold Mem bY;simp only[aR,nQ,mU,oO,lJ,dI,cZ];omega
theorem jC (A:List Nat) (d:List Int) (i k:Nat):bK (pS A) d i k↔i<d.length/\k=i+1/\Mem A (d.getD i 0):=Rq A [] d i k
theorem CU (d:List Int) {i k:Nat} (hi:i<=d.length):bK pX d i k↔i<=k/\k<=d.length/\∀j,i<=j->j<k->bY (d.getD j 0)=true:=by
 unfold pX;rw[xM _ _ _ _ _ hi];constructor
 ·intro h;induction h with
  |nil=>exact⟨ay _,hi,λj h1 h2=>by omega⟩
  |snoc _ s ih=>
   obtain⟨h1,h2,h3⟩:=(jC _ _ _ _).1 s;subst h2;refine⟨by omega,by omega,λj e1 e2=> ?_⟩;rename_i m _;by_cases c:j<m;·exact ih.2.2 j e1 c
   ·obtain rfl:j=m:=by omega
    exact(ER _).1 h3
 ·rintro⟨h1,h2,h3⟩;obtain⟨m,rfl⟩:∃m,k=i+m:=⟨k-i,by omega⟩
  clear h1;induction m with
  |zero=>exact .nil
  |succ m ih=>refine .snoc (ih (by omega) λj e1 e2=>h3 j e1 (by omega)) ((jC _ _ _ _).2 ⟨by omega,by omega,(ER _).2 (h3 _ (by omega) (by omega))⟩)
theorem sD (d:List Int):∀k,(cu d k= -1/\∀j,j<k->bY (d.getD j 0)=true)\/∃m:Nat,cu d k=m/\m<k/\bY (d.getD m 0)=false/\∀j,m<j->j<k->bY (d.getD j 0)=true
 |0=> .inl ⟨rfl,λj h=>absurd h (ko j)⟩
 |k+1=>by
  unfold cu;by_cases c:bY (d.getD k 0)=true
  ·rw[au c];rcases sD d k with⟨h1,h2⟩|⟨m,h1,h2,h3,h4⟩
   ·refine .inl ⟨h1,λj hj=> ?_⟩;rcases aF j k with e|e
    ·exact h2 j e
    ·obtain rfl:j=k:=by omega
     exact c
   ·refine .inr ⟨m,h1,by omega,h3,λj e1 e2=> ?_⟩;rcases aF j k with e|e
    ·exact h4 j e1 e
    ·obtain rfl:j=k:=by omega
     exact c
  ·rw[aj c];exact .inr ⟨k,rfl,by omega,by simpa using c,λj e1 e2=>by omega⟩
theorem CV (d:List Int) (m:Nat) (h:m<d.length):fZ d m=d.getD m 0:=by unfold fZ;rw[aj (by omega),mg]
theorem PV (d:List Int):fZ d (-1)= -1:=by unfold fZ;rw[au (by omega)]
theorem sF (d:List Int) (m:Nat):dB d m=cu d m:=by unfold dB;rw[au (by omega),mg]
def Apart (A:List Nat):Prop:=∀x,Mem A x->bY x=false/\x≠-1
theorem ES {A:List Nat} (hA:Apart A) (d:List Int) {n:Nat} (hn:n<=d.length):(∃i,i<n/\Mem A (d.getD i 0)/\∀j,i<j->j<n->bY (d.getD j 0)=true)↔Mem A (fZ d (cu d n)):=by
 rcases sD d n with⟨h1,h2⟩|⟨m,h1,h2,h3,h4⟩
 ·rw[h1,PV];refine⟨λ⟨i,e1,e2,_⟩=> ?_,λh=>absurd rfl (hA _ h).2⟩;have:=(hA _ e2).1;rw[h2 i e1]at this;cases this
 ·rw[h1,CV d m (by omega)];refine⟨λ⟨i,e1,e2,e3⟩=> ?_,λh=>⟨m,h2,h,h4⟩⟩;have g:=(hA _ e2).1;rcases kZ i m with c|rfl|c
  ·have:=e3 m c h2;rw[h3]at this;cases this
  ·exact e2
  ·have:=h4 i c e1;rw[g]at this;cases this
theorem GQ {A:List Nat} (hA:Apart A) {d:List Int} {n i:Nat} (h1:i<n) (h2:Mem A (d.getD i 0)) (h3:∀j,i<j->j<n->bY (d.getD j 0)=true):cu d n=i:=by
 rcases sD d n with⟨e1,e2⟩|⟨m,e1,e2,e3,e4⟩
 ·have:=(hA _ h2).1;rw[e2 i h1]at this;cases this
 ·have g:=(hA _ h2).1;rcases kZ i m with c|rfl|c
  ·have:=h3 m c e2;rw[e3]at this;cases this
  ·exact e1
  ·have:=e4 i c h1;rw[g]at this;cases this
theorem all_cons (p:PT) (r:List PT) (c:List Int) (i k:Nat):lZ (p::r) c i k↔∃j,bK p c i j/\lZ r c j k:=Iff.rfl
theorem kN {A:List Nat} {d:List Int} {r:List PT} {i k:Nat}:lZ (pS A::pX::r) d i k↔i<d.length/\Mem A (d.getD i 0)/\∃m,i<m/\m<=d.length/\(∀j,i<j->j<m->bY (d.getD j 0)=true)/\lZ r d m k:=by
 rw[all_cons];constructor;·rintro⟨j,h1,m,h2,h3⟩;obtain⟨e1,rfl,e3⟩:=(jC _ _ _ _).1 h1;obtain⟨f1,f2,f3⟩:=(CU d (by omega)).1 h2;exact⟨e1,e3,m,by omega,f2,λj g1 g2=>f3 j (by omega) g2,h3⟩
 ·rintro⟨e1,e3,m,f1,f2,f3,h3⟩;exact⟨i+1,(jC _ _ _ _).2 ⟨e1,rfl,e3⟩,m,(CU d (by omega)).2 ⟨by omega,f2,λj g1 g2=>f3 j (by omega) g2⟩,h3⟩
theorem ab5 {A:List Nat} (hA:Apart A) (d:List Int):(∃i,bK (pT [pS A,pX]) d i d.length)↔Mem A (fZ d (cu d d.length)):=by
 rw[<-ES hA d (ay _)];constructor;·rintro⟨i,h⟩;obtain⟨_,h⟩:=(dJ _ _ _ _ _).1 h;obtain⟨e1,e2,m,f1,f2,f3,rfl⟩:=kN.1 h;exact⟨i,e1,e2,f3⟩
 ·rintro⟨i,h1,h2,h3⟩;exact⟨i,(dJ _ _ _ _ _).2 ⟨by omega,kN.2 ⟨h1,h2,d.length,h1,ay _,h3,rfl⟩⟩⟩
theorem ab6 {A B:List Nat} (hA:Apart A) (hB:Apart B) (d:List Int):(∃i,bK (pT [pS A,pX,pS B,pX]) d i d.length)↔Mem B (fZ d (cu d d.length))/\Mem A (fZ d (dB d (cu d d.length))):=by
 constructor;·rintro⟨i,h⟩;obtain⟨_,h⟩:=(dJ _ _ _ _ _).1 h;obtain⟨e1,e2,m,f1,f2,f3,h⟩:=kN.1 h;obtain⟨g1,g2,q,k1,k2,k3,rfl⟩:=kN.1 h;have hb:=GQ hB g1 g2 k3;refine⟨(ES hB d (ay _)).1 ⟨m,g1,g2,k3⟩,?_⟩;rw[hb,sF];exact(ES hA d (by omega)).1 ⟨i,f1,e2,f3⟩
 ·rintro⟨h1,h2⟩;obtain⟨m,e1,e2,e3⟩:=(ES hB d (ay _)).2 h1;rw[GQ hB e1 e2 e3,sF]at h2;obtain⟨i,f1,f2,f3⟩:=(ES hA d (iG e1)).2 h2;exact⟨i,(dJ _ _ _ _ _).2 ⟨by omega,kN.2 ⟨by omega,f2,m,f1,by omega,f3,kN.2 ⟨e1,e2,d.length,e1,ay _,e3,rfl⟩⟩⟩⟩
theorem GR (c:List Int):∀(f i:Nat),c.length<=f+i->i<=nU c f i/\(∀j,i<=j->j<nU c f i->bY (c.getD j 0)=true)/\(nU c f i<c.length->bY (c.getD (nU c f i) 0)=false)
 |0,i,h=>⟨ay _,λj e1 e2=>by unfold nU at e2;omega,λe=>by unfold nU at e;omega⟩
 |f+1,i,h=>by
  unfold nU;by_cases q:i<c.length/\bY (c.getD i 0)=true
  ·rw[au q];obtain⟨h1,h2,h3⟩:=GR c f (i+1) (by omega);refine⟨by omega,λj e1 e2=> ?_,h3⟩;rcases aF i j with e|e
   ·exact h2 j e e2
   ·obtain rfl:j=i:=by omega
    exact q.2
  ·rw[aj q];refine⟨ay _,λj e1 e2=>by omega,λe=> ?_⟩;rcases xE (bY (c.getD i 0))with g|g
   ·exact absurd ⟨e,g⟩ q
   ·exact g
theorem getD_drop (c:List Int) (n j:Nat):(c.drop n).getD j 0=c.getD (n+j) 0:=by rw[aG,aG,List.getElem?_drop]
theorem takeD (c:List Int) {n j:Nat} (h:j<n):(c.take n).getD j 0=c.getD j 0:=by rw[aG,aG,List.getElem?_take,au h]
theorem Y8 (B:List Nat) (c:List Int) (n:Nat) (hn:n<c.length):(∃k,bK (pS B) (c.drop n) 0 k)↔Mem B (c.getD n 0):=by
 constructor;·rintro⟨k,h⟩;have:=((jC _ _ _ _).1 h).2.2;rwa [getD_drop,dG]at this
 ·intro h;exact⟨1,(jC _ _ _ _).2 ⟨by rw[gP];omega,rfl,by rwa [getD_drop,dG]⟩⟩
theorem Y9 {B A:List Nat} (hA:Apart A) (c:List Int) (n:Nat) (hn:n<c.length):(∃k,bK (pT [pS B,pX,pS A]) (c.drop n) 0 k)↔Mem B (c.getD n 0)/\Mem A (BJ c n):=by
 obtain⟨s1,s2,s3⟩:=GR c (c.length-n) (n+1) (by omega);have hl:(c.drop n).length=c.length-n:=gP;unfold BJ;generalize nU c (c.length-n) (n+1)=q at*
 constructor
 ·rintro⟨k,h⟩;obtain⟨_,h⟩:=(dJ _ _ _ _ _).1 h;obtain⟨e1,e2,m,f1,f2,f3,j,g1,g2⟩:=kN.1 h;obtain⟨k1,k2,k3⟩:=(jC _ _ _ _).1 g1;rw[getD_drop]at e2 k3;refine⟨e2,?_⟩;have hq:q=n+m:=by
   rcases kZ q (n+m)with d|d|d;·have:=f3 (q-n) (by omega) (by omega);rw[getD_drop,show n+(q-n)=q by omega,s3 (by omega)]at this;cases this
   ·exact d
   ·have:=s2 (n+m) (by omega) d;rw[(hA _ k3).1]at this;cases this
  rw[hq,CV c (n+m) (by omega)];exact k3
 ·rintro⟨h1,h2⟩;have hq:q<c.length:=by
   rcases aF q c.length with d|d;·exact d
   ·unfold fZ at h2;rw[au (by omega)]at h2;exact absurd rfl (hA _ h2).2
  rw[CV c q hq]at h2;refine⟨q-n+1,(dJ _ _ _ _ _).2 ⟨by omega,kN.2 ⟨by omega,by rwa [getD_drop,dG],q-n,by omega,by omega,λj e1 e2=> ?_,q-n+1,(jC _ _ _ _).2 ⟨by omega,rfl,?_⟩,rfl⟩⟩⟩;·rw[getD_drop];exact s2 _ (by omega) (by omega)
  ·rw[getD_drop,show n+(q-n)=q by omega];exact h2
def Lp (x:Int):Prop:=x=7\/bY x=true
def kP (d:List Int) (i:Nat):Nat->Nat
 |0=>0
 |k+1=>if i<=k/\d.getD k 0=7 then kP d i k+1 else kP d i k
theorem Lr (d:List Int) (i k:Nat):kP d i (k+1)=if i<=k/\d.getD k 0=7 then kP d i k+1 else kP d i k:=rfl
theorem Wi (x:Int):Mem [7] x↔x=7:=by unfold Mem;simp only[eG,lJ];omega
theorem ET {x:Int} (h:bY x=true):x≠7:=by rintro rfl;cases h
theorem iU (d:List Int) (i:Nat):∀{k m:Nat},k<=m->(∀j,k<=j->j<m->i<=j->d.getD j 0≠7)->kP d i m=kP d i k
 |k,0,h,_=>by obtain rfl:k=0:=by omega
              rfl
 |k,m+1,h,hh=>by
  rcases aF k (m+1)with c|c;·rw[show kP d i (m+1)=if i<=m/\d.getD m 0=7 then kP d i m+1 else kP d i m from rfl,aj (λe=>hh m (by omega) (by omega) e.1 e.2)];exact iU d i (by omega) λj e1 e2=>hh j e1 (by omega)
  ·obtain rfl:k=m+1:=by omega
   rfl
theorem l5 (d:List Int) {i k:Nat} (h:i<=k) (e:d.getD k 0=7):kP d i (k+1)=kP d i k+1:=by rw[kP,au ⟨h,e⟩]
theorem kQ (d:List Int) {i:Nat}:∀{k:Nat},k<=i->kP d i k=0
 |0,_=>rfl
 |k+1,h=>by rw[kP,aj (by omega)];exact kQ d (by omega)
theorem je (d:List Int) {i k:Nat} (h:i<=k):∀{m:Nat},k<=m->kP d i m=kP d i k+kP d k m
 |0,hm=>by
  obtain rfl:k=0:=by omega
  rw[kQ d (ay 0),dG]
 |m+1,hm=>by
  rcases aF k (m+1)with c|c
  ·have ih:=je d h (m:=m) (by omega);rw[Lr d i m,Lr d k m];by_cases e:d.getD m 0=7
   ·rw[au ⟨by omega,e⟩,au ⟨by omega,e⟩,ih];omega
   ·rw[aj (λg=>e g.2),aj (λg=>e g.2)];exact ih
  ·obtain rfl:k=m+1:=by omega
   rw[kQ d (i:=m+1) (k:=m+1) (ay _)];rfl
theorem Wj {d:List Int} {i k:Nat} (h:bK (pT [pS [7],pX,pS [7],pX]) d i k):i<=k/\(∀j,i<=j->j<k->Lp (d.getD j 0))/\kP d i k=2:=by
 obtain⟨_,h⟩:=(dJ _ _ _ _ _).1 h;obtain⟨e1,e2,m,f1,f2,f3,h⟩:=kN.1 h;obtain⟨g1,g2,q,k1,k2,k3,rfl⟩:=kN.1 h;rw[Wi]at e2 g2;refine⟨by omega,λj a1 a2=> ?_,?_⟩
 ·rcases kZ j i with c|rfl|c
  ·omega
  ·exact .inl e2
  ·rcases kZ j m with c2|rfl|c2
   ·exact .inr (f3 j c c2)
   ·exact .inl g2
   ·exact .inr (k3 j c2 a2)
 ·rw[iU d i (k:=m+1) (by omega) (λj a1 a2 _=>ET (k3 j (by omega) a2)),l5 d (by omega) g2,iU d i (k:=i+1) (by omega) (λj a1 a2 _=>ET (f3 j (by omega) a2)),l5 d (ay _) e2,kQ d (ay _)]
theorem RQ {d:List Int} {i k:Nat} (hi:i<=d.length) (h:bK GN d i k):i<=k/\(∀j,i<=j->j<k->Lp (d.getD j 0))/\kP d i k%2=0:=by
 unfold GN at h;rw[xM _ _ _ _ _ hi]at h;induction h with
 |nil=>exact⟨ay _,λj h1 h2=>by omega,by rw[kQ d (ay _)]⟩
 |snoc _ s ih=>
  obtain⟨a1,a2,a3⟩:=ih;obtain⟨b1,b2,b3⟩:=Wj s;refine⟨by omega,λj h1 h2=> ?_,?_⟩
  ·rename_i m _ _;rcases aF j m with c|c
   ·exact a2 j h1 c
   ·exact b2 j c h2
  ·rw[je d a1 b1,b3];omega
theorem PW (d:List Int) (i:Nat):∀{n:Nat},0<kP d i n->∃p,i<=p/\p<n/\d.getD p 0=7/\∀j,i<=j->j<p->d.getD j 0≠7
 |0,h=>absurd h (dA 0)
 |n+1,h=>by
  by_cases c:0<kP d i n;·obtain⟨p,h1,h2,h3,h4⟩:=PW d i c;exact⟨p,h1,by omega,h3,h4⟩
  ·unfold kP at h;split at h
   ·rename_i e;refine⟨n,e.1,by omega,e.2,λj a1 a2 b=>c ?_⟩;have:=l5 d a1 b;have g:kP d i (j+1)<=kP d i n:=by rw[je d (show i<=j+1 by omega) (show j+1<=n by omega)];omega
    omega
   ·exact absurd h c
theorem aaj {d:List Int} {n:Nat} (hn:n=d.length):∀(f i:Nat),n<=f+i->i<n->d.getD i 0=7->(∀j,i<=j->j<n->Lp (d.getD j 0))->kP d i n%2=1->
 ∃m,Star (bK (pT [pS [7],pX,pS [7],pX]) d) i m/\m<n/\d.getD m 0=7/\∀j,m<j->j<n->bY (d.getD j 0)=true
 |0,i,h,hi,_,_,_=>by omega
 |f+1,i,h,hi,h7,hx,hc=>by
  have s1:=je d (show i<=i+1 by omega) (show i+1<=n by omega);rw[l5 d (ay _) h7,kQ d (ay _)]at s1;by_cases c:0<kP d (i+1) n
  ·obtain⟨p,a1,a2,a3,a4⟩:=PW d (i+1) c;have s2:=je d (show i+1<=p+1 by omega) (show p+1<=n by omega);rw[l5 d (by omega) a3,iU d (i+1) (k:=i+1) (m:=p) a1 (λj b1 b2 _=>a4 j b1 b2),kQ d (ay _)]at s2;obtain⟨q,b1,b2,b3,b4⟩:=PW d (p+1) (n:=n) (by omega);have s3:=je d (show p+1<=q by omega) (show q<=n by omega);rw[iU d (p+1) (k:=p+1) (m:=q) b1 (λj e1 e2 _=>b4 j e1 e2),kQ d (ay _)]at s3;obtain⟨m,e1,e2,e3,e4⟩:=aaj hn f q (by omega) b2 b3 (λj g1 g2=>hx j (by omega) g2) (by omega);have hp:bK (pT [pS [7],pX,pS [7],pX]) d i q:=by
    refine(dJ _ _ _ _ _).2 ⟨by omega,kN.2 ⟨by omega,(Wi _).2 h7,p,by omega,by omega,λj g1 g2=> ?_,kN.2 ⟨by omega,(Wi _).2 a3,q,by omega,by omega,λj g1 g2=> ?_,rfl⟩⟩⟩
    ·rcases hx j (by omega) (by omega)with e|e
     ·exact absurd e (a4 j (by omega) g2)
     ·exact e
    ·rcases hx j (by omega) (by omega)with e|e
     ·exact absurd e (b4 j (by omega) g2)
     ·exact e
   exact⟨m,(Star.one hp).trans e1,e2,e3,e4⟩
  ·refine⟨i, .nil,hi,h7,λj b1 b2=> ?_⟩;rcases hx j (by omega) b2 with e|e
   ·have:=l5 d (i:=i+1) (k:=j) (by omega) e;have g:=je d (show i+1<=j+1 by omega) (show j+1<=n by omega);omega
   ·exact e
theorem uO {d:List Int} {i:Nat} (hi:i<=d.length):lZ [pX,GN,pS [7],pX] d i d.length↔(∀j,i<=j->j<d.length->Lp (d.getD j 0))/\kP d i d.length%2=1:=by
 constructor
 ·rintro⟨a,h1,b,h2,h3⟩;obtain⟨e1,e2,e3⟩:=(CU d hi).1 h1;obtain⟨f1,f2,f3⟩:=RQ e2 h2;obtain⟨g1,g2,m,k1,k2,k3,rfl⟩:=kN.1 h3;rw[Wi]at g2;refine⟨λj a1 a2=> ?_,?_⟩
  ·rcases aF j a with c|c
   ·exact .inr (e3 j a1 c)
   ·rcases kZ j b with c2|rfl|c2
    ·exact f2 j c c2
    ·exact .inl g2
    ·exact .inr (k3 j c2 a2)
  ·rw[iU d i (k:=b+1) (by omega) (λj a1 a2 _=>ET (k3 j (by omega) a2)),l5 d (by omega) g2,je d e1 f1,iU d i (k:=i) e1 (λj a1 a2 _=>ET (e3 j a1 a2)),kQ d (ay _)];omega
 ·rintro⟨h1,h2⟩;obtain⟨p,a1,a2,a3,a4⟩:=PW d i (n:=d.length) (by omega);have s:=je d a1 (show p<=d.length by omega);rw[iU d i (k:=i) a1 (λj b1 b2 _=>a4 j b1 b2),kQ d (ay _)]at s;obtain⟨m,e1,e2,e3,e4⟩:=aaj rfl d.length p (by omega) a2 a3 (λj g1 g2=>h1 j (by omega) g2) (by omega);refine⟨p,(CU d hi).2 ⟨a1,by omega,λj b1 b2=> ?_⟩,m,?_,kN.2 ⟨e2,(Wi _).2 e3,d.length,e2,ay _,e4,rfl⟩⟩
  ·rcases h1 j b1 (by omega)with e|e
   ·exact absurd e (a4 j b1 b2)
   ·exact e
  ·unfold GN;rw[xM _ _ _ _ _ (by omega)];exact e1
theorem Ls (d:List Int):∀(f k:Nat),k<=f->k<=d.length->∃q,q<=k/\(∀j,q<=j->j<k->Lp (d.getD j 0))/\(q=0\/¬Lp (d.getD (q-1) 0))/\uI d f (cu d k)=kP d q k
 |0,k,hk,_=>by
  obtain rfl:k=0:=by omega
  exact⟨0,ay _,λj h1 h2=>by omega, .inl rfl,rfl⟩
 |f+1,k,hk,hl=>by
  rcases sD d k with⟨h1,h2⟩|⟨m,h1,h2,h3,h4⟩
  ·refine⟨0,aL _,λj _ e=> .inr (h2 j e), .inl rfl,?_⟩;rw[h1,uI,aj (by rw[PV];decide),iU d 0 (k:=0) (aL _) (λj _ e _=>ET (h2 j e))];rfl
  ·rw[h1,uI,CV d m (by omega)];by_cases c:d.getD m 0=7
   ·rw[au c,sF];obtain⟨q,e1,e2,e3,e4⟩:=Ls d f m (by omega) (by omega);refine⟨q,by omega,λj a1 a2=> ?_,e3,?_⟩
    ·rcases kZ j m with g|rfl|g
     ·exact e2 j a1 g
     ·exact .inl c
     ·exact .inr (h4 j g a2)
    ·rw[e4,iU d q (k:=m+1) h2 (λj a1 a2 _=>ET (h4 j (by omega) a2)),l5 d e1 c]
   ·rw[aj c];refine⟨m+1,h2,λj a1 a2=> .inr (h4 j (by omega) a2), .inr ?_,?_⟩
    ·rw[oH];rintro(g|g)
     ·exact c g
     ·rw[h3]at g;cases g
    ·rw[iU d (m+1) (k:=m+1) h2 (λj a1 a2 _=>ET (h4 j (by omega) a2)),kQ d (ay _)]
def pR1:PT:=pT [pX,GN,pS [7],pX]
def Wm:List Nat:=[0,1,2,3,8,9,10,11,12,13,14,15,16,17,18,19]
def pR2:PT:=pT [pS Wm,pX,GN,pS [7],pX]
theorem PX {x:Int} (h0:0<=x) (h1:x<=19):Mem Wm x↔¬Lp x:=by unfold Mem Wm Lp bY;simp only[aR,nQ,mU,oO,lJ,dI,cZ];omega
theorem Wn {d:List Int} (hd:∀j,j<d.length->0<=d.getD j 0/\d.getD j 0<=19) {f:Nat} (hf:d.length<=f):(bK pR1 d 0 d.length\/∃i,bK pR2 d i d.length)↔uI d f (cu d d.length)%2=1:=by
 obtain⟨q,e1,e2,e3,e4⟩:=Ls d f d.length hf (ay _);rw[e4];unfold pR1 pR2;constructor
 ·rintro(h|⟨i,h⟩)
  ·obtain⟨_,h⟩:=(dJ _ _ _ _ _).1 h;obtain⟨h1,h2⟩:=(uO (aL _)).1 h;rcases e3 with rfl|e3
   ·exact h2
   ·rcases jG q with rfl|c
    ·exact h2
    ·exact absurd (h1 (q-1) (aL _) (by omega)) e3
  ·obtain⟨_,j,h1,h2⟩:=(dJ _ _ _ _ _).1 h;obtain⟨g1,rfl,g2⟩:=(jC _ _ _ _).1 h1;obtain⟨k1,k2⟩:=(uO (by omega)).1 h2;rw[PX (hd i g1).1 (hd i g1).2]at g2;have hq:q=i+1:=by
    rcases kZ q (i+1)with c|c|c;·exact absurd (e2 i (by omega) g1) g2
    ·exact c
    ·rcases e3 with rfl|e3
     ·omega
     ·exact absurd (k1 (q-1) (by omega) (by omega)) e3
   rw[hq];exact k2
 ·intro h;rcases e3 with rfl|e3
  ·exact .inl ((dJ _ _ _ _ _).2 ⟨aL _,(uO (aL _)).2 ⟨e2,h⟩⟩)
  ·rcases jG q with rfl|c
   ·exact .inl ((dJ _ _ _ _ _).2 ⟨aL _,(uO (aL _)).2 ⟨e2,h⟩⟩)
   ·have hb:=hd (q-1) (by omega);exact .inr ⟨q-1,(dJ _ _ _ _ _).2 ⟨by omega,q,(jC _ _ _ _).2 ⟨by omega,by omega,(PX hb.1 hb.2).2 e3⟩,(uO e1).2 ⟨e2,h⟩⟩⟩
end
section
open Je (PT bit rows bK)
theorem up_pos (f:Nat->Bool) (k:Nat):0<(upF f k).length↔∃i,i<k/\f i=true:=by
 constructor;·intro h;obtain⟨x,hx⟩:=List.exists_mem_of_length_pos h;unfold upF at hx;obtain⟨i,hi,_⟩:=bX.1 hx;obtain⟨h1,h2⟩:=kg.1 hi;exact⟨i,nO.1 h1,h2⟩
 ·rintro⟨i,h⟩;exact List.length_pos_of_mem ((up_mem f k i).2 h)
theorem NY (p:PT) (d:List Int):0<(jB p d).length↔∃i,bK p d i d.length:=by unfold jB;rw[up_pos];exact⟨λ⟨i,_,h⟩=>⟨i,h⟩,λ⟨i,h⟩=>⟨i,by have:=(Je.K7 h).1;omega,h⟩⟩
theorem Lu (p:PT) (d:List Int):(0:Int)∈jB p d↔bK p d 0 d.length:=by unfold jB;rw[show(0:Int)=((0:Nat):Int)from rfl,up_mem];exact⟨λh=>h.2,λh=>⟨by omega,h⟩⟩
theorem Wo (p:PT) (d:List Int):0<(Aw p d).length↔∃k,bK p d 0 k:=by unfold Aw;rw[up_pos];exact⟨λ⟨i,_,h⟩=>⟨i,h⟩,λ⟨i,h⟩=>⟨i,by have:=(Je.K7 h).2;omega,h⟩⟩
theorem RS {w:World} {A:Option Addr} {n k:Nat} {c:List Int} (h:dx w A n c) (hk:k<=n):dx w A k (c.take k):=
 ⟨by rw[jh,h.len];omega,bF hk h.small,λh0=>by
  obtain⟨g,o,e,hg,hc⟩:=h.at_ (by omega);exact⟨g,o,e,hg,λj hj=>by rw[takeD c hj];exact hc j (by omega)⟩⟩
theorem RU {w:World} {g o n k:Nat} {c:List Int} (h:dx w (some ⟨g,o,none⟩) n c) (hk:k<n):dx w (some ⟨g,o+k,none⟩) (n-k) (c.drop k):=
 ⟨by rw[gP,h.len],bF (Nat.sub_le _ _) h.small,λh0=>by
  obtain⟨g',o',e,hg,hc⟩:=h.at_ (by omega);injection e with e;injection e with e1 e2;subst e1 e2;refine⟨g,o+k,rfl,hg,λj hj=> ?_⟩;rw[getD_drop,l8];exact hc (k+j) (by omega)⟩
def NZ (p:PT):Prop:=p9 p=true/\NT p=true/\kL p<=2000
structure zw where
 lop:Nat
 lA:Option Addr
 ln:Nat
 lc:Nat
 lB:Option Addr
 lm:Nat
 ld:Nat
 rop:Nat
 rA:Option Addr
 rn:Nat
 rc:Nat
 rB:Option Addr
 rm:Nat
 rd:Nat
def zw.cells (v:zw) (r:PR):Array Value:=#[.bool r.brk, .bool r.fst, .bool r.Y7, .int .i64 (v.lop:Nat), .slice v.lA v.ln v.lc, .slice v.lB v.lm v.ld, .int .i64 (v.rop:Nat), .slice v.rA v.rn v.rc, .slice v.rB v.rm v.rd]
structure EU (w:World) (v:zw) (r:PR):Prop where
 left:dR w (.int .i64 (v.lop:Nat)) (.slice v.lA v.ln v.lc) (.slice v.lB v.lm v.ld) r.left
 right:dR w (.int .i64 (v.rop:Nat)) (.slice v.rA v.rn v.rc) (.slice v.rB v.rm v.rd) r.right
 fl:NZ r.left
 fr:NZ r.right
theorem EU.below {w w':World} {v:zw} {r:PR} (h:EU w v r) (hb:Below w.heap.size w w'):EU w' v r:=⟨h.left.below hb,h.right.below hb,h.fl,h.fr⟩
structure RV (W:World) (cs:Array Value) (w:World):Prop where
 aN:Below W.heap.size W w
 o:w.heap[W.heap.size]? =some (.cells cs 203 (0,0))
theorem RV.go {W w w':World} {cs:Array Value} (h:RV W cs w) (hb:Below w.heap.size w w'):RV W cs w':=⟨h.aN.trans (hb.mono h.aN.size),iZ hb h.o⟩
theorem RV.drew {W w:World} {cs:Array Value} (h:RV W cs w):RV W cs w.drew:=⟨⟨h.aN.os,h.aN.tape,h.aN.output,h.aN.size,h.aN.block⟩,h.o⟩
theorem RV.start (W:World) (cs:Array Value):RV W cs (W.alloc (.cells cs 203)):=⟨(aK _ W).alloc (ay _) _,jl W _⟩
theorem RV.c {W w:World} {cs:Array Value} (h:RV W cs w) (i:Nat):w.cell? ⟨W.heap.size,i,none⟩=cs[i]? :=(fu w W.heap.size i _ _ _ h.o).trans rfl
theorem N7 (v:zw) (r:PR) (c:List Int) (g o n cc at_:Nat) (W:World) (hR:EU W v r) (hI:dx W (some ⟨g,o,none⟩) n c) (h1:1<=at_) (h2:at_<n) (h64:n+1<64) (hcc:n<=cc) (hl:r.Y7=false):
 Calls Tryz.prog 128 #[.agg (v.cells r), .slice (some ⟨g,o,none⟩) n cc, .int .i64 at_] W λe w'=>∃q:Bool,e= .returned (.bool q)/\(q=true↔Fz r c at_)/\Below W.heap.size W w':=by
 obtain⟨brk,fst,Y7,left,right⟩:=r;obtain rfl:Y7=false:=hl;obtain⟨lop,lA,ln,lc,lB,lm,ld,rop,rA,rn,rc,rB,rm,rd⟩:=v;have HR:=ah hR;have HI:=ah hI;unfold zw.cells;dsimp only;have HB0:=ah (RV.start W #[.bool brk, .bool fst, .bool false, .int .i64 (lop:Nat), .slice lA ln lc, .slice lB lm ld, .int .i64 (rop:Nat), .slice rA rn rc, .slice rB rm rd]);have y1:=(HB0.out.c 1).trans rfl;have y2:=(HB0.out.c 2).trans rfl;have y3:=(HB0.out.c 3).trans rfl;have y4:=(HB0.out.c 4).trans rfl;have y5:=(HB0.out.c 5).trans rfl;have y6:=(HB0.out.c 6).trans rfl;have y7:=(HB0.out.c 7).trans rfl;have y8:=(HB0.out.c 8).trans rfl;have hd1:¬(at_:Int)<0:=by omega
 have hd2:¬(n:Int)<at_:=by omega
 have hd3:¬n<at_:=by omega
 have HGL:=ah (λ(w:World) (hb:Below W.heap.size W w)=>zo left HR.out.fl.1 HR.out.fl.2.2 _ _ _ w (HR.out.left.below hb));have HGR:=ah (λ(w:World) (hb:Below W.heap.size W w)=>zo right HR.out.fr.1 HR.out.fr.2.2 _ _ _ w (HR.out.right.below hb));clear hR hI;go_enter Tryz.func128,Tryz.ntmps128;go_upto_region 3 with(first
  |(refine(HGL.out _ HB0.out.aN).mono ?_;rintro e w2 ⟨rfl,hb⟩;have HB2:=ah (HB0.out.go hb);clear hb y1 y2 y3 y4 y5 y6 y7 y8;have y6:=(HB2.out.c 6).trans rfl;have y7:=(HB2.out.c 7).trans rfl;have y8:=(HB2.out.c 8).trans rfl)
  |(refine(HGR.out _ HB2.out.aN).mono ?_;rintro e w3 ⟨rfl,hb⟩;have HB3:=ah (HB2.out.go hb);clear hb y6 y7 y8))
 have alW:(at_:Int)<=cc:=by omega
 have alX:(0:Int)<=at_:=by omega
 have hca:¬cc=at_:=by omega
 have alY:(at_:Int)<=n:=by omega
 obtain⟨cs,hcs⟩:∃cs:Array Value,#[.bool brk, .bool fst, .bool false, .int .i64 (lop:Nat), .slice lA ln lc, .slice lB lm ld, .int .i64 (rop:Nat), .slice rA rn rc, .slice rB rm rd]=cs:=⟨_,rfl⟩
 rw[hcs]at HB3;have vZ:=ah hcs;clear hcs;go_cut [7] (λq wx=>∃A4 n4 c4,q= .slice A4 n4 c4/\dx wx A4 n4 (jB left (c.take at_))/\RV W cs wx);case first=>
  have CP:=ah HB3.out.drew;have y3:w3.drew.cell? ⟨W.heap.size,3,none⟩=some (.int .i64 (lop:Nat)):=by rw[CP.out.c 3,<-vZ.out];rfl
  have y4:w3.drew.cell? ⟨W.heap.size,4,none⟩=some (.slice lA ln lc):=by rw[CP.out.c 4,<-vZ.out];rfl
  have y5:w3.drew.cell? ⟨W.heap.size,5,none⟩=some (.slice lB lm ld):=by rw[CP.out.c 5,<-vZ.out];rfl
  go_region_law (go_simp;refine(RJ left HR.out.fl.1 HR.out.fl.2.1 HR.out.fl.2.2 (c.take at_) _ _ _ (some ⟨g,o,none⟩) at_ cc _ (HR.out.left.below CP.out.aN) (RS (ig HI.out CP.out.aN) (by omega)) (by omega)).mono ?_;rintro e w4 ⟨A4,n4,c4,rfl,hI4,hb⟩;have HI4:=Lib.hid hI4;have YW:=Lib.hid (CP.out.go hb);clear hI4 hb;dsimp only);all_goals go_wp2_with fail
  all_goals go_meet
  all_goals exact⟨_,_,_,rfl,HI4.out,YW.out⟩
 case rest=>
  obtain⟨A4,n4,c4,rfl,hI4,hB4⟩:=hcut;have HI4:=ah hI4;have YW:=ah hB4;clear hI4 hB4;go_upto_region 4 with fail;go_cut [8] (λq wx=>∃A5 n5 c5,q= .slice A5 n5 c5/\dx wx A5 n5 (Aw right (c.drop at_))/\dx wx A4 n4 (jB left (c.take at_))/\RV W cs wx);case first=>
   have CP:=ah YW.out.drew;have HId:=ah (show dx wc.drew A4 n4 (jB left (c.take at_))from⟨HI4.out.len,HI4.out.small,HI4.out.at_⟩);have y6:wc.drew.cell? ⟨W.heap.size,6,none⟩=some (.int .i64 (rop:Nat)):=by rw[CP.out.c 6,<-vZ.out];rfl
   have y7:wc.drew.cell? ⟨W.heap.size,7,none⟩=some (.slice rA rn rc):=by rw[CP.out.c 7,<-vZ.out];rfl
   have y8:wc.drew.cell? ⟨W.heap.size,8,none⟩=some (.slice rB rm rd):=by rw[CP.out.c 8,<-vZ.out];rfl
   go_region_law (go_simp;(refine(Y1 right HR.out.fr.1 HR.out.fr.2.1 HR.out.fr.2.2 (c.drop at_) _ _ _ (some ⟨g,o+at_,none⟩) (n-at_) (cc-at_) _ (HR.out.right.below CP.out.aN) (RU (ig HI.out CP.out.aN) h2) (by omega)).mono ?_);rintro e w5 ⟨A5,n5,c5,rfl,hI5,hb⟩;have HI5:=Lib.hid hI5;have HI6:=Lib.hid (ig HId.out hb);have HB5:=Lib.hid (CP.out.go hb);clear hI5 hb;dsimp only);all_goals go_wp2_with fail
   all_goals go_meet
   all_goals exact⟨_,_,_,rfl,HI5.out,HI6.out,HB5.out⟩
  case rest=>
   obtain⟨A5,n5,c5,rfl,hI5,hI6,Za⟩:=hcut;have y1:wc.cell? ⟨W.heap.size,1,none⟩=some (.bool fst):=by rw[Za.c 1,<-vZ.out];rfl
   have Xc:=ah (HI.out.len);have htl:(c.take at_).length=at_:=by rw[jh,HI.out.len];omega
   have hdl:(c.drop at_).length=n-at_:=by rw[gP,HI.out.len]
   have p4:=NY left (c.take at_);have p5:=Wo right (c.drop at_);have p0:=Lu left (c.take at_);rw[htl]at p4 p0;rw[hI6.len]at p4;rw[hI5.len]at p5;have HP4:=ah p4;have HP5:=ah p5;have HP0:=ah p0;have xU:=ah Za.aN;have HC0:=ah (YP (jB left (c.take at_)) 0 A4 n4 c4 wc ⟨hI6.len,hI6.small,hI6.at_⟩);obtain⟨q0,hq0⟩:∃q,decide ((0:Int)∈jB left (c.take at_))=q:=⟨_,rfl⟩
   rw[hq0]at HC0;have HQ0:=ah hq0;have HS4:=ah hI6.small;have HS5:=ah hI5.small;have HQB:=ah (λq=>show Below W.heap.size W (wc.drewN q)from⟨Za.aN.os,Za.aN.tape,Za.aN.output,Za.aN.size,Za.aN.block⟩);have HY2:=ah (show wc.cell? ⟨W.heap.size,2,none⟩=some (.bool false)by rw[Za.c 2,<-vZ.out];rfl);clear htl hdl p4 p5 p0 hq0 hI5 hI6 Za;have y2:=HY2.out;rcases jG n4 with h4|h4;·subst h4;go_wp2_with fail;go_ret;exact⟨false,rfl,⟨λe=>Bool.noConfusion e,λe=>absurd (HP4.out.2 e.1) (dA 0)⟩,xU.out⟩
   have h40:((n4:Int)==0)=false:=dH.2 (by omega);rcases jG n5 with h5|h5;·subst h5;go_wp2_with fail;go_ret;exact⟨false,rfl,⟨λe=>Bool.noConfusion e,λe=>absurd (HP5.out.2 e.2.1) (dA 0)⟩,xU.out⟩
   have h50:((n5:Int)==0)=false:=dH.2 (by omega);cases fst with
   |false=>go_wp2_with fail;go_ret;exact⟨true,rfl,⟨λ_=>⟨HP4.out.1 h4,HP5.out.1 h5,λe=>Bool.noConfusion e,λe=>Bool.noConfusion e⟩,λ_=>rfl⟩,xU.out⟩
   |true=>
    cases q0 with
    |false=>go_wp2_with (go_at_call 183;refine HC0.out.mono ?_;rintro e w7 ⟨rfl,rfl⟩);go_ret;exact⟨false,rfl,⟨λe=>Bool.noConfusion e,λe=>absurd (HP0.out.2 (e.2.2.1 rfl)) (of_decide_eq_false HQ0.out)⟩,xU.out⟩
    |true=>go_wp2_with (go_at_call 183;refine HC0.out.mono ?_;rintro e w7 ⟨rfl,rfl⟩);go_ret;exact⟨true,rfl,⟨λ_=>⟨HP4.out.1 h4,HP5.out.1 h5,λ_=>HP0.out.1 (gK HQ0.out),λe=>Bool.noConfusion e⟩,λ_=>rfl⟩,xU.out⟩
end
section
open Je (PT bit rows bK)
structure Bx (t:Nat) (W:World) (cs:Array Value) (w:World):Prop where
 aN:Below W.heap.size W w
 o:w.heap[W.heap.size]? =some (.cells cs t (0,0))
theorem Bx.go {t:Nat} {W w w':World} {cs:Array Value} (h:Bx t W cs w) (hb:Below w.heap.size w w'):Bx t W cs w':=⟨h.aN.trans (hb.mono h.aN.size),iZ hb h.o⟩
theorem Bx.start (t:Nat) (W:World) (cs:Array Value):Bx t W cs (W.alloc (.cells cs t)):=⟨(aK _ W).alloc (ay _) _,jl W _⟩
theorem Bx.c {t:Nat} {W w:World} {cs:Array Value} (h:Bx t W cs w) (i:Nat):w.cell? ⟨W.heap.size,i,none⟩=cs[i]? :=(fu w W.heap.size i _ _ _ h.o).trans rfl
structure o9 (w:World) (g o:Nat) (rs:List PR):Prop where
 blk:g<w.heap.size
 small:rs.length<=64
 at_:∀i r,rs[i]? =some r->r.Y7=false/\∃v:zw,EU w v r/\∀k x,(v.cells r)[k]? =some x->w.cell? ⟨g,o+i*9+k,none⟩=some x
theorem o9.below {w w':World} {g o:Nat} {rs:List PR} (h:o9 w g o rs) (hb:Below w.heap.size w w'):o9 w' g o rs:=
 ⟨bJ h.blk hb.size,h.small,λi r hr=>by
  obtain⟨hl,v,hv,hc⟩:=h.at_ i r hr;exact⟨hl,v,hv.below hb,λk x hx=>(hb.cell (p:=⟨g,o+i*9+k,none⟩) h.blk).trans (hc k x hx)⟩⟩
theorem Jk {rest:Bool} {c:List Int} {at_:Nat} {b:Bool} {rs:List PR} {i:Nat} {r:PR} (hr:rs[i]? =some r) (hn:¬Fz r c at_) (h:iJ rest c at_ b (rs.drop (i+1))):iJ rest c at_ b (rs.drop i):=by rw[pK (pJ.1 hr).1];rw[(pJ.1 hr).2];exact .inr ⟨hn,h⟩
theorem Jl {rest:Bool} {c:List Int} {at_:Nat} {rs:List PR} {i:Nat} {r:PR} (hr:rs[i]? =some r) (ha:Fz r c at_):iJ rest c at_ r.brk (rs.drop i):=by rw[pK (pJ.1 hr).1];rw[(pJ.1 hr).2];exact .inl ⟨ha,rfl⟩
theorem RX (rs:List PR) (rest:Bool) (c:List Int) (g gr og o n cc cr at_:Nat) (W:World) (hR:o9 W gr og rs) (hI:dx W (some ⟨g,o,none⟩) n c) (h1:1<=at_) (h2:at_<n) (h64:n+1<64) (hcc:n<=cc):
 Calls Tryz.prog 161 #[.agg #[.slice (some ⟨gr,og,none⟩) rs.length cr, .bool rest], .slice (some ⟨g,o,none⟩) n cc, .int .i64 at_] W λe w'=>∃(q:Bool) (x:Int),e= .returned (.tuple #[.bool q, .int .i64 x])/\iJ rest c at_ q rs/\Below W.heap.size W w':=by
 have HR:=ah hR;have HI:=ah hI;have HB0:=ah (Bx.start 122 W #[.slice (some ⟨gr,og,none⟩) rs.length cr, .bool rest]);have hsm:=hR.small;have hd0:((n:Int)==0)=false:=dH.2 (by omega);have hd1:¬(at_:Int)<0:=by omega
 have hd2:¬(n:Int)<at_:=by omega
 have hd3:((at_:Int)==0)=false:=dH.2 (by omega);have hd4:((at_:Int)==n)=false:=dH.2 (by omega);obtain⟨N,hN⟩:∃N,rs.length=N:=⟨_,rfl⟩
 have HN:=ah hN;rw[hN]at HB0 hsm⊢;clear hR hI hN;go_enter Tryz.func161,Tryz.ntmps161;go_wp2_with fail;go_loopw [8] (λvi wr=>∃i:Nat,i<=N/\vi= .int .i64 i/\Bx 122 W #[.slice (some ⟨gr,og,none⟩) N cr, .bool rest] wr/\∀q,iJ rest c at_ q (rs.drop i)->iJ rest c at_ q rs) (λvi _=>N-(RowKit.intOf vi).toNat);case atStart=>exact⟨0,aL _,rfl,HB0.out,λ_ h=>h⟩
 case round=>
  obtain⟨i,hi,rfl,hB,hD⟩:=hrel;have HB:=ah hB;have HD:=ah hD;clear hB hD;have y0:=(HB.out.c 0).trans rfl;have y1:=(HB.out.c 1).trans rfl;by_cases hlt:i<N
  ·obtain⟨r,hr⟩:∃r,rs[i]? =some r:=⟨_,aS (by rw[HN.out];exact hlt)⟩
   obtain⟨hl,v,hv,hc⟩:=HR.out.at_ i r hr;have HV:=ah hv;have HRR:=ah hr;have HA:=ah (N7 v r c g o n cc at_ wr (hv.below HB.out.aN) (ig HI.out HB.out.aN) h1 h2 h64 hcc hl);have hcell:∀k x,(v.cells r)[k]? =some x->wr.cell? ⟨gr,og+i*9+k,none⟩=some x:=λk x hx=>(HB.out.aN.cell (p:=⟨gr,og+i*9+k,none⟩) HR.out.blk).trans (hc k x hx);have k0:wr.cell? ⟨gr,og+i*9,none⟩=some (.bool r.brk):=hcell 0 _ rfl;have k1:wr.cell? ⟨gr,og+i*9+1,none⟩=some (.bool r.fst):=hcell 1 _ rfl;have k2:wr.cell? ⟨gr,og+i*9+2,none⟩=some (.bool r.Y7):=hcell 2 _ rfl;have k3:wr.cell? ⟨gr,og+i*9+3,none⟩=some (.int .i64 (v.lop:Nat)):=hcell 3 _ rfl;have k4:wr.cell? ⟨gr,og+i*9+4,none⟩=some (.slice v.lA v.ln v.lc):=hcell 4 _ rfl;have k5:wr.cell? ⟨gr,og+i*9+5,none⟩=some (.slice v.lB v.lm v.ld):=hcell 5 _ rfl;have k6:wr.cell? ⟨gr,og+i*9+6,none⟩=some (.int .i64 (v.rop:Nat)):=hcell 6 _ rfl;have k7:wr.cell? ⟨gr,og+i*9+7,none⟩=some (.slice v.rA v.rn v.rc):=hcell 7 _ rfl;have k8:wr.cell? ⟨gr,og+i*9+8,none⟩=some (.slice v.rB v.rm v.rd):=hcell 8 _ rfl;clear hv hr hc hcell hl;unfold zw.cells at HA;have hii:(i:Int)<N:=by omega
   have hi0:(0:Int)<=i:=by omega
   have wI:=ah (show wrap64 ((i:Int)+1)=((i+1:Nat):Int)by unfold wrap64;omega);go_wp2_with (go_at_call 128;refine HA.out.mono ?_;rintro e w2 ⟨q,rfl,hq,hb⟩;have HB2:=ah (HB.out.go hb);have k0:=(hb.cell (p:=⟨gr,og+i*9,none⟩) (bJ HR.out.blk HB.out.aN.size)).trans k0;have y0:=(HB2.out.c 0).trans rfl;have y1:=(HB2.out.c 1).trans rfl;have HQ:=ah hq;clear hb hq;cases q);·(try rw[wI.out]);exact⟨⟨i+1,hlt,rfl,HB2.out,λq h=>HD.out q (Jk HRR.out (λe=>by have:=HQ.out.2 e;simp at this) h)⟩,by simp[RowKit.intOf];omega⟩
   ·exact rX (results_tmp2 rfl _ _ _) rfl ⟨_,_,rfl,HD.out _ (Jl HRR.out (HQ.out.1 (by trivial))),HB2.out.aN⟩
  ·obtain rfl:i=N:=by omega
   go_wp2;exact rX (results_tmp2 rfl _ _ _) rfl ⟨_,_,rfl,HD.out _ (by rw[List.drop_of_length_le (Nat.le_of_eq HN.out)];exact rfl),HB.out.aN⟩
end
section
open Je (PT bit rows bK)
theorem Wp (rs:List PR) (rest:Bool) (g gr og o n cc cr:Nat) (W:World) (h1:1<=n) (h64:n<64):
 Calls Tryz.prog 161 #[.agg #[.slice (some ⟨gr,og,none⟩) rs.length cr, .bool rest], .slice (some ⟨g,o,none⟩) n cc, .int .i64 0] W λe w'=>e= .returned (.tuple #[.bool true, .int .i64 (-1)])/\Below W.heap.size W w':=by
 have HB0:=ah (Bx.start 122 W #[.slice (some ⟨gr,og,none⟩) rs.length cr, .bool rest]);have hd0:((n:Int)==0)=false:=dH.2 (by omega);have hd2:¬(n:Int)<0:=by omega
 go_enter Tryz.func161,Tryz.ntmps161;go_wp2_with fail;exact rX (results_tmp2 rfl _ _ _) rfl ⟨rfl,HB0.out.aN⟩
theorem Wq (rs:List PR) (rest:Bool) (g gr og o n cc cr:Nat) (W:World) (h1:1<=n) (h64:n<64):
 Calls Tryz.prog 161 #[.agg #[.slice (some ⟨gr,og,none⟩) rs.length cr, .bool rest], .slice (some ⟨g,o,none⟩) n cc, .int .i64 n] W λe w'=>e= .returned (.tuple #[.bool true, .int .i64 (-1)])/\Below W.heap.size W w':=by
 have HB0:=ah (Bx.start 122 W #[.slice (some ⟨gr,og,none⟩) rs.length cr, .bool rest]);have hd0:((n:Int)==0)=false:=dH.2 (by omega);have hd1:¬(n:Int)<0:=by omega
 have hd2:¬(n:Int)<n:=by omega
 go_enter Tryz.func161,Tryz.ntmps161;go_wp2_with fail;exact rX (results_tmp2 rfl _ _ _) rfl ⟨rfl,HB0.out.aN⟩
def pq (cut:Nat->Bool) (n i:Nat):Bool:=decide (i=0)||decide (i=n)||cut i
theorem N8 (rs:List PR) (rest:Bool) (cut:Nat->Bool) (c:List Int) (g gr og o n cc cr at_:Nat) (W:World) (hcut:∀k b,1<=k->k<n->iJ rest c k b rs->b=cut k) (hR:o9 W gr og rs) (hI:dx W (some ⟨g,o,none⟩) n c) (h1:1<=n) (h2:at_<=n) (h64:n+1<64) (hcc:n<=cc):
 Calls Tryz.prog 161 #[.agg #[.slice (some ⟨gr,og,none⟩) rs.length cr, .bool rest], .slice (some ⟨g,o,none⟩) n cc, .int .i64 at_] W λe w'=>∃(x:Int),e= .returned (.tuple #[.bool (pq cut n at_), .int .i64 x])/\Below W.heap.size W w':=by
 by_cases c0:at_=0;·subst c0;refine(Wp rs rest g gr og o n cc cr W h1 (by omega)).mono ?_;rintro e w ⟨rfl,hb⟩;exact⟨_,rfl,hb⟩
 by_cases cn:at_=n;·subst cn;refine(Wq rs rest g gr og o at_ cc cr W h1 (by omega)).mono ?_;rintro e w ⟨rfl,hb⟩;exact⟨-1,by simp[pq],hb⟩
 refine(RX rs rest c g gr og o n cc cr at_ W hR hI (by omega) (by omega) h64 hcc).mono ?_;rintro e w ⟨q,x,rfl,hd,hb⟩;exact⟨x,by rw[hcut at_ q (by omega) (by omega) hd];simp[pq,c0,cn],hb⟩
theorem Lx (rs:List PR) (rest:Bool) (cut:Nat->Bool) (c:List Int) (g gr og o n cc cr:Nat) (W:World) (hcut:∀k b,1<=k->k<n->iJ rest c k b rs->b=cut k) (hR:o9 W gr og rs) (hI:dx W (some ⟨g,o,none⟩) n c) (h1:1<=n) (h64:n+1<64) (hcc:n<=cc):
 Calls Tryz.prog 109 #[.agg #[.slice (some ⟨gr,og,none⟩) rs.length cr, .bool rest], .slice (some ⟨g,o,none⟩) n cc] W (jO (upF (pq cut n) (n+1)) W):=by
 have HD:=ah (λ(k:Nat) (w:World) (hb:Below W.heap.size W w) (hk:k<=n)=>N8 rs rest cut c g gr og o n cc cr k w hcut (hR.below hb) (ig hI hb) h1 hk h64 hcc);clear hR hI hcut;obtain⟨N,hN⟩:∃N,rs.length=N:=⟨_,rfl⟩
 rw[hN]at HD⊢;obtain⟨f,hf⟩:∃f,pq cut n=f:=⟨_,rfl⟩
 rw[hf]at HD⊢;clear hN hf;obtain⟨i0,hI0,hz0,hz1,hz2⟩:=gW lY;obtain⟨w1,hw1⟩:∃w1,W.alloc (.cells #[.slice (some ⟨gr,og,none⟩) N cr, .bool rest] 122)=w1:=⟨_,rfl⟩
 have HB0:=ah (Bx.start 122 W #[.slice (some ⟨gr,og,none⟩) N cr, .bool rest]);rw[hw1]at HB0;have HW1:=ah hw1;clear hw1;have hn0:((n:Int)+1:Int)=((n+1:Nat):Int):=by omega
 clear hn0;go_enter Tryz.func109,Tryz.ntmps109;go_wp2_with fail;rw[HW1.out];go_loopw [5,6] (λvo vi wr=>∃(i m:Nat) (Ao:Option Addr) (co:Nat),i<=n+1/\m<=i/\vi= .int .i64 i/\vo= .slice Ao m co/\IA w1 (.slice Ao m co) m (upF f i) wr) (λ_ vi _=>n+1-(RowKit.intOf vi).toNat);case atStart=>exact⟨0,0,none,0,aL _,ay _,rfl,rfl,IA.nil w1⟩
 case round=>
  obtain⟨i,m,Ao,co,hi,V5,rfl,rfl,hA⟩:=hrel;have HA:=ah hA;have HB:=ah (HB0.out.go hA.aN);clear hA;have y0:=(HB.out.c 0).trans rfl;have y1:=(HB.out.c 1).trans rfl;by_cases hlt:i<=n
  ·have BD:=up_succ f i;have HDI:=ah (HD.out i wr HB.out.aN hlt);obtain⟨q,hq⟩:∃q,f i=q:=⟨_,rfl⟩
   rw[hq]at BD HDI;have hii:(i:Int)<=n:=by omega
   have hi0:(0:Int)<=i:=by omega
   have wI:=ah (show wrap64 ((i:Int)+1)=((i+1:Nat):Int)by unfold wrap64;omega);have HLEN:=ah (NK (show m<=100000 by omega));have HMI:=ah V5;clear hq V5;cases q with
   |true=>
    have V6:=ah (show upF f (i+1)=upF f i++[(i:Int)]by rw[BD,au rfl]);clear BD;go_wp2_with (first
     |(go_at_call 161;refine HDI.out.mono ?_;rintro e w4 ⟨x,rfl,hb⟩;have Y5:=ah (HA.out.below hb);clear hb)
     |(at_builtin;refine eD _ rfl (.tmp 23) (.tmp 25) 41 rfl w1.heap.size 3 i0 _ 8 Tryz.underlying41 hI0 hz0 hz1 hz2 rfl (.slice Ao m co) m (dF (upF f i)) rfl Y5.out.kE _ 1 1 [.int .i64 i] rfl (gX _ _ _) (by simp[Value.oneCell']) HLEN.out.1 HLEN.out.2 (by rw[World.size_alloc];have:=Y5.out.aN.size;omega) ?_;intro v' wp ho hg hn;obtain⟨B1,d1,rfl,_⟩:=bA ho;have Fe:=Lib.hid (Y5.out.grow ho hg);clear ho hg hn))
    (try rw[wI.out]);exact⟨⟨i+1,m+1,_,_,by omega,Nat.succ_le_succ HMI.out,rfl,rfl,by rw[V6.out];exact Fe.out⟩,by simp[RowKit.intOf];omega⟩
   |false=>have V6:=ah (show upF f (i+1)=upF f i by rw[BD,aj (by decide),ji]);clear BD;go_wp2_with (go_at_call 161;refine HDI.out.mono ?_;rintro e w4 ⟨x,rfl,hb⟩;have Y5:=ah (HA.out.below hb);clear hb);(try rw[wI.out]);exact⟨⟨i+1,m,_,_,by omega,Nat.le_succ_of_le HMI.out,rfl,rfl,by rw[V6.out];exact Y5.out⟩,by simp[RowKit.intOf];omega⟩
  ·obtain rfl:i=n+1:=by omega
   have HM:=ah (show m<=100000 by omega);have hii:¬((n+1:Nat):Int)<=n:=by omega
   clear V5;go_wp2;go_ret;exact⟨Ao,m,co,rfl,kF HA.out.own HM.out,HB.out.aN⟩
end
theorem RY (t:List UInt8) {k:Nat} (h:k<=(marks t).length):(jJ t).getD k 0=if k<(marks t).length then(jR t).getD k 0 else(t.length:Int):=by
 unfold jJ;rw[aG,aG];by_cases c:k<(marks t).length;·rw[au c,pF (by rw[sj];exact c)]
 ·obtain rfl:k=(marks t).length:=by omega
  rw[aj c,pG (by rw[sj];exact ay _),sj,uR];rfl
def AJ (es:List Int) (f:Nat->Bool) (n:Nat):List Int:=((List.range n).filter f).map λk=>es.getD k 0
theorem upF_get (es:List Int) (f:Nat->Bool) (n:Nat) {j:Nat} (hj:j<(upF f n).length):∃k,k<n/\(upF f n).getD j 0=(k:Int)/\(AJ es f n).getD j 0=es.getD k 0:=by
 unfold upF at hj⊢;rw[bM]at hj;refine⟨((List.range n).filter f)[j],?_,?_,?_⟩;·exact nO.1 (kg.1 (iN hj)).1
 ·rw[aG,fq,aS hj];rfl
 ·unfold AJ;rw[aG,fq,aS hj];rfl
theorem LA (es:List Int) (f:Nat->Bool) (n:Nat):(AJ es f n).length=(upF f n).length:=by unfold AJ upF;rw[bM,bM]
theorem Ws {l:List Int} {j:Nat} (h:j<l.length):l.take (j+1)=l.take j++[l.getD j 0]:=by rw[List.take_add_one,aS h,aG,aS h];rfl
structure GU (w:World) (v:Value) (R:List fI) (N:Nat) (rs:List PR) (rest:Bool):Prop where
 at_:∃g o d gr og cr,v= .pointer (some ⟨g,o,none⟩)/\g<w.heap.size/\w.cell? ⟨g,o,none⟩=some d/\w.cell? ⟨g,o+1,none⟩=some (.slice (some ⟨gr,og,none⟩) rs.length cr)/\w.cell? ⟨g,o+2,none⟩=some (.bool rest)/\DbT w d R N/\o9 w gr og rs
theorem LB (R:List fI) (NN:Nat) (hT:GL R NN) (t:List UInt8) (v:Value) (rs:List PR) (rest:Bool) (W:World) (hB:GU W v R NN rs rest) (hn:t.length<=10000) (cut:Nat->Bool) (h64:(marks t).length+1<64) (hne:t≠[]) (h1:1<=(marks t).length)
 (hcut:∀k b,1<=k->k<(marks t).length->iJ rest (sw R t) k b rs->b=cut k):
 Calls Tryz.prog 64 #[v, .string ⟨t.toArray⟩] W (jO (AJ (jJ t) (pq cut (marks t).length) ((marks t).length+1)) W):=by
 obtain⟨M,hM⟩:∃M,(marks t).length=M:=⟨_,rfl⟩
 obtain⟨s,hs⟩:∃s:ByteArray,(⟨t.toArray⟩:ByteArray)=s:=⟨_,rfl⟩
 have hs0:((s.size:Int)==0)=false:=by rw[size_mk t s hs,dH];have:=List.length_pos_iff.2 hne;omega
 obtain⟨g,o,d,gr,og,cr,rfl,hg,c0,c1,c2,hD,hR⟩:=hB.at_;have HED:=ah (λw=>RP t w hn);have HOF:=ah (λ(w:World) (hb:Below W.heap.size W w)=>ab4 R NN hT t d w (mW hD hb) hn);rw[hs]at HED HOF⊢;have Xc:=ah (Ll R t);rw[hM]at h64 h1 hcut Xc⊢;have HB8:=ah (λ(w:World) (hb:Below W.heap.size W w) (A n c) (hI:dx w A n (sw R t)) (hcc:n<=c)=>show Calls Tryz.prog 109 #[.agg #[.slice (some ⟨gr,og,none⟩) rs.length cr, .bool rest], .slice A n c] w (jO (upF (pq cut M) (M+1)) w)from by
  obtain rfl:n=M:=by rw[<-hI.len,Xc.out]
  obtain⟨g',o',rfl,_⟩:=hI.at_ (by omega);exact Lx rs rest cut (sw R t) g' gr og o' n c cr w hcut (hR.below hb) hI h1 h64 hcc)
 have HEG:=ah (show(jJ t).length=M+1 by unfold jJ;rw[bV,sj,hM];rfl);generalize jJ t=es at*
 generalize sw R t=cs at*
 obtain⟨N,hN⟩:∃N,rs.length=N:=⟨_,rfl⟩
 rw[hN]at c1 HB8;obtain⟨f,hf⟩:∃f,pq cut M=f:=⟨_,rfl⟩
 rw[hf]at HB8⊢;clear hf hN hD hR hcut hn hs hM hB hne hT;have HC:=ah (λ(w:World) (hb:Below W.heap.size W w)=>And.intro ((hb.cell (p:=⟨g,o,none⟩) hg).trans c0) (And.intro ((hb.cell (p:=⟨g,o+1,none⟩) hg).trans c1) ((hb.cell (p:=⟨g,o+2,none⟩) hg).trans c2)));obtain⟨i0,hI0,hz0,hz1,hz2⟩:=gW lY;go_enter Tryz.func64,Tryz.ntmps64;go_upto_region 4 with(go_at_call 108;refine(HED.out _).mono ?_;rintro e w1 ⟨A1,n1,k1,rfl,hI,hb⟩;have HI1:=ah hI;have HB1:=ah hb;clear hI hb)
 have CP:=ah (show Below W.heap.size W w1.drew from⟨HB1.out.os,HB1.out.tape,HB1.out.output,HB1.out.size,HB1.out.block⟩);have HId:=ah (show dx w1.drew A1 n1 es from⟨HI1.out.len,HI1.out.small,HI1.out.at_⟩);obtain⟨d0,d1,d2⟩:=HC.out _ CP.out;go_cut [6] (λq wx=>∃A3 n3 c3,q= .slice A3 n3 c3/\dx wx A3 n3 (upF f (M+1))/\dx wx A1 n1 es/\Below W.heap.size W wx);case first=>
  go_region_law (first
   |(go_simp;refine(HOF.out _ CP.out).mono ?_;rintro e w2 ⟨A2,n2,k2,rfl,hI,hcc,hb⟩;have HI2:=Lib.hid hI;have HCC:=Lib.hid hcc;have HB2:=Lib.hid (CP.out.trans (hb.mono CP.out.size));have HJ2:=Lib.hid (ig HId.out hb);clear hI hb hcc;obtain⟨d0,d1,d2⟩:=HC.out _ HB2.out;dsimp only)
   |(go_simp;refine(HB8.out _ HB2.out _ _ _ HI2.out HCC.out).mono ?_;rintro e w3 ⟨A3,n3,k3,rfl,hI,hb⟩;have HI3:=Lib.hid hI;have HB3:=Lib.hid (HB2.out.trans (hb.mono HB2.out.size));have HJ3:=Lib.hid (ig HJ2.out hb);clear hI hb;dsimp only))
  all_goals go_wp2_with fail
  all_goals go_meet
  all_goals exact⟨_,_,_,rfl,HI3.out,HJ3.out,HB3.out⟩
 case rest=>
  obtain⟨A3,n3,c3,rfl,hI3,hJ3,hB3⟩:=hcut;have HI3:=ah hI3;have HJ3:=ah hJ3;have HB3:=ah hB3;clear hI3 hJ3 hB3;have HN1:=ah (show n1=M+1 by rw[<-HI1.out.len,HEG.out]);have HN3:=ah (show(upF f (M+1)).length=n3 from HI3.out.len);have hn3:n3<=64:=by have:=up_len f (M+1);have:=HN3.out;omega
  obtain⟨wz,hwz⟩:∃wz,wc=wz:=⟨_,rfl⟩
  subst hwz;go_wp2_with fail;go_loopw [7,8] (λvl vi wr=>∃(k:Nat) (A2:Option Addr) (c2:Nat),k<=n3/\vi= .int .i64 k/\vl= .slice A2 k c2/\IA wc (.slice A2 k c2) k ((AJ es f (M+1)).take k) wr) (λ_ vi _=>n3 - (RowKit.intOf vi).toNat);case atStart=>exact⟨0,none,0,aL _,rfl,rfl,IA.nil wc⟩
  case round=>
   obtain⟨k,A2,c2,hk,rfl,rfl,hA⟩:=hrel;have HA:=ah hA;clear hA;by_cases hlt:k<n3
   ·have HLEN:=ah (NK (show k<=100000 by omega));obtain⟨q,hq,e1,e2⟩:=upF_get es f (M+1) (j:=k) (by rw[HN3.out];exact hlt);obtain⟨gl,ol,rfl,hgl,hcl⟩:=HI3.out.at_ (by omega);obtain⟨ge,oe,rfl,hge,hce⟩:=HJ3.out.at_ (by have:=HN1.out;omega);have z1:=(HA.out.aN.cell (p:=⟨gl,ol+k,none⟩) hgl).trans (hcl k hlt);have z2:=(HA.out.aN.cell (p:=⟨ge,oe+q,none⟩) hge).trans (hce q (by rw[HN1.out];exact hq));rw[e1]at z1;have htk:=Ws (l:=AJ es f (M+1)) (j:=k) (by rw[LA,HN3.out];exact hlt);rw[e2]at htk;obtain⟨x,hx⟩:∃x,es.getD q 0=x:=⟨_,rfl⟩
    rw[hx]at z2 htk;have Z0:=ah htk;have hq0:(0:Int)<=q:=by omega
    have hq1:(q:Int)<n1:=by have:=HN1.out;omega
    have hk0:(0:Int)<=k:=by omega
    have hk1:(k:Int)<n3:=by omega
    have Fg:=ah (show wrap64 ((k:Int)+1)=((k+1:Nat):Int)by unfold wrap64;omega);clear hcl hce hgl hge e1 e2 htk hx;go_wp2_with (at_builtin;refine eD _ rfl (.tmp 31) (.tmp 39) 41 rfl wc.heap.size 3 i0 _ 8 Tryz.underlying41 hI0 hz0 hz1 hz2 rfl (.slice A2 k c2) k (dF ((AJ es f (M+1)).take k)) rfl HA.out.kE _ 1 1 [.int .i64 x] rfl (gX _ _ _) (by simp[Value.oneCell']) HLEN.out.1 HLEN.out.2 (by rw[World.size_alloc];have:=HA.out.aN.size;omega) ?_;intro v' wp ho hg hn;obtain⟨B1,d1,rfl,_⟩:=bA ho;have Fe:=Lib.hid (HA.out.grow ho hg);clear ho hg hn);(try rw[Fg.out]);exact⟨⟨k+1,_,_,hlt,rfl,rfl,by rw[Z0.out];exact Fe.out⟩,by simp[RowKit.intOf];omega⟩
   ·obtain rfl:k=n3:=by omega
    have htk:(AJ es f (M+1)).take k=AJ es f (M+1):=xG (by rw[LA,HN3.out];exact ay _);rw[htk]at HA;have HK:=ah (show k<=100000 by omega);clear htk hk;go_wp2;go_ret;exact⟨_,_,_,rfl,kF HA.out.own HK.out,HB3.out.trans (HA.out.aN.mono HB3.out.size)⟩
def afh (cut:Nat->Bool) (ats:List Int) (L:Int) (n i:Nat):List Int:=((List.range i).filter (pq cut n)).map λk=>if k<n then ats.getD k 0 else L
