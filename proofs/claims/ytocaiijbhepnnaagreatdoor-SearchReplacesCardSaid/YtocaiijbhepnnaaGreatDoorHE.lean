/- SearchReplaces, walked: the document's rules, its bounds. -/
import Derived.Test.YtocaiijbhepnnaaGreatDoorHD
import Derived.Deep.CutBlock
set_option maxRecDepth 100000
set_option maxHeartbeats 8000000
namespace Go.Proofs.YtocaiijbhepnnaaGreatDoor.searchReplaces
open Go.Shelf Go.RowKit Go.Lib Go.Proofs.YtocaiijbhepnnaaGreatDoor.Am
section
open Lr
def Mem (A:List Nat) (x:Int):Prop:=∃y∈A,(y:Int)=x
structure PR where
 brk:Bool
 fst:Bool
 lst:Bool
 left:PT
 right:PT
def wJ (r:PR) (c:List Int) (at_:Nat):Prop:=
 (∃i,aV r.left (c.take at_) i at_)/\(∃k,aV r.right (c.drop at_) 0 k)/\(r.fst=true->aV r.left (c.take at_) 0 at_)/\(r.lst=true->aV r.right (c.drop at_) 0 (c.length-at_))
def fZ (rest:Bool) (c:List Int) (at_:Nat) (b:Bool):List PR->Prop
 |[]=>b=rest
 |r::l=>(wJ r c at_/\b=r.brk)\/(¬wJ r c at_/\fZ rest c at_ b l)
def pS (l:List Nat):PT:= .node 1 l []
def pX:PT:= .node 4 [] [pS [4,5,6]]
def pT (l:List PT):PT:= .node 2 [] l
def p0:PT:= .node 0 [] []
def JY:PT:= .node 4 [] [pT [pS [7],pX,pS [7],pX]]
theorem H7 (x:Int):Mem [4,5,6] x↔dx x=true:=by unfold Mem dx;simp only[aU,kQ,jN,mD,nD,cK,bV];omega
theorem dK (A:List Nat) (d:List Int) (i k:Nat):aV (pS A) d i k↔i<d.length/\k=i+1/\Mem A (d.getD i 0):=JK A [] d i k
theorem Fw (d:List Int) {i k:Nat} (hi:i<=d.length):aV pX d i k↔i<=k/\k<=d.length/\∀j,i<=j->j<k->dx (d.getD j 0)=true:=by
 unfold pX;rw[nE _ _ _ _ _ hi];constructor
 ·intro h;induction h with
  |nil=>exact⟨ay _,hi,λj h1 h2=>by omega⟩
  |snoc _ s ih=>
   obtain⟨h1,h2,h3⟩:=(dK _ _ _ _).1 s;subst h2;refine⟨by omega,by omega,λj e1 e2=> ?_⟩;rename_i m _;by_cases c:j<m;·exact ih.2.2 j e1 c
   ·obtain rfl:j=m:=by omega
    exact(H7 _).1 h3
 ·rintro⟨h1,h2,h3⟩;obtain⟨m,rfl⟩:∃m,k=i+m:=⟨k-i,by omega⟩
  clear h1;induction m with
  |zero=>exact .nil
  |succ m ih=>refine .snoc (ih (by omega) λj e1 e2=>h3 j e1 (by omega)) ((dK _ _ _ _).2 ⟨by omega,by omega,(H7 _).2 (h3 _ (by omega) (by omega))⟩)
theorem uO (d:List Int):∀k,(dF d k= -1/\∀j,j<k->dx (d.getD j 0)=true)\/∃m:Nat,dF d k=m/\m<k/\dx (d.getD m 0)=false/\∀j,m<j->j<k->dx (d.getD j 0)=true
 |0=> .inl ⟨rfl,λj h=>absurd h (jh j)⟩
 |k+1=>by
  unfold dF;by_cases c:dx (d.getD k 0)=true
  ·rw[ak c];rcases uO d k with⟨h1,h2⟩|⟨m,h1,h2,h3,h4⟩
   ·refine .inl ⟨h1,λj hj=> ?_⟩;rcases aK j k with e|e
    ·exact h2 j e
    ·obtain rfl:j=k:=by omega
     exact c
   ·refine .inr ⟨m,h1,by omega,h3,λj e1 e2=> ?_⟩;rcases aK j k with e|e
    ·exact h4 j e1 e
    ·obtain rfl:j=k:=by omega
     exact c
  ·rw[aj c];exact .inr ⟨k,rfl,by omega,by simpa using c,λj e1 e2=>by omega⟩
theorem Fx (d:List Int) (m:Nat) (h:m<d.length):iM d m=d.getD m 0:=by unfold iM;rw[aj (by omega),jV]
theorem Ui (d:List Int):iM d (-1)= -1:=by unfold iM;rw[ak (by omega)]
theorem uP (d:List Int) (m:Nat):fu d m=dF d m:=by unfold fu;rw[ak (by omega),jV]
def Apart (A:List Nat):Prop:=∀x,Mem A x->dx x=false/\x≠-1
theorem H8 {A:List Nat} (hA:Apart A) (d:List Int) {n:Nat} (hn:n<=d.length):(∃i,i<n/\Mem A (d.getD i 0)/\∀j,i<j->j<n->dx (d.getD j 0)=true)↔Mem A (iM d (dF d n)):=by
 rcases uO d n with⟨h1,h2⟩|⟨m,h1,h2,h3,h4⟩
 ·rw[h1,Ui];refine⟨λ⟨i,e1,e2,_⟩=> ?_,λh=>absurd rfl (hA _ h).2⟩;have:=(hA _ e2).1;rw[h2 i e1]at this;cases this
 ·rw[h1,Fx d m (by omega)];refine⟨λ⟨i,e1,e2,e3⟩=> ?_,λh=>⟨m,h2,h,h4⟩⟩;have g:=(hA _ e2).1;rcases lQ i m with c|rfl|c
  ·have:=e3 m c h2;rw[h3]at this;cases this
  ·exact e2
  ·have:=h4 i c e1;rw[g]at this;cases this
theorem JZ {A:List Nat} (hA:Apart A) {d:List Int} {n i:Nat} (h1:i<n) (h2:Mem A (d.getD i 0)) (h3:∀j,i<j->j<n->dx (d.getD j 0)=true):dF d n=i:=by
 rcases uO d n with⟨e1,e2⟩|⟨m,e1,e2,e3,e4⟩
 ·have:=(hA _ h2).1;rw[e2 i h1]at this;cases this
 ·have g:=(hA _ h2).1;rcases lQ i m with c|rfl|c
  ·have:=h3 m c e2;rw[e3]at this;cases this
  ·exact e1
  ·have:=e4 i c h1;rw[g]at this;cases this
theorem all_cons (p:PT) (r:List PT) (c:List Int) (i k:Nat):kg (p::r) c i k↔∃j,aV p c i j/\kg r c j k:=Iff.rfl
theorem mO {A:List Nat} {d:List Int} {r:List PT} {i k:Nat}:kg (pS A::pX::r) d i k↔i<d.length/\Mem A (d.getD i 0)/\∃m,i<m/\m<=d.length/\(∀j,i<j->j<m->dx (d.getD j 0)=true)/\kg r d m k:=by
 rw[all_cons];constructor;·rintro⟨j,h1,m,h2,h3⟩;obtain⟨e1,rfl,e3⟩:=(dK _ _ _ _).1 h1;obtain⟨f1,f2,f3⟩:=(Fw d (by omega)).1 h2;exact⟨e1,e3,m,by omega,f2,λj g1 g2=>f3 j (by omega) g2,h3⟩
 ·rintro⟨e1,e3,m,f1,f2,f3,h3⟩;exact⟨i+1,(dK _ _ _ _).2 ⟨e1,rfl,e3⟩,m,(Fw d (by omega)).2 ⟨by omega,f2,λj g1 g2=>f3 j (by omega) g2⟩,h3⟩
theorem agO {A:List Nat} (hA:Apart A) (d:List Int):(∃i,aV (pT [pS A,pX]) d i d.length)↔Mem A (iM d (dF d d.length)):=by
 rw[<-H8 hA d (ay _)];constructor;·rintro⟨i,h⟩;obtain⟨_,h⟩:=(bF _ _ _ _ _).1 h;obtain⟨e1,e2,m,f1,f2,f3,rfl⟩:=mO.1 h;exact⟨i,e1,e2,f3⟩
 ·rintro⟨i,h1,h2,h3⟩;exact⟨i,(bF _ _ _ _ _).2 ⟨by omega,mO.2 ⟨h1,h2,d.length,h1,ay _,h3,rfl⟩⟩⟩
theorem agP {A B:List Nat} (hA:Apart A) (hB:Apart B) (d:List Int):(∃i,aV (pT [pS A,pX,pS B,pX]) d i d.length)↔Mem B (iM d (dF d d.length))/\Mem A (iM d (fu d (dF d d.length))):=by
 constructor;·rintro⟨i,h⟩;obtain⟨_,h⟩:=(bF _ _ _ _ _).1 h;obtain⟨e1,e2,m,f1,f2,f3,h⟩:=mO.1 h;obtain⟨g1,g2,q,k1,k2,k3,rfl⟩:=mO.1 h;have hb:=JZ hB g1 g2 k3;refine⟨(H8 hB d (ay _)).1 ⟨m,g1,g2,k3⟩,?_⟩;rw[hb,uP];exact(H8 hA d (by omega)).1 ⟨i,f1,e2,f3⟩
 ·rintro⟨h1,h2⟩;obtain⟨m,e1,e2,e3⟩:=(H8 hB d (ay _)).2 h1;rw[JZ hB e1 e2 e3,uP]at h2;obtain⟨i,f1,f2,f3⟩:=(H8 hA d (dD e1)).2 h2;exact⟨i,(bF _ _ _ _ _).2 ⟨by omega,mO.2 ⟨by omega,f2,m,f1,by omega,f3,mO.2 ⟨e1,e2,d.length,e1,ay _,e3,rfl⟩⟩⟩⟩
theorem J2 (c:List Int):∀(f i:Nat),c.length<=f+i->i<=qj c f i/\(∀j,i<=j->j<qj c f i->dx (c.getD j 0)=true)/\(qj c f i<c.length->dx (c.getD (qj c f i) 0)=false)
 |0,i,h=>⟨ay _,λj e1 e2=>by unfold qj at e2;omega,λe=>by unfold qj at e;omega⟩
 |f+1,i,h=>by
  unfold qj;by_cases q:i<c.length/\dx (c.getD i 0)=true
  ·rw[ak q];obtain⟨h1,h2,h3⟩:=J2 c f (i+1) (by omega);refine⟨by omega,λj e1 e2=> ?_,h3⟩;rcases aK i j with e|e
   ·exact h2 j e e2
   ·obtain rfl:j=i:=by omega
    exact q.2
  ·rw[aj q];refine⟨ay _,λj e1 e2=>by omega,λe=> ?_⟩;rcases EW (dx (c.getD i 0))with g|g
   ·exact absurd ⟨e,g⟩ q
   ·exact g
theorem getD_drop (c:List Int) (n j:Nat):(c.drop n).getD j 0=c.getD (n+j) 0:=by rw[aM,aM,List.getElem?_drop]
theorem takeD (c:List Int) {n j:Nat} (h:j<n):(c.take n).getD j 0=c.getD j 0:=by rw[aM,aM,List.getElem?_take,ak h]
theorem LX (B:List Nat) (c:List Int) (n:Nat) (hn:n<c.length):(∃k,aV (pS B) (c.drop n) 0 k)↔Mem B (c.getD n 0):=by
 constructor;·rintro⟨k,h⟩;have:=((dK _ _ _ _).1 h).2.2;rwa [getD_drop,dA]at this
 ·intro h;exact⟨1,(dK _ _ _ _).2 ⟨by rw[bZ];omega,rfl,by rwa [getD_drop,dA]⟩⟩
theorem adw {B A:List Nat} (hA:Apart A) (c:List Int) (n:Nat) (hn:n<c.length):(∃k,aV (pT [pS B,pX,pS A]) (c.drop n) 0 k)↔Mem B (c.getD n 0)/\Mem A (Et c n):=by
 obtain⟨s1,s2,s3⟩:=J2 c (c.length-n) (n+1) (by omega);have hl:(c.drop n).length=c.length-n:=bZ;unfold Et;generalize qj c (c.length-n) (n+1)=q at*
 constructor
 ·rintro⟨k,h⟩;obtain⟨_,h⟩:=(bF _ _ _ _ _).1 h;obtain⟨e1,e2,m,f1,f2,f3,j,g1,g2⟩:=mO.1 h;obtain⟨k1,k2,k3⟩:=(dK _ _ _ _).1 g1;rw[getD_drop]at e2 k3;refine⟨e2,?_⟩;have hq:q=n+m:=by
   rcases lQ q (n+m)with d|d|d;·have:=f3 (q-n) (by omega) (by omega);rw[getD_drop,show n+(q-n)=q by omega,s3 (by omega)]at this;cases this
   ·exact d
   ·have:=s2 (n+m) (by omega) d;rw[(hA _ k3).1]at this;cases this
  rw[hq,Fx c (n+m) (by omega)];exact k3
 ·rintro⟨h1,h2⟩;have hq:q<c.length:=by
   rcases aK q c.length with d|d;·exact d
   ·unfold iM at h2;rw[ak (by omega)]at h2;exact absurd rfl (hA _ h2).2
  rw[Fx c q hq]at h2;refine⟨q-n+1,(bF _ _ _ _ _).2 ⟨by omega,mO.2 ⟨by omega,by rwa [getD_drop,dA],q-n,by omega,by omega,λj e1 e2=> ?_,q-n+1,(dK _ _ _ _).2 ⟨by omega,rfl,?_⟩,rfl⟩⟩⟩;·rw[getD_drop];exact s2 _ (by omega) (by omega)
  ·rw[getD_drop,show n+(q-n)=q by omega];exact h2
def O9 (x:Int):Prop:=x=7\/dx x=true
def mP (d:List Int) (i:Nat):Nat->Nat
 |0=>0
 |k+1=>if i<=k/\d.getD k 0=7 then mP d i k+1 else mP d i k
theorem Pb (d:List Int) (i k:Nat):mP d i (k+1)=if i<=k/\d.getD k 0=7 then mP d i k+1 else mP d i k:=rfl
theorem aau (x:Int):Mem [7] x↔x=7:=by unfold Mem;simp only[fD,nD];omega
theorem H9 {x:Int} (h:dx x=true):x≠7:=by rintro rfl;cases h
theorem jH (d:List Int) (i:Nat):∀{k m:Nat},k<=m->(∀j,k<=j->j<m->i<=j->d.getD j 0≠7)->mP d i m=mP d i k
 |k,0,h,_=>by obtain rfl:k=0:=by omega
              rfl
 |k,m+1,h,hh=>by
  rcases aK k (m+1)with c|c;·rw[show mP d i (m+1)=if i<=m/\d.getD m 0=7 then mP d i m+1 else mP d i m from rfl,aj (λe=>hh m (by omega) (by omega) e.1 e.2)];exact jH d i (by omega) λj e1 e2=>hh j e1 (by omega)
  ·obtain rfl:k=m+1:=by omega
   rfl
theorem nR (d:List Int) {i k:Nat} (h:i<=k) (e:d.getD k 0=7):mP d i (k+1)=mP d i k+1:=by rw[mP,ak ⟨h,e⟩]
theorem mQ (d:List Int) {i:Nat}:∀{k:Nat},k<=i->mP d i k=0
 |0,_=>rfl
 |k+1,h=>by rw[mP,aj (by omega)];exact mQ d (by omega)
theorem jS (d:List Int) {i k:Nat} (h:i<=k):∀{m:Nat},k<=m->mP d i m=mP d i k+mP d k m
 |0,hm=>by
  obtain rfl:k=0:=by omega
  rw[mQ d (ay 0),dA]
 |m+1,hm=>by
  rcases aK k (m+1)with c|c
  ·have ih:=jS d h (m:=m) (by omega);rw[Pb d i m,Pb d k m];by_cases e:d.getD m 0=7
   ·rw[ak ⟨by omega,e⟩,ak ⟨by omega,e⟩,ih];omega
   ·rw[aj (λg=>e g.2),aj (λg=>e g.2)];exact ih
  ·obtain rfl:k=m+1:=by omega
   rw[mQ d (i:=m+1) (k:=m+1) (ay _)];rfl
theorem aav {d:List Int} {i k:Nat} (h:aV (pT [pS [7],pX,pS [7],pX]) d i k):i<=k/\(∀j,i<=j->j<k->O9 (d.getD j 0))/\mP d i k=2:=by
 obtain⟨_,h⟩:=(bF _ _ _ _ _).1 h;obtain⟨e1,e2,m,f1,f2,f3,h⟩:=mO.1 h;obtain⟨g1,g2,q,k1,k2,k3,rfl⟩:=mO.1 h;rw[aau]at e2 g2;refine⟨by omega,λj a1 a2=> ?_,?_⟩
 ·rcases lQ j i with c|rfl|c
  ·omega
  ·exact .inl e2
  ·rcases lQ j m with c2|rfl|c2
   ·exact .inr (f3 j c c2)
   ·exact .inl g2
   ·exact .inr (k3 j c2 a2)
 ·rw[jH d i (k:=m+1) (by omega) (λj a1 a2 _=>H9 (k3 j (by omega) a2)),nR d (by omega) g2,jH d i (k:=i+1) (by omega) (λj a1 a2 _=>H9 (f3 j (by omega) a2)),nR d (ay _) e2,mQ d (ay _)]
theorem Ww {d:List Int} {i k:Nat} (hi:i<=d.length) (h:aV JY d i k):i<=k/\(∀j,i<=j->j<k->O9 (d.getD j 0))/\mP d i k%2=0:=by
 unfold JY at h;rw[nE _ _ _ _ _ hi]at h;induction h with
 |nil=>exact⟨ay _,λj h1 h2=>by omega,by rw[mQ d (ay _)]⟩
 |snoc _ s ih=>
  obtain⟨a1,a2,a3⟩:=ih;obtain⟨b1,b2,b3⟩:=aav s;refine⟨by omega,λj h1 h2=> ?_,?_⟩
  ·rename_i m _ _;rcases aK j m with c|c
   ·exact a2 j h1 c
   ·exact b2 j c h2
  ·rw[jS d a1 b1,b3];omega
theorem Uj (d:List Int) (i:Nat):∀{n:Nat},0<mP d i n->∃p,i<=p/\p<n/\d.getD p 0=7/\∀j,i<=j->j<p->d.getD j 0≠7
 |0,h=>absurd h (dI 0)
 |n+1,h=>by
  by_cases c:0<mP d i n;·obtain⟨p,h1,h2,h3,h4⟩:=Uj d i c;exact⟨p,h1,by omega,h3,h4⟩
  ·unfold mP at h;split at h
   ·rename_i e;refine⟨n,e.1,by omega,e.2,λj a1 a2 b=>c ?_⟩;have:=nR d a1 b;have g:mP d i (j+1)<=mP d i n:=by rw[jS d (show i<=j+1 by omega) (show j+1<=n by omega)];omega
    omega
   ·exact absurd h c
theorem aeN {d:List Int} {n:Nat} (hn:n=d.length):∀(f i:Nat),n<=f+i->i<n->d.getD i 0=7->(∀j,i<=j->j<n->O9 (d.getD j 0))->mP d i n%2=1->
 ∃m,Star (aV (pT [pS [7],pX,pS [7],pX]) d) i m/\m<n/\d.getD m 0=7/\∀j,m<j->j<n->dx (d.getD j 0)=true
 |0,i,h,hi,_,_,_=>by omega
 |f+1,i,h,hi,h7,hx,hc=>by
  have s1:=jS d (show i<=i+1 by omega) (show i+1<=n by omega);rw[nR d (ay _) h7,mQ d (ay _)]at s1;by_cases c:0<mP d (i+1) n
  ·obtain⟨p,a1,a2,a3,a4⟩:=Uj d (i+1) c;have s2:=jS d (show i+1<=p+1 by omega) (show p+1<=n by omega);rw[nR d (by omega) a3,jH d (i+1) (k:=i+1) (m:=p) a1 (λj b1 b2 _=>a4 j b1 b2),mQ d (ay _)]at s2;obtain⟨q,b1,b2,b3,b4⟩:=Uj d (p+1) (n:=n) (by omega);have s3:=jS d (show p+1<=q by omega) (show q<=n by omega);rw[jH d (p+1) (k:=p+1) (m:=q) b1 (λj e1 e2 _=>b4 j e1 e2),mQ d (ay _)]at s3;obtain⟨m,e1,e2,e3,e4⟩:=aeN hn f q (by omega) b2 b3 (λj g1 g2=>hx j (by omega) g2) (by omega);have hp:aV (pT [pS [7],pX,pS [7],pX]) d i q:=by
    refine(bF _ _ _ _ _).2 ⟨by omega,mO.2 ⟨by omega,(aau _).2 h7,p,by omega,by omega,λj g1 g2=> ?_,mO.2 ⟨by omega,(aau _).2 a3,q,by omega,by omega,λj g1 g2=> ?_,rfl⟩⟩⟩
    ·rcases hx j (by omega) (by omega)with e|e
     ·exact absurd e (a4 j (by omega) g2)
     ·exact e
    ·rcases hx j (by omega) (by omega)with e|e
     ·exact absurd e (b4 j (by omega) g2)
     ·exact e
   exact⟨m,(Star.one hp).trans e1,e2,e3,e4⟩
  ·refine⟨i, .nil,hi,h7,λj b1 b2=> ?_⟩;rcases hx j (by omega) b2 with e|e
   ·have:=nR d (i:=i+1) (k:=j) (by omega) e;have g:=jS d (show i+1<=j+1 by omega) (show j+1<=n by omega);omega
   ·exact e
theorem wK {d:List Int} {i:Nat} (hi:i<=d.length):kg [pX,JY,pS [7],pX] d i d.length↔(∀j,i<=j->j<d.length->O9 (d.getD j 0))/\mP d i d.length%2=1:=by
 constructor
 ·rintro⟨a,h1,b,h2,h3⟩;obtain⟨e1,e2,e3⟩:=(Fw d hi).1 h1;obtain⟨f1,f2,f3⟩:=Ww e2 h2;obtain⟨g1,g2,m,k1,k2,k3,rfl⟩:=mO.1 h3;rw[aau]at g2;refine⟨λj a1 a2=> ?_,?_⟩
  ·rcases aK j a with c|c
   ·exact .inr (e3 j a1 c)
   ·rcases lQ j b with c2|rfl|c2
    ·exact f2 j c c2
    ·exact .inl g2
    ·exact .inr (k3 j c2 a2)
  ·rw[jH d i (k:=b+1) (by omega) (λj a1 a2 _=>H9 (k3 j (by omega) a2)),nR d (by omega) g2,jS d e1 f1,jH d i (k:=i) e1 (λj a1 a2 _=>H9 (e3 j a1 a2)),mQ d (ay _)];omega
 ·rintro⟨h1,h2⟩;obtain⟨p,a1,a2,a3,a4⟩:=Uj d i (n:=d.length) (by omega);have s:=jS d a1 (show p<=d.length by omega);rw[jH d i (k:=i) a1 (λj b1 b2 _=>a4 j b1 b2),mQ d (ay _)]at s;obtain⟨m,e1,e2,e3,e4⟩:=aeN rfl d.length p (by omega) a2 a3 (λj g1 g2=>h1 j (by omega) g2) (by omega);refine⟨p,(Fw d hi).2 ⟨a1,by omega,λj b1 b2=> ?_⟩,m,?_,mO.2 ⟨e2,(aau _).2 e3,d.length,e2,ay _,e4,rfl⟩⟩
  ·rcases h1 j b1 (by omega)with e|e
   ·exact absurd e (a4 j b1 b2)
   ·exact e
  ·unfold JY;rw[nE _ _ _ _ _ (by omega)];exact e1
theorem Pd (d:List Int):∀(f k:Nat),k<=f->k<=d.length->∃q,q<=k/\(∀j,q<=j->j<k->O9 (d.getD j 0))/\(q=0\/¬O9 (d.getD (q-1) 0))/\wB d f (dF d k)=mP d q k
 |0,k,hk,_=>by
  obtain rfl:k=0:=by omega
  exact⟨0,ay _,λj h1 h2=>by omega, .inl rfl,rfl⟩
 |f+1,k,hk,hl=>by
  rcases uO d k with⟨h1,h2⟩|⟨m,h1,h2,h3,h4⟩
  ·refine⟨0,aH _,λj _ e=> .inr (h2 j e), .inl rfl,?_⟩;rw[h1,wB,aj (by rw[Ui];decide),jH d 0 (k:=0) (aH _) (λj _ e _=>H9 (h2 j e))];rfl
  ·rw[h1,wB,Fx d m (by omega)];by_cases c:d.getD m 0=7
   ·rw[ak c,uP];obtain⟨q,e1,e2,e3,e4⟩:=Pd d f m (by omega) (by omega);refine⟨q,by omega,λj a1 a2=> ?_,e3,?_⟩
    ·rcases lQ j m with g|rfl|g
     ·exact e2 j a1 g
     ·exact .inl c
     ·exact .inr (h4 j g a2)
    ·rw[e4,jH d q (k:=m+1) h2 (λj a1 a2 _=>H9 (h4 j (by omega) a2)),nR d e1 c]
   ·rw[aj c];refine⟨m+1,h2,λj a1 a2=> .inr (h4 j (by omega) a2), .inr ?_,?_⟩
    ·rw[qL];rintro(g|g)
     ·exact c g
     ·rw[h3]at g;cases g
    ·rw[jH d (m+1) (k:=m+1) h2 (λj a1 a2 _=>H9 (h4 j (by omega) a2)),mQ d (ay _)]
def pR1:PT:=pT [pX,JY,pS [7],pX]
def aaw:List Nat:=[0,1,2,3,8,9,10,11,12,13,14,15,16,17,18,19]
def pR2:PT:=pT [pS aaw,pX,JY,pS [7],pX]
theorem Uk {x:Int} (h0:0<=x) (h1:x<=19):Mem aaw x↔¬O9 x:=by unfold Mem aaw O9 dx;simp only[aU,kQ,jN,mD,nD,cK,bV];omega
theorem aax {d:List Int} (hd:∀j,j<d.length->0<=d.getD j 0/\d.getD j 0<=19) {f:Nat} (hf:d.length<=f):(aV pR1 d 0 d.length\/∃i,aV pR2 d i d.length)↔wB d f (dF d d.length)%2=1:=by
 obtain⟨q,e1,e2,e3,e4⟩:=Pd d f d.length hf (ay _);rw[e4];unfold pR1 pR2;constructor
 ·rintro(h|⟨i,h⟩)
  ·obtain⟨_,h⟩:=(bF _ _ _ _ _).1 h;obtain⟨h1,h2⟩:=(wK (aH _)).1 h;rcases e3 with rfl|e3
   ·exact h2
   ·rcases kN q with rfl|c
    ·exact h2
    ·exact absurd (h1 (q-1) (aH _) (by omega)) e3
  ·obtain⟨_,j,h1,h2⟩:=(bF _ _ _ _ _).1 h;obtain⟨g1,rfl,g2⟩:=(dK _ _ _ _).1 h1;obtain⟨k1,k2⟩:=(wK (by omega)).1 h2;rw[Uk (hd i g1).1 (hd i g1).2]at g2;have hq:q=i+1:=by
    rcases lQ q (i+1)with c|c|c;·exact absurd (e2 i (by omega) g1) g2
    ·exact c
    ·rcases e3 with rfl|e3
     ·omega
     ·exact absurd (k1 (q-1) (by omega) (by omega)) e3
   rw[hq];exact k2
 ·intro h;rcases e3 with rfl|e3
  ·exact .inl ((bF _ _ _ _ _).2 ⟨aH _,(wK (aH _)).2 ⟨e2,h⟩⟩)
  ·rcases kN q with rfl|c
   ·exact .inl ((bF _ _ _ _ _).2 ⟨aH _,(wK (aH _)).2 ⟨e2,h⟩⟩)
   ·have hb:=hd (q-1) (by omega);exact .inr ⟨q-1,(bF _ _ _ _ _).2 ⟨by omega,q,(dK _ _ _ _).2 ⟨by omega,by omega,(Uk hb.1 hb.2).2 e3⟩,(wK e1).2 ⟨e2,h⟩⟩⟩
end
section
open Lr (PT bit rows aV)
theorem up_pos (f:Nat->Bool) (k:Nat):0<(upF f k).length↔∃i,i<k/\f i=true:=by
 constructor;·intro h;obtain⟨x,hx⟩:=List.exists_mem_of_length_pos h;unfold upF at hx;obtain⟨i,hi,_⟩:=dH.1 hx;obtain⟨h1,h2⟩:=oq.1 hi;exact⟨i,mh.1 h1,h2⟩
 ·rintro⟨i,h⟩;exact List.length_pos_of_mem ((up_mem f k i).2 h)
theorem RJ (p:PT) (d:List Int):0<(kJ p d).length↔∃i,aV p d i d.length:=by unfold kJ;rw[up_pos];exact⟨λ⟨i,_,h⟩=>⟨i,h⟩,λ⟨i,h⟩=>⟨i,by have:=(Lr.G9 h).1;omega,h⟩⟩
theorem Pe (p:PT) (d:List Int):(0:Int)∈kJ p d↔aV p d 0 d.length:=by unfold kJ;rw[show(0:Int)=((0:Nat):Int)from rfl,up_mem];exact⟨λh=>h.2,λh=>⟨by omega,h⟩⟩
theorem aay (p:PT) (d:List Int):0<(Dp p d).length↔∃k,aV p d 0 k:=by unfold Dp;rw[up_pos];exact⟨λ⟨i,_,h⟩=>⟨i,h⟩,λ⟨i,h⟩=>⟨i,by have:=(Lr.G9 h).2;omega,h⟩⟩
theorem Wx {w:World} {A:Option Addr} {n k:Nat} {c:List Int} (h:bQ w A n c) (hk:k<=n):bQ w A k (c.take k):=
 ⟨by rw[eU,h.len];omega,aS hk h.small,λh0=>by
  obtain⟨g,o,e,hg,hc⟩:=h.at_ (by omega);exact⟨g,o,e,hg,λj hj=>by rw[takeD c hj];exact hc j (by omega)⟩⟩
theorem Wy {w:World} {g o n k:Nat} {c:List Int} (h:bQ w (some ⟨g,o,none⟩) n c) (hk:k<n):bQ w (some ⟨g,o+k,none⟩) (n-k) (c.drop k):=
 ⟨by rw[bZ,h.len],aS (Nat.sub_le _ _) h.small,λh0=>by
  obtain⟨g',o',e,hg,hc⟩:=h.at_ (by omega);injection e with e;injection e with e1 e2;subst e1 e2;refine⟨g,o+k,rfl,hg,λj hj=> ?_⟩;rw[getD_drop,mY];exact hc (k+j) (by omega)⟩
def RL (p:PT):Prop:=rV p=true/\RF p=true/\mM p<=2000
structure yZ where
 lop:Nat
 lA:Option Addr
 ln:Nat
 lc:Nat
 lB:Option Addr
 lm:Nat
 ld:Nat
 rop:Nat
 rA:Option Addr
 rn:Nat
 rc:Nat
 rB:Option Addr
 rm:Nat
 rd:Nat
def yZ.cells (v:yZ) (r:PR):Array Value:=#[.bool r.brk, .bool r.fst, .bool r.lst, .int .i64 (v.lop:Nat), .slice v.lA v.ln v.lc, .slice v.lB v.lm v.ld, .int .i64 (v.rop:Nat), .slice v.rA v.rn v.rc, .slice v.rB v.rm v.rd]
structure Ia (w:World) (v:yZ) (r:PR):Prop where
 left:fE w (.int .i64 (v.lop:Nat)) (.slice v.lA v.ln v.lc) (.slice v.lB v.lm v.ld) r.left
 right:fE w (.int .i64 (v.rop:Nat)) (.slice v.rA v.rn v.rc) (.slice v.rB v.rm v.rd) r.right
 fl:RL r.left
 fr:RL r.right
theorem Ia.below {w w':World} {v:yZ} {r:PR} (h:Ia w v r) (hb:Below w.heap.size w w'):Ia w' v r:=⟨h.left.below hb,h.right.below hb,h.fl,h.fr⟩
structure Wz (W:World) (cs:Array Value) (w:World):Prop where
 aB:Below W.heap.size W w
 o:w.heap[W.heap.size]? =some (.cells cs 203 (0,0))
theorem Wz.go {W w w':World} {cs:Array Value} (h:Wz W cs w) (hb:Below w.heap.size w w'):Wz W cs w':=⟨h.aB.trans (hb.mono h.aB.size),bM hb h.o⟩
theorem Wz.drew {W w:World} {cs:Array Value} (h:Wz W cs w):Wz W cs w.drew:=⟨⟨h.aB.os,h.aB.tape,h.aB.output,h.aB.size,h.aB.block⟩,h.o⟩
theorem Wz.start (W:World) (cs:Array Value):Wz W cs (W.alloc (.cells cs 203)):=⟨(aF _ W).alloc (ay _) _,cO W _⟩
theorem Wz.c {W w:World} {cs:Array Value} (h:Wz W cs w) (i:Nat):w.cell? ⟨W.heap.size,i,none⟩=cs[i]? :=(bA w W.heap.size i _ _ _ h.o).trans rfl
theorem Ib (v:yZ) (r:PR) (c:List Int) (g o n cc at_:Nat) (W:World) (hR:Ia W v r) (hI:bQ W (some ⟨g,o,none⟩) n c) (h1:1<=at_) (h2:at_<n) (h64:n+1<64) (hcc:n<=cc) (hl:r.lst=false):
 Calls Tryz.prog 128 #[.agg (v.cells r), .slice (some ⟨g,o,none⟩) n cc, .int .i64 at_] W λe w'=>∃q:Bool,e= .returned (.bool q)/\(q=true↔wJ r c at_)/\Below W.heap.size W w':=by
 obtain⟨brk,fst,lst,left,right⟩:=r;obtain rfl:lst=false:=hl;obtain⟨lop,lA,ln,lc,lB,lm,ld,rop,rA,rn,rc,rB,rm,rd⟩:=v;have HR:=ah hR;have HI:=ah hI;unfold yZ.cells;dsimp only;have HB0:=ah (Wz.start W #[.bool brk, .bool fst, .bool false, .int .i64 (lop:Nat), .slice lA ln lc, .slice lB lm ld, .int .i64 (rop:Nat), .slice rA rn rc, .slice rB rm rd]);have y1:=(HB0.out.c 1).trans rfl;have y2:=(HB0.out.c 2).trans rfl;have y3:=(HB0.out.c 3).trans rfl;have y4:=(HB0.out.c 4).trans rfl;have y5:=(HB0.out.c 5).trans rfl;have y6:=(HB0.out.c 6).trans rfl;have y7:=(HB0.out.c 7).trans rfl;have y8:=(HB0.out.c 8).trans rfl;have hd1:¬(at_:Int)<0:=by omega
 have hd2:¬(n:Int)<at_:=by omega
 have hd3:¬n<at_:=by omega
 have HGL:=ah (λ(w:World) (hb:Below W.heap.size W w)=>BZ left HR.out.fl.1 HR.out.fl.2.2 _ _ _ w (HR.out.left.below hb));have HGR:=ah (λ(w:World) (hb:Below W.heap.size W w)=>BZ right HR.out.fr.1 HR.out.fr.2.2 _ _ _ w (HR.out.right.below hb));clear hR hI;go_enter Tryz.func128,Tryz.ntmps128;go_upto_region 3 with(first
  |(refine(HGL.out _ HB0.out.aB).mono ?_;rintro e w2 ⟨rfl,hb⟩;have HB2:=ah (HB0.out.go hb);clear hb y1 y2 y3 y4 y5 y6 y7 y8;have y6:=(HB2.out.c 6).trans rfl;have y7:=(HB2.out.c 7).trans rfl;have y8:=(HB2.out.c 8).trans rfl)
  |(refine(HGR.out _ HB2.out.aB).mono ?_;rintro e w3 ⟨rfl,hb⟩;have HB3:=ah (HB2.out.go hb);clear hb y6 y7 y8))
 have asx:(at_:Int)<=cc:=by omega
 have asy:(0:Int)<=at_:=by omega
 have hca:¬cc=at_:=by omega
 have asz:(at_:Int)<=n:=by omega
 obtain⟨cs,hcs⟩:∃cs:Array Value,#[.bool brk, .bool fst, .bool false, .int .i64 (lop:Nat), .slice lA ln lc, .slice lB lm ld, .int .i64 (rop:Nat), .slice rA rn rc, .slice rB rm rd]=cs:=⟨_,rfl⟩
 rw[hcs]at HB3;have HCS:=ah hcs;clear hcs;go_cut [7] (λq wx=>∃A4 n4 c4,q= .slice A4 n4 c4/\bQ wx A4 n4 (kJ left (c.take at_))/\Wz W cs wx);case first=>
  have Fu:=ah HB3.out.drew;have y3:w3.drew.cell? ⟨W.heap.size,3,none⟩=some (.int .i64 (lop:Nat)):=by rw[Fu.out.c 3,<-HCS.out];rfl
  have y4:w3.drew.cell? ⟨W.heap.size,4,none⟩=some (.slice lA ln lc):=by rw[Fu.out.c 4,<-HCS.out];rfl
  have y5:w3.drew.cell? ⟨W.heap.size,5,none⟩=some (.slice lB lm ld):=by rw[Fu.out.c 5,<-HCS.out];rfl
  go_region_law (go_simp;refine(Ws left HR.out.fl.1 HR.out.fl.2.1 HR.out.fl.2.2 (c.take at_) _ _ _ (some ⟨g,o,none⟩) at_ cc _ (HR.out.left.below Fu.out.aB) (Wx (eu HI.out Fu.out.aB) (by omega)) (by omega)).mono ?_;rintro e w4 ⟨A4,n4,c4,rfl,hI4,hb⟩;have HI4:=Lib.hid hI4;have JU:=Lib.hid (Fu.out.go hb);clear hI4 hb;dsimp only);all_goals go_wp2_with fail
  all_goals go_meet
  all_goals exact⟨_,_,_,rfl,HI4.out,JU.out⟩
 case rest=>
  obtain⟨A4,n4,c4,rfl,hI4,hB4⟩:=hcut;have HI4:=ah hI4;have JU:=ah hB4;clear hI4 hB4;go_upto_region 4 with fail;go_cut [8] (λq wx=>∃A5 n5 c5,q= .slice A5 n5 c5/\bQ wx A5 n5 (Dp right (c.drop at_))/\bQ wx A4 n4 (kJ left (c.take at_))/\Wz W cs wx);case first=>
   have Fu:=ah JU.out.drew;have HId:=ah (show bQ wc.drew A4 n4 (kJ left (c.take at_))from⟨HI4.out.len,HI4.out.small,HI4.out.at_⟩);have y6:wc.drew.cell? ⟨W.heap.size,6,none⟩=some (.int .i64 (rop:Nat)):=by rw[Fu.out.c 6,<-HCS.out];rfl
   have y7:wc.drew.cell? ⟨W.heap.size,7,none⟩=some (.slice rA rn rc):=by rw[Fu.out.c 7,<-HCS.out];rfl
   have y8:wc.drew.cell? ⟨W.heap.size,8,none⟩=some (.slice rB rm rd):=by rw[Fu.out.c 8,<-HCS.out];rfl
   go_region_law (go_simp;(refine(ads right HR.out.fr.1 HR.out.fr.2.1 HR.out.fr.2.2 (c.drop at_) _ _ _ (some ⟨g,o+at_,none⟩) (n-at_) (cc-at_) _ (HR.out.right.below Fu.out.aB) (Wy (eu HI.out Fu.out.aB) h2) (by omega)).mono ?_);rintro e w5 ⟨A5,n5,c5,rfl,hI5,hb⟩;have HI5:=Lib.hid hI5;have HI6:=Lib.hid (eu HId.out hb);have Mr:=Lib.hid (Fu.out.go hb);clear hI5 hb;dsimp only);all_goals go_wp2_with fail
   all_goals go_meet
   all_goals exact⟨_,_,_,rfl,HI5.out,HI6.out,Mr.out⟩
  case rest=>
   obtain⟨A5,n5,c5,rfl,hI5,hI6,hB5⟩:=hcut;have y1:wc.cell? ⟨W.heap.size,1,none⟩=some (.bool fst):=by rw[hB5.c 1,<-HCS.out];rfl
   have TD:=ah (HI.out.len);have htl:(c.take at_).length=at_:=by rw[eU,HI.out.len];omega
   have hdl:(c.drop at_).length=n-at_:=by rw[bZ,HI.out.len]
   have p4:=RJ left (c.take at_);have p5:=aay right (c.drop at_);have p0:=Pe left (c.take at_);rw[htl]at p4 p0;rw[hI6.len]at p4;rw[hI5.len]at p5;have HP4:=ah p4;have HP5:=ah p5;have HP0:=ah p0;have zN:=ah hB5.aB;have HC0:=ah (ac9 (kJ left (c.take at_)) 0 A4 n4 c4 wc ⟨hI6.len,hI6.small,hI6.at_⟩);obtain⟨q0,hq0⟩:∃q,decide ((0:Int)∈kJ left (c.take at_))=q:=⟨_,rfl⟩
   rw[hq0]at HC0;have HQ0:=ah hq0;have HS4:=ah hI6.small;have HS5:=ah hI5.small;have HQB:=ah (λq=>show Below W.heap.size W (wc.drewN q)from⟨hB5.aB.os,hB5.aB.tape,hB5.aB.output,hB5.aB.size,hB5.aB.block⟩);have HY2:=ah (show wc.cell? ⟨W.heap.size,2,none⟩=some (.bool false)by rw[hB5.c 2,<-HCS.out];rfl);clear htl hdl p4 p5 p0 hq0 hI5 hI6 hB5;have y2:=HY2.out;rcases kN n4 with h4|h4;·subst h4;go_wp2_with fail;go_ret;exact⟨false,rfl,⟨λe=>Bool.noConfusion e,λe=>absurd (HP4.out.2 e.1) (dI 0)⟩,zN.out⟩
   have h40:((n4:Int)==0)=false:=dB.2 (by omega);rcases kN n5 with h5|h5;·subst h5;go_wp2_with fail;go_ret;exact⟨false,rfl,⟨λe=>Bool.noConfusion e,λe=>absurd (HP5.out.2 e.2.1) (dI 0)⟩,zN.out⟩
   have h50:((n5:Int)==0)=false:=dB.2 (by omega);cases fst with
   |false=>go_wp2_with fail;go_ret;exact⟨true,rfl,⟨λ_=>⟨HP4.out.1 h4,HP5.out.1 h5,λe=>Bool.noConfusion e,λe=>Bool.noConfusion e⟩,λ_=>rfl⟩,zN.out⟩
   |true=>
    cases q0 with
    |false=>go_wp2_with (go_at_call 183;refine HC0.out.mono ?_;rintro e w7 ⟨rfl,rfl⟩);go_ret;exact⟨false,rfl,⟨λe=>Bool.noConfusion e,λe=>absurd (HP0.out.2 (e.2.2.1 rfl)) (of_decide_eq_false HQ0.out)⟩,zN.out⟩
    |true=>go_wp2_with (go_at_call 183;refine HC0.out.mono ?_;rintro e w7 ⟨rfl,rfl⟩);go_ret;exact⟨true,rfl,⟨λ_=>⟨HP4.out.1 h4,HP5.out.1 h5,λ_=>HP0.out.1 (jg HQ0.out),λe=>Bool.noConfusion e⟩,λ_=>rfl⟩,zN.out⟩
end
section
open Lr (PT bit rows aV)
structure Bx (t:Nat) (W:World) (cs:Array Value) (w:World):Prop where
 aB:Below W.heap.size W w
 o:w.heap[W.heap.size]? =some (.cells cs t (0,0))
theorem Bx.go {t:Nat} {W w w':World} {cs:Array Value} (h:Bx t W cs w) (hb:Below w.heap.size w w'):Bx t W cs w':=⟨h.aB.trans (hb.mono h.aB.size),bM hb h.o⟩
theorem Bx.start (t:Nat) (W:World) (cs:Array Value):Bx t W cs (W.alloc (.cells cs t)):=⟨(aF _ W).alloc (ay _) _,cO W _⟩
theorem Bx.c {t:Nat} {W w:World} {cs:Array Value} (h:Bx t W cs w) (i:Nat):w.cell? ⟨W.heap.size,i,none⟩=cs[i]? :=(bA w W.heap.size i _ _ _ h.o).trans rfl
structure kK (w:World) (g o:Nat) (rs:List PR):Prop where
 blk:g<w.heap.size
 small:rs.length<=64
 at_:∀i r,rs[i]? =some r->r.lst=false/\∃v:yZ,Ia w v r/\∀k x,(v.cells r)[k]? =some x->w.cell? ⟨g,o+i*9+k,none⟩=some x
theorem kK.below {w w':World} {g o:Nat} {rs:List PR} (h:kK w g o rs) (hb:Below w.heap.size w w'):kK w' g o rs:=
 ⟨bH h.blk hb.size,h.small,λi r hr=>by
  obtain⟨hl,v,hv,hc⟩:=h.at_ i r hr;exact⟨hl,v,hv.below hb,λk x hx=>(hb.cell (p:=⟨g,o+i*9+k,none⟩) h.blk).trans (hc k x hx)⟩⟩
theorem Cc {rest:Bool} {c:List Int} {at_:Nat} {b:Bool} {rs:List PR} {i:Nat} {r:PR} (hr:rs[i]? =some r) (hn:¬wJ r c at_) (h:fZ rest c at_ b (rs.drop (i+1))):fZ rest c at_ b (rs.drop i):=by rw[ny (nX.1 hr).1];rw[(nX.1 hr).2];exact .inr ⟨hn,h⟩
theorem Ce {rest:Bool} {c:List Int} {at_:Nat} {rs:List PR} {i:Nat} {r:PR} (hr:rs[i]? =some r) (ha:wJ r c at_):fZ rest c at_ r.brk (rs.drop i):=by rw[ny (nX.1 hr).1];rw[(nX.1 hr).2];exact .inl ⟨ha,rfl⟩
theorem WA (rs:List PR) (rest:Bool) (c:List Int) (g gr og o n cc cr at_:Nat) (W:World) (hR:kK W gr og rs) (hI:bQ W (some ⟨g,o,none⟩) n c) (h1:1<=at_) (h2:at_<n) (h64:n+1<64) (hcc:n<=cc):
 Calls Tryz.prog 161 #[.agg #[.slice (some ⟨gr,og,none⟩) rs.length cr, .bool rest], .slice (some ⟨g,o,none⟩) n cc, .int .i64 at_] W λe w'=>∃(q:Bool) (x:Int),e= .returned (.tuple #[.bool q, .int .i64 x])/\fZ rest c at_ q rs/\Below W.heap.size W w':=by
 have HR:=ah hR;have HI:=ah hI;have HB0:=ah (Bx.start 122 W #[.slice (some ⟨gr,og,none⟩) rs.length cr, .bool rest]);have hsm:=hR.small;have hd0:((n:Int)==0)=false:=dB.2 (by omega);have hd1:¬(at_:Int)<0:=by omega
 have hd2:¬(n:Int)<at_:=by omega
 have hd3:((at_:Int)==0)=false:=dB.2 (by omega);have hd4:((at_:Int)==n)=false:=dB.2 (by omega);obtain⟨N,hN⟩:∃N,rs.length=N:=⟨_,rfl⟩
 have HN:=ah hN;rw[hN]at HB0 hsm⊢;clear hR hI hN;go_enter Tryz.func161,Tryz.ntmps161;go_wp2_with fail;go_loopw [8] (λvi wr=>∃i:Nat,i<=N/\vi= .int .i64 i/\Bx 122 W #[.slice (some ⟨gr,og,none⟩) N cr, .bool rest] wr/\∀q,fZ rest c at_ q (rs.drop i)->fZ rest c at_ q rs) (λvi _=>N-(RowKit.intOf vi).toNat);case atStart=>exact⟨0,aH _,rfl,HB0.out,λ_ h=>h⟩
 case round=>
  obtain⟨i,hi,rfl,hB,hD⟩:=hrel;have HB:=ah hB;have HD:=ah hD;clear hB hD;have y0:=(HB.out.c 0).trans rfl;have y1:=(HB.out.c 1).trans rfl;by_cases hlt:i<N
  ·obtain⟨r,hr⟩:∃r,rs[i]? =some r:=⟨_,aX (by rw[HN.out];exact hlt)⟩
   obtain⟨hl,v,hv,hc⟩:=HR.out.at_ i r hr;have HV:=ah hv;have HRR:=ah hr;have HA:=ah (Ib v r c g o n cc at_ wr (hv.below HB.out.aB) (eu HI.out HB.out.aB) h1 h2 h64 hcc hl);have hcell:∀k x,(v.cells r)[k]? =some x->wr.cell? ⟨gr,og+i*9+k,none⟩=some x:=λk x hx=>(HB.out.aB.cell (p:=⟨gr,og+i*9+k,none⟩) HR.out.blk).trans (hc k x hx);have k0:wr.cell? ⟨gr,og+i*9,none⟩=some (.bool r.brk):=hcell 0 _ rfl;have k1:wr.cell? ⟨gr,og+i*9+1,none⟩=some (.bool r.fst):=hcell 1 _ rfl;have k2:wr.cell? ⟨gr,og+i*9+2,none⟩=some (.bool r.lst):=hcell 2 _ rfl;have k3:wr.cell? ⟨gr,og+i*9+3,none⟩=some (.int .i64 (v.lop:Nat)):=hcell 3 _ rfl;have k4:wr.cell? ⟨gr,og+i*9+4,none⟩=some (.slice v.lA v.ln v.lc):=hcell 4 _ rfl;have k5:wr.cell? ⟨gr,og+i*9+5,none⟩=some (.slice v.lB v.lm v.ld):=hcell 5 _ rfl;have k6:wr.cell? ⟨gr,og+i*9+6,none⟩=some (.int .i64 (v.rop:Nat)):=hcell 6 _ rfl;have k7:wr.cell? ⟨gr,og+i*9+7,none⟩=some (.slice v.rA v.rn v.rc):=hcell 7 _ rfl;have k8:wr.cell? ⟨gr,og+i*9+8,none⟩=some (.slice v.rB v.rm v.rd):=hcell 8 _ rfl;clear hv hr hc hcell hl;unfold yZ.cells at HA;have hii:(i:Int)<N:=by omega
   have hi0:(0:Int)<=i:=by omega
   have rU:=ah (show wrap64 ((i:Int)+1)=((i+1:Nat):Int)by unfold wrap64;omega);go_wp2_with (go_at_call 128;refine HA.out.mono ?_;rintro e w2 ⟨q,rfl,hq,hb⟩;have HB2:=ah (HB.out.go hb);have k0:=(hb.cell (p:=⟨gr,og+i*9,none⟩) (bH HR.out.blk HB.out.aB.size)).trans k0;have y0:=(HB2.out.c 0).trans rfl;have y1:=(HB2.out.c 1).trans rfl;have HQ:=ah hq;clear hb hq;cases q);·(try rw[rU.out]);exact⟨⟨i+1,hlt,rfl,HB2.out,λq h=>HD.out q (Cc HRR.out (λe=>by have:=HQ.out.2 e;simp at this) h)⟩,by simp[RowKit.intOf];omega⟩
   ·exact qZ (results_tmp2 rfl _ _ _) rfl ⟨_,_,rfl,HD.out _ (Ce HRR.out (HQ.out.1 (by trivial))),HB2.out.aB⟩
  ·obtain rfl:i=N:=by omega
   go_wp2;exact qZ (results_tmp2 rfl _ _ _) rfl ⟨_,_,rfl,HD.out _ (by rw[List.drop_of_length_le (Nat.le_of_eq HN.out)];exact rfl),HB.out.aB⟩
end
section
open Lr (PT bit rows aV)
theorem aaz (rs:List PR) (rest:Bool) (g gr og o n cc cr:Nat) (W:World) (h1:1<=n) (h64:n<64):
 Calls Tryz.prog 161 #[.agg #[.slice (some ⟨gr,og,none⟩) rs.length cr, .bool rest], .slice (some ⟨g,o,none⟩) n cc, .int .i64 0] W λe w'=>e= .returned (.tuple #[.bool true, .int .i64 (-1)])/\Below W.heap.size W w':=by
 have HB0:=ah (Bx.start 122 W #[.slice (some ⟨gr,og,none⟩) rs.length cr, .bool rest]);have hd0:((n:Int)==0)=false:=dB.2 (by omega);have hd2:¬(n:Int)<0:=by omega
 go_enter Tryz.func161,Tryz.ntmps161;go_wp2_with fail;exact qZ (results_tmp2 rfl _ _ _) rfl ⟨rfl,HB0.out.aB⟩
theorem aaA (rs:List PR) (rest:Bool) (g gr og o n cc cr:Nat) (W:World) (h1:1<=n) (h64:n<64):
 Calls Tryz.prog 161 #[.agg #[.slice (some ⟨gr,og,none⟩) rs.length cr, .bool rest], .slice (some ⟨g,o,none⟩) n cc, .int .i64 n] W λe w'=>e= .returned (.tuple #[.bool true, .int .i64 (-1)])/\Below W.heap.size W w':=by
 have HB0:=ah (Bx.start 122 W #[.slice (some ⟨gr,og,none⟩) rs.length cr, .bool rest]);have hd0:((n:Int)==0)=false:=dB.2 (by omega);have hd1:¬(n:Int)<0:=by omega
 have hd2:¬(n:Int)<n:=by omega
 go_enter Tryz.func161,Tryz.ntmps161;go_wp2_with fail;exact qZ (results_tmp2 rfl _ _ _) rfl ⟨rfl,HB0.out.aB⟩
def lD (cut:Nat->Bool) (n i:Nat):Bool:=decide (i=0)||decide (i=n)||cut i
theorem RQ (rs:List PR) (rest:Bool) (cut:Nat->Bool) (c:List Int) (g gr og o n cc cr at_:Nat) (W:World) (hcut:∀k b,1<=k->k<n->fZ rest c k b rs->b=cut k) (hR:kK W gr og rs) (hI:bQ W (some ⟨g,o,none⟩) n c) (h1:1<=n) (h2:at_<=n) (h64:n+1<64) (hcc:n<=cc):
 Calls Tryz.prog 161 #[.agg #[.slice (some ⟨gr,og,none⟩) rs.length cr, .bool rest], .slice (some ⟨g,o,none⟩) n cc, .int .i64 at_] W λe w'=>∃(x:Int),e= .returned (.tuple #[.bool (lD cut n at_), .int .i64 x])/\Below W.heap.size W w':=by
 by_cases c0:at_=0;·subst c0;refine(aaz rs rest g gr og o n cc cr W h1 (by omega)).mono ?_;rintro e w ⟨rfl,hb⟩;exact⟨_,rfl,hb⟩
 by_cases cn:at_=n;·subst cn;refine(aaA rs rest g gr og o at_ cc cr W h1 (by omega)).mono ?_;rintro e w ⟨rfl,hb⟩;exact⟨-1,by simp[lD],hb⟩
 refine(WA rs rest c g gr og o n cc cr at_ W hR hI (by omega) (by omega) h64 hcc).mono ?_;rintro e w ⟨q,x,rfl,hd,hb⟩;exact⟨x,by rw[hcut at_ q (by omega) (by omega) hd];simp[lD,c0,cn],hb⟩
theorem Pf (rs:List PR) (rest:Bool) (cut:Nat->Bool) (c:List Int) (g gr og o n cc cr:Nat) (W:World) (hcut:∀k b,1<=k->k<n->fZ rest c k b rs->b=cut k) (hR:kK W gr og rs) (hI:bQ W (some ⟨g,o,none⟩) n c) (h1:1<=n) (h64:n+1<64) (hcc:n<=cc):
 Calls Tryz.prog 109 #[.agg #[.slice (some ⟨gr,og,none⟩) rs.length cr, .bool rest], .slice (some ⟨g,o,none⟩) n cc] W (dL (upF (lD cut n) (n+1)) W):=by
 have HD:=ah (λ(k:Nat) (w:World) (hb:Below W.heap.size W w) (hk:k<=n)=>RQ rs rest cut c g gr og o n cc cr k w hcut (hR.below hb) (eu hI hb) h1 hk h64 hcc);clear hR hI hcut;obtain⟨N,hN⟩:∃N,rs.length=N:=⟨_,rfl⟩
 rw[hN]at HD⊢;obtain⟨f,hf⟩:∃f,lD cut n=f:=⟨_,rfl⟩
 rw[hf]at HD⊢;clear hN hf;obtain⟨i0,hI0,hz0,hz1,hz2⟩:=eD gK;obtain⟨w1,hw1⟩:∃w1,W.alloc (.cells #[.slice (some ⟨gr,og,none⟩) N cr, .bool rest] 122)=w1:=⟨_,rfl⟩
 have HB0:=ah (Bx.start 122 W #[.slice (some ⟨gr,og,none⟩) N cr, .bool rest]);rw[hw1]at HB0;have HW1:=ah hw1;clear hw1;have hn0:((n:Int)+1:Int)=((n+1:Nat):Int):=by omega
 clear hn0;go_enter Tryz.func109,Tryz.ntmps109;go_wp2_with fail;rw[HW1.out];go_loopw [5,6] (λvo vi wr=>∃(i m:Nat) (Ao:Option Addr) (co:Nat),i<=n+1/\m<=i/\vi= .int .i64 i/\vo= .slice Ao m co/\IA w1 (.slice Ao m co) m (upF f i) wr) (λ_ vi _=>n+1-(RowKit.intOf vi).toNat);case atStart=>exact⟨0,0,none,0,aH _,ay _,rfl,rfl,IA.nil w1⟩
 case round=>
  obtain⟨i,m,Ao,co,hi,O6,rfl,rfl,hA⟩:=hrel;have HA:=ah hA;have HB:=ah (HB0.out.go hA.aB);clear hA;have y0:=(HB.out.c 0).trans rfl;have y1:=(HB.out.c 1).trans rfl;by_cases hlt:i<=n
  ·have Eo:=up_succ f i;have HDI:=ah (HD.out i wr HB.out.aB hlt);obtain⟨q,hq⟩:∃q,f i=q:=⟨_,rfl⟩
   rw[hq]at Eo HDI;have hii:(i:Int)<=n:=by omega
   have hi0:(0:Int)<=i:=by omega
   have rU:=ah (show wrap64 ((i:Int)+1)=((i+1:Nat):Int)by unfold wrap64;omega);have HLEN:=ah (Ev (show m<=100000 by omega));have Ud:=ah O6;clear hq O6;cases q with
   |true=>
    have LW:=ah (show upF f (i+1)=upF f i++[(i:Int)]by rw[Eo,ak rfl]);clear Eo;go_wp2_with (first
     |(go_at_call 161;refine HDI.out.mono ?_;rintro e w4 ⟨x,rfl,hb⟩;have Ml:=ah (HA.out.below hb);clear hb)
     |(at_builtin;refine aY _ rfl (.tmp 23) (.tmp 25) 41 rfl w1.heap.size 3 i0 _ 8 Tryz.underlying41 hI0 hz0 hz1 hz2 rfl (.slice Ao m co) m (bD (upF f i)) rfl Ml.out.eF _ 1 1 [.int .i64 i] rfl (bY _ _ _) (by simp[Value.oneCell']) HLEN.out.1 HLEN.out.2 (by rw[World.size_alloc];have:=Ml.out.aB.size;omega) ?_;intro v' wp ho hg hn;obtain⟨B1,d1,rfl,_⟩:=aL ho;have nT:=Lib.hid (Ml.out.grow ho hg);clear ho hg hn))
    (try rw[rU.out]);exact⟨⟨i+1,m+1,_,_,by omega,Nat.succ_le_succ Ud.out,rfl,rfl,by rw[LW.out];exact nT.out⟩,by simp[RowKit.intOf];omega⟩
   |false=>have LW:=ah (show upF f (i+1)=upF f i by rw[Eo,aj (by decide),fq]);clear Eo;go_wp2_with (go_at_call 161;refine HDI.out.mono ?_;rintro e w4 ⟨x,rfl,hb⟩;have Ml:=ah (HA.out.below hb);clear hb);(try rw[rU.out]);exact⟨⟨i+1,m,_,_,by omega,Nat.le_succ_of_le Ud.out,rfl,rfl,by rw[LW.out];exact Ml.out⟩,by simp[RowKit.intOf];omega⟩
  ·obtain rfl:i=n+1:=by omega
   have HM:=ah (show m<=100000 by omega);have hii:¬((n+1:Nat):Int)<=n:=by omega
   clear O6;go_wp2;go_ret;exact⟨Ao,m,co,rfl,gM HA.out.own HM.out,HB.out.aB⟩
end
section
open Lr
structure SD where
 left:List Int
 right:List Int
 WY:Bool
 WZ:Bool
def SD.may (s:SD) (a b:Int):Bool:=(s.WY||decide (a∈s.left))&&(s.WZ||decide (b∈s.right))
def LY (r:PR) (x:SD):Bool:=Zv r.left&&Zv r.right&&(!Q6 r.left||x.WY)&&(!Q6 r.right||x.WZ)&&(Og r.left).all (λy=>decide ((y:Int)∈x.left))&&(firstP r.right).all (λy=>decide ((y:Int)∈x.right))
theorem aaB {r:PR} {x:SD} (h:LY r x=true) {c:List Int} {k:Nat} (h1:1<=k) (_:k<c.length) (ha:wJ r c k):x.may (c.getD (k-1) 0) (c.getD k 0)=true:=by
 unfold LY at h;simp only[aR,cK,Bool.not_eq_true',gF,iI]at h;obtain⟨⟨⟨⟨⟨p1,p2⟩,n1⟩,n2⟩,l1⟩,f1⟩:=h;obtain⟨⟨i,hi⟩,⟨m,hm⟩,_,_⟩:=ha;unfold SD.may;rw[aR,cK,cK,iI,iI];constructor
 ·obtain⟨a1,a2,a3⟩:=Oh _ p1 _ _ _ hi;rcases aK i k with c1|c1
  ·obtain⟨y,hy,e⟩:=(a3 c1).1;rw[takeD c (by omega)]at e;exact .inr (e▸l1 y hy)
  ·have:=a2 (by omega);rw[this]at n1;exact .inl (n1.resolve_left (by decide))
 ·obtain⟨a1,a2,a3⟩:=Oh _ p2 _ _ _ hm;rcases kN m with c1|c1
  ·have:=a2 c1.symm;rw[this]at n2;exact .inl (n2.resolve_left (by decide))
  ·obtain⟨y,hy,e⟩:=(a3 c1).2;rw[getD_drop,dA]at e;exact .inr (e▸f1 y hy)
def yG:List PR->List SD->Bool
 |[],[]=>true
 |r::rs,x::xs=>LY r x&&yG rs xs
 |_,_=>false
theorem J3:∀{rs:List PR} {ss:List SD},yG rs ss=true->ss.length=rs.length/\∀(i:Nat) (r:PR) (x:SD),rs[i]? =some r->ss[i]? =some x->LY r x=true
 |[],[],_=>⟨rfl,λi r x h=>by simp at h⟩
 |[],_::_,h=>by cases h
 |_::_,[],h=>by cases h
 |r::rs,x::xs,h=>by
  rw[yG,aR]at h;obtain⟨h1,h2⟩:=J3 h.2;refine⟨by simp[h1],λi r' x' hr hx=> ?_⟩;cases i with
  |zero=>
   obtain rfl:r=r':=by simpa using hr
   obtain rfl:x=x':=by simpa using hx
   exact h.1
  |succ i=>exact h2 i r' x' (by simpa using hr) (by simpa using hx)
end
structure Ul (w:World) (A:Option Addr) (n:Nat) (ss:List SD):Prop where
 len:ss.length=n
 at_:∀i s,ss[i]? =some s->∃g o lA ln lc rA rn rc,A=some ⟨g,o,none⟩/\g<w.heap.size/\w.cell? ⟨g,o+i*4,none⟩=some (.slice lA ln lc)/\w.cell? ⟨g,o+i*4+1,none⟩=some (.slice rA rn rc)/\w.cell? ⟨g,o+i*4+2,none⟩=some (.bool s.WY)/\w.cell? ⟨g,o+i*4+3,none⟩=some (.bool s.WZ)/\bQ w lA ln s.left/\bQ w rA rn s.right
theorem agR (s:SD) (a b:Int) (lA rA:Option Addr) (ln lc rn rc:Nat) (W:World) (hL:bQ W lA ln s.left) (hR:bQ W rA rn s.right):
 Calls Tryz.prog 127 #[.agg #[.slice lA ln lc, .slice rA rn rc, .bool s.WY, .bool s.WZ], .int .i64 a, .int .i64 b] W λe w'=>e= .returned (.bool (s.may a b))/\Below W.heap.size W w':=by
 obtain⟨left,right,WY,WZ⟩:=s;have HB0:=ah (Bx.start 197 W #[.slice lA ln lc, .slice rA rn rc, .bool WY, .bool WZ]);have y0:=(HB0.out.c 0).trans rfl;have y1:=(HB0.out.c 1).trans rfl;have y2:=(HB0.out.c 2).trans rfl;have y3:=(HB0.out.c 3).trans rfl;have HL:=ah (OM left a lA ln lc _ (eu hL HB0.out.aB));have HR:=ah (OM right b rA rn rc _ (eu hR HB0.out.aB));unfold SD.may;dsimp only;obtain⟨p,hp⟩:∃p,decide (a∈left)=p:=⟨_,rfl⟩
 obtain⟨q,hq⟩:∃q,decide (b∈right)=q:=⟨_,rfl⟩
 rw[hp]at HL⊢;rw[hq]at HR⊢;clear hL hR hp hq;go_enter Tryz.func127,Tryz.ntmps127;cases WY<;>cases WZ<;>cases p<;>cases q;all_goals go_wp2_with (first|(go_at_call 179;with_reducible refine HL.out.mono ?_;rintro e w7 ⟨rfl,rfl⟩)|(go_at_call 179;with_reducible refine HR.out.mono ?_;rintro e w7 ⟨rfl,rfl⟩))
 all_goals go_ret
 all_goals exact⟨rfl,HB0.out.aB⟩
theorem WB (t:List UInt8) {k:Nat} (h:k<=(marks t).length):(gV t).getD k 0=if k<(marks t).length then(eG t).getD k 0 else(t.length:Int):=by
 unfold gV;rw[aM,aM];by_cases c:k<(marks t).length;·rw[ak c,pI (by rw[rD];exact c)]
 ·obtain rfl:k=(marks t).length:=by omega
  rw[aj c,rH (by rw[rD];exact ay _),rD,wM];rfl
def Du (es:List Int) (f:Nat->Bool) (n:Nat):List Int:=((List.range n).filter f).map λk=>es.getD k 0
theorem upF_get (es:List Int) (f:Nat->Bool) (n:Nat) {j:Nat} (hj:j<(upF f n).length):∃k,k<n/\(upF f n).getD j 0=(k:Int)/\(Du es f n).getD j 0=es.getD k 0:=by
 unfold upF at hj⊢;rw[dG]at hj;refine⟨((List.range n).filter f)[j],?_,?_,?_⟩;·exact mh.1 (oq.1 (l6 hj)).1
 ·rw[aM,fQ,aX hj];rfl
 ·unfold Du;rw[aM,fQ,aX hj];rfl
theorem Pg (es:List Int) (f:Nat->Bool) (n:Nat):(Du es f n).length=(upF f n).length:=by unfold Du upF;rw[dG,dG]
theorem aaC {l:List Int} {j:Nat} (h:j<l.length):l.take (j+1)=l.take j++[l.getD j 0]:=by rw[Bg,aX h,aM,aX h];rfl
structure aaD (w:World) (v:Value) (R:List gU) (N:Nat) (rs:List PR) (rest:Bool):Prop where
 at_:∃g o d gr og cr,v= .pointer (some ⟨g,o,none⟩)/\g<w.heap.size/\w.cell? ⟨g,o,none⟩=some d/\w.cell? ⟨g,o+1,none⟩=some (.slice (some ⟨gr,og,none⟩) rs.length cr)/\w.cell? ⟨g,o+2,none⟩=some (.bool rest)/\DbT w d R N/\kK w gr og rs
theorem Ph (R:List gU) (NN:Nat) (hT:yY R NN) (t:List UInt8) (v:Value) (rs:List PR) (rest:Bool) (W:World) (hB:aaD W v R NN rs rest) (hn:t.length<=10000) (cut:Nat->Bool) (h64:(marks t).length+1<64) (hne:t≠[]) (h1:1<=(marks t).length)
 (hcut:∀k b,1<=k->k<(marks t).length->fZ rest (iZ R t) k b rs->b=cut k):
 Calls Tryz.prog 64 #[v, .string ⟨t.toArray⟩] W (dL (Du (gV t) (lD cut (marks t).length) ((marks t).length+1)) W):=by
 obtain⟨M,hM⟩:∃M,(marks t).length=M:=⟨_,rfl⟩
 obtain⟨s,hs⟩:∃s:ByteArray,(⟨t.toArray⟩:ByteArray)=s:=⟨_,rfl⟩
 have hs0:((s.size:Int)==0)=false:=by rw[size_mk t s hs,dB];have:=xM.2 hne;omega
 obtain⟨g,o,d,gr,og,cr,rfl,hg,c0,c1,c2,hD,hR⟩:=hB.at_;have HED:=ah (λw=>Wv t w hn);have HOF:=ah (λ(w:World) (hb:Below W.heap.size W w)=>agN R NN hT t d w (jP hD hb) hn);rw[hs]at HED HOF⊢;have TD:=ah (qy R t);rw[hM]at h64 h1 hcut TD⊢;have HB8:=ah (λ(w:World) (hb:Below W.heap.size W w) (A n c) (hI:bQ w A n (iZ R t)) (hcc:n<=c)=>show Calls Tryz.prog 109 #[.agg #[.slice (some ⟨gr,og,none⟩) rs.length cr, .bool rest], .slice A n c] w (dL (upF (lD cut M) (M+1)) w)from by
  obtain rfl:n=M:=by rw[<-hI.len,TD.out]
  obtain⟨g',o',rfl,_⟩:=hI.at_ (by omega);exact Pf rs rest cut (iZ R t) g' gr og o' n c cr w hcut (hR.below hb) hI h1 h64 hcc)
 have HEG:=ah (show(gV t).length=M+1 by unfold gV;rw[bG,rD,hM];rfl);generalize gV t=es at*
 generalize iZ R t=cs at*
 obtain⟨N,hN⟩:∃N,rs.length=N:=⟨_,rfl⟩
 rw[hN]at c1 HB8;obtain⟨f,hf⟩:∃f,lD cut M=f:=⟨_,rfl⟩
 rw[hf]at HB8⊢;clear hf hN hD hR hcut hn hs hM hB hne hT;have HC:=ah (λ(w:World) (hb:Below W.heap.size W w)=>And.intro ((hb.cell (p:=⟨g,o,none⟩) hg).trans c0) (And.intro ((hb.cell (p:=⟨g,o+1,none⟩) hg).trans c1) ((hb.cell (p:=⟨g,o+2,none⟩) hg).trans c2)));obtain⟨i0,hI0,hz0,hz1,hz2⟩:=eD gK;go_enter Tryz.func64,Tryz.ntmps64;go_upto_region 4 with(go_at_call 108;refine(HED.out _).mono ?_;rintro e w1 ⟨A1,n1,k1,rfl,hI,hb⟩;have HI1:=ah hI;have HB1:=ah hb;clear hI hb)
 have Fu:=ah (show Below W.heap.size W w1.drew from⟨HB1.out.os,HB1.out.tape,HB1.out.output,HB1.out.size,HB1.out.block⟩);have HId:=ah (show bQ w1.drew A1 n1 es from⟨HI1.out.len,HI1.out.small,HI1.out.at_⟩);obtain⟨d0,d1,d2⟩:=HC.out _ Fu.out;go_cut [6] (λq wx=>∃A3 n3 c3,q= .slice A3 n3 c3/\bQ wx A3 n3 (upF f (M+1))/\bQ wx A1 n1 es/\Below W.heap.size W wx);case first=>
  go_region_law (first
   |(go_simp;refine(HOF.out _ Fu.out).mono ?_;rintro e w2 ⟨A2,n2,k2,rfl,hI,hcc,hb⟩;have HI2:=Lib.hid hI;have HCC:=Lib.hid hcc;have HB2:=Lib.hid (Fu.out.trans (hb.mono Fu.out.size));have HJ2:=Lib.hid (eu HId.out hb);clear hI hb hcc;obtain⟨d0,d1,d2⟩:=HC.out _ HB2.out;dsimp only)
   |(go_simp;refine(HB8.out _ HB2.out _ _ _ HI2.out HCC.out).mono ?_;rintro e w3 ⟨A3,n3,k3,rfl,hI,hb⟩;have HI3:=Lib.hid hI;have HB3:=Lib.hid (HB2.out.trans (hb.mono HB2.out.size));have HJ3:=Lib.hid (eu HJ2.out hb);clear hI hb;dsimp only))
  all_goals go_wp2_with fail
  all_goals go_meet
  all_goals exact⟨_,_,_,rfl,HI3.out,HJ3.out,HB3.out⟩
 case rest=>
  obtain⟨A3,n3,c3,rfl,hI3,hJ3,hB3⟩:=hcut;have HI3:=ah hI3;have HJ3:=ah hJ3;have HB3:=ah hB3;clear hI3 hJ3 hB3;have HN1:=ah (show n1=M+1 by rw[<-HI1.out.len,HEG.out]);have HN3:=ah (show(upF f (M+1)).length=n3 from HI3.out.len);have hn3:n3<=64:=by have:=up_len f (M+1);have:=HN3.out;omega
  obtain⟨wz,hwz⟩:∃wz,wc=wz:=⟨_,rfl⟩
  subst hwz;go_wp2_with fail;go_loopw [7,8] (λvl vi wr=>∃(k:Nat) (A2:Option Addr) (c2:Nat),k<=n3/\vi= .int .i64 k/\vl= .slice A2 k c2/\IA wc (.slice A2 k c2) k ((Du es f (M+1)).take k) wr) (λ_ vi _=>n3 - (RowKit.intOf vi).toNat);case atStart=>exact⟨0,none,0,aH _,rfl,rfl,IA.nil wc⟩
  case round=>
   obtain⟨k,A2,c2,hk,rfl,rfl,hA⟩:=hrel;have HA:=ah hA;clear hA;by_cases hlt:k<n3
   ·have HLEN:=ah (Ev (show k<=100000 by omega));obtain⟨q,hq,e1,e2⟩:=upF_get es f (M+1) (j:=k) (by rw[HN3.out];exact hlt);obtain⟨gl,ol,rfl,hgl,hcl⟩:=HI3.out.at_ (by omega);obtain⟨ge,oe,rfl,hge,hce⟩:=HJ3.out.at_ (by have:=HN1.out;omega);have z1:=(HA.out.aB.cell (p:=⟨gl,ol+k,none⟩) hgl).trans (hcl k hlt);have z2:=(HA.out.aB.cell (p:=⟨ge,oe+q,none⟩) hge).trans (hce q (by rw[HN1.out];exact hq));rw[e1]at z1;have htk:=aaC (l:=Du es f (M+1)) (j:=k) (by rw[Pg,HN3.out];exact hlt);rw[e2]at htk;obtain⟨x,hx⟩:∃x,es.getD q 0=x:=⟨_,rfl⟩
    rw[hx]at z2 htk;have Er:=ah htk;have hq0:(0:Int)<=q:=by omega
    have hq1:(q:Int)<n1:=by have:=HN1.out;omega
    have hk0:(0:Int)<=k:=by omega
    have hk1:(k:Int)<n3:=by omega
    have jX:=ah (show wrap64 ((k:Int)+1)=((k+1:Nat):Int)by unfold wrap64;omega);clear hcl hce hgl hge e1 e2 htk hx;go_wp2_with (at_builtin;refine aY _ rfl (.tmp 31) (.tmp 39) 41 rfl wc.heap.size 3 i0 _ 8 Tryz.underlying41 hI0 hz0 hz1 hz2 rfl (.slice A2 k c2) k (bD ((Du es f (M+1)).take k)) rfl HA.out.eF _ 1 1 [.int .i64 x] rfl (bY _ _ _) (by simp[Value.oneCell']) HLEN.out.1 HLEN.out.2 (by rw[World.size_alloc];have:=HA.out.aB.size;omega) ?_;intro v' wp ho hg hn;obtain⟨B1,d1,rfl,_⟩:=aL ho;have nT:=Lib.hid (HA.out.grow ho hg);clear ho hg hn);(try rw[jX.out]);exact⟨⟨k+1,_,_,hlt,rfl,rfl,by rw[Er.out];exact nT.out⟩,by simp[RowKit.intOf];omega⟩
   ·obtain rfl:k=n3:=by omega
    have htk:(Du es f (M+1)).take k=Du es f (M+1):=nC (by rw[Pg,HN3.out];exact ay _);rw[htk]at HA;have HK:=ah (show k<=100000 by omega);clear htk hk;go_wp2;go_ret;exact⟨_,_,_,rfl,gM HA.out.own HK.out,HB3.out.trans (HA.out.aB.mono HB3.out.size)⟩
def tu (cut:Nat->Bool) (ats:List Int) (L:Int) (n i:Nat):List Int:=((List.range i).filter (lD cut n)).map λk=>if k<n then ats.getD k 0 else L
theorem J4 (cut:Nat->Bool) (ats:List Int) (L:Int) (n i:Nat):tu cut ats L n (i+1)=tu cut ats L n i++if lD cut n i=true then[if i<n then ats.getD i 0 else L]else[]:=by
 unfold tu;rw[List.range_succ,List.filter_append,Bj];congr 1;by_cases c:lD cut n i=true;·simp[c]
 ·simp[c]
def Cg (W:World) (v:Value) (ss:List SD):Prop:=∀w,Below W.heap.size W w->Calls Tryz.prog 126 #[v] w λe w'=>∃A n c,e= .returned (.slice A n c)/\Ul w' A n ss/\Below w.heap.size w w'
theorem Pj (R:List gU) (NN:Nat) (hT:yY R NN) (t:List UInt8) (rs:List PR) (ss:List SD) (rest:Bool) (gr og cr:Nat) (d:Value) (W:World) (hD:DbT W d R NN) (hRl:kK W gr og rs) (hS:Cg W (.agg #[.slice (some ⟨gr,og,none⟩) rs.length cr, .bool rest]) ss) (hn:t.length<=10000) (cut:Nat->Bool) (h1:1<=(marks t).length) (h64:(marks t).length+1<64) (hcut:∀k b,1<=k->k<(marks t).length->fZ rest (iZ R t) k b rs->b=cut k) (hss:ss.length=rs.length)
 (hmay:∀(i:Nat) (r:PR) (x:SD) (k:Nat),rs[i]? =some r->ss[i]? =some x->1<=k->k<(marks t).length->wJ r (iZ R t) k->x.may ((iZ R t).getD (k - 1) 0) ((iZ R t).getD k 0)=true):
 Calls Tryz.prog 78 #[d, .agg #[.slice (some ⟨gr,og,none⟩) rs.length cr, .bool rest], .string ⟨t.toArray⟩] W (dL (tu cut (eG t) t.length (marks t).length ((marks t).length+1)) W):=by
 obtain⟨M,hM⟩:∃M,(marks t).length=M:=⟨_,rfl⟩
 rw[hM]at h1 h64 hcut hmay⊢;have HMM:=ah hM;clear hM;obtain⟨s,hs⟩:∃s:ByteArray,(⟨t.toArray⟩:ByteArray)=s:=⟨_,rfl⟩
 have aaE:=ah (λw=>Dn t w hn);rw[hs]at aaE⊢;obtain⟨D,oD,hd⟩:∃D oD,d= .pointer (some ⟨D,oD,none⟩):=by obtain⟨D,o,_,_,_,h,_⟩:=hD;exact⟨D,o,h⟩
 subst hd;have HRl:=ah hRl;have HS:=ah hS;have HD:=ah hD;have HT:=ah hT;have HNN:=ah hn;obtain⟨N,hN⟩:∃N,rs.length=N:=⟨_,rfl⟩
 have HN:=ah hN;rw[hN]at HS⊢;have HB0:=ah (Bx.start 122 W #[.slice (some ⟨gr,og,none⟩) N cr, .bool rest]);obtain⟨wz,hwz⟩:∃wz,(W.alloc (.cells #[.slice (some ⟨gr,og,none⟩) N cr, .bool rest] 122)).alloc (.cells #[.pointer (some ⟨D,oD,none⟩), .slice (some ⟨gr,og,none⟩) N cr, .bool rest, .slice none 0 0, .slice none 0 0, .int .i64 0, .int .i64 0] 192)=wz:=⟨_,rfl⟩
 have hx0:wz.cell? ⟨W.heap.size+1,0,none⟩=some (.pointer (some ⟨D,oD,none⟩)):=by have h:=cO (W.alloc (.cells #[.slice (some ⟨gr,og,none⟩) N cr, .bool rest] 122)) (.cells #[.pointer (some ⟨D,oD,none⟩), .slice (some ⟨gr,og,none⟩) N cr, .bool rest, .slice none 0 0, .slice none 0 0, .int .i64 0, .int .i64 0] 192);rw[fK,hwz]at h;exact(bA _ _ _ _ _ _ h).trans rfl
 have HBz:=ah (HB0.out.go (show Below _ _ wz from by rw[<-hwz];exact(aF _ _).alloc (ay _) _));have hsz:W.heap.size+1<wz.heap.size:=by rw[<-hwz,fK,fK];omega
 have HX0:=ah hx0;have sV:=ah hsz;have HWZ:=ah hwz;have LG:=ah hcut;have aot:=ah hmay;have lI:=ah hss;have HS1:=ah (size_mk t s hs);clear hRl hS hD hT hn hs hN hx0 hsz hwz hcut hmay hss;obtain⟨i0,hI0,hz0,hz1,hz2⟩:=eD gK;go_enter Tryz.func78,Tryz.ntmps78;go_wp2_with (first
  |(go_at_call 89;rw[HWZ.out];refine(aaE.out _).mono ?_;rintro e w2 ⟨A,n,c,rfl,hR,hb⟩;have HR:=ah hR;have HX2:=ah ((hb.cell (p:=⟨W.heap.size+1,0,none⟩) sV.out).trans HX0.out);have HB2:=ah (HBz.out.go hb);have HS2:=ah (bH sV.out hb.size);clear hR hb)
  |(go_at_call 125;refine(Ec R NN HT.out t (W.heap.size+1) _ A n c w2 HS2.out HX2.out (jP HD.out HB2.out.aB) HR.out HNN.out).mono ?_;rintro e w3 ⟨A3,n3,c3,rfl,hI,akd,hb⟩;have HI3:=ah hI;have HCC:=ah akd;clear akd;have HR3:=ah (HR.out.below hb);have HB3:=ah (HB2.out.go hb);clear hI hb;have y0:=(HB3.out.c 0).trans rfl;have y1:=(HB3.out.c 1).trans rfl)
  |(go_at_call 126;refine(HS.out w3 HB3.out.aB).mono ?_;rintro e w4 ⟨A4,n4,c4,rfl,hSd,hb⟩;have HSd:=ah hSd;have HI4:=ah (eu HI3.out hb);have HR4:=ah (HR3.out.below hb);have JU:=ah (HB3.out.go hb);clear hSd hb y0 y1))
 obtain rfl:n3=n:=by rw[<-HI4.out.len,<-HR4.out.len,qy,yD]
 obtain rfl:n3=M:=by rw[<-HI4.out.len,qy,HMM.out]
 go_loopw [11,12] (λvo vi wr=>∃(i m:Nat) (Ao:Option Addr) (co:Nat),i<=n3+1/\m<=i/\vi= .int .i64 i/\vo= .slice Ao m co/\IA w4 (.slice Ao m co) m (tu cut (eG t) t.length n3 i) wr) (λ_ vi _=>n3+1 - (RowKit.intOf vi).toNat);case atStart=>exact⟨0,0,none,0,aH _,ay _,rfl,rfl,IA.nil w4⟩
 case round=>
  obtain⟨i,m,Ao,co,hi,O6,rfl,rfl,hA⟩:=hrel;have HA:=ah hA;have HB:=ah (JU.out.go hA.aB);clear hA;have y0:=(HB.out.c 0).trans rfl;have y1:=(HB.out.c 1).trans rfl;by_cases hlt:i<=n3
  ·have hii:(i:Int)<=n3:=by omega
   have hn0:0<n3:=by omega
   have hi0:(0:Int)<=i:=by omega
   have rU:=ah (show wrap64 ((i:Int)+1)=((i+1:Nat):Int)by unfold wrap64;omega);have HLEN:=ah (Ev (show m<=100000 by omega));go_upto_region 9 with fail;go_cut [13] (λq wx=>q= .bool (decide (i=0)||decide (i=n3))/\wx=wr);case first=>
    by_cases c0:i=0
    ·subst c0;go_wp2_with fail;go_meet;exact⟨rfl,rfl⟩
    ·have hb0:((i:Int)==0)=false:=dB.2 (by omega);by_cases cn:i=n3
     ·have hbn:((i:Int)==n3)=true:=bV.2 (by omega);have hd:(decide (i=0)||decide (i=n3))=true:=by simp[cn]
      have HDD:=ah hd;clear hd cn;go_wp2_with fail;go_meet;rw[HDD.out];exact⟨rfl,rfl⟩
     ·have hbn:((i:Int)==n3)=false:=dB.2 (by omega);have HDD:=Lib.hid (show(decide (i=0)||decide (i=n3))=false by simp[c0,cn]);go_wp2_with fail;go_meet;rw[HDD.out];exact⟨rfl,rfl⟩
   case rest=>
    obtain⟨rfl,rfl⟩:=hcut;by_cases hz:i=0\/i=n3
    ·have hdd:(decide (i=0)||decide (i=n3))=true:=by rcases hz with h|h <;> simp[h]
     rw[hdd];have hsucc:=J4 cut (eG t) t.length n3 i;rw[show lD cut n3 i=true by unfold lD;rw[hdd];rfl,ak rfl]at hsucc;have Ud:=ah O6;clear hdd hz O6;by_cases Pk:i<n3
     ·rw[ak Pk]at hsucc;obtain⟨g,rfl,hg,hc⟩:=HR4.out.at_ (by omega);have d1:=hc i Pk 1 _ (by decide) rfl;rw[LQ t (by rw[HMM.out];exact Pk)]at d1;obtain⟨x,hx⟩:∃x,(eG t).getD i 0=x:=⟨_,rfl⟩
      rw[hx]at d1 hsucc;have d2:=(HA.out.aB.cell (p:=⟨g,i*3+1,none⟩) hg).trans d1;have hii2:(i:Int)<n3:=by omega
      have LW:=ah hsucc;clear hc d1 hx hg hsucc;go_wp2_with (at_builtin;refine aY _ rfl (.tmp 93) (.tmp 99) 41 rfl w4.heap.size 3 i0 _ 8 Tryz.underlying41 hI0 hz0 hz1 hz2 rfl (.slice Ao m co) m (bD (tu cut (eG t) t.length n3 i)) rfl HA.out.eF _ 1 1 [.int .i64 x] rfl (bY _ _ _) (by simp[Value.oneCell']) HLEN.out.1 HLEN.out.2 (by rw[World.size_alloc];have:=HA.out.aB.size;omega) ?_;intro v' wp ho hg hn;obtain⟨B1,d1,rfl,_⟩:=aL ho;have nT:=Lib.hid (HA.out.grow ho hg);clear ho hg hn);(try rw[rU.out]);exact⟨⟨i+1,m+1,_,_,by omega,Nat.succ_le_succ Ud.out,rfl,rfl,by rw[LW.out];exact nT.out⟩,by simp[RowKit.intOf];omega⟩
     ·rw[aj Pk]at hsucc;have hii2:¬(i:Int)<n3:=by omega
      have LW:=ah hsucc;have ajK:(s.size:Int)=(t.length:Nat):=by rw[HS1.out]
      clear hsucc;go_wp2_with (at_builtin;refine aY _ rfl (.tmp 102) (.tmp 105) 41 rfl w4.heap.size 3 i0 _ 8 Tryz.underlying41 hI0 hz0 hz1 hz2 rfl (.slice Ao m co) m (bD (tu cut (eG t) t.length n3 i)) rfl HA.out.eF _ 1 1 [.int .i64 (t.length:Nat)] rfl (bY _ _ _) (by simp[Value.oneCell']) HLEN.out.1 HLEN.out.2 (by rw[World.size_alloc];have:=HA.out.aB.size;omega) ?_;intro v' wp ho hg hn;obtain⟨B1,d1,rfl,_⟩:=aL ho;have nT:=Lib.hid (HA.out.grow ho hg);clear ho hg hn);(try rw[rU.out]);exact⟨⟨i+1,m+1,_,_,by omega,Nat.succ_le_succ Ud.out,rfl,rfl,by rw[LW.out];exact nT.out⟩,by simp[RowKit.intOf];omega⟩
    ·have hdd:(decide (i=0)||decide (i=n3))=false:=by simp only[Bool.or_eq_false_iff,Ey];omega
     rw[hdd];clear hdd;go_upto_block 2 with fail;go_cut [13] (λq wx=>q= .bool (cut i)/\IA w4 (.slice Ao m co) m (tu cut (eG t) t.length n3 i) wx);case first=>
      go_wp2_with fail;go_loopw [13,14] (λvc vi wq=>∃k:Nat,k<=N/\vi= .int .i64 k/\vc= .bool rest/\IA w4 (.slice Ao m co) m (tu cut (eG t) t.length n3 i) wq/\∀b,fZ rest (iZ R t) i b (rs.drop k)->fZ rest (iZ R t) i b rs) (λ_ vi _=>N - (RowKit.intOf vi).toNat);case atStart=>exact⟨0,aH _,rfl,rfl,HA.out,λ_ h=>h⟩
      case round=>
       obtain⟨k,hk,rfl,rfl,hA2,hD2⟩:=hrel;have HA2:=ah hA2;have HD2:=ah hD2;clear hA2 hD2;have y0:=((JU.out.go HA2.out.aB).c 0).trans rfl;by_cases hkN:k<N
       ·obtain⟨r,hr⟩:∃r,rs[k]? =some r:=⟨_,aX (by rw[HN.out];exact hkN)⟩
        obtain⟨x,hx⟩:∃x,ss[k]? =some x:=⟨_,aX (by rw[lI.out,HN.out];exact hkN)⟩
        obtain⟨hl,v,hv,hc⟩:=HRl.out.at_ k r hr;have HRR:=ah hr;obtain⟨gs,os,lA,ln,lc,rA,rn,rc,rfl,hgs,s0,s1,s2,s3,hL,hRr⟩:=HSd.out.at_ k x hx;have HSC:=ah (λ(w:World) (hw:Below w4.heap.size w4 w)=>And.intro ((hw.cell (p:=⟨gs,os+k*4,none⟩) hgs).trans s0) (And.intro ((hw.cell (p:=⟨gs,os+k*4+1,none⟩) hgs).trans s1) (And.intro ((hw.cell (p:=⟨gs,os+k*4+2,none⟩) hgs).trans s2) ((hw.cell (p:=⟨gs,os+k*4+3,none⟩) hgs).trans s3))));obtain⟨gc,oc,rfl,hgc,hcc⟩:=HI4.out.at_ (by omega);have z0:=hcc (i - 1) (by omega);have z1:=hcc i (by omega);have hm:=aot.out k r x i hr hx (by omega) (by omega);obtain⟨a,ha⟩:∃a,(iZ R t).getD (i - 1) 0=a:=⟨_,rfl⟩
        obtain⟨b,hb⟩:∃b,(iZ R t).getD i 0=b:=⟨_,rfl⟩
        obtain⟨i1,hi1⟩:∃i1,i - 1=i1:=⟨_,rfl⟩
        rw[ha]at z0 hm;rw[hb]at z1 hm;rw[hi1]at z0;have ady:=ah (λ(w:World) (hw:Below w4.heap.size w4 w)=>And.intro ((hw.cell (p:=⟨gc,oc+i1,none⟩) hgc).trans z0) ((hw.cell (p:=⟨gc,oc+i,none⟩) hgc).trans z1));have asD:=ah JU.out.aB;have HKC:=ah (λ(w:World) (hw:Below w4.heap.size w4 w) (j:Nat) (y:Value) (hy:(v.cells r)[j]? =some y)=>show w.cell? ⟨gr,og+k*9+j,none⟩=some y from((JU.out.go hw).aB.cell (p:=⟨gr,og+k*9+j,none⟩) HRl.out.blk).trans (hc j y hy));have HMA:=ah hm;have HMC:=ah (λ(w:World) (hw:Below w4.heap.size w4 w)=>agR x a b lA rA ln lc rn rc w (eu hL hw) (eu hRr hw));have HAP:=ah (λ(w:World) (hw:Below w4.heap.size w4 w)=>Ib v r (iZ R t) gc oc n3 c3 i w (hv.below (JU.out.go hw).aB) (eu HI4.out hw) (by omega) (by omega) h64 HCC.out hl);unfold yZ.cells at HAP HKC;obtain⟨z,hz2⟩:∃z:Bool,z=true↔wJ r (iZ R t) i:=by
         by_cases h:wJ r (iZ R t) i
         ·exact⟨true,λ_=>h,λ_=>rfl⟩
         ·exact⟨false,λe=>Bool.noConfusion e,λe=>absurd e h⟩
        have HZ2:=ah hz2;have hw1:wrap64 ((i:Int) - 1)=(i1:Int):=by unfold wrap64;omega
        have hw2:IntKind.i64.wrap ((i:Int) - 1)=(i1:Int):=(IntWalk.i64_left _).trans hw1;have asE:(0:Int)<=i1:=by omega
        have asF:(i1:Int)<n3:=by omega
        have hin:(i:Int)<n3:=by omega
        have hkk:(k:Int)<N:=by omega
        have hk0:(0:Int)<=k:=by omega
        have asG:N<=64:=by rw[<-HN.out];exact HRl.out.small
        have hn4:n4=N:=by rw[<-HSd.out.len,lI.out,HN.out]
        have hk4:k<n4:=by omega
        have asH:(k:Int)<n4:=by omega
        clear hn4;have jX:=ah (show wrap64 ((k:Int)+1)=((k+1:Nat):Int)by unfold wrap64;omega);have HYC:=ah (λ(w:World) (hw:Below w4.heap.size w4 w)=>And.intro (((JU.out.go hw).c 0).trans rfl:w.cell? ⟨W.heap.size,0,none⟩=some (.slice (some ⟨gr,og,none⟩) N cr)) (((JU.out.go hw).c 1).trans rfl:w.cell? ⟨W.heap.size,1,none⟩=some (.bool rest)));clear hr hx hv hc s0 s1 s2 s3 hL hRr z0 z1 hcc ha hb hi1 hm hz2 hgs hgc hl;go_upto_region 15 with fail;go_cut [79] (λq wx=>q= .bool z/\IA w4 (.slice Ao m co) m (tu cut (eG t) t.length n3 i) wx);case first=>
         have HQ1:IA w4 (.slice Ao m co) m (tu cut (eG t) t.length n3 i) (wr.drewN 1):=⟨⟨HA2.out.aB.os,HA2.out.aB.tape,HA2.out.aB.output,HA2.out.aB.size,HA2.out.aB.block⟩,HA2.out.own⟩
         obtain⟨mm,hmm⟩:∃mm,x.may a b=mm:=⟨_,rfl⟩
         have agS:=ah hmm;clear hmm;cases mm with
         |false=>
          obtain rfl:z=false:=by
           cases z
           ·rfl
           ·exact absurd (HMA.out (HZ2.out.1 rfl)) (by rw[agS.out];exact Bool.noConfusion)
          refine iC (C:=IA w4 (.slice Ao m co) m (tu cut (eG t) t.length n3 i)) (by kernel_rfl) (by kernel_rfl) HQ1 ?_;go_big_quiet_step (exact λ_=>rfl);go_big_quiet_step (exact λ_=>rfl);go_big_quiet_step (exact λ_=>rfl);refine dw (by kernel_rfl) (λK hK=> ?_);refine cZ (.agg #[.slice lA ln lc, .slice rA rn rc, .bool x.WY, .bool x.WZ]) (λw hw=> ?_) (hK _ ?_)
          ·obtain⟨d0,d1,d2,d3⟩:=HSC.out w hw.aB;go_simp
          clear hK K;(try simp only[Act.put]);(try simp only[bn]);(try simp only[aQ]);(try simp only[aP]);go_big_quiet_step (exact λ_=>rfl);go_big_quiet_step (exact λ_=>rfl);go_big_quiet_step (exact λ_=>rfl);go_big_quiet_step (exact λ_=>rfl);refine dw (by kernel_rfl) (λK hK=> ?_);refine cZ (.int .i64 a) (λw hw=> ?_) (hK _ ?_)
          ·obtain⟨d0,d1⟩:=ady.out w hw.aB;go_simp
          clear hK K;(try simp only[Act.put]);(try simp only[bn]);(try simp only[aQ]);(try simp only[aP]);go_big_quiet_step (exact λ_=>rfl);go_big_quiet_step (exact λ_=>rfl);go_big_quiet_step (exact λ_=>rfl);refine dw (by kernel_rfl) (λK hK=> ?_);refine cZ (.int .i64 b) (λw hw=> ?_) (hK _ ?_)
          ·obtain⟨d0,d1⟩:=ady.out w hw.aB;go_simp
          clear hK K;(try simp only[Act.put]);(try simp only[bn]);(try simp only[aQ]);(try simp only[aP]);refine dw (by kernel_rfl) (λK hK=> ?_);refine gL 127 #[.agg #[.slice lA ln lc, .slice rA rn rc, .bool x.WY, .bool x.WZ], .int .i64 a, .int .i64 b] (.bool false) (λw hw=> ?_) (λw hw=> ?_) (hK _ ?_)
          ·go_simp
          ·refine(HMC.out w hw.aB).mono ?_;rintro e w2 ⟨rfl,hb⟩;exact⟨by rw[agS.out],hw.below hb⟩
          clear hK K;(try simp only[Act.put]);(try simp only[bn]);(try simp only[aQ]);(try simp only[aP]);go_big_quiet_step (exact λ_=>rfl);go_big_quiet_step (exact λ_=>rfl);go_big_quiet_step (exact λ_=>rfl);go_big_quiet_step (exact λ_=>rfl);go_big_quiet_step (exact λ_=>rfl);go_big_quiet_step (exact λ_=>rfl);go_big_quiet_step (exact λ_=>rfl);go_big_quiet_step (exact λ_=>rfl);go_big_quiet_step (exact λ_=>rfl);go_big_quiet_step (exact λ_=>rfl);refine wpQuiet_nil ?_;intro w' hw';go_wp2_with fail;go_meet;exact⟨rfl,hw'⟩
         |true=>
          refine iC (C:=IA w4 (.slice Ao m co) m (tu cut (eG t) t.length n3 i)) (by kernel_rfl) (by kernel_rfl) HQ1 ?_;go_big_quiet_step (exact λ_=>rfl);go_big_quiet_step (exact λ_=>rfl);go_big_quiet_step (exact λ_=>rfl);refine dw (by kernel_rfl) (λK hK=> ?_);refine cZ (.agg #[.slice lA ln lc, .slice rA rn rc, .bool x.WY, .bool x.WZ]) (λw hw=> ?_) (hK _ ?_)
          ·obtain⟨d0,d1,d2,d3⟩:=HSC.out w hw.aB;go_simp
          clear hK K;(try simp only[Act.put]);(try simp only[bn]);(try simp only[aQ]);(try simp only[aP]);go_big_quiet_step (exact λ_=>rfl);go_big_quiet_step (exact λ_=>rfl);go_big_quiet_step (exact λ_=>rfl);go_big_quiet_step (exact λ_=>rfl);refine dw (by kernel_rfl) (λK hK=> ?_);refine cZ (.int .i64 a) (λw hw=> ?_) (hK _ ?_)
          ·obtain⟨d0,d1⟩:=ady.out w hw.aB;go_simp
          clear hK K;(try simp only[Act.put]);(try simp only[bn]);(try simp only[aQ]);(try simp only[aP]);go_big_quiet_step (exact λ_=>rfl);go_big_quiet_step (exact λ_=>rfl);go_big_quiet_step (exact λ_=>rfl);refine dw (by kernel_rfl) (λK hK=> ?_);refine cZ (.int .i64 b) (λw hw=> ?_) (hK _ ?_)
          ·obtain⟨d0,d1⟩:=ady.out w hw.aB;go_simp
          clear hK K;(try simp only[Act.put]);(try simp only[bn]);(try simp only[aQ]);(try simp only[aP]);refine dw (by kernel_rfl) (λK hK=> ?_);refine gL 127 #[.agg #[.slice lA ln lc, .slice rA rn rc, .bool x.WY, .bool x.WZ], .int .i64 a, .int .i64 b] (.bool true) (λw hw=> ?_) (λw hw=> ?_) (hK _ ?_)
          ·go_simp
          ·refine(HMC.out w hw.aB).mono ?_;rintro e w2 ⟨rfl,hb⟩;exact⟨by rw[agS.out],hw.below hb⟩
          clear hK K;(try simp only[Act.put]);(try simp only[bn]);(try simp only[aQ]);(try simp only[aP]);go_big_quiet_step (exact λ_=>rfl);go_big_quiet_step (exact λ_=>rfl);refine dw (by kernel_rfl) (λK hK=> ?_);refine cZ (.slice (some ⟨gr,og,none⟩) N cr) (λw hw=> ?_) (hK _ ?_)
          ·obtain⟨d0,d1⟩:=HYC.out w hw.aB;go_simp
          clear hK K;(try simp only[Act.put]);(try simp only[bn]);(try simp only[aQ]);(try simp only[aP]);go_big_quiet_step (exact λ_=>rfl);go_big_quiet_step (exact λ_=>rfl);refine dw (by kernel_rfl) (λK hK=> ?_);refine cZ (.agg #[.bool r.brk, .bool r.fst, .bool r.lst, .int .i64 (v.lop:Nat), .slice v.lA v.ln v.lc, .slice v.lB v.lm v.ld, .int .i64 (v.rop:Nat), .slice v.rA v.rn v.rc, .slice v.rB v.rm v.rd]) (λw hw=> ?_) (hK _ ?_)
          ·have d0:=HKC.out w hw.aB 0 _ rfl;have d1:=HKC.out w hw.aB 1 _ rfl;have d2:=HKC.out w hw.aB 2 _ rfl;have d3:=HKC.out w hw.aB 3 _ rfl;have d4:=HKC.out w hw.aB 4 _ rfl;have d5:=HKC.out w hw.aB 5 _ rfl;have d6:=HKC.out w hw.aB 6 _ rfl;have d7:=HKC.out w hw.aB 7 _ rfl;have d8:=HKC.out w hw.aB 8 _ rfl;rw[dA]at d0;go_simp
          clear hK K;(try simp only[Act.put]);(try simp only[bn]);(try simp only[aQ]);(try simp only[aP]);go_big_quiet_step (exact λ_=>rfl);go_big_quiet_step (exact λ_=>rfl);refine dw (by kernel_rfl) (λK hK=> ?_);refine gL 128 #[.agg #[.bool r.brk, .bool r.fst, .bool r.lst, .int .i64 (v.lop:Nat), .slice v.lA v.ln v.lc, .slice v.lB v.lm v.ld, .int .i64 (v.rop:Nat), .slice v.rA v.rn v.rc, .slice v.rB v.rm v.rd], .slice (some ⟨gc,oc,none⟩) n3 c3, .int .i64 i] (.bool z) (λw hw=> ?_) (λw hw=> ?_) (hK _ ?_)
          ·go_simp
          ·refine(HAP.out w hw.aB).mono ?_;rintro e w2 ⟨q,rfl,hq,hb⟩;exact⟨by rw[fJ.2 (hq.trans HZ2.out.symm)],hw.below hb⟩
          clear hK K;(try simp only[Act.put]);(try simp only[bn]);(try simp only[aQ]);(try simp only[aP]);go_big_quiet_step (exact λ_=>rfl);refine wpQuiet_nil ?_;intro w' hw';go_wp2_with fail;go_meet;exact⟨rfl,hw'⟩
        case rest=>
         obtain⟨rfl,hA3⟩:=hcut;have WV:=ah hA3;clear hA3;obtain⟨y0,y1⟩:=HYC.out _ WV.out.aB;have k0:=HKC.out _ WV.out.aB 0 _ rfl;rw[dA]at k0;cases z with
         |false=> have hD3:=λb h=>HD2.out b (Cc HRR.out (λe=>absurd (HZ2.out.2 e) (by decide)) h);have HD3:=ah hD3;clear hD3;go_wp2_with fail;(try rw[jX.out]);exact⟨⟨k+1,hkN,rfl,rfl,WV.out,HD3.out⟩,by simp[RowKit.intOf];omega⟩
         |true=> have hbc:=LG.out i r.brk (by omega) (by omega) (HD2.out _ (Ce HRR.out (HZ2.out.1 rfl)));have HBC:=ah hbc;clear hbc;go_wp2_with fail;go_meet;exact⟨by rw[HBC.out],WV.out⟩
       ·obtain rfl:k=N:=by omega
        have hbc:=LG.out i rest (by omega) (by omega) (HD2.out _ (by rw[List.drop_of_length_le (Nat.le_of_eq HN.out)];exact rfl));have HBC:=ah hbc;clear hbc;go_wp2;go_meet;exact⟨by rw[HBC.out],HA2.out⟩
     case rest=>
      obtain⟨rfl,hA⟩:=hcut;have HA2:=ah hA;clear hA;have Pk:i<n3:=by omega
      have hsucc:=J4 cut (eG t) t.length n3 i;have hdc:lD cut n3 i=cut i:=by unfold lD;simp only[show ¬i=0 by omega,show ¬i=n3 by omega,decide_false,wR]
      rw[hdc,ak Pk]at hsucc;obtain⟨g,rfl,hg,hc⟩:=HR4.out.at_ (by omega);have d1:=hc i Pk 1 _ (by decide) rfl;rw[LQ t (by rw[HMM.out];exact Pk)]at d1;obtain⟨x,hx⟩:∃x,(eG t).getD i 0=x:=⟨_,rfl⟩
      rw[hx]at d1 hsucc;have d2:=(HA2.out.aB.cell (p:=⟨g,i*3+1,none⟩) hg).trans d1;have hii2:(i:Int)<n3:=by omega
      have Ud:=ah O6;obtain⟨q,hq⟩:∃q,cut i=q:=⟨_,rfl⟩
      rw[hq]at hsucc⊢;clear hc d1 hx hq hdc hg hz O6;cases q with
      |true=> have LW:=ah (show tu cut (eG t) t.length n3 (i+1)=tu cut (eG t) t.length n3 i++[x]by rw[hsucc,ak rfl]);clear hsucc;go_wp2_with (at_builtin;refine aY _ rfl (.tmp 93) (.tmp 99) 41 rfl w4.heap.size 3 i0 _ 8 Tryz.underlying41 hI0 hz0 hz1 hz2 rfl (.slice Ao m co) m (bD (tu cut (eG t) t.length n3 i)) rfl HA2.out.eF _ 1 1 [.int .i64 x] rfl (bY _ _ _) (by simp[Value.oneCell']) HLEN.out.1 HLEN.out.2 (by rw[World.size_alloc];have:=HA2.out.aB.size;omega) ?_;intro v' wp ho hg hn;obtain⟨B1,d1,rfl,_⟩:=aL ho;have nT:=Lib.hid (HA2.out.grow ho hg);clear ho hg hn);(try rw[rU.out]);exact⟨⟨i+1,m+1,_,_,by omega,Nat.succ_le_succ Ud.out,rfl,rfl,by rw[LW.out];exact nT.out⟩,by simp[RowKit.intOf];omega⟩
      |false=> have LW:=ah (show tu cut (eG t) t.length n3 (i+1)=tu cut (eG t) t.length n3 i by rw[hsucc,aj (by decide),fq]);clear hsucc;go_wp2_with fail;(try rw[rU.out]);exact⟨⟨i+1,m,_,_,by omega,Nat.le_succ_of_le Ud.out,rfl,rfl,by rw[LW.out];exact HA2.out⟩,by simp[RowKit.intOf];omega⟩
  ·obtain rfl:i=n3+1:=by omega
   have HM:=ah (show m<=100000 by omega);have hii:¬((n3+1:Nat):Int)<=n3:=by omega
   clear O6;go_wp2;go_ret;exact⟨Ao,m,co,rfl,gM HA.out.own HM.out,HB.out.aB⟩
