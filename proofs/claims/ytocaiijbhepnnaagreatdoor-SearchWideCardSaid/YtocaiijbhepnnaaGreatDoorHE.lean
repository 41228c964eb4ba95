/- SearchWide, walked: the document's rules, its bounds. -/
import Derived.Test.YtocaiijbhepnnaaGreatDoorHD
import Derived.Deep.CutBlock
set_option maxRecDepth 100000
set_option maxHeartbeats 8000000
namespace Go.Proofs.YtocaiijbhepnnaaGreatDoor.searchWide
open Go.Shelf Go.RowKit Go.Lib Go.Proofs.YtocaiijbhepnnaaGreatDoor.Am
section
open JO
def Mem (A:List Nat) (x:Int):Prop:=∃y∈A,(y:Int)=x
structure PR where
 brk:Bool
 fst:Bool
 XW:Bool
 left:PT
 right:PT
def zI (r:PR) (c:List Int) (at_:Nat):Prop:=
 (∃i,bH r.left (c.take at_) i at_)/\(∃k,bH r.right (c.drop at_) 0 k)/\(r.fst=true->bH r.left (c.take at_) 0 at_)/\(r.XW=true->bH r.right (c.drop at_) 0 (c.length-at_))
def kS (rest:Bool) (c:List Int) (at_:Nat) (b:Bool):List PR->Prop
 |[]=>b=rest
 |r::l=>(zI r c at_/\b=r.brk)\/(¬zI r c at_/\kS rest c at_ b l)
def pS (l:List Nat):PT:= .node 1 l []
def pX:PT:= .node 4 [] [pS [4,5,6]]
def pT (l:List PT):PT:= .node 2 [] l
def p0:PT:= .node 0 [] []
def H6:PT:= .node 4 [] [pT [pS [7],pX,pS [7],pX]]
theorem Fu (x:Int):Mem [4,5,6] x↔bW x=true:=by unfold Mem bW;simp only[aT,kG,lZ,o8,lY,dG,dK];omega
theorem jG (A:List Nat) (d:List Int) (i k:Nat):bH (pS A) d i k↔i<d.length/\k=i+1/\Mem A (d.getD i 0):=Hq A [] d i k
theorem Dp (d:List Int) {i k:Nat} (hi:i<=d.length):bH pX d i k↔i<=k/\k<=d.length/\∀j,i<=j->j<k->bW (d.getD j 0)=true:=by
 unfold pX;rw[rW _ _ _ _ _ hi];constructor
 ·intro h;induction h with
  |nil=>exact⟨ay _,hi,λj h1 h2=>by omega⟩
  |snoc _ s ih=>
   obtain⟨h1,h2,h3⟩:=(jG _ _ _ _).1 s;subst h2;refine⟨by omega,by omega,λj e1 e2=> ?_⟩;rename_i m _;by_cases c:j<m;·exact ih.2.2 j e1 c
   ·obtain rfl:j=m:=by omega
    exact(Fu _).1 h3
 ·rintro⟨h1,h2,h3⟩;obtain⟨m,rfl⟩:∃m,k=i+m:=⟨k-i,by omega⟩
  clear h1;induction m with
  |zero=>exact .nil
  |succ m ih=>refine .snoc (ih (by omega) λj e1 e2=>h3 j e1 (by omega)) ((jG _ _ _ _).2 ⟨by omega,by omega,(Fu _).2 (h3 _ (by omega) (by omega))⟩)
theorem r9 (d:List Int):∀k,(cu d k= -1/\∀j,j<k->bW (d.getD j 0)=true)\/∃m:Nat,cu d k=m/\m<k/\bW (d.getD m 0)=false/\∀j,m<j->j<k->bW (d.getD j 0)=true
 |0=> .inl ⟨rfl,λj h=>absurd h (iM j)⟩
 |k+1=>by
  unfold cu;by_cases c:bW (d.getD k 0)=true
  ·rw[au c];rcases r9 d k with⟨h1,h2⟩|⟨m,h1,h2,h3,h4⟩
   ·refine .inl ⟨h1,λj hj=> ?_⟩;rcases aN j k with e|e
    ·exact h2 j e
    ·obtain rfl:j=k:=by omega
     exact c
   ·refine .inr ⟨m,h1,by omega,h3,λj e1 e2=> ?_⟩;rcases aN j k with e|e
    ·exact h4 j e1 e
    ·obtain rfl:j=k:=by omega
     exact c
  ·rw[ak c];exact .inr ⟨k,rfl,by omega,by simpa using c,λj e1 e2=>by omega⟩
theorem Dq (d:List Int) (m:Nat) (h:m<d.length):gK d m=d.getD m 0:=by unfold gK;rw[ak (by omega),jJ]
theorem QI (d:List Int):gK d (-1)= -1:=by unfold gK;rw[au (by omega)]
theorem su (d:List Int) (m:Nat):dO d m=cu d m:=by unfold dO;rw[au (by omega),jJ]
def Apart (A:List Nat):Prop:=∀x,Mem A x->bW x=false/\x≠-1
theorem Fv {A:List Nat} (hA:Apart A) (d:List Int) {n:Nat} (hn:n<=d.length):(∃i,i<n/\Mem A (d.getD i 0)/\∀j,i<j->j<n->bW (d.getD j 0)=true)↔Mem A (gK d (cu d n)):=by
 rcases r9 d n with⟨h1,h2⟩|⟨m,h1,h2,h3,h4⟩
 ·rw[h1,QI];refine⟨λ⟨i,e1,e2,_⟩=> ?_,λh=>absurd rfl (hA _ h).2⟩;have:=(hA _ e2).1;rw[h2 i e1]at this;cases this
 ·rw[h1,Dq d m (by omega)];refine⟨λ⟨i,e1,e2,e3⟩=> ?_,λh=>⟨m,h2,h,h4⟩⟩;have g:=(hA _ e2).1;rcases mH i m with c|rfl|c
  ·have:=e3 m c h2;rw[h3]at this;cases this
  ·exact e2
  ·have:=h4 i c e1;rw[g]at this;cases this
theorem H7 {A:List Nat} (hA:Apart A) {d:List Int} {n i:Nat} (h1:i<n) (h2:Mem A (d.getD i 0)) (h3:∀j,i<j->j<n->bW (d.getD j 0)=true):cu d n=i:=by
 rcases r9 d n with⟨e1,e2⟩|⟨m,e1,e2,e3,e4⟩
 ·have:=(hA _ h2).1;rw[e2 i h1]at this;cases this
 ·have g:=(hA _ h2).1;rcases mH i m with c|rfl|c
  ·have:=h3 m c e2;rw[e3]at this;cases this
  ·exact e1
  ·have:=e4 i c h1;rw[g]at this;cases this
theorem all_cons (p:PT) (r:List PT) (c:List Int) (i k:Nat):kP (p::r) c i k↔∃j,bH p c i j/\kP r c j k:=Iff.rfl
theorem kT {A:List Nat} {d:List Int} {r:List PT} {i k:Nat}:kP (pS A::pX::r) d i k↔i<d.length/\Mem A (d.getD i 0)/\∃m,i<m/\m<=d.length/\(∀j,i<j->j<m->bW (d.getD j 0)=true)/\kP r d m k:=by
 rw[all_cons];constructor;·rintro⟨j,h1,m,h2,h3⟩;obtain⟨e1,rfl,e3⟩:=(jG _ _ _ _).1 h1;obtain⟨f1,f2,f3⟩:=(Dp d (by omega)).1 h2;exact⟨e1,e3,m,by omega,f2,λj g1 g2=>f3 j (by omega) g2,h3⟩
 ·rintro⟨e1,e3,m,f1,f2,f3,h3⟩;exact⟨i+1,(jG _ _ _ _).2 ⟨e1,rfl,e3⟩,m,(Dp d (by omega)).2 ⟨by omega,f2,λj g1 g2=>f3 j (by omega) g2⟩,h3⟩
theorem adh {A:List Nat} (hA:Apart A) (d:List Int):(∃i,bH (pT [pS A,pX]) d i d.length)↔Mem A (gK d (cu d d.length)):=by
 rw[<-Fv hA d (ay _)];constructor;·rintro⟨i,h⟩;obtain⟨_,h⟩:=(dI _ _ _ _ _).1 h;obtain⟨e1,e2,m,f1,f2,f3,rfl⟩:=kT.1 h;exact⟨i,e1,e2,f3⟩
 ·rintro⟨i,h1,h2,h3⟩;exact⟨i,(dI _ _ _ _ _).2 ⟨by omega,kT.2 ⟨h1,h2,d.length,h1,ay _,h3,rfl⟩⟩⟩
theorem adi {A B:List Nat} (hA:Apart A) (hB:Apart B) (d:List Int):(∃i,bH (pT [pS A,pX,pS B,pX]) d i d.length)↔Mem B (gK d (cu d d.length))/\Mem A (gK d (dO d (cu d d.length))):=by
 constructor;·rintro⟨i,h⟩;obtain⟨_,h⟩:=(dI _ _ _ _ _).1 h;obtain⟨e1,e2,m,f1,f2,f3,h⟩:=kT.1 h;obtain⟨g1,g2,q,k1,k2,k3,rfl⟩:=kT.1 h;have hb:=H7 hB g1 g2 k3;refine⟨(Fv hB d (ay _)).1 ⟨m,g1,g2,k3⟩,?_⟩;rw[hb,su];exact(Fv hA d (by omega)).1 ⟨i,f1,e2,f3⟩
 ·rintro⟨h1,h2⟩;obtain⟨m,e1,e2,e3⟩:=(Fv hB d (ay _)).2 h1;rw[H7 hB e1 e2 e3,su]at h2;obtain⟨i,f1,f2,f3⟩:=(Fv hA d (dN e1)).2 h2;exact⟨i,(dI _ _ _ _ _).2 ⟨by omega,kT.2 ⟨by omega,f2,m,f1,by omega,f3,kT.2 ⟨e1,e2,d.length,e1,ay _,e3,rfl⟩⟩⟩⟩
theorem H8 (c:List Int):∀(f i:Nat),c.length<=f+i->i<=oq c f i/\(∀j,i<=j->j<oq c f i->bW (c.getD j 0)=true)/\(oq c f i<c.length->bW (c.getD (oq c f i) 0)=false)
 |0,i,h=>⟨ay _,λj e1 e2=>by unfold oq at e2;omega,λe=>by unfold oq at e;omega⟩
 |f+1,i,h=>by
  unfold oq;by_cases q:i<c.length/\bW (c.getD i 0)=true
  ·rw[au q];obtain⟨h1,h2,h3⟩:=H8 c f (i+1) (by omega);refine⟨by omega,λj e1 e2=> ?_,h3⟩;rcases aN i j with e|e
   ·exact h2 j e e2
   ·obtain rfl:j=i:=by omega
    exact q.2
  ·rw[ak q];refine⟨ay _,λj e1 e2=>by omega,λe=> ?_⟩;rcases yZ (bW (c.getD i 0))with g|g
   ·exact absurd ⟨e,g⟩ q
   ·exact g
theorem getD_drop (c:List Int) (n j:Nat):(c.drop n).getD j 0=c.getD (n+j) 0:=by rw[aU,aU,List.getElem?_drop]
theorem takeD (c:List Int) {n j:Nat} (h:j<n):(c.take n).getD j 0=c.getD j 0:=by rw[aU,aU,List.getElem?_take,au h]
theorem ZQ (B:List Nat) (c:List Int) (n:Nat) (hn:n<c.length):(∃k,bH (pS B) (c.drop n) 0 k)↔Mem B (c.getD n 0):=by
 constructor;·rintro⟨k,h⟩;have:=((jG _ _ _ _).1 h).2.2;rwa [getD_drop,cK]at this
 ·intro h;exact⟨1,(jG _ _ _ _).2 ⟨by rw[dF];omega,rfl,by rwa [getD_drop,cK]⟩⟩
theorem ZR {B A:List Nat} (hA:Apart A) (c:List Int) (n:Nat) (hn:n<c.length):(∃k,bH (pT [pS B,pX,pS A]) (c.drop n) 0 k)↔Mem B (c.getD n 0)/\Mem A (Cn c n):=by
 obtain⟨s1,s2,s3⟩:=H8 c (c.length-n) (n+1) (by omega);have hl:(c.drop n).length=c.length-n:=dF;unfold Cn;generalize oq c (c.length-n) (n+1)=q at*
 constructor
 ·rintro⟨k,h⟩;obtain⟨_,h⟩:=(dI _ _ _ _ _).1 h;obtain⟨e1,e2,m,f1,f2,f3,j,g1,g2⟩:=kT.1 h;obtain⟨k1,k2,k3⟩:=(jG _ _ _ _).1 g1;rw[getD_drop]at e2 k3;refine⟨e2,?_⟩;have hq:q=n+m:=by
   rcases mH q (n+m)with d|d|d;·have:=f3 (q-n) (by omega) (by omega);rw[getD_drop,show n+(q-n)=q by omega,s3 (by omega)]at this;cases this
   ·exact d
   ·have:=s2 (n+m) (by omega) d;rw[(hA _ k3).1]at this;cases this
  rw[hq,Dq c (n+m) (by omega)];exact k3
 ·rintro⟨h1,h2⟩;have hq:q<c.length:=by
   rcases aN q c.length with d|d;·exact d
   ·unfold gK at h2;rw[au (by omega)]at h2;exact absurd rfl (hA _ h2).2
  rw[Dq c q hq]at h2;refine⟨q-n+1,(dI _ _ _ _ _).2 ⟨by omega,kT.2 ⟨by omega,by rwa [getD_drop,cK],q-n,by omega,by omega,λj e1 e2=> ?_,q-n+1,(jG _ _ _ _).2 ⟨by omega,rfl,?_⟩,rfl⟩⟩⟩;·rw[getD_drop];exact s2 _ (by omega) (by omega)
  ·rw[getD_drop,show n+(q-n)=q by omega];exact h2
def MI (x:Int):Prop:=x=7\/bW x=true
def kU (d:List Int) (i:Nat):Nat->Nat
 |0=>0
 |k+1=>if i<=k/\d.getD k 0=7 then kU d i k+1 else kU d i k
theorem MJ (d:List Int) (i k:Nat):kU d i (k+1)=if i<=k/\d.getD k 0=7 then kU d i k+1 else kU d i k:=rfl
theorem Xf (x:Int):Mem [7] x↔x=7:=by unfold Mem;simp only[dM,lY];omega
theorem Fw {x:Int} (h:bW x=true):x≠7:=by rintro rfl;cases h
theorem iW (d:List Int) (i:Nat):∀{k m:Nat},k<=m->(∀j,k<=j->j<m->i<=j->d.getD j 0≠7)->kU d i m=kU d i k
 |k,0,h,_=>by obtain rfl:k=0:=by omega
              rfl
 |k,m+1,h,hh=>by
  rcases aN k (m+1)with c|c;·rw[show kU d i (m+1)=if i<=m/\d.getD m 0=7 then kU d i m+1 else kU d i m from rfl,ak (λe=>hh m (by omega) (by omega) e.1 e.2)];exact iW d i (by omega) λj e1 e2=>hh j e1 (by omega)
  ·obtain rfl:k=m+1:=by omega
   rfl
theorem mq (d:List Int) {i k:Nat} (h:i<=k) (e:d.getD k 0=7):kU d i (k+1)=kU d i k+1:=by rw[kU,au ⟨h,e⟩]
theorem kV (d:List Int) {i:Nat}:∀{k:Nat},k<=i->kU d i k=0
 |0,_=>rfl
 |k+1,h=>by rw[kU,ak (by omega)];exact kV d (by omega)
theorem jh (d:List Int) {i k:Nat} (h:i<=k):∀{m:Nat},k<=m->kU d i m=kU d i k+kU d k m
 |0,hm=>by
  obtain rfl:k=0:=by omega
  rw[kV d (ay 0),cK]
 |m+1,hm=>by
  rcases aN k (m+1)with c|c
  ·have ih:=jh d h (m:=m) (by omega);rw[MJ d i m,MJ d k m];by_cases e:d.getD m 0=7
   ·rw[au ⟨by omega,e⟩,au ⟨by omega,e⟩,ih];omega
   ·rw[ak (λg=>e g.2),ak (λg=>e g.2)];exact ih
  ·obtain rfl:k=m+1:=by omega
   rw[kV d (i:=m+1) (k:=m+1) (ay _)];rfl
theorem Xg {d:List Int} {i k:Nat} (h:bH (pT [pS [7],pX,pS [7],pX]) d i k):i<=k/\(∀j,i<=j->j<k->MI (d.getD j 0))/\kU d i k=2:=by
 obtain⟨_,h⟩:=(dI _ _ _ _ _).1 h;obtain⟨e1,e2,m,f1,f2,f3,h⟩:=kT.1 h;obtain⟨g1,g2,q,k1,k2,k3,rfl⟩:=kT.1 h;rw[Xf]at e2 g2;refine⟨by omega,λj a1 a2=> ?_,?_⟩
 ·rcases mH j i with c|rfl|c
  ·omega
  ·exact .inl e2
  ·rcases mH j m with c2|rfl|c2
   ·exact .inr (f3 j c c2)
   ·exact .inl g2
   ·exact .inr (k3 j c2 a2)
 ·rw[iW d i (k:=m+1) (by omega) (λj a1 a2 _=>Fw (k3 j (by omega) a2)),mq d (by omega) g2,iW d i (k:=i+1) (by omega) (λj a1 a2 _=>Fw (f3 j (by omega) a2)),mq d (ay _) e2,kV d (ay _)]
theorem Ta {d:List Int} {i k:Nat} (hi:i<=d.length) (h:bH H6 d i k):i<=k/\(∀j,i<=j->j<k->MI (d.getD j 0))/\kU d i k%2=0:=by
 unfold H6 at h;rw[rW _ _ _ _ _ hi]at h;induction h with
 |nil=>exact⟨ay _,λj h1 h2=>by omega,by rw[kV d (ay _)]⟩
 |snoc _ s ih=>
  obtain⟨a1,a2,a3⟩:=ih;obtain⟨b1,b2,b3⟩:=Xg s;refine⟨by omega,λj h1 h2=> ?_,?_⟩
  ·rename_i m _ _;rcases aN j m with c|c
   ·exact a2 j h1 c
   ·exact b2 j c h2
  ·rw[jh d a1 b1,b3];omega
theorem QJ (d:List Int) (i:Nat):∀{n:Nat},0<kU d i n->∃p,i<=p/\p<n/\d.getD p 0=7/\∀j,i<=j->j<p->d.getD j 0≠7
 |0,h=>absurd h (dA 0)
 |n+1,h=>by
  by_cases c:0<kU d i n;·obtain⟨p,h1,h2,h3,h4⟩:=QJ d i c;exact⟨p,h1,by omega,h3,h4⟩
  ·unfold kU at h;split at h
   ·rename_i e;refine⟨n,e.1,by omega,e.2,λj a1 a2 b=>c ?_⟩;have:=mq d a1 b;have g:kU d i (j+1)<=kU d i n:=by rw[jh d (show i<=j+1 by omega) (show j+1<=n by omega)];omega
    omega
   ·exact absurd h c
theorem aa8 {d:List Int} {n:Nat} (hn:n=d.length):∀(f i:Nat),n<=f+i->i<n->d.getD i 0=7->(∀j,i<=j->j<n->MI (d.getD j 0))->kU d i n%2=1->
 ∃m,Star (bH (pT [pS [7],pX,pS [7],pX]) d) i m/\m<n/\d.getD m 0=7/\∀j,m<j->j<n->bW (d.getD j 0)=true
 |0,i,h,hi,_,_,_=>by omega
 |f+1,i,h,hi,h7,hx,hc=>by
  have s1:=jh d (show i<=i+1 by omega) (show i+1<=n by omega);rw[mq d (ay _) h7,kV d (ay _)]at s1;by_cases c:0<kU d (i+1) n
  ·obtain⟨p,a1,a2,a3,a4⟩:=QJ d (i+1) c;have s2:=jh d (show i+1<=p+1 by omega) (show p+1<=n by omega);rw[mq d (by omega) a3,iW d (i+1) (k:=i+1) (m:=p) a1 (λj b1 b2 _=>a4 j b1 b2),kV d (ay _)]at s2;obtain⟨q,b1,b2,b3,b4⟩:=QJ d (p+1) (n:=n) (by omega);have s3:=jh d (show p+1<=q by omega) (show q<=n by omega);rw[iW d (p+1) (k:=p+1) (m:=q) b1 (λj e1 e2 _=>b4 j e1 e2),kV d (ay _)]at s3;obtain⟨m,e1,e2,e3,e4⟩:=aa8 hn f q (by omega) b2 b3 (λj g1 g2=>hx j (by omega) g2) (by omega);have hp:bH (pT [pS [7],pX,pS [7],pX]) d i q:=by
    refine(dI _ _ _ _ _).2 ⟨by omega,kT.2 ⟨by omega,(Xf _).2 h7,p,by omega,by omega,λj g1 g2=> ?_,kT.2 ⟨by omega,(Xf _).2 a3,q,by omega,by omega,λj g1 g2=> ?_,rfl⟩⟩⟩
    ·rcases hx j (by omega) (by omega)with e|e
     ·exact absurd e (a4 j (by omega) g2)
     ·exact e
    ·rcases hx j (by omega) (by omega)with e|e
     ·exact absurd e (b4 j (by omega) g2)
     ·exact e
   exact⟨m,(Star.one hp).trans e1,e2,e3,e4⟩
  ·refine⟨i, .nil,hi,h7,λj b1 b2=> ?_⟩;rcases hx j (by omega) b2 with e|e
   ·have:=mq d (i:=i+1) (k:=j) (by omega) e;have g:=jh d (show i+1<=j+1 by omega) (show j+1<=n by omega);omega
   ·exact e
theorem uL {d:List Int} {i:Nat} (hi:i<=d.length):kP [pX,H6,pS [7],pX] d i d.length↔(∀j,i<=j->j<d.length->MI (d.getD j 0))/\kU d i d.length%2=1:=by
 constructor
 ·rintro⟨a,h1,b,h2,h3⟩;obtain⟨e1,e2,e3⟩:=(Dp d hi).1 h1;obtain⟨f1,f2,f3⟩:=Ta e2 h2;obtain⟨g1,g2,m,k1,k2,k3,rfl⟩:=kT.1 h3;rw[Xf]at g2;refine⟨λj a1 a2=> ?_,?_⟩
  ·rcases aN j a with c|c
   ·exact .inr (e3 j a1 c)
   ·rcases mH j b with c2|rfl|c2
    ·exact f2 j c c2
    ·exact .inl g2
    ·exact .inr (k3 j c2 a2)
  ·rw[iW d i (k:=b+1) (by omega) (λj a1 a2 _=>Fw (k3 j (by omega) a2)),mq d (by omega) g2,jh d e1 f1,iW d i (k:=i) e1 (λj a1 a2 _=>Fw (e3 j a1 a2)),kV d (ay _)];omega
 ·rintro⟨h1,h2⟩;obtain⟨p,a1,a2,a3,a4⟩:=QJ d i (n:=d.length) (by omega);have s:=jh d a1 (show p<=d.length by omega);rw[iW d i (k:=i) a1 (λj b1 b2 _=>a4 j b1 b2),kV d (ay _)]at s;obtain⟨m,e1,e2,e3,e4⟩:=aa8 rfl d.length p (by omega) a2 a3 (λj g1 g2=>h1 j (by omega) g2) (by omega);refine⟨p,(Dp d hi).2 ⟨a1,by omega,λj b1 b2=> ?_⟩,m,?_,kT.2 ⟨e2,(Xf _).2 e3,d.length,e2,ay _,e4,rfl⟩⟩
  ·rcases h1 j b1 (by omega)with e|e
   ·exact absurd e (a4 j b1 b2)
   ·exact e
  ·unfold H6;rw[rW _ _ _ _ _ (by omega)];exact e1
theorem ML (d:List Int):∀(f k:Nat),k<=f->k<=d.length->∃q,q<=k/\(∀j,q<=j->j<k->MI (d.getD j 0))/\(q=0\/¬MI (d.getD (q-1) 0))/\uw d f (cu d k)=kU d q k
 |0,k,hk,_=>by
  obtain rfl:k=0:=by omega
  exact⟨0,ay _,λj h1 h2=>by omega, .inl rfl,rfl⟩
 |f+1,k,hk,hl=>by
  rcases r9 d k with⟨h1,h2⟩|⟨m,h1,h2,h3,h4⟩
  ·refine⟨0,aL _,λj _ e=> .inr (h2 j e), .inl rfl,?_⟩;rw[h1,uw,ak (by rw[QI];decide),iW d 0 (k:=0) (aL _) (λj _ e _=>Fw (h2 j e))];rfl
  ·rw[h1,uw,Dq d m (by omega)];by_cases c:d.getD m 0=7
   ·rw[au c,su];obtain⟨q,e1,e2,e3,e4⟩:=ML d f m (by omega) (by omega);refine⟨q,by omega,λj a1 a2=> ?_,e3,?_⟩
    ·rcases mH j m with g|rfl|g
     ·exact e2 j a1 g
     ·exact .inl c
     ·exact .inr (h4 j g a2)
    ·rw[e4,iW d q (k:=m+1) h2 (λj a1 a2 _=>Fw (h4 j (by omega) a2)),mq d e1 c]
   ·rw[ak c];refine⟨m+1,h2,λj a1 a2=> .inr (h4 j (by omega) a2), .inr ?_,?_⟩
    ·rw[oV];rintro(g|g)
     ·exact c g
     ·rw[h3]at g;cases g
    ·rw[iW d (m+1) (k:=m+1) h2 (λj a1 a2 _=>Fw (h4 j (by omega) a2)),kV d (ay _)]
def pR1:PT:=pT [pX,H6,pS [7],pX]
def Xh:List Nat:=[0,1,2,3,8,9,10,11,12,13,14,15,16,17,18,19]
def pR2:PT:=pT [pS Xh,pX,H6,pS [7],pX]
theorem QK {x:Int} (h0:0<=x) (h1:x<=19):Mem Xh x↔¬MI x:=by unfold Mem Xh MI bW;simp only[aT,kG,lZ,o8,lY,dG,dK];omega
theorem Xi {d:List Int} (hd:∀j,j<d.length->0<=d.getD j 0/\d.getD j 0<=19) {f:Nat} (hf:d.length<=f):(bH pR1 d 0 d.length\/∃i,bH pR2 d i d.length)↔uw d f (cu d d.length)%2=1:=by
 obtain⟨q,e1,e2,e3,e4⟩:=ML d f d.length hf (ay _);rw[e4];unfold pR1 pR2;constructor
 ·rintro(h|⟨i,h⟩)
  ·obtain⟨_,h⟩:=(dI _ _ _ _ _).1 h;obtain⟨h1,h2⟩:=(uL (aL _)).1 h;rcases e3 with rfl|e3
   ·exact h2
   ·rcases jI q with rfl|c
    ·exact h2
    ·exact absurd (h1 (q-1) (aL _) (by omega)) e3
  ·obtain⟨_,j,h1,h2⟩:=(dI _ _ _ _ _).1 h;obtain⟨g1,rfl,g2⟩:=(jG _ _ _ _).1 h1;obtain⟨k1,k2⟩:=(uL (by omega)).1 h2;rw[QK (hd i g1).1 (hd i g1).2]at g2;have hq:q=i+1:=by
    rcases mH q (i+1)with c|c|c;·exact absurd (e2 i (by omega) g1) g2
    ·exact c
    ·rcases e3 with rfl|e3
     ·omega
     ·exact absurd (k1 (q-1) (by omega) (by omega)) e3
   rw[hq];exact k2
 ·intro h;rcases e3 with rfl|e3
  ·exact .inl ((dI _ _ _ _ _).2 ⟨aL _,(uL (aL _)).2 ⟨e2,h⟩⟩)
  ·rcases jI q with rfl|c
   ·exact .inl ((dI _ _ _ _ _).2 ⟨aL _,(uL (aL _)).2 ⟨e2,h⟩⟩)
   ·have hb:=hd (q-1) (by omega);exact .inr ⟨q-1,(dI _ _ _ _ _).2 ⟨by omega,q,(jG _ _ _ _).2 ⟨by omega,by omega,(QK hb.1 hb.2).2 e3⟩,(uL e1).2 ⟨e2,h⟩⟩⟩
end
section
open JO (PT bit rows bH)
theorem up_pos (f:Nat->Bool) (k:Nat):0<(upF f k).length↔∃i,i<k/\f i=true:=by
 constructor;·intro h;obtain⟨x,hx⟩:=List.exists_mem_of_length_pos h;unfold upF at hx;obtain⟨i,hi,_⟩:=dw.1 hx;obtain⟨h1,h2⟩:=kC.1 hi;exact⟨i,vG.1 h1,h2⟩
 ·rintro⟨i,h⟩;exact List.length_pos_of_mem ((up_mem f k i).2 h)
theorem OT (p:PT) (d:List Int):0<(jF p d).length↔∃i,bH p d i d.length:=by unfold jF;rw[up_pos];exact⟨λ⟨i,_,h⟩=>⟨i,h⟩,λ⟨i,h⟩=>⟨i,by have:=(JO.EU h).1;omega,h⟩⟩
theorem MN (p:PT) (d:List Int):(0:Int)∈jF p d↔bH p d 0 d.length:=by unfold jF;rw[show(0:Int)=((0:Nat):Int)from rfl,up_mem];exact⟨λh=>h.2,λh=>⟨by omega,h⟩⟩
theorem Xj (p:PT) (d:List Int):0<(Bg p d).length↔∃k,bH p d 0 k:=by unfold Bg;rw[up_pos];exact⟨λ⟨i,_,h⟩=>⟨i,h⟩,λ⟨i,h⟩=>⟨i,by have:=(JO.EU h).2;omega,h⟩⟩
theorem Td {w:World} {A:Option Addr} {n k:Nat} {c:List Int} (h:cB w A n c) (hk:k<=n):cB w A k (c.take k):=
 ⟨by rw[fF,h.len];omega,bn hk h.small,λh0=>by
  obtain⟨g,o,e,hg,hc⟩:=h.at_ (by omega);exact⟨g,o,e,hg,λj hj=>by rw[takeD c hj];exact hc j (by omega)⟩⟩
theorem Te {w:World} {g o n k:Nat} {c:List Int} (h:cB w (some ⟨g,o,none⟩) n c) (hk:k<n):cB w (some ⟨g,o+k,none⟩) (n-k) (c.drop k):=
 ⟨by rw[dF,h.len],bn (Nat.sub_le _ _) h.small,λh0=>by
  obtain⟨g',o',e,hg,hc⟩:=h.at_ (by omega);injection e with e;injection e with e1 e2;subst e1 e2;refine⟨g,o+k,rfl,hg,λj hj=> ?_⟩;rw[getD_drop,lC];exact hc (k+j) (by omega)⟩
def OU (p:PT):Prop:=p9 p=true/\OJ p=true/\kR p<=2000
structure zJ where
 lop:Nat
 lA:Option Addr
 ln:Nat
 lc:Nat
 lB:Option Addr
 lm:Nat
 ld:Nat
 rop:Nat
 rA:Option Addr
 rn:Nat
 rc:Nat
 rB:Option Addr
 rm:Nat
 rd:Nat
def zJ.cells (v:zJ) (r:PR):Array Value:=#[.bool r.brk, .bool r.fst, .bool r.XW, .int .i64 (v.lop:Nat), .slice v.lA v.ln v.lc, .slice v.lB v.lm v.ld, .int .i64 (v.rop:Nat), .slice v.rA v.rn v.rc, .slice v.rB v.rm v.rd]
structure Fx (w:World) (v:zJ) (r:PR):Prop where
 left:eD w (.int .i64 (v.lop:Nat)) (.slice v.lA v.ln v.lc) (.slice v.lB v.lm v.ld) r.left
 right:eD w (.int .i64 (v.rop:Nat)) (.slice v.rA v.rn v.rc) (.slice v.rB v.rm v.rd) r.right
 fl:OU r.left
 fr:OU r.right
theorem Fx.below {w w':World} {v:zJ} {r:PR} (h:Fx w v r) (hb:Below w.heap.size w w'):Fx w' v r:=⟨h.left.below hb,h.right.below hb,h.fl,h.fr⟩
structure Tf (W:World) (cs:Array Value) (w:World):Prop where
 aD:Below W.heap.size W w
 o:w.heap[W.heap.size]? =some (.cells cs 203 (0,0))
theorem Tf.go {W w w':World} {cs:Array Value} (h:Tf W cs w) (hb:Below w.heap.size w w'):Tf W cs w':=⟨h.aD.trans (hb.mono h.aD.size),bM hb h.o⟩
theorem Tf.drew {W w:World} {cs:Array Value} (h:Tf W cs w):Tf W cs w.drew:=⟨⟨h.aD.os,h.aD.tape,h.aD.output,h.aD.size,h.aD.block⟩,h.o⟩
theorem Tf.start (W:World) (cs:Array Value):Tf W cs (W.alloc (.cells cs 203)):=⟨(aM _ W).alloc (ay _) _,dH W _⟩
theorem Tf.c {W w:World} {cs:Array Value} (h:Tf W cs w) (i:Nat):w.cell? ⟨W.heap.size,i,none⟩=cs[i]? :=(bE w W.heap.size i _ _ _ h.o).trans rfl
theorem OV (v:zJ) (r:PR) (c:List Int) (g o n cc at_:Nat) (W:World) (hR:Fx W v r) (hI:cB W (some ⟨g,o,none⟩) n c) (h1:1<=at_) (h2:at_<n) (h64:n+1<64) (hcc:n<=cc) (hl:r.XW=false):
 Calls Tryz.prog 128 #[.agg (v.cells r), .slice (some ⟨g,o,none⟩) n cc, .int .i64 at_] W λe w'=>∃q:Bool,e= .returned (.bool q)/\(q=true↔zI r c at_)/\Below W.heap.size W w':=by
 obtain⟨brk,fst,XW,left,right⟩:=r;obtain rfl:XW=false:=hl;obtain⟨lop,lA,ln,lc,lB,lm,ld,rop,rA,rn,rc,rB,rm,rd⟩:=v;have HR:=ah hR;have HI:=ah hI;unfold zJ.cells;dsimp only;have HB0:=ah (Tf.start W #[.bool brk, .bool fst, .bool false, .int .i64 (lop:Nat), .slice lA ln lc, .slice lB lm ld, .int .i64 (rop:Nat), .slice rA rn rc, .slice rB rm rd]);have y1:=(HB0.out.c 1).trans rfl;have y2:=(HB0.out.c 2).trans rfl;have y3:=(HB0.out.c 3).trans rfl;have y4:=(HB0.out.c 4).trans rfl;have y5:=(HB0.out.c 5).trans rfl;have y6:=(HB0.out.c 6).trans rfl;have y7:=(HB0.out.c 7).trans rfl;have y8:=(HB0.out.c 8).trans rfl;have hd1:¬(at_:Int)<0:=by omega
 have hd2:¬(n:Int)<at_:=by omega
 have hd3:¬n<at_:=by omega
 have HGL:=ah (λ(w:World) (hb:Below W.heap.size W w)=>zF left HR.out.fl.1 HR.out.fl.2.2 _ _ _ w (HR.out.left.below hb));have HGR:=ah (λ(w:World) (hb:Below W.heap.size W w)=>zF right HR.out.fr.1 HR.out.fr.2.2 _ _ _ w (HR.out.right.below hb));clear hR hI;go_enter Tryz.func128,Tryz.ntmps128;go_upto_region 3 with(first
  |(refine(HGL.out _ HB0.out.aD).mono ?_;rintro e w2 ⟨rfl,hb⟩;have HB2:=ah (HB0.out.go hb);clear hb y1 y2 y3 y4 y5 y6 y7 y8;have y6:=(HB2.out.c 6).trans rfl;have y7:=(HB2.out.c 7).trans rfl;have y8:=(HB2.out.c 8).trans rfl)
  |(refine(HGR.out _ HB2.out.aD).mono ?_;rintro e w3 ⟨rfl,hb⟩;have HB3:=ah (HB2.out.go hb);clear hb y6 y7 y8))
 have anD:(at_:Int)<=cc:=by omega
 have anE:(0:Int)<=at_:=by omega
 have hca:¬cc=at_:=by omega
 have anF:(at_:Int)<=n:=by omega
 obtain⟨cs,hcs⟩:∃cs:Array Value,#[.bool brk, .bool fst, .bool false, .int .i64 (lop:Nat), .slice lA ln lc, .slice lB lm ld, .int .i64 (rop:Nat), .slice rA rn rc, .slice rB rm rd]=cs:=⟨_,rfl⟩
 rw[hcs]at HB3;have HCS:=ah hcs;clear hcs;go_cut [7] (λq wx=>∃A4 n4 c4,q= .slice A4 n4 c4/\cB wx A4 n4 (jF left (c.take at_))/\Tf W cs wx);case first=>
  have J4:=ah HB3.out.drew;have y3:w3.drew.cell? ⟨W.heap.size,3,none⟩=some (.int .i64 (lop:Nat)):=by rw[J4.out.c 3,<-HCS.out];rfl
  have y4:w3.drew.cell? ⟨W.heap.size,4,none⟩=some (.slice lA ln lc):=by rw[J4.out.c 4,<-HCS.out];rfl
  have y5:w3.drew.cell? ⟨W.heap.size,5,none⟩=some (.slice lB lm ld):=by rw[J4.out.c 5,<-HCS.out];rfl
  go_region_law (go_simp;refine(SS left HR.out.fl.1 HR.out.fl.2.1 HR.out.fl.2.2 (c.take at_) _ _ _ (some ⟨g,o,none⟩) at_ cc _ (HR.out.left.below J4.out.aD) (Td (eU HI.out J4.out.aD) (by omega)) (by omega)).mono ?_;rintro e w4 ⟨A4,n4,c4,rfl,hI4,hb⟩;have HI4:=Lib.hid hI4;have FT:=Lib.hid (J4.out.go hb);clear hI4 hb;dsimp only);all_goals go_wp2_with fail
  all_goals go_meet
  all_goals exact⟨_,_,_,rfl,HI4.out,FT.out⟩
 case rest=>
  obtain⟨A4,n4,c4,rfl,hI4,hB4⟩:=hcut;have HI4:=ah hI4;have FT:=ah hB4;clear hI4 hB4;go_upto_region 4 with fail;go_cut [8] (λq wx=>∃A5 n5 c5,q= .slice A5 n5 c5/\cB wx A5 n5 (Bg right (c.drop at_))/\cB wx A4 n4 (jF left (c.take at_))/\Tf W cs wx);case first=>
   have J4:=ah FT.out.drew;have HId:=ah (show cB wc.drew A4 n4 (jF left (c.take at_))from⟨HI4.out.len,HI4.out.small,HI4.out.at_⟩);have y6:wc.drew.cell? ⟨W.heap.size,6,none⟩=some (.int .i64 (rop:Nat)):=by rw[J4.out.c 6,<-HCS.out];rfl
   have y7:wc.drew.cell? ⟨W.heap.size,7,none⟩=some (.slice rA rn rc):=by rw[J4.out.c 7,<-HCS.out];rfl
   have y8:wc.drew.cell? ⟨W.heap.size,8,none⟩=some (.slice rB rm rd):=by rw[J4.out.c 8,<-HCS.out];rfl
   go_region_law (go_simp;(refine(ZM right HR.out.fr.1 HR.out.fr.2.1 HR.out.fr.2.2 (c.drop at_) _ _ _ (some ⟨g,o+at_,none⟩) (n-at_) (cc-at_) _ (HR.out.right.below J4.out.aD) (Te (eU HI.out J4.out.aD) h2) (by omega)).mono ?_);rintro e w5 ⟨A5,n5,c5,rfl,ZT,hb⟩;have HI5:=Lib.hid ZT;have HI6:=Lib.hid (eU HId.out hb);have HB5:=Lib.hid (J4.out.go hb);clear ZT hb;dsimp only);all_goals go_wp2_with fail
   all_goals go_meet
   all_goals exact⟨_,_,_,rfl,HI5.out,HI6.out,HB5.out⟩
  case rest=>
   obtain⟨A5,n5,c5,rfl,ZT,hI6,ZU⟩:=hcut;have y1:wc.cell? ⟨W.heap.size,1,none⟩=some (.bool fst):=by rw[ZU.c 1,<-HCS.out];rfl
   have HCL:=ah (HI.out.len);have htl:(c.take at_).length=at_:=by rw[fF,HI.out.len];omega
   have hdl:(c.drop at_).length=n-at_:=by rw[dF,HI.out.len]
   have p4:=OT left (c.take at_);have p5:=Xj right (c.drop at_);have p0:=MN left (c.take at_);rw[htl]at p4 p0;rw[hI6.len]at p4;rw[ZT.len]at p5;have HP4:=ah p4;have HP5:=ah p5;have HP0:=ah p0;have FQ:=ah ZU.aD;have HC0:=ah (Zx (jF left (c.take at_)) 0 A4 n4 c4 wc ⟨hI6.len,hI6.small,hI6.at_⟩);obtain⟨q0,hq0⟩:∃q,decide ((0:Int)∈jF left (c.take at_))=q:=⟨_,rfl⟩
   rw[hq0]at HC0;have HQ0:=ah hq0;have HS4:=ah hI6.small;have HS5:=ah ZT.small;have HQB:=ah (λq=>show Below W.heap.size W (wc.drewN q)from⟨ZU.aD.os,ZU.aD.tape,ZU.aD.output,ZU.aD.size,ZU.aD.block⟩);have HY2:=ah (show wc.cell? ⟨W.heap.size,2,none⟩=some (.bool false)by rw[ZU.c 2,<-HCS.out];rfl);clear htl hdl p4 p5 p0 hq0 ZT hI6 ZU;have y2:=HY2.out;rcases jI n4 with h4|h4;·subst h4;go_wp2_with fail;go_ret;exact⟨false,rfl,⟨λe=>Bool.noConfusion e,λe=>absurd (HP4.out.2 e.1) (dA 0)⟩,FQ.out⟩
   have h40:((n4:Int)==0)=false:=iw.2 (by omega);rcases jI n5 with h5|h5;·subst h5;go_wp2_with fail;go_ret;exact⟨false,rfl,⟨λe=>Bool.noConfusion e,λe=>absurd (HP5.out.2 e.2.1) (dA 0)⟩,FQ.out⟩
   have h50:((n5:Int)==0)=false:=iw.2 (by omega);cases fst with
   |false=>go_wp2_with fail;go_ret;exact⟨true,rfl,⟨λ_=>⟨HP4.out.1 h4,HP5.out.1 h5,λe=>Bool.noConfusion e,λe=>Bool.noConfusion e⟩,λ_=>rfl⟩,FQ.out⟩
   |true=>
    cases q0 with
    |false=>go_wp2_with (go_at_call 183;refine HC0.out.mono ?_;rintro e w7 ⟨rfl,rfl⟩);go_ret;exact⟨false,rfl,⟨λe=>Bool.noConfusion e,λe=>absurd (HP0.out.2 (e.2.2.1 rfl)) (of_decide_eq_false HQ0.out)⟩,FQ.out⟩
    |true=>go_wp2_with (go_at_call 183;refine HC0.out.mono ?_;rintro e w7 ⟨rfl,rfl⟩);go_ret;exact⟨true,rfl,⟨λ_=>⟨HP4.out.1 h4,HP5.out.1 h5,λ_=>HP0.out.1 (jm HQ0.out),λe=>Bool.noConfusion e⟩,λ_=>rfl⟩,FQ.out⟩
end
section
open JO (PT bit rows bH)
structure Bx (t:Nat) (W:World) (cs:Array Value) (w:World):Prop where
 aD:Below W.heap.size W w
 o:w.heap[W.heap.size]? =some (.cells cs t (0,0))
theorem Bx.go {t:Nat} {W w w':World} {cs:Array Value} (h:Bx t W cs w) (hb:Below w.heap.size w w'):Bx t W cs w':=⟨h.aD.trans (hb.mono h.aD.size),bM hb h.o⟩
theorem Bx.start (t:Nat) (W:World) (cs:Array Value):Bx t W cs (W.alloc (.cells cs t)):=⟨(aM _ W).alloc (ay _) _,dH W _⟩
theorem Bx.c {t:Nat} {W w:World} {cs:Array Value} (h:Bx t W cs w) (i:Nat):w.cell? ⟨W.heap.size,i,none⟩=cs[i]? :=(bE w W.heap.size i _ _ _ h.o).trans rfl
structure pG (w:World) (g o:Nat) (rs:List PR):Prop where
 blk:g<w.heap.size
 small:rs.length<=64
 at_:∀i r,rs[i]? =some r->r.XW=false/\∃v:zJ,Fx w v r/\∀k x,(v.cells r)[k]? =some x->w.cell? ⟨g,o+i*9+k,none⟩=some x
theorem pG.below {w w':World} {g o:Nat} {rs:List PR} (h:pG w g o rs) (hb:Below w.heap.size w w'):pG w' g o rs:=
 ⟨bC h.blk hb.size,h.small,λi r hr=>by
  obtain⟨hl,v,hv,hc⟩:=h.at_ i r hr;exact⟨hl,v,hv.below hb,λk x hx=>(hb.cell (p:=⟨g,o+i*9+k,none⟩) h.blk).trans (hc k x hx)⟩⟩
theorem J5 {rest:Bool} {c:List Int} {at_:Nat} {b:Bool} {rs:List PR} {i:Nat} {r:PR} (hr:rs[i]? =some r) (hn:¬zI r c at_) (h:kS rest c at_ b (rs.drop (i+1))):kS rest c at_ b (rs.drop i):=by rw[nQ (mJ.1 hr).1];rw[(mJ.1 hr).2];exact .inr ⟨hn,h⟩
theorem J6 {rest:Bool} {c:List Int} {at_:Nat} {rs:List PR} {i:Nat} {r:PR} (hr:rs[i]? =some r) (ha:zI r c at_):kS rest c at_ r.brk (rs.drop i):=by rw[nQ (mJ.1 hr).1];rw[(mJ.1 hr).2];exact .inl ⟨ha,rfl⟩
end
section
open JO (PT bit rows bH)
def sS (cut:Nat->Bool) (n i:Nat):Bool:=decide (i=0)||decide (i=n)||cut i
end
section
open JO
structure SD where
 left:List Int
 right:List Int
 TH:Bool
 TI:Bool
def SD.may (s:SD) (a b:Int):Bool:=(s.TH||decide (a∈s.left))&&(s.TI||decide (b∈s.right))
def J7 (r:PR) (x:SD):Bool:=Wu r.left&&Wu r.right&&(!Ov r.left||x.TH)&&(!Ov r.right||x.TI)&&(Mc r.left).all (λy=>decide ((y:Int)∈x.left))&&(firstP r.right).all (λy=>decide ((y:Int)∈x.right))
theorem Xk {r:PR} {x:SD} (h:J7 r x=true) {c:List Int} {k:Nat} (h1:1<=k) (_:k<c.length) (ha:zI r c k):x.may (c.getD (k-1) 0) (c.getD k 0)=true:=by
 unfold J7 at h;simp only[aP,dG,Bool.not_eq_true',iK,fH]at h;obtain⟨⟨⟨⟨⟨p1,p2⟩,n1⟩,n2⟩,l1⟩,f1⟩:=h;obtain⟨⟨i,hi⟩,⟨m,hm⟩,_,_⟩:=ha;unfold SD.may;rw[aP,dG,dG,fH,fH];constructor
 ·obtain⟨a1,a2,a3⟩:=Md _ p1 _ _ _ hi;rcases aN i k with c1|c1
  ·obtain⟨y,hy,e⟩:=(a3 c1).1;rw[takeD c (by omega)]at e;exact .inr (e▸l1 y hy)
  ·have:=a2 (by omega);rw[this]at n1;exact .inl (n1.resolve_left (by decide))
 ·obtain⟨a1,a2,a3⟩:=Md _ p2 _ _ _ hm;rcases jI m with c1|c1
  ·have:=a2 c1.symm;rw[this]at n2;exact .inl (n2.resolve_left (by decide))
  ·obtain⟨y,hy,e⟩:=(a3 c1).2;rw[getD_drop,cK]at e;exact .inr (e▸f1 y hy)
def wF:List PR->List SD->Bool
 |[],[]=>true
 |r::rs,x::xs=>J7 r x&&wF rs xs
 |_,_=>false
theorem H9:∀{rs:List PR} {ss:List SD},wF rs ss=true->ss.length=rs.length/\∀(i:Nat) (r:PR) (x:SD),rs[i]? =some r->ss[i]? =some x->J7 r x=true
 |[],[],_=>⟨rfl,λi r x h=>by simp at h⟩
 |[],_::_,h=>by cases h
 |_::_,[],h=>by cases h
 |r::rs,x::xs,h=>by
  rw[wF,aP]at h;obtain⟨h1,h2⟩:=H9 h.2;refine⟨by simp[h1],λi r' x' hr hx=> ?_⟩;cases i with
  |zero=>
   obtain rfl:r=r':=by simpa using hr
   obtain rfl:x=x':=by simpa using hx
   exact h.1
  |succ i=>exact h2 i r' x' (by simpa using hr) (by simpa using hx)
end
structure QL (w:World) (A:Option Addr) (n:Nat) (ss:List SD):Prop where
 len:ss.length=n
 at_:∀i s,ss[i]? =some s->∃g o lA ln lc rA rn rc,A=some ⟨g,o,none⟩/\g<w.heap.size/\w.cell? ⟨g,o+i*4,none⟩=some (.slice lA ln lc)/\w.cell? ⟨g,o+i*4+1,none⟩=some (.slice rA rn rc)/\w.cell? ⟨g,o+i*4+2,none⟩=some (.bool s.TH)/\w.cell? ⟨g,o+i*4+3,none⟩=some (.bool s.TI)/\cB w lA ln s.left/\cB w rA rn s.right
theorem adk (s:SD) (a b:Int) (lA rA:Option Addr) (ln lc rn rc:Nat) (W:World) (hL:cB W lA ln s.left) (hR:cB W rA rn s.right):
 Calls Tryz.prog 127 #[.agg #[.slice lA ln lc, .slice rA rn rc, .bool s.TH, .bool s.TI], .int .i64 a, .int .i64 b] W λe w'=>e= .returned (.bool (s.may a b))/\Below W.heap.size W w':=by
 obtain⟨left,right,TH,TI⟩:=s;have HB0:=ah (Bx.start 197 W #[.slice lA ln lc, .slice rA rn rc, .bool TH, .bool TI]);have y0:=(HB0.out.c 0).trans rfl;have y1:=(HB0.out.c 1).trans rfl;have y2:=(HB0.out.c 2).trans rfl;have y3:=(HB0.out.c 3).trans rfl;have HL:=ah (Mx left a lA ln lc _ (eU hL HB0.out.aD));have HR:=ah (Mx right b rA rn rc _ (eU hR HB0.out.aD));unfold SD.may;dsimp only;obtain⟨p,hp⟩:∃p,decide (a∈left)=p:=⟨_,rfl⟩
 obtain⟨q,hq⟩:∃q,decide (b∈right)=q:=⟨_,rfl⟩
 rw[hp]at HL⊢;rw[hq]at HR⊢;clear hL hR hp hq;go_enter Tryz.func127,Tryz.ntmps127;cases TH<;>cases TI<;>cases p<;>cases q;all_goals go_wp2_with (first|(go_at_call 179;with_reducible refine HL.out.mono ?_;rintro e w7 ⟨rfl,rfl⟩)|(go_at_call 179;with_reducible refine HR.out.mono ?_;rintro e w7 ⟨rfl,rfl⟩))
 all_goals go_ret
 all_goals exact⟨rfl,HB0.out.aD⟩
theorem Tg (t:List UInt8) {k:Nat} (h:k<=(marks t).length):(oC t).getD k 0=if k<(marks t).length then(gZ t).getD k 0 else(t.length:Int):=by
 unfold oC;rw[aU,aU];by_cases c:k<(marks t).length;·rw[au c,nL (by rw[Dk];exact c)]
 ·obtain rfl:k=(marks t).length:=by omega
  rw[ak c,pK (by rw[Dk];exact ay _),Dk,uN];rfl
def adl (es:List Int) (f:Nat->Bool) (n:Nat):List Int:=((List.range n).filter f).map λk=>es.getD k 0
def qJ (cut:Nat->Bool) (ats:List Int) (L:Int) (n i:Nat):List Int:=((List.range i).filter (sS cut n)).map λk=>if k<n then ats.getD k 0 else L
theorem Ia (cut:Nat->Bool) (ats:List Int) (L:Int) (n i:Nat):qJ cut ats L n (i+1)=qJ cut ats L n i++if sS cut n i=true then[if i<n then ats.getD i 0 else L]else[]:=by
 unfold qJ;rw[List.range_succ,List.filter_append,List.map_append];congr 1;by_cases c:sS cut n i=true;·simp[c]
 ·simp[c]
def zK (W:World) (v:Value) (ss:List SD):Prop:=∀w,Below W.heap.size W w->Calls Tryz.prog 126 #[v] w λe w'=>∃A n c,e= .returned (.slice A n c)/\QL w' A n ss/\Below w.heap.size w w'
theorem MO (R:List gJ) (NN:Nat) (hT:Fq R NN) (t:List UInt8) (rs:List PR) (ss:List SD) (rest:Bool) (gr og cr:Nat) (d:Value) (W:World) (hD:DbT W d R NN) (hRl:pG W gr og rs) (hS:zK W (.agg #[.slice (some ⟨gr,og,none⟩) rs.length cr, .bool rest]) ss) (hn:t.length<=10000) (cut:Nat->Bool) (h1:1<=(marks t).length) (h64:(marks t).length+1<64) (hcut:∀k b,1<=k->k<(marks t).length->kS rest (iR R t) k b rs->b=cut k) (hss:ss.length=rs.length)
 (hmay:∀(i:Nat) (r:PR) (x:SD) (k:Nat),rs[i]? =some r->ss[i]? =some x->1<=k->k<(marks t).length->zI r (iR R t) k->x.may ((iR R t).getD (k - 1) 0) ((iR R t).getD k 0)=true):
 Calls Tryz.prog 78 #[d, .agg #[.slice (some ⟨gr,og,none⟩) rs.length cr, .bool rest], .string ⟨t.toArray⟩] W (lM (qJ cut (gZ t) t.length (marks t).length ((marks t).length+1)) W):=by
 obtain⟨M,hM⟩:∃M,(marks t).length=M:=⟨_,rfl⟩
 rw[hM]at h1 h64 hcut hmay⊢;have HMM:=ah hM;clear hM;obtain⟨s,hs⟩:∃s:ByteArray,(⟨t.toArray⟩:ByteArray)=s:=⟨_,rfl⟩
 have F8:=ah (λw=>Bd t w hn);rw[hs]at F8⊢;obtain⟨D,oD,hd⟩:∃D oD,d= .pointer (some ⟨D,oD,none⟩):=by obtain⟨D,o,_,_,_,h,_⟩:=hD;exact⟨D,o,h⟩
 subst hd;have HRl:=ah hRl;have HS:=ah hS;have HD:=ah hD;have HT:=ah hT;have HNN:=ah hn;obtain⟨N,hN⟩:∃N,rs.length=N:=⟨_,rfl⟩
 have HN:=ah hN;rw[hN]at HS⊢;have HB0:=ah (Bx.start 122 W #[.slice (some ⟨gr,og,none⟩) N cr, .bool rest]);obtain⟨wz,hwz⟩:∃wz,(W.alloc (.cells #[.slice (some ⟨gr,og,none⟩) N cr, .bool rest] 122)).alloc (.cells #[.pointer (some ⟨D,oD,none⟩), .slice (some ⟨gr,og,none⟩) N cr, .bool rest, .slice none 0 0, .slice none 0 0, .int .i64 0, .int .i64 0] 192)=wz:=⟨_,rfl⟩
 have hx0:wz.cell? ⟨W.heap.size+1,0,none⟩=some (.pointer (some ⟨D,oD,none⟩)):=by have h:=dH (W.alloc (.cells #[.slice (some ⟨gr,og,none⟩) N cr, .bool rest] 122)) (.cells #[.pointer (some ⟨D,oD,none⟩), .slice (some ⟨gr,og,none⟩) N cr, .bool rest, .slice none 0 0, .slice none 0 0, .int .i64 0, .int .i64 0] 192);rw[jL,hwz]at h;exact(bE _ _ _ _ _ _ h).trans rfl
 have HBz:=ah (HB0.out.go (show Below _ _ wz from by rw[<-hwz];exact(aM _ _).alloc (ay _) _));have hsz:W.heap.size+1<wz.heap.size:=by rw[<-hwz,jL,jL];omega
 have HX0:=ah hx0;have xM:=ah hsz;have HWZ:=ah hwz;have JY:=ah hcut;have ajV:=ah hmay;have oI:=ah hss;have HS1:=ah (size_mk t s hs);clear hRl hS hD hT hn hs hN hx0 hsz hwz hcut hmay hss;obtain⟨i0,hI0,hz0,hz1,hz2⟩:=iA l9;go_enter Tryz.func78,Tryz.ntmps78;go_wp2_with (first
  |(go_at_call 89;rw[HWZ.out];refine(F8.out _).mono ?_;rintro e w2 ⟨A,n,c,rfl,hR,hb⟩;have HR:=ah hR;have HX2:=ah ((hb.cell (p:=⟨W.heap.size+1,0,none⟩) xM.out).trans HX0.out);have HB2:=ah (HBz.out.go hb);have HS2:=ah (bC xM.out hb.size);clear hR hb)
  |(go_at_call 125;refine(Cb R NN HT.out t (W.heap.size+1) _ A n c w2 HS2.out HX2.out (kI HD.out HB2.out.aD) HR.out HNN.out).mono ?_;rintro e w3 ⟨A3,n3,c3,rfl,hI,agi,hb⟩;have HI3:=ah hI;have HCC:=ah agi;clear agi;have HR3:=ah (HR.out.below hb);have HB3:=ah (HB2.out.go hb);clear hI hb;have y0:=(HB3.out.c 0).trans rfl;have y1:=(HB3.out.c 1).trans rfl)
  |(go_at_call 126;refine(HS.out w3 HB3.out.aD).mono ?_;rintro e w4 ⟨A4,n4,c4,rfl,hSd,hb⟩;have HSd:=ah hSd;have HI4:=ah (eU HI3.out hb);have HR4:=ah (HR3.out.below hb);have FT:=ah (HB3.out.go hb);clear hSd hb y0 y1))
 obtain rfl:n3=n:=by rw[<-HI4.out.len,<-HR4.out.len,qI,wC]
 obtain rfl:n3=M:=by rw[<-HI4.out.len,qI,HMM.out]
 go_loopw [11,12] (λvo vi wr=>∃(i m:Nat) (Ao:Option Addr) (co:Nat),i<=n3+1/\m<=i/\vi= .int .i64 i/\vo= .slice Ao m co/\IA w4 (.slice Ao m co) m (qJ cut (gZ t) t.length n3 i) wr) (λ_ vi _=>n3+1 - (RowKit.intOf vi).toNat);case atStart=>exact⟨0,0,none,0,aL _,ay _,rfl,rfl,IA.nil w4⟩
 case round=>
  obtain⟨i,m,Ao,co,hi,SV,rfl,rfl,hA⟩:=hrel;have HA:=ah hA;have HB:=ah (FT.out.go hA.aD);clear hA;have y0:=(HB.out.c 0).trans rfl;have y1:=(HB.out.c 1).trans rfl;by_cases hlt:i<=n3
  ·have hii:(i:Int)<=n3:=by omega
   have hn0:0<n3:=by omega
   have hi0:(0:Int)<=i:=by omega
   have xY:=ah (show wrap64 ((i:Int)+1)=((i+1:Nat):Int)by unfold wrap64;omega);have HLEN:=ah (Zz (show m<=100000 by omega));go_upto_region 9 with fail;go_cut [13] (λq wx=>q= .bool (decide (i=0)||decide (i=n3))/\wx=wr);case first=>
    by_cases c0:i=0
    ·subst c0;go_wp2_with fail;go_meet;exact⟨rfl,rfl⟩
    ·have hb0:((i:Int)==0)=false:=iw.2 (by omega);by_cases cn:i=n3
     ·have hbn:((i:Int)==n3)=true:=dK.2 (by omega);have hd:(decide (i=0)||decide (i=n3))=true:=by simp[cn]
      have HDD:=ah hd;clear hd cn;go_wp2_with fail;go_meet;rw[HDD.out];exact⟨rfl,rfl⟩
     ·have hbn:((i:Int)==n3)=false:=iw.2 (by omega);have HDD:=Lib.hid (show(decide (i=0)||decide (i=n3))=false by simp[c0,cn]);go_wp2_with fail;go_meet;rw[HDD.out];exact⟨rfl,rfl⟩
   case rest=>
    obtain⟨rfl,rfl⟩:=hcut;by_cases hz:i=0\/i=n3
    ·have hdd:(decide (i=0)||decide (i=n3))=true:=by rcases hz with h|h <;> simp[h]
     rw[hdd];have hsucc:=Ia cut (gZ t) t.length n3 i;rw[show sS cut n3 i=true by unfold sS;rw[hdd];rfl,au rfl]at hsucc;have Xa:=ah SV;clear hdd hz SV;by_cases MP:i<n3
     ·rw[au MP]at hsucc;obtain⟨g,rfl,hg,hc⟩:=HR4.out.at_ (by omega);have d1:=hc i MP 1 _ (by decide) rfl;rw[QC t (by rw[HMM.out];exact MP)]at d1;obtain⟨x,hx⟩:∃x,(gZ t).getD i 0=x:=⟨_,rfl⟩
      rw[hx]at d1 hsucc;have d2:=(HA.out.aD.cell (p:=⟨g,i*3+1,none⟩) hg).trans d1;have hii2:(i:Int)<n3:=by omega
      have OQ:=ah hsucc;clear hc d1 hx hg hsucc;go_wp2_with (at_builtin;refine bV _ rfl (.tmp 93) (.tmp 99) 41 rfl w4.heap.size 3 i0 _ 8 Tryz.underlying41 hI0 hz0 hz1 hz2 rfl (.slice Ao m co) m (bX (qJ cut (gZ t) t.length n3 i)) rfl HA.out.gD _ 1 1 [.int .i64 x] rfl (eT _ _ _) (by simp[Value.oneCell']) HLEN.out.1 HLEN.out.2 (by rw[World.size_alloc];have:=HA.out.aD.size;omega) ?_;intro v' wp ho hg hn;obtain⟨B1,d1,rfl,_⟩:=aW ho;have xL:=Lib.hid (HA.out.grow ho hg);clear ho hg hn);(try rw[xY.out]);exact⟨⟨i+1,m+1,_,_,by omega,Nat.succ_le_succ Xa.out,rfl,rfl,by rw[OQ.out];exact xL.out⟩,by simp[RowKit.intOf];omega⟩
     ·rw[ak MP]at hsucc;have hii2:¬(i:Int)<n3:=by omega
      have OQ:=ah hsucc;have anN:(s.size:Int)=(t.length:Nat):=by rw[HS1.out]
      clear hsucc;go_wp2_with (at_builtin;refine bV _ rfl (.tmp 102) (.tmp 105) 41 rfl w4.heap.size 3 i0 _ 8 Tryz.underlying41 hI0 hz0 hz1 hz2 rfl (.slice Ao m co) m (bX (qJ cut (gZ t) t.length n3 i)) rfl HA.out.gD _ 1 1 [.int .i64 (t.length:Nat)] rfl (eT _ _ _) (by simp[Value.oneCell']) HLEN.out.1 HLEN.out.2 (by rw[World.size_alloc];have:=HA.out.aD.size;omega) ?_;intro v' wp ho hg hn;obtain⟨B1,d1,rfl,_⟩:=aW ho;have xL:=Lib.hid (HA.out.grow ho hg);clear ho hg hn);(try rw[xY.out]);exact⟨⟨i+1,m+1,_,_,by omega,Nat.succ_le_succ Xa.out,rfl,rfl,by rw[OQ.out];exact xL.out⟩,by simp[RowKit.intOf];omega⟩
    ·have hdd:(decide (i=0)||decide (i=n3))=false:=by simp only[Bool.or_eq_false_iff,Ct];omega
     rw[hdd];clear hdd;go_upto_block 2 with fail;go_cut [13] (λq wx=>q= .bool (cut i)/\IA w4 (.slice Ao m co) m (qJ cut (gZ t) t.length n3 i) wx);case first=>
      go_wp2_with fail;go_loopw [13,14] (λvc vi wq=>∃k:Nat,k<=N/\vi= .int .i64 k/\vc= .bool rest/\IA w4 (.slice Ao m co) m (qJ cut (gZ t) t.length n3 i) wq/\∀b,kS rest (iR R t) i b (rs.drop k)->kS rest (iR R t) i b rs) (λ_ vi _=>N - (RowKit.intOf vi).toNat);case atStart=>exact⟨0,aL _,rfl,rfl,HA.out,λ_ h=>h⟩
      case round=>
       obtain⟨k,hk,rfl,rfl,hA2,hD2⟩:=hrel;have HA2:=ah hA2;have HD2:=ah hD2;clear hA2 hD2;have y0:=((FT.out.go HA2.out.aD).c 0).trans rfl;by_cases hkN:k<N
       ·obtain⟨r,hr⟩:∃r,rs[k]? =some r:=⟨_,bJ (by rw[HN.out];exact hkN)⟩
        obtain⟨x,hx⟩:∃x,ss[k]? =some x:=⟨_,bJ (by rw[oI.out,HN.out];exact hkN)⟩
        obtain⟨hl,v,hv,hc⟩:=HRl.out.at_ k r hr;have HRR:=ah hr;obtain⟨gs,os,lA,ln,lc,rA,rn,rc,rfl,hgs,s0,s1,s2,s3,hL,hRr⟩:=HSd.out.at_ k x hx;have HSC:=ah (λ(w:World) (hw:Below w4.heap.size w4 w)=>And.intro ((hw.cell (p:=⟨gs,os+k*4,none⟩) hgs).trans s0) (And.intro ((hw.cell (p:=⟨gs,os+k*4+1,none⟩) hgs).trans s1) (And.intro ((hw.cell (p:=⟨gs,os+k*4+2,none⟩) hgs).trans s2) ((hw.cell (p:=⟨gs,os+k*4+3,none⟩) hgs).trans s3))));obtain⟨gc,oc,rfl,hgc,hcc⟩:=HI4.out.at_ (by omega);have z0:=hcc (i - 1) (by omega);have z1:=hcc i (by omega);have hm:=ajV.out k r x i hr hx (by omega) (by omega);obtain⟨a,ha⟩:∃a,(iR R t).getD (i - 1) 0=a:=⟨_,rfl⟩
        obtain⟨b,hb⟩:∃b,(iR R t).getD i 0=b:=⟨_,rfl⟩
        obtain⟨i1,hi1⟩:∃i1,i - 1=i1:=⟨_,rfl⟩
        rw[ha]at z0 hm;rw[hb]at z1 hm;rw[hi1]at z0;have ZV:=ah (λ(w:World) (hw:Below w4.heap.size w4 w)=>And.intro ((hw.cell (p:=⟨gc,oc+i1,none⟩) hgc).trans z0) ((hw.cell (p:=⟨gc,oc+i,none⟩) hgc).trans z1));have anO:=ah FT.out.aD;have Xl:=ah (λ(w:World) (hw:Below w4.heap.size w4 w) (j:Nat) (y:Value) (hy:(v.cells r)[j]? =some y)=>show w.cell? ⟨gr,og+k*9+j,none⟩=some y from((FT.out.go hw).aD.cell (p:=⟨gr,og+k*9+j,none⟩) HRl.out.blk).trans (hc j y hy));have HMA:=ah hm;have HMC:=ah (λ(w:World) (hw:Below w4.heap.size w4 w)=>adk x a b lA rA ln lc rn rc w (eU hL hw) (eU hRr hw));have HAP:=ah (λ(w:World) (hw:Below w4.heap.size w4 w)=>OV v r (iR R t) gc oc n3 c3 i w (hv.below (FT.out.go hw).aD) (eU HI4.out hw) (by omega) (by omega) h64 HCC.out hl);unfold zJ.cells at HAP Xl;obtain⟨z,hz2⟩:∃z:Bool,z=true↔zI r (iR R t) i:=by
         by_cases h:zI r (iR R t) i
         ·exact⟨true,λ_=>h,λ_=>rfl⟩
         ·exact⟨false,λe=>Bool.noConfusion e,λe=>absurd e h⟩
        have HZ2:=ah hz2;have hw1:wrap64 ((i:Int) - 1)=(i1:Int):=by unfold wrap64;omega
        have hw2:IntKind.i64.wrap ((i:Int) - 1)=(i1:Int):=(IntWalk.i64_left _).trans hw1;have anQ:(0:Int)<=i1:=by omega
        have anR:(i1:Int)<n3:=by omega
        have hin:(i:Int)<n3:=by omega
        have hkk:(k:Int)<N:=by omega
        have hk0:(0:Int)<=k:=by omega
        have anS:N<=64:=by rw[<-HN.out];exact HRl.out.small
        have hn4:n4=N:=by rw[<-HSd.out.len,oI.out,HN.out]
        have hk4:k<n4:=by omega
        have anT:(k:Int)<n4:=by omega
        clear hn4;have iQ:=ah (show wrap64 ((k:Int)+1)=((k+1:Nat):Int)by unfold wrap64;omega);have HYC:=ah (λ(w:World) (hw:Below w4.heap.size w4 w)=>And.intro (((FT.out.go hw).c 0).trans rfl:w.cell? ⟨W.heap.size,0,none⟩=some (.slice (some ⟨gr,og,none⟩) N cr)) (((FT.out.go hw).c 1).trans rfl:w.cell? ⟨W.heap.size,1,none⟩=some (.bool rest)));clear hr hx hv hc s0 s1 s2 s3 hL hRr z0 z1 hcc ha hb hi1 hm hz2 hgs hgc hl;go_upto_region 15 with fail;go_cut [79] (λq wx=>q= .bool z/\IA w4 (.slice Ao m co) m (qJ cut (gZ t) t.length n3 i) wx);case first=>
         have HQ1:IA w4 (.slice Ao m co) m (qJ cut (gZ t) t.length n3 i) (wr.drewN 1):=⟨⟨HA2.out.aD.os,HA2.out.aD.tape,HA2.out.aD.output,HA2.out.aD.size,HA2.out.aD.block⟩,HA2.out.own⟩
         obtain⟨mm,hmm⟩:∃mm,x.may a b=mm:=⟨_,rfl⟩
         have adn:=ah hmm;clear hmm;cases mm with
         |false=>
          obtain rfl:z=false:=by
           cases z
           ·rfl
           ·exact absurd (HMA.out (HZ2.out.1 rfl)) (by rw[adn.out];exact Bool.noConfusion)
          refine dZ (C:=IA w4 (.slice Ao m co) m (qJ cut (gZ t) t.length n3 i)) (by kernel_rfl) (by kernel_rfl) HQ1 ?_;go_big_quiet_step (exact λ_=>rfl);go_big_quiet_step (exact λ_=>rfl);go_big_quiet_step (exact λ_=>rfl);refine aV (by kernel_rfl) (λK hK=> ?_);refine aQ (.agg #[.slice lA ln lc, .slice rA rn rc, .bool x.TH, .bool x.TI]) (λw hw=> ?_) (hK _ ?_)
          ·obtain⟨d0,d1,d2,d3⟩:=HSC.out w hw.aD;go_simp
          clear hK K;(try simp only[Act.put]);(try simp only[aI]);(try simp only[aK]);(try simp only[aJ]);go_big_quiet_step (exact λ_=>rfl);go_big_quiet_step (exact λ_=>rfl);go_big_quiet_step (exact λ_=>rfl);go_big_quiet_step (exact λ_=>rfl);refine aV (by kernel_rfl) (λK hK=> ?_);refine aQ (.int .i64 a) (λw hw=> ?_) (hK _ ?_)
          ·obtain⟨d0,d1⟩:=ZV.out w hw.aD;go_simp
          clear hK K;(try simp only[Act.put]);(try simp only[aI]);(try simp only[aK]);(try simp only[aJ]);go_big_quiet_step (exact λ_=>rfl);go_big_quiet_step (exact λ_=>rfl);go_big_quiet_step (exact λ_=>rfl);refine aV (by kernel_rfl) (λK hK=> ?_);refine aQ (.int .i64 b) (λw hw=> ?_) (hK _ ?_)
          ·obtain⟨d0,d1⟩:=ZV.out w hw.aD;go_simp
          clear hK K;(try simp only[Act.put]);(try simp only[aI]);(try simp only[aK]);(try simp only[aJ]);refine aV (by kernel_rfl) (λK hK=> ?_);refine gB 127 #[.agg #[.slice lA ln lc, .slice rA rn rc, .bool x.TH, .bool x.TI], .int .i64 a, .int .i64 b] (.bool false) (λw hw=> ?_) (λw hw=> ?_) (hK _ ?_)
          ·go_simp
          ·refine(HMC.out w hw.aD).mono ?_;rintro e w2 ⟨rfl,hb⟩;exact⟨by rw[adn.out],hw.below hb⟩
          clear hK K;(try simp only[Act.put]);(try simp only[aI]);(try simp only[aK]);(try simp only[aJ]);go_big_quiet_step (exact λ_=>rfl);go_big_quiet_step (exact λ_=>rfl);go_big_quiet_step (exact λ_=>rfl);go_big_quiet_step (exact λ_=>rfl);go_big_quiet_step (exact λ_=>rfl);go_big_quiet_step (exact λ_=>rfl);go_big_quiet_step (exact λ_=>rfl);go_big_quiet_step (exact λ_=>rfl);go_big_quiet_step (exact λ_=>rfl);go_big_quiet_step (exact λ_=>rfl);refine wpQuiet_nil ?_;intro w' hw';go_wp2_with fail;go_meet;exact⟨rfl,hw'⟩
         |true=>
          refine dZ (C:=IA w4 (.slice Ao m co) m (qJ cut (gZ t) t.length n3 i)) (by kernel_rfl) (by kernel_rfl) HQ1 ?_;go_big_quiet_step (exact λ_=>rfl);go_big_quiet_step (exact λ_=>rfl);go_big_quiet_step (exact λ_=>rfl);refine aV (by kernel_rfl) (λK hK=> ?_);refine aQ (.agg #[.slice lA ln lc, .slice rA rn rc, .bool x.TH, .bool x.TI]) (λw hw=> ?_) (hK _ ?_)
          ·obtain⟨d0,d1,d2,d3⟩:=HSC.out w hw.aD;go_simp
          clear hK K;(try simp only[Act.put]);(try simp only[aI]);(try simp only[aK]);(try simp only[aJ]);go_big_quiet_step (exact λ_=>rfl);go_big_quiet_step (exact λ_=>rfl);go_big_quiet_step (exact λ_=>rfl);go_big_quiet_step (exact λ_=>rfl);refine aV (by kernel_rfl) (λK hK=> ?_);refine aQ (.int .i64 a) (λw hw=> ?_) (hK _ ?_)
          ·obtain⟨d0,d1⟩:=ZV.out w hw.aD;go_simp
          clear hK K;(try simp only[Act.put]);(try simp only[aI]);(try simp only[aK]);(try simp only[aJ]);go_big_quiet_step (exact λ_=>rfl);go_big_quiet_step (exact λ_=>rfl);go_big_quiet_step (exact λ_=>rfl);refine aV (by kernel_rfl) (λK hK=> ?_);refine aQ (.int .i64 b) (λw hw=> ?_) (hK _ ?_)
          ·obtain⟨d0,d1⟩:=ZV.out w hw.aD;go_simp
          clear hK K;(try simp only[Act.put]);(try simp only[aI]);(try simp only[aK]);(try simp only[aJ]);refine aV (by kernel_rfl) (λK hK=> ?_);refine gB 127 #[.agg #[.slice lA ln lc, .slice rA rn rc, .bool x.TH, .bool x.TI], .int .i64 a, .int .i64 b] (.bool true) (λw hw=> ?_) (λw hw=> ?_) (hK _ ?_)
          ·go_simp
          ·refine(HMC.out w hw.aD).mono ?_;rintro e w2 ⟨rfl,hb⟩;exact⟨by rw[adn.out],hw.below hb⟩
          clear hK K;(try simp only[Act.put]);(try simp only[aI]);(try simp only[aK]);(try simp only[aJ]);go_big_quiet_step (exact λ_=>rfl);go_big_quiet_step (exact λ_=>rfl);refine aV (by kernel_rfl) (λK hK=> ?_);refine aQ (.slice (some ⟨gr,og,none⟩) N cr) (λw hw=> ?_) (hK _ ?_)
          ·obtain⟨d0,d1⟩:=HYC.out w hw.aD;go_simp
          clear hK K;(try simp only[Act.put]);(try simp only[aI]);(try simp only[aK]);(try simp only[aJ]);go_big_quiet_step (exact λ_=>rfl);go_big_quiet_step (exact λ_=>rfl);refine aV (by kernel_rfl) (λK hK=> ?_);refine aQ (.agg #[.bool r.brk, .bool r.fst, .bool r.XW, .int .i64 (v.lop:Nat), .slice v.lA v.ln v.lc, .slice v.lB v.lm v.ld, .int .i64 (v.rop:Nat), .slice v.rA v.rn v.rc, .slice v.rB v.rm v.rd]) (λw hw=> ?_) (hK _ ?_)
          ·have d0:=Xl.out w hw.aD 0 _ rfl;have d1:=Xl.out w hw.aD 1 _ rfl;have d2:=Xl.out w hw.aD 2 _ rfl;have d3:=Xl.out w hw.aD 3 _ rfl;have d4:=Xl.out w hw.aD 4 _ rfl;have d5:=Xl.out w hw.aD 5 _ rfl;have d6:=Xl.out w hw.aD 6 _ rfl;have d7:=Xl.out w hw.aD 7 _ rfl;have d8:=Xl.out w hw.aD 8 _ rfl;rw[cK]at d0;go_simp
          clear hK K;(try simp only[Act.put]);(try simp only[aI]);(try simp only[aK]);(try simp only[aJ]);go_big_quiet_step (exact λ_=>rfl);go_big_quiet_step (exact λ_=>rfl);refine aV (by kernel_rfl) (λK hK=> ?_);refine gB 128 #[.agg #[.bool r.brk, .bool r.fst, .bool r.XW, .int .i64 (v.lop:Nat), .slice v.lA v.ln v.lc, .slice v.lB v.lm v.ld, .int .i64 (v.rop:Nat), .slice v.rA v.rn v.rc, .slice v.rB v.rm v.rd], .slice (some ⟨gc,oc,none⟩) n3 c3, .int .i64 i] (.bool z) (λw hw=> ?_) (λw hw=> ?_) (hK _ ?_)
          ·go_simp
          ·refine(HAP.out w hw.aD).mono ?_;rintro e w2 ⟨q,rfl,hq,hb⟩;exact⟨by rw[eX.2 (hq.trans HZ2.out.symm)],hw.below hb⟩
          clear hK K;(try simp only[Act.put]);(try simp only[aI]);(try simp only[aK]);(try simp only[aJ]);go_big_quiet_step (exact λ_=>rfl);refine wpQuiet_nil ?_;intro w' hw';go_wp2_with fail;go_meet;exact⟨rfl,hw'⟩
        case rest=>
         obtain⟨rfl,hA3⟩:=hcut;have XY:=ah hA3;clear hA3;obtain⟨y0,y1⟩:=HYC.out _ XY.out.aD;have k0:=Xl.out _ XY.out.aD 0 _ rfl;rw[cK]at k0;cases z with
         |false=> have hD3:=λb h=>HD2.out b (J5 HRR.out (λe=>absurd (HZ2.out.2 e) (by decide)) h);have HD3:=ah hD3;clear hD3;go_wp2_with fail;(try rw[iQ.out]);exact⟨⟨k+1,hkN,rfl,rfl,XY.out,HD3.out⟩,by simp[RowKit.intOf];omega⟩
         |true=> have hbc:=JY.out i r.brk (by omega) (by omega) (HD2.out _ (J6 HRR.out (HZ2.out.1 rfl)));have HBC:=ah hbc;clear hbc;go_wp2_with fail;go_meet;exact⟨by rw[HBC.out],XY.out⟩
       ·obtain rfl:k=N:=by omega
        have hbc:=JY.out i rest (by omega) (by omega) (HD2.out _ (by rw[List.drop_of_length_le (Nat.le_of_eq HN.out)];exact rfl));have HBC:=ah hbc;clear hbc;go_wp2;go_meet;exact⟨by rw[HBC.out],HA2.out⟩
     case rest=>
      obtain⟨rfl,hA⟩:=hcut;have HA2:=ah hA;clear hA;have MP:i<n3:=by omega
      have hsucc:=Ia cut (gZ t) t.length n3 i;have hdc:sS cut n3 i=cut i:=by unfold sS;simp only[show ¬i=0 by omega,show ¬i=n3 by omega,decide_false,Bool.false_or]
      rw[hdc,au MP]at hsucc;obtain⟨g,rfl,hg,hc⟩:=HR4.out.at_ (by omega);have d1:=hc i MP 1 _ (by decide) rfl;rw[QC t (by rw[HMM.out];exact MP)]at d1;obtain⟨x,hx⟩:∃x,(gZ t).getD i 0=x:=⟨_,rfl⟩
      rw[hx]at d1 hsucc;have d2:=(HA2.out.aD.cell (p:=⟨g,i*3+1,none⟩) hg).trans d1;have hii2:(i:Int)<n3:=by omega
      have Xa:=ah SV;obtain⟨q,hq⟩:∃q,cut i=q:=⟨_,rfl⟩
      rw[hq]at hsucc⊢;clear hc d1 hx hq hdc hg hz SV;cases q with
      |true=> have OQ:=ah (show qJ cut (gZ t) t.length n3 (i+1)=qJ cut (gZ t) t.length n3 i++[x]by rw[hsucc,au rfl]);clear hsucc;go_wp2_with (at_builtin;refine bV _ rfl (.tmp 93) (.tmp 99) 41 rfl w4.heap.size 3 i0 _ 8 Tryz.underlying41 hI0 hz0 hz1 hz2 rfl (.slice Ao m co) m (bX (qJ cut (gZ t) t.length n3 i)) rfl HA2.out.gD _ 1 1 [.int .i64 x] rfl (eT _ _ _) (by simp[Value.oneCell']) HLEN.out.1 HLEN.out.2 (by rw[World.size_alloc];have:=HA2.out.aD.size;omega) ?_;intro v' wp ho hg hn;obtain⟨B1,d1,rfl,_⟩:=aW ho;have xL:=Lib.hid (HA2.out.grow ho hg);clear ho hg hn);(try rw[xY.out]);exact⟨⟨i+1,m+1,_,_,by omega,Nat.succ_le_succ Xa.out,rfl,rfl,by rw[OQ.out];exact xL.out⟩,by simp[RowKit.intOf];omega⟩
      |false=> have OQ:=ah (show qJ cut (gZ t) t.length n3 (i+1)=qJ cut (gZ t) t.length n3 i by rw[hsucc,ak (by decide),iL]);clear hsucc;go_wp2_with fail;(try rw[xY.out]);exact⟨⟨i+1,m,_,_,by omega,Nat.le_succ_of_le Xa.out,rfl,rfl,by rw[OQ.out];exact HA2.out⟩,by simp[RowKit.intOf];omega⟩
  ·obtain rfl:i=n3+1:=by omega
   have HM:=ah (show m<=100000 by omega);have hii:¬((n3+1:Nat):Int)<=n3:=by omega
   clear SV;go_wp2;go_ret;exact⟨Ao,m,co,rfl,kM HA.out.own HM.out,HB.out.aD⟩
