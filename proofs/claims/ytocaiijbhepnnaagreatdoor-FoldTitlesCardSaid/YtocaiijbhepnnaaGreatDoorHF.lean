/- FoldTitles, the rules of words. -/
import Derived.Test.YtocaiijbhepnnaaGreatDoorHE
namespace Go.Proofs.YtocaiijbhepnnaaGreatDoor.foldTitles
section
open Je
theorem nW (c:List Int) (n:Nat):∀k,k<=n->cu (c.take n) k=cu c k
 |0,_=>rfl
 |k+1,h=>by rw[cu,cu,takeD c (show k<n by omega),nW c n k (by omega)]
theorem zx (c:List Int) {n:Nat} {x:Int} (h:x<n) (hn:n<=c.length):fZ (c.take n) x=fZ c x:=by
 unfold fZ;rw[jh,Nat.min_eq_left hn];by_cases e:x<0;·rw[au (.inl e),au (.inl e)]
 ·rw[aj (by omega),aj (by omega),takeD c (by omega)]
theorem Bu (c:List Int) {n:Nat} {x:Int} (h:x<=n):dB (c.take n) x=dB c x:=by
 unfold dB;split;·exact nW c n _ (by omega)
 ·rfl
theorem GV (c:List Int) (x:Int):dB c x<x:=by
 unfold dB;split;·have:=(jN c x.toNat).2;omega
 ·omega
theorem GX (c:List Int) {n:Nat} (hn:n<=c.length):∀(f:Nat) (x:Int),x<n->uI (c.take n) f x=uI c f x
 |0,_,_=>rfl
 |f+1,x,h=>by have:=GV c x;rw[uI,uI,zx c h hn,Bu c (by omega),GX c hn f _ (by omega)]
theorem kR (A:List Nat) (h:(A.all λy=> !bY y)=true):Apart A:=by rintro x ⟨y,hy,rfl⟩;have:=dZ.1 h y hy;exact⟨by simpa using this,by omega⟩
theorem ab8 (A:List Nat) (d:List Int) (h:0<d.length):(∃i,bK (pS A) d i d.length)↔Mem A (d.getD (d.length-1) 0):=by
 constructor;·rintro⟨i,e⟩;obtain⟨e1,e2,e3⟩:=(jC _ _ _ _).1 e;rwa [e2,oH]
 ·intro e;exact⟨d.length-1,(jC _ _ _ _).2 ⟨by omega,by omega,e⟩⟩
theorem ab9 (d:List Int):∃i,bK p0 d i d.length:=⟨d.length,(Bp _ _ _ _ _).2 ⟨ay _,rfl⟩⟩
theorem Zb (d:List Int):∃k,bK p0 d 0 k:=⟨0,(Bp _ _ _ _ _).2 ⟨aL _,rfl⟩⟩
def lG:List PR:=[
 ⟨false,false,false,pS [1],pS [2]⟩,
 ⟨true,false,false,pS [1,2,3],p0⟩,
 ⟨true,false,false,p0,pS [1,2,3]⟩,
 ⟨false,false,false,pS [5],pS [19]⟩,
 ⟨false,false,false,pS [18],pS [18]⟩,
 ⟨false,false,false,p0,pS [4,5,6]⟩,
 ⟨false,false,false,pT [pS [9,10],pX],pS [9,10]⟩,
 ⟨false,false,false,pT [pS [9,10],pX],pT [pS [11,13,14],pX,pS [9,10]]⟩,
 ⟨false,false,false,pT [pS [9,10],pX,pS [11,13,14],pX],pS [9,10]⟩,
 ⟨false,false,false,pT [pS [9],pX],pS [11]⟩,
 ⟨false,false,false,pT [pS [9],pX],pT [pS [12],pX,pS [9]]⟩,
 ⟨false,false,false,pT [pS [9],pX,pS [12],pX],pS [9]⟩,
 ⟨false,false,false,pT [pS [16],pX],pS [16]⟩,
 ⟨false,false,false,pT [pS [9,10],pX],pS [16]⟩,
 ⟨false,false,false,pT [pS [16],pX],pS [9,10]⟩,
 ⟨false,false,false,pT [pS [16],pX,pS [11,13,15],pX],pS [16]⟩,
 ⟨false,false,false,pT [pS [16],pX],pT [pS [11,13,15],pX,pS [16]]⟩,
 ⟨false,false,false,pT [pS [8],pX],pS [8]⟩,
 ⟨false,false,false,pT [pS [8,9,10,16,17],pX],pS [17]⟩,
 ⟨false,false,false,pT [pS [17],pX],pS [8,9,10,16]⟩,
 ⟨false,true,false,pR1,pS [7]⟩,
 ⟨false,false,false,pR2,pS [7]⟩]
section
variable {c:List Int} {n:Nat} (h2:n<c.length)
include h2
theorem take_len:(c.take n).length=n:=by rw[jh];omega
theorem fP {b:Bool} {L R:PT} {P Q:Prop} (hL:(∃i,bK L (c.take n) i (c.take n).length)↔P) (hR:(∃k,bK R (c.drop n) 0 k)↔Q):Fz ⟨b,false,false,L,R⟩ c n↔P/\Q:=by rw[take_len h2]at hL;unfold Fz;rw[hL,hR];exact⟨λh=>⟨h.1,h.2.1⟩,λh=>⟨h.1,h.2,(λe=>by cases e),(λe=>by cases e)⟩⟩
theorem lS (h1:1<=n) (A:List Nat):(∃i,bK (pS A) (c.take n) i (c.take n).length)↔Mem A (c.getD (n-1) 0):=by rw[ab8 A _ (by rw[take_len h2];omega),take_len h2,takeD c (by omega)]
theorem l1 {A:List Nat} (hA:Apart A):(∃i,bK (pT [pS A,pX]) (c.take n) i (c.take n).length)↔Mem A (fZ c (cu c n)):=by rw[ab5 hA,take_len h2,nW c n n (ay _),zx c (jN c n).2 (by omega)]
theorem l2 {A B:List Nat} (hA:Apart A) (hB:Apart B):(∃i,bK (pT [pS A,pX,pS B,pX]) (c.take n) i (c.take n).length)↔Mem B (fZ c (cu c n))/\Mem A (fZ c (dB c (cu c n))):=by have e:=(jN c n).2;have g:=GV c (cu c n);rw[ab6 hA hB,take_len h2,nW c n n (ay _),zx c e (by omega),Bu c (by omega),zx c (by omega) (by omega)]
theorem rS (B:List Nat):(∃k,bK (pS B) (c.drop n) 0 k)↔Mem B (c.getD n 0):=Y8 B c n h2
theorem r2 (B:List Nat) {A:List Nat} (hA:Apart A):(∃k,bK (pT [pS B,pX,pS A]) (c.drop n) 0 k)↔Mem B (c.getD n 0)/\Mem A (BJ c n):=Y9 hA c n h2
theorem Zc (hd:∀j,j<c.length->0<=c.getD j 0/\c.getD j 0<=19):(bK pR1 (c.take n) 0 n\/∃i,bK pR2 (c.take n) i n)↔Ns c n%2=1:=by have hl:=take_len h2;have:=Wn (d:=c.take n) (λj hj=>by rw[takeD c (by omega)];exact hd j (by omega)) (f:=n+1) (by omega);rw[hl]at this;rw[this];unfold Ns;rw[nW c n n (ay _),GX c (by omega) _ _ (jN c n).2,sF]
end
section
variable (x:Int)
theorem m1 (k:Nat):Mem [k] x↔(x==(k:Int))=true:=by unfold Mem;simp only[eG,lJ,cZ];omega
theorem aii:Mem [1,2,3] x↔uH x=true:=by unfold Mem uH;simp only[aR,nQ,mU,oO,lJ,dI,cZ];omega
theorem aij:Mem [9,10] x↔qG x=true:=by unfold Mem qG;simp only[aR,nQ,mU,oO,lJ,dI,cZ];omega
theorem aik:Mem [11,13,14] x↔KY x=true:=by unfold Mem KY;simp only[aR,nQ,mU,oO,lJ,dI,cZ];omega
theorem ail:Mem [11,13,15] x↔KZ x=true:=by unfold Mem KZ;simp only[aR,nQ,mU,oO,lJ,dI,cZ];omega
theorem afi:Mem [8,9,10,16] x↔wS x=true:=by unfold Mem wS qG;simp only[aR,nQ,mU,oO,lJ,dI,cZ];omega
theorem acd:Mem [8,9,10,16,17] x↔(wS x||x==17)=true:=by unfold Mem wS qG;simp only[aR,nQ,mU,oO,lJ,dI,cZ];omega
end
theorem Wt {a b:Bool}:a=true\/b=true->(a||b)=true:=λh=>by rcases h with rfl|rfl<;>simp
theorem Wu {c:List Int} {n:Nat} (h1:1<=n) (h2:n<c.length) (hd:∀j,j<c.length->0<=c.getD j 0/\c.getD j 0<=19) {b:Bool} (h:iJ true c n b lG):b=EH c n:=by
 have RZ:Apart [9,10]:=kR _ rfl;have h9:Apart [9]:=kR _ rfl;have h12:Apart [12]:=kR _ rfl;have h16:Apart [16]:=kR _ rfl;have h8:Apart [8]:=kR _ rfl;have h17:Apart [17]:=kR _ rfl;have hW:Apart [11,13,14]:=kR _ rfl;have hN:Apart [11,13,15]:=kR _ rfl;have hJ:Apart [8,9,10,16,17]:=kR _ rfl;have L0:(∃i,bK p0 (c.take n) i (c.take n).length)↔True:=⟨λ_=>trivial,λ_=>ab9 _⟩
 have R0:(∃k,bK p0 (c.drop n) 0 k)↔True:=⟨λ_=>trivial,λ_=>Zb _⟩
 have odd:=Zc h2 hd;have a21:Fz ⟨false,true,false,pR1,pS [7]⟩ c n↔bK pR1 (c.take n) 0 n/\Mem [7] (c.getD n 0):=by unfold Fz;rw[rS h2];exact⟨λh=>⟨h.2.2.1 rfl,h.2.1⟩,λh=>⟨⟨0,h.1⟩,h.2,(λ_=>h.1),(λe=>by cases e)⟩⟩
 have a22:Fz ⟨false,false,false,pR2,pS [7]⟩ c n↔(∃i,bK pR2 (c.take n) i n)/\Mem [7] (c.getD n 0):=by have:=fP h2 (b:=false) (L:=pR2) (R:=pS [7]) Iff.rfl (rS h2 [7]);rwa [take_len h2]at this
 unfold lG at h;simp only[iJ]at h;rw[fP h2 (lS h2 h1 _) (rS h2 _),fP h2 (lS h2 h1 _) R0,fP h2 L0 (rS h2 _),fP h2 (lS h2 h1 _) (rS h2 _),fP h2 (lS h2 h1 _) (rS h2 _),fP h2 L0 (rS h2 _),
  fP h2 (l1 h2 RZ) (rS h2 _),fP h2 (l1 h2 RZ) (r2 h2 _ RZ),fP h2 (l2 h2 RZ hW) (rS h2 _),fP h2 (l1 h2 h9) (rS h2 _),fP h2 (l1 h2 h9) (r2 h2 _ h9),
  fP h2 (l2 h2 h9 h12) (rS h2 _),fP h2 (l1 h2 h16) (rS h2 _),fP h2 (l1 h2 RZ) (rS h2 _),fP h2 (l1 h2 h16) (rS h2 _),fP h2 (l2 h2 h16 hN) (rS h2 _),fP h2 (l1 h2 h16) (r2 h2 _ h16),
  fP h2 (l1 h2 h8) (rS h2 _),fP h2 (l1 h2 hJ) (rS h2 _),fP h2 (l1 h2 h17) (rS h2 _),a21,a22]at h
 simp only[m1,aii,aij,aik,ail,afi,acd,ER]at h;unfold EH;generalize Ns c n=R at*
 generalize c.getD (n-1) 0=x at*
 generalize c.getD n 0=y at*
 generalize fZ c (dB c (cu c n))=z at*
 generalize fZ c (cu c n)=a at*
 generalize BJ c n=m at*
 generalize bK pR1 (c.take n) 0 n=P1 at*
 generalize(∃i,bK pR2 (c.take n) i n)=P2 at*
 clear hd h1 h2 a21 a22 L0 R0 RZ h9 h12 h16 h8 h17 hW hN hJ;unfold abO;rcases h with⟨⟨e1,e2⟩,rfl⟩|⟨n1,h⟩
 ·rw[au (by rw[show(x==1)=true from e1,show(y==2)=true from e2];rfl)]
 rw[aj (by rw[aQ];exact n1)];rcases h with⟨⟨e1,_⟩,rfl⟩|⟨n2,h⟩
 ·rw[au (Wt (.inl e1))]
 rcases h with⟨⟨_,e1⟩,rfl⟩|⟨n3,h⟩
 ·rw[au (Wt (.inr e1))]
 rw[aj (by rw[dI];rintro(e|e);exact n2 ⟨e,trivial⟩;exact n3 ⟨trivial,e⟩)];rcases h with⟨⟨e1,e2⟩,rfl⟩|⟨n4,h⟩
 ·rw[au (by rw[show(x==5)=true from e1,show(y==19)=true from e2];rfl)]
 rw[aj (by rw[aQ];exact n4)];rcases h with⟨⟨e1,e2⟩,rfl⟩|⟨n5,h⟩
 ·rw[au (by rw[show(x==18)=true from e1,show(y==18)=true from e2];rfl)]
 rw[aj (by rw[aQ];exact n5)];rcases h with⟨⟨_,e1⟩,rfl⟩|⟨n6,h⟩
 ·rw[au e1]
 rw[aj (λe=>n6 ⟨trivial,e⟩)];clear n1 n2 n3 n4 n5 n6;by_cases hl:kD z a y m=true
 ·rw[au hl];rcases h with⟨_,rfl⟩|⟨n7,h⟩
  ·rfl
  rcases h with⟨_,rfl⟩|⟨n8,h⟩
  ·rfl
  rcases h with⟨_,rfl⟩|⟨n9,h⟩
  ·rfl
  rcases h with⟨_,rfl⟩|⟨n10,h⟩
  ·rfl
  rcases h with⟨_,rfl⟩|⟨n11,h⟩
  ·rfl
  rcases h with⟨_,rfl⟩|⟨n12,h⟩
  ·rfl
  rcases h with⟨_,rfl⟩|⟨n13,h⟩
  ·rfl
  rcases h with⟨_,rfl⟩|⟨n14,h⟩
  ·rfl
  rcases h with⟨_,rfl⟩|⟨n15,h⟩
  ·rfl
  rcases h with⟨_,rfl⟩|⟨n16,h⟩
  ·rfl
  rcases h with⟨_,rfl⟩|⟨n17,h⟩
  ·rfl
  rcases h with⟨_,rfl⟩|⟨n18,h⟩
  ·rfl
  rcases h with⟨_,rfl⟩|⟨n19,h⟩
  ·rfl
  rcases h with⟨_,rfl⟩|⟨n20,h⟩
  ·rfl
  exfalso;unfold kD l1F Z4 Z5 h1F Z6 Z7 Z8 d2F Z9 n2F Ro at hl;simp only[dI,aQ]at hl n19;rcases hl with(((((((((hl|hl)|hl)|hl)|hl)|hl)|hl)|hl)|hl)|hl)|((hl|hl)|hl)
  ·exact n7 hl
  ·exact n8 ⟨hl.1.1,hl.1.2,hl.2⟩
  ·exact n9 ⟨⟨hl.1.2,hl.1.1⟩,hl.2⟩
  ·exact n10 hl
  ·exact n11 ⟨hl.1.1,hl.1.2,hl.2⟩
  ·exact n12 ⟨⟨hl.1.2,hl.1.1⟩,hl.2⟩
  ·rcases hl with⟨e1,e2|e2⟩
   ·exact n13 ⟨e1,e2⟩
   ·exact n15 ⟨e1,e2⟩
  ·exact n14 hl
  ·exact n16 ⟨⟨hl.1.2,hl.1.1⟩,hl.2⟩
  ·exact n17 ⟨hl.1.1,hl.1.2,hl.2⟩
  ·exact n18 hl
  ·exact n19 hl
  ·exact n20 hl
 ·rw[aj hl];unfold kD l1F Z4 Z5 h1F Z6 Z7 Z8 d2F Z9 n2F Ro at hl;simp only[dI,aQ,not_or]at hl;obtain⟨⟨⟨⟨⟨⟨⟨⟨⟨⟨q1,q2⟩,q3⟩,q4⟩,q5⟩,q6⟩,q7⟩,q8⟩,q9⟩,q10⟩,⟨⟨q11,q12⟩,q13⟩⟩:=hl;rcases h with⟨e,rfl⟩|⟨_,h⟩
  ·exact absurd e q1
  rcases h with⟨e,rfl⟩|⟨_,h⟩
  ·exact absurd ⟨⟨e.1,e.2.1⟩,e.2.2⟩ q2
  rcases h with⟨e,rfl⟩|⟨_,h⟩
  ·exact absurd ⟨⟨e.1.2,e.1.1⟩,e.2⟩ q3
  rcases h with⟨e,rfl⟩|⟨_,h⟩
  ·exact absurd e q4
  rcases h with⟨e,rfl⟩|⟨_,h⟩
  ·exact absurd ⟨⟨e.1,e.2.1⟩,e.2.2⟩ q5
  rcases h with⟨e,rfl⟩|⟨_,h⟩
  ·exact absurd ⟨⟨e.1.2,e.1.1⟩,e.2⟩ q6
  rcases h with⟨e,rfl⟩|⟨_,h⟩
  ·exact absurd ⟨e.1, .inl e.2⟩ q7
  rcases h with⟨e,rfl⟩|⟨_,h⟩
  ·exact absurd e q8
  rcases h with⟨e,rfl⟩|⟨_,h⟩
  ·exact absurd ⟨e.1, .inr e.2⟩ q7
  rcases h with⟨e,rfl⟩|⟨_,h⟩
  ·exact absurd ⟨⟨e.1.2,e.1.1⟩,e.2⟩ q9
  rcases h with⟨e,rfl⟩|⟨_,h⟩
  ·exact absurd ⟨⟨e.1,e.2.1⟩,e.2.2⟩ q10
  rcases h with⟨e,rfl⟩|⟨_,h⟩
  ·exact absurd e q11
  rcases h with⟨e,rfl⟩|⟨_,h⟩
  ·exact absurd ⟨by simpa using e.1,e.2⟩ q12
  rcases h with⟨e,rfl⟩|⟨_,h⟩
  ·exact absurd e q13
  rcases h with⟨⟨e,e7⟩,rfl⟩|⟨n21,h⟩
  ·have:=odd.1 (.inl e);rw[show(y==7)=true from e7,this];rfl
  rcases h with⟨⟨e,e7⟩,rfl⟩|⟨n22,rfl⟩
  ·have:=odd.1 (.inr e);rw[show(y==7)=true from e7,this];rfl
  by_cases g:(y==7)=true
  ·rw[g];have:¬R%2=1:=λk=>by
    rcases odd.2 k with e|e;·exact n21 ⟨e,g⟩
    ·exact n22 ⟨e,g⟩
   have:R%2=0:=by omega
   rw[this];rfl
  ·rw[Bool.not_eq_true]at g;rw[g];rfl
end
section
def EW (cut:Nat->Bool) (ats:List Int) (L:Int) (n:Nat):Nat->Nat->List Int
 |0,_=>[]
 |f+1,k=>(if k=0\/k=n\/cut k=true then[if k<n then ats.getD k 0 else L]else[])++EW cut ats L n f (k+1)
theorem Wv (cut:Nat->Bool) (ats:List Int) (L:Int) (n:Nat):EW cut ats L n 1 n=[L]:=by unfold EW;rw[au (.inr (.inl rfl)),aj (dA n)];rfl
theorem GY (cls ats:List Int) (L:Int) (n:Nat):∀f k,f+k=n->EW (EH cls) ats L n (f+1) k=BK cls ats f k++[L]
 |0,k,h=>by
  obtain rfl:k=n:=by omega
  rw[Wv];rfl
 |f+1,k,h=>by
  have ih:=GY cls ats L n f (k+1) (by omega);rw[EW,ih,BK,au (show k<n by omega)];by_cases c:k=0\/EH cls k=true;·rw[au (by rcases c with c|c;exact .inl c;exact .inr (.inr c))];rw[au c];rfl
  ·rw[aj (by rintro(e|e|e);exact c (.inl e);omega;exact c (.inr e))];rw[aj c];rfl
end
section
open Folds (dec bn bL)
def up:List Int->Prop:=List.Pairwise (·<·)
theorem up_at {l:List Int} (h:up l) {i j:Nat} (hij:i<j) (hj:j<l.length):l.getD i 0<l.getD j 0:=by rw[aG,aG,aS hj,aS (by omega)];exact List.pairwise_iff_getElem.1 h i j (by omega) hj hij
theorem EX {zs:List Int} (hz:up zs) (x:Int):∀(f lo hi:Nat),hi<=lo+f->lo<=hi->hi<=zs.length->(∀j,j<lo->zs.getD j 0<x)->(∀j,hi<=j->j<zs.length->¬zs.getD j 0<x)->
 Jw zs x f lo hi<=zs.length/\(∀j,j<Jw zs x f lo hi->zs.getD j 0<x)/\∀j,Jw zs x f lo hi<=j->j<zs.length->¬zs.getD j 0<x
 |0,lo,hi,h1,h2,h3,h4,h5=>by
  obtain rfl:lo=hi:=by omega
  exact⟨h3,h4,h5⟩
 |f+1,lo,hi,h1,h2,h3,h4,h5=>by
  unfold Jw;by_cases c:lo<hi
  ·rw[au c];by_cases d:zs.getD ((lo+hi)/2) 0<x
   ·rw[au d];refine EX hz x f _ hi (by omega) (by omega) h3 (λj hj=> ?_) h5;rcases aF j ((lo+hi)/2)with e|e
    ·exact Int.lt_trans (up_at hz e (by omega)) d
    ·obtain rfl:j=(lo+hi)/2:=by omega
     exact d
   ·rw[aj d];refine EX hz x f lo _ (by omega) (by omega) (by omega) h4 (λj hj hl=> ?_);rcases aF ((lo+hi)/2) j with e|e
    ·have:=up_at hz e hl;omega
    ·obtain rfl:j=(lo+hi)/2:=by omega
     exact d
  ·rw[aj c];obtain rfl:lo=hi:=by omega
   exact⟨h3,h4,h5⟩
theorem Zd {zs:List Int} (hz:up zs) (x:Int):Yr zs x=decide (x∈zs):=by
 obtain⟨h1,h2,h3⟩:=EX hz x zs.length 0 zs.length (by omega) (aL _) (ay _) (λj hj=>absurd hj (ko j)) (λj h1 h2=>absurd h2 (by omega));unfold Yr;generalize Jw zs x zs.length 0 zs.length=p at*
 rw[dY,aQ,iH,iH,iH];constructor;·rintro⟨c,e⟩;rw[<-e,aG,aS c];exact iN c
 ·intro hx;obtain⟨j,hj,e⟩:=mD.1 hx;have e:zs.getD j 0=x:=by rw[aG,aS hj];exact e
  have hpj:p<=j:=by
   rcases aF j p with c|c;·have:=h2 j c;omega
   ·exact c
  refine⟨by omega,?_⟩;have:=h3 p (ay _) (by omega);rcases aF p j with c|c;·have:=up_at hz c hj;omega
  ·obtain rfl:p=j:=by omega
   exact e
theorem zy (cut:Nat->Bool) (ats:List Int) (L:Int) (n:Nat):∀f k,EW cut ats L n f k=((List.range' k f).filter (pq cut n)).map λi=>if i<n then ats.getD i 0 else L
 |0,_=>rfl
 |f+1,k=>by
  have ih:=zy cut ats L n f (k+1);rw[EW,ih,List.range'_succ,List.filter_cons];have e:(k=0\/k=n\/cut k=true)↔pq cut n k=true:=by unfold pq;simp only[dI,iH,or_assoc]
  by_cases c:pq cut n k=true;·rw[au (e.2 c),au c];rfl
  ·rw[aj (λd=>c (e.1 d)),aj c];rfl
theorem Ze (cut:Nat->Bool) (ats:List Int) (L:Int) (n:Nat):afh cut ats L n (n+1)=EW cut ats L n (n+1) 0:=by rw[zy,<-List.range_eq_range'];rfl
theorem PY (t:List UInt8) (cut:Nat->Bool):AJ (jJ t) (pq cut (marks t).length) ((marks t).length+1)=EW cut (jR t) t.length (marks t).length ((marks t).length+1) 0:=by rw[<-Ze];unfold AJ afh;refine List.map_congr_left λk hk=> ?_;have:=nO.1 (kg.1 hk).1;exact RY t (by omega)
theorem zA (t:List UInt8) (h:t≠[]):EW (EH (K5 t)) (jR t) t.length (marks t).length ((marks t).length+1) 0=fC t:=by rw[GY _ _ _ _ _ 0 (by omega)];unfold fC;rw[au (List.length_pos_iff.2 h)]
theorem R3 {t:List UInt8} (h:t≠[]):1<=(marks t).length:=by
 have hp:=List.length_pos_iff.2 h;obtain⟨n,hn⟩:∃n,t.length=n+1:=⟨t.length-1,by omega⟩
 unfold marks;rw[hn];unfold aJ;rw[au (by omega)];exact Nat.succ_le_succ (aL _)
theorem nk (t:List UInt8):∀n e,∀x∈aJ t n e,e<=x.1/\x.1<t.length
 |0,_,x,h=>by cases h
 |n+1,e,x,h=>by
  unfold aJ at h;by_cases c:e<t.length
  ·rw[au c]at h;rcases aR.1 h with rfl|h
   ·exact⟨ay _,c⟩
   ·have:=nk t n _ x h;omega
  ·rw[aj c]at h;cases h
theorem sG (t:List UInt8):∀n e,(aJ t n e).Pairwise λx y=>x.1<y.1
 |0,_=> .nil
 |n+1,e=>by
  unfold aJ;by_cases c:e<t.length;·rw[au c];refine .cons (λy hy=> ?_) (sG t n _);have:=nk t n _ y hy;have hd:=bn (t.drop e);show e<y.1;omega
  ·rw[aj c];exact .nil
theorem Ww (t:List UInt8):up (jJ t):=by
 unfold jJ up;refine List.pairwise_append.2 ⟨?_,List.pairwise_singleton _ _,λa ha b hb=> ?_⟩;·unfold jR;exact List.pairwise_map.2 ((sG t _ _).imp λh=>by omega)
 ·obtain rfl:=eG.1 hb;unfold jR at ha;obtain⟨x,hx,rfl⟩:=bX.1 ha;have:=nk t _ _ x hx;omega
theorem Zf (t:List UInt8) (cut:Nat->Bool):up (EW cut (jR t) t.length (marks t).length ((marks t).length+1) 0):=by
 rw[<-PY];unfold AJ up;refine List.pairwise_map.2 ?_;have hl:(jJ t).length=(marks t).length+1:=by unfold jJ;rw[bV,sj];rfl
 refine List.Pairwise.imp_of_mem (λ{a b} _ hb h=> ?_) ((List.pairwise_lt_range (n:=(marks t).length+1)).filter _);have:=nO.1 (kg.1 hb).1;exact up_at (Ww t) h (by omega)
theorem PZ (t:List UInt8):up (fC t):=by
 by_cases h:t=[]
 ·subst h;exact .nil
 ·rw[<-zA t h];exact Zf t _
end
section
open Go.Shelf Go.RowKit Go.Lib Go.Proofs.YtocaiijbhepnnaaGreatDoor.Am
theorem LC {R:List fI} {N:Nat} (h:(R.all λx=>decide (1<=x.2.2)&&decide (x.2.2<=(N:Int)))=true) (q:Int):0<=dQ R q/\dQ R q<=N:=by
 unfold dQ;cases hf:R.find? (λx=>decide (q<=x.2.1))with
 |none=>exact⟨Int.le_refl _,by show(0:Int)<=N;omega⟩
 |some x=>
  have:=dZ.1 h x (List.mem_of_find?_eq_some hf);rw[aQ,iH,iH]at this;dsimp only;split;·omega
  ·omega
theorem N9 {R:List fI} {N:Nat} (hT:GL R N) (t:List UInt8):∀j,j<(sw R t).length->0<=(sw R t).getD j 0/\(sw R t).getD j 0<=N:=λj hj=>by
 have:(sw R t).getD j 0∈sw R t:=by rw[aG,aS hj];exact iN hj
 unfold sw at this;obtain⟨x,_,e⟩:=bX.1 this;unfold sw;rw[<-e];exact LC hT.cls _
theorem afj:GL gF 19:=⟨by decide+kernel,by decide+kernel,by decide+kernel,by decide⟩
theorem LD {R:List fI} {t:List UInt8} {rs:List PR} {cut:Nat->Bool} {N:Nat} (hT:GL R N) (h:∀{n:Nat},1<=n->n<(sw R t).length->(∀j,j<(sw R t).length->0<=(sw R t).getD j 0/\(sw R t).getD j 0<=N)->∀{b:Bool},iJ true (sw R t) n b rs->b=cut n):
 ∀k b,1<=k->k<(marks t).length->iJ true (sw R t) k b rs->b=cut k:=λk b h1 h2 hd=>h h1 (by rw[Ll];exact h2) (N9 hT t) hd
