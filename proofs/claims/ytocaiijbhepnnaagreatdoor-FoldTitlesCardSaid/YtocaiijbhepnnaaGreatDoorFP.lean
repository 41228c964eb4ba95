/- FoldTitles, plain laws: a text is written rune by rune; patterns. -/
import Derived.Lib.TrimUEq
import Derived.Lib.ValidU
import Derived.Deep.RegionHeld
import Derived.Test.YtocaiijbhepnnaaGreatDoorAmS
namespace Go.Proofs.YtocaiijbhepnnaaGreatDoor.foldTitles
section
namespace rY
def bt (l:List UInt8) (i:Nat):Nat:=(l.getD i 0).toNat
theorem qE (l:List UInt8) (i:Nat):bt l i<256:=(l.getD i 0).toNat_lt
end rY
namespace Folds
open rY (bt qE)
open Go.Lib (decodeN)
def dec (l:List UInt8):Nat×Nat:=decodeN l.length (bt l 0) (bt l 1) (bt l 2) (bt l 3)
theorem bn (l:List UInt8):1<=(dec l).2:=by
 unfold dec decodeN;repeat' split
 all_goals simp
theorem I9 (l:List UInt8):(dec l).2<=4:=by
 unfold dec decodeN;repeat' split
 all_goals simp
theorem bL (l:List UInt8) (h:l≠[]):(dec l).2<=l.length:=by
 have h0:1<=l.length:=by cases l with|nil=>exact absurd rfl h|cons a b=>simp
 unfold dec decodeN;repeat' split
 all_goals (try dsimp only)
 all_goals omega
def one (enc:Nat->List UInt8) (l:List UInt8):List UInt8:=if(dec l).1=65533/\(dec l).2=1 then l.take 1 else enc (dec l).1
theorem ahH (l:List UInt8):Go.Lib.decodeL l=dec l:=Go.Lib.decodeL_N l
end Folds
end
section
namespace Left
end Left
end
section
namespace Je
inductive PT where
 |node (op:Nat) (cls:List Nat) (kids:List PT)
def bit (M:List Nat) (i k:Nat):Bool:=(M.getD i 0).testBit k
def iT (n:Nat):List Nat:=List.replicate n 0
def jI (n:Nat):List Nat:=(List.range n).map λi=>1<<<i
def gN (a b:List Nat):List Nat:=(List.range a.length).map λi=>a.getD i 0|||b.getD i 0
def mH (x:Nat) (b:List Nat):Nat->Nat
 |0=>0
 |k+1=>if x.testBit k then mH x b k|||b.getD k 0 else mH x b k
def gZ (a b:List Nat):List Nat:=(List.range a.length).map λi=>mH (a.getD i 0) b a.length
def jg (M:List Nat) (k:Nat):Nat->List Nat
 |0=>M
 |m+1=>let N:=jg M k m;if bit N m k then N.set m (N.getD m 0|||N.getD k 0)else N
def kG (M:List Nat) (n:Nat):Nat->List Nat
 |0=>M
 |k+1=>jg (kG M n k) k n
def nV (a:List Nat):List Nat:=kG (gN a (jI a.length)) a.length a.length
def Ar (cls:List Nat) (c:List Int):Nat->Bool:=λi=>decide (i<c.length)&&cls.any (λ(x:Nat)=>decide ((x:Int)=c.getD i 0))
def Jf (cls:List Nat) (c:List Int):List Nat:=(List.range (c.length+1)).map λi=>if Ar cls c i then 1<<<(i+1)else 0
mutual
def rows:PT->List Int->List Nat
 | .node op cls kids,c=>
   if op=1 then Jf cls c else if op=2 then sP kids c (jI (c.length+1))else if op=3 then Xe kids c (iT (c.length+1))
   else if op=4 then nV (firstR kids c)else if op=5 then gZ (firstR kids c) (nV (firstR kids c))else if op=6 then gN (jI (c.length+1)) (firstR kids c)else jI (c.length+1)
def sP:List PT->List Int->List Nat->List Nat
 |[],_,acc=>acc
 |p::r,c,acc=>sP r c (gZ acc (rows p c))
def Xe:List PT->List Int->List Nat->List Nat
 |[],_,acc=>acc
 |p::r,c,acc=>Xe r c (gN acc (rows p c))
def firstR:List PT->List Int->List Nat
 |[],c=>iT (c.length+1)
 |p::_,c=>rows p c
end
def mE (n:Nat) (M:List Nat):Prop:=M.length=n/\∀i k,bit M i k=true->i<n/\k<n
theorem CF {n:Nat} {f:Nat->Nat} {i k:Nat}:bit ((List.range n).map f) i k=(decide (i<n)&&(f i).testBit k):=by
 unfold bit;rw[aG,fq];by_cases h:i<n;·rw[List.getElem?_range h];simp[h]
 ·rw[List.getElem?_eq_none (by simpa using Nat.le_of_not_lt h)];simp[h]
theorem Vu (n i k:Nat):bit (iT n) i k=false:=by unfold bit iT;rw[aG,List.getElem?_replicate];split<;>simp
theorem Gv (n:Nat):mE n (iT n):=⟨List.length_replicate,λi k h=>by rw[Vu]at h;cases h⟩
theorem Py (i k:Nat):(1<<<i).testBit k=decide (i=k):=by rw[Nat.one_shiftLeft,Nat.testBit_two_pow]
theorem wu (n i k:Nat):bit (jI n) i k=true↔i<n/\i=k:=by unfold jI;rw[CF,Py];simp
theorem qJ (n:Nat):mE n (jI n):=⟨by simp[jI],λi k h=>by rw[wu]at h;omega⟩
theorem K6 {n:Nat} {a b:List Nat} (ha:mE n a) (hb:mE n b) (i k:Nat):bit (gN a b) i k=true↔bit a i k=true\/bit b i k=true:=by
 unfold gN;rw[CF,Nat.testBit_or];simp only[aQ,iH,dI];refine⟨λh=>h.2,λh=>⟨?_,h⟩⟩;rw[ha.1];rcases h with h|h;·exact(ha.2 i k h).1
 ·exact(hb.2 i k h).1
theorem Au {n:Nat} {a b:List Nat} (ha:mE n a) (hb:mE n b):mE n (gN a b):=
 ⟨by simp[gN,ha.1],λi k h=>by rcases(K6 ha hb i k).1 h with h|h;exact ha.2 i k h;exact hb.2 i k h⟩
theorem Gw (x:Nat) (b:List Nat) (k:Nat):∀m,(mH x b m).testBit k=true↔∃j,j<m/\x.testBit j=true/\bit b j k=true
 |0=>by simp[mH]
 |m+1=>by
  have ih:=Gw x b k m;unfold mH;by_cases c:x.testBit m=true
  ·rw[au c,Nat.testBit_or,dI,ih];refine⟨λh=> ?_,λ⟨j,h1,h2,h3⟩=> ?_⟩
   ·rcases h with⟨j,h1,h2,h3⟩|h
    ·exact⟨j,by omega,h2,h3⟩
    ·exact⟨m,by omega,c,h⟩
   ·rcases aF j m with d|d
    ·exact .inl ⟨j,d,h2,h3⟩
    ·obtain rfl:j=m:=by omega
     exact .inr h3
  ·rw[aj c,ih];refine⟨λ⟨j,h1,h2,h3⟩=>⟨j,by omega,h2,h3⟩,λ⟨j,h1,h2,h3⟩=> ?_⟩;rcases aF j m with d|d
   ·exact⟨j,d,h2,h3⟩
   ·obtain rfl:j=m:=by omega
    exact absurd h2 c
theorem xL {n:Nat} {a b:List Nat} (ha:mE n a) (i k:Nat):bit (gZ a b) i k=true↔∃j,bit a i j=true/\bit b j k=true:=by unfold gZ;rw[CF];simp only[aQ,iH,Gw,ha.1];refine⟨λ⟨_,j,_,h2,h3⟩=>⟨j,h2,h3⟩,λ⟨j,h2,h3⟩=> ?_⟩;have:=ha.2 i j h2;exact⟨this.1,j,this.2,h2,h3⟩
theorem uJ {n:Nat} {a b:List Nat} (ha:mE n a) (hb:mE n b):mE n (gZ a b):=
 ⟨by simp[gZ,ha.1],λi k h=>by obtain⟨j,h1,h2⟩:=(xL ha i k).1 h;exact⟨(ha.2 i j h1).1,(hb.2 j k h2).2⟩⟩
theorem Yy {M:List Nat} {m x i k:Nat} (hm:m<M.length):bit (M.set m x) i k=if i=m then x.testBit k else bit M i k:=by
 unfold bit;rw[aG,List.getElem?_set];by_cases h:m=i;·subst h;simp[hm]
 ·rw[aj h,aj (λe=>h e.symm),aG]
theorem Gx {n:Nat} {M:List Nat} (k:Nat) (hM:mE n M):∀m,m<=n->(jg M k m).length=n/\∀i j,bit (jg M k m) i j=true↔bit M i j=true\/(i<m/\bit M i k=true/\bit M k j=true)
 |0,_=>⟨hM.1,λi j=>⟨.inl,λh=>by rcases h with h|h;exact h;exact absurd h.1 (ko _)⟩⟩
 |m+1,hm=>by
  obtain⟨l,ih⟩:=Gx k hM m (by omega);have hk:∀j,bit (jg M k m) k j=true↔bit M k j=true:=λj=>by rw[ih];exact⟨λh=>by rcases h with h|h;exact h;exact h.2.2, .inl⟩
  have hc:bit (jg M k m) m k=true↔bit M m k=true:=by rw[ih];exact⟨λh=>by rcases h with h|h;exact h;exact absurd h.1 (dA _), .inl⟩
  unfold jg;by_cases c:bit (jg M k m) m k=true
  ·rw[au c];refine⟨by rw[List.length_set];exact l,λi j=> ?_⟩;rw[Yy (by omega)];by_cases e:i=m
   ·subst e;rw[au rfl,Nat.testBit_or,dI];show bit (jg M k i) i j=true\/bit (jg M k i) k j=true↔_;rw[hk,ih];refine⟨λh=> ?_,λh=> ?_⟩
    ·rcases h with(h|h)|h
     ·exact .inl h
     ·exact absurd h.1 (dA _)
     ·exact .inr ⟨ow _,hc.1 c,h⟩
    ·rcases h with h|h
     ·exact .inl (.inl h)
     ·exact .inr h.2.2
   ·rw[aj e,ih];refine⟨λh=> ?_,λh=> ?_⟩
    ·rcases h with h|h
     ·exact .inl h
     ·exact .inr ⟨by omega,h.2⟩
    ·rcases h with h|h
     ·exact .inl h
     ·exact .inr ⟨by omega,h.2⟩
  ·rw[aj c];refine⟨l,λi j=> ?_⟩;rw[ih];refine⟨λh=> ?_,λh=> ?_⟩
   ·rcases h with h|h
    ·exact .inl h
    ·exact .inr ⟨by omega,h.2⟩
   ·rcases h with h|h
    ·exact .inl h
    ·by_cases e:i=m
     ·subst e;exact absurd (hc.2 h.2.1) c
     ·exact .inr ⟨by omega,h.2⟩
inductive Star (r:Nat->Nat->Prop) (i:Nat):Nat->Prop
 |nil:Star r i i
 |snoc {j k:Nat}:Star r i j->r j k->Star r i k
theorem Star.trans {r:Nat->Nat->Prop} {i j k:Nat} (h:Star r i j):Star r j k->Star r i k:=λg=>by
 induction g with
 |nil=>exact h
 |snoc _ s ih=>exact .snoc ih s
theorem Star.one {r:Nat->Nat->Prop} {i k:Nat} (h:r i k):Star r i k:= .snoc .nil h
theorem Av {n:Nat} {a:List Nat} (ha:mE n a):∀K,K<=n->mE n (kG (gN a (jI n)) n K)/\
 (∀i k,bit (kG (gN a (jI n)) n K) i k=true->Star (λx y=>bit a x y=true) i k)/\
 (∀i,i<n->bit (kG (gN a (jI n)) n K) i i=true)/\(∀i k,bit a i k=true->bit (kG (gN a (jI n)) n K) i k=true)/\
 (∀i m k,m<K->bit (kG (gN a (jI n)) n K) i m=true->bit (kG (gN a (jI n)) n K) m k=true->bit (kG (gN a (jI n)) n K) i k=true)
 |0,_=>by
  have hf:=Au ha (qJ n);have hb:=λi k=>K6 ha (qJ n) i k;refine⟨hf,λi k h=> ?_,λi hi=> ?_,λi k h=> ?_,λi m k hm=>absurd hm (ko _)⟩
  ·rcases(hb i k).1 h with h|h
   ·exact .one h
   ·obtain⟨_,rfl⟩:=(wu n i k).1 h;exact .nil
  ·exact(hb i i).2 (.inr ((wu n i i).2 ⟨hi,rfl⟩))
  ·exact(hb i k).2 (.inl h)
 |K+1,hK=>by
  obtain⟨f,s,o,b,t⟩:=Av ha K (by omega);obtain⟨l,hs⟩:=Gx K f n (ay n);have e:kG (gN a (jI n)) n (K+1)=jg (kG (gN a (jI n)) n K) K n:=rfl;rw[e];generalize kG (gN a (jI n)) n K=M at*
  have key:∀i k,bit (jg M K n) i k=true↔bit M i k=true\/(bit M i K=true/\bit M K k=true):=λi k=>by
   rw[hs];refine⟨λh=> ?_,λh=> ?_⟩
   ·rcases h with h|h
    ·exact .inl h
    ·exact .inr h.2
   ·rcases h with h|h
    ·exact .inl h
    ·exact .inr ⟨(f.2 i K h.1).1,h⟩
  refine⟨⟨l,λi k h=> ?_⟩,λi k h=> ?_,λi hi=>(key i i).2 (.inl (o i hi)),λi k h=>(key i k).2 (.inl (b i k h)),λi m k hm h1 h2=> ?_⟩
  ·rcases(key i k).1 h with h|h
   ·exact f.2 i k h
   ·exact⟨(f.2 i K h.1).1,(f.2 K k h.2).2⟩
  ·rcases(key i k).1 h with h|h
   ·exact s i k h
   ·exact(s i K h.1).trans (s K k h.2)
  ·rw[key]at h1 h2⊢;rcases aF m K with c|c
   ·rcases h1 with h1|h1
    ·rcases h2 with h2|h2
     ·exact .inl (t i m k c h1 h2)
     ·exact .inr ⟨t i m K c h1 h2.1,h2.2⟩
    ·rcases h2 with h2|h2
     ·exact .inr ⟨h1.1,t K m k c h1.2 h2⟩
     ·exact .inr ⟨h1.1,h2.2⟩
   ·obtain rfl:m=K:=by omega
    refine .inr ⟨?_,?_⟩
    ·rcases h1 with h1|h1
     ·exact h1
     ·exact h1.1
    ·rcases h2 with h2|h2
     ·exact h2
     ·exact h2.2
theorem Gy {n:Nat} {a:List Nat} (ha:mE n a):mE n (nV a):=by unfold nV;rw[ha.1];exact(Av ha n (ay n)).1
theorem Vv {n:Nat} {a:List Nat} (ha:mE n a) {i:Nat} (hi:i<n) (k:Nat):bit (nV a) i k=true↔Star (λx y=>bit a x y=true) i k:=by
 unfold nV;rw[ha.1];obtain⟨f,s,o,b,t⟩:=Av ha n (ay n);refine⟨s i k,λh=> ?_⟩;induction h with
 |nil=>exact o i hi
 |snoc _ g ih=>exact t i _ _ (f.2 _ _ ih).2 ih (b _ _ g)
theorem Pz (cls:List Nat) (c:List Int) (i k:Nat):bit (Jf cls c) i k=true↔i<c.length/\k=i+1/\∃x∈cls,(x:Int)=c.getD i 0:=by
 unfold Jf;rw[CF];simp only[aQ,iH];by_cases h:Ar cls c i=true
 ·rw[au h,Py];unfold Ar at h;simp only[aQ,iH,rR]at h;refine⟨λg=>⟨h.1,?_,h.2⟩,λg=>⟨by omega,?_⟩⟩
  ·have:=gK g.2;omega
  ·exact aO (by omega)
 ·rw[aj h];refine⟨λg=>by simp at g,λg=>absurd ?_ h⟩;unfold Ar;simp only[aQ,iH,rR];exact⟨g.1,g.2.2⟩
theorem Vw (cls:List Nat) (c:List Int):mE (c.length+1) (Jf cls c):=⟨by simp[Jf],λi k h=>by obtain⟨h1,h2,_⟩:=(Pz cls c i k).1 h;omega⟩
mutual
theorem nD:∀(p:PT) (c:List Int),mE (c.length+1) (rows p c)
 | .node op cls kids,c=>by
   have f:=first_fine kids c;unfold rows;repeat' split
   ·exact Vw cls c
   ·exact Gz kids c (qJ _)
   ·exact PD kids c (Gv _)
   ·exact Gy f
   ·exact uJ f (Gy f)
   ·exact Au (qJ _) f
   ·exact qJ _
theorem Gz:∀(l:List PT) (c:List Int) {acc:List Nat},mE (c.length+1) acc->mE (c.length+1) (sP l c acc)
 |[],_,_,h=>h
 |p::r,c,_,h=>Gz r c (uJ h (nD p c))
theorem PD:∀(l:List PT) (c:List Int) {acc:List Nat},mE (c.length+1) acc->mE (c.length+1) (Xe l c acc)
 |[],_,_,h=>h
 |p::r,c,_,h=>PD r c (Au h (nD p c))
theorem first_fine:∀(l:List PT) (c:List Int),mE (c.length+1) (firstR l c)
 |[],_=>Gv _
 |p::_,c=>nD p c
end
def bK (p:PT) (c:List Int) (i k:Nat):Prop:=bit (rows p c) i k=true
def lZ:List PT->List Int->Nat->Nat->Prop
 |[],_,i,k=>i=k
 |p::r,c,i,k=>∃j,bK p c i j/\lZ r c j k
theorem Rq (cls:List Nat) (kids:List PT) (c:List Int) (i k:Nat):bK (.node 1 cls kids) c i k↔i<c.length/\k=i+1/\∃x∈cls,(x:Int)=c.getD i 0:=by unfold bK rows;rw[au rfl];exact Pz cls c i k
theorem EJ:∀(l:List PT) (c:List Int) {acc:List Nat} (i k:Nat),mE (c.length+1) acc->(bit (sP l c acc) i k=true↔∃j,bit acc i j=true/\lZ l c j k)
 |[],c,acc,i,k,_=>⟨λh=>⟨k,h,rfl⟩,λ⟨j,h,e⟩=>by cases e;exact h⟩
 |p::r,c,acc,i,k,h=>by have ih:=EJ r c i k (uJ h (nD p c));show bit (sP r c (gZ acc (rows p c))) i k=true↔_;rw[ih];refine⟨λ⟨j,h1,h2⟩=> ?_,λ⟨j,h1,m,h2,h3⟩=>⟨m,(xL h i m).2 ⟨j,h1,h2⟩,h3⟩⟩;obtain⟨m,h3,h4⟩:=(xL h i j).1 h1;exact⟨m,h3,j,h4,h2⟩
theorem dJ (cls:List Nat) (kids:List PT) (c:List Int) (i k:Nat):bK (.node 2 cls kids) c i k↔i<=c.length/\lZ kids c i k:=by unfold bK rows;rw[aj (by decide),au rfl,EJ kids c i k (qJ _)];refine⟨λ⟨j,h1,h2⟩=> ?_,λ⟨h1,h2⟩=>⟨i,(wu _ _ _).2 ⟨by omega,rfl⟩,h2⟩⟩;obtain⟨h3,rfl⟩:=(wu _ _ _).1 h1;exact⟨by omega,h2⟩
theorem xM (cls:List Nat) (p:PT) (c:List Int) (i k:Nat) (hi:i<=c.length):bK (.node 4 cls [p]) c i k↔Star (bK p c) i k:=by
 have e:rows (.node 4 cls [p]) c=nV (firstR [p] c):=by rw[rows];rfl
 have e2:firstR [p] c=rows p c:=by rw[firstR]
 show bit (rows (.node 4 cls [p]) c) i k=true↔_;rw[e,e2];exact Vv (nD p c) (i:=i) (by omega) k
theorem Bp (cls:List Nat) (kids:List PT) (c:List Int) (i k:Nat):bK (.node 0 cls kids) c i k↔i<=c.length/\i=k:=by unfold bK rows;rw[aj (by decide),aj (by decide),aj (by decide),aj (by decide),aj (by decide),aj (by decide),wu];exact⟨λh=>⟨by omega,h.2⟩,λh=>⟨by omega,h.2⟩⟩
theorem K7 {p:PT} {c:List Int} {i k:Nat} (h:bK p c i k):i<=c.length/\k<=c.length:=by have:=(nD p c).2 i k h;omega
end Je
end
section
namespace Je
end Je
end
section
namespace EvL
open Go.Proofs.YtocaiijbhepnnaaGreatDoor.foldTitles.Left
