/- FoldTitles, walked: the classes of runes; slices.BinarySearch; passed, final, write in small letters. -/
import Derived.Test.YtocaiijbhepnnaaGreatDoorFC
set_option maxRecDepth 100000
set_option maxHeartbeats 8000000
namespace Go.Proofs.YtocaiijbhepnnaaGreatDoor.foldTitles
open Go.Shelf Go.RowKit Go.Lib Go.Proofs.YtocaiijbhepnnaaGreatDoor.Am
theorem Ey (r:Int) (w:World):Calls Tryz.prog 268 #[.int .i32 r] w λe w'=>e= .returned (.bool false)/\w'=w:=by go_enter Tryz.func268,Tryz.ntmps268;go_wp2;go_ret;exact⟨by simp,rfl⟩
def Jb (x y:Int):Int:=if x<y then-1 else if y<x then 1 else 0
theorem Nk (x y:Int) (w:World):Calls Tryz.prog 207 #[.int .i32 x, .int .i32 y] w λe w'=>e= .returned (.int .i64 (Jb x y))/\w'=w:=by
 by_cases h1:x<y;·have d1:decide (x<y)=true:=aO h1;go_enter Tryz.func207,Tryz.ntmps207;go_wp2_with (go_at_call 268;refine(Ey _ _).mono ?_;rintro e w1 ⟨rfl,rfl⟩);go_ret;exact⟨by unfold Jb;rw[au h1];rfl,rfl⟩
 ·by_cases h2:y<x
  ·have d1:decide (x<y)=false:=aP h1;have d2:decide (y<x)=true:=aO h2;go_enter Tryz.func207,Tryz.ntmps207;go_wp2_with (go_at_call 268;refine(Ey _ _).mono ?_;rintro e w1 ⟨rfl,rfl⟩);go_ret;exact⟨by unfold Jb;rw[aj (Int.not_lt.2 h1),au h2];rfl,rfl⟩
  ·have d1:decide (x<y)=false:=aP h1;have d2:decide (y<x)=false:=aP h2;go_enter Tryz.func207,Tryz.ntmps207;go_wp2_with (go_at_call 268;refine(Ey _ _).mono ?_;rintro e w1 ⟨rfl,rfl⟩);go_ret;exact⟨by unfold Jb;rw[aj (Int.not_lt.2 h1),aj (Int.not_lt.2 h2)];rfl,rfl⟩
theorem vX (lo hi c r:Int) (w:World):Calls Tryz.prog 214 #[.agg #[.int .i32 lo, .int .i32 hi, .int .i64 c], .int .i32 r] w λe w'=>e= .returned (.int .i64 (Jb hi r))/\Below w.heap.size w w':=by go_enter Tryz.func214,Tryz.ntmps214;go_wp2_with (go_at_call 207;refine(Nk _ _ _).mono ?_;rintro e w1 ⟨rfl,rfl⟩);go_ret;exact⟨rfl,(aK _ w).alloc (ay _) _⟩
def dQ (l:List fI) (r:Int):Int:=match l.find? (λx=>decide (r<=x.2.1))with
 |some x=>if x.1<=r then x.2.2 else 0
 |none=>0
def posOf (l:List fI) (r:Int):Nat:=l.findIdx (λx=>decide (r<=x.2.1))
def Ez:List fI->Bool
 |[]=>true
 |[_]=>true
 |x::y::l=>decide (x.2.1<y.2.1)&&Ez (y::l)
theorem Pp:∀{l:List fI} {x:fI},Ez (x::l)=true->∀y∈l,x.2.1<y.2.1
 |[],_,_,y,hy=>by cases hy
 |z::l,x,h,y,hy=>by
  unfold Ez at h;rw[aQ,aY]at h;rcases aR.1 hy with rfl|hy;·exact h.1
  ·have:=Pp h.2 y hy;omega
theorem y9:∀{l:List fI},Ez l=true->∀i j,i<j->j<l.length->(l.getD i nR).2.1<(l.getD j nR).2.1
 |[],_,_,j,_,hj=>by simp at hj
 |x::l,h,0,j+1,_,hj=>by
  have hj':j<l.length:=by simpa using hj
  have hm:l.getD j nR∈l:=by rw[aG,aS hj'];exact iN hj'
  have:=Pp h _ hm;simpa using this
 |x::l,h,i+1,j+1,hij,hj=>by
  have h':Ez l=true:=by
   cases l with
   |nil=>rfl
   |cons y l=>unfold Ez at h;rw[aQ]at h;exact h.2
  have:=y9 h' i j (by omega) (by simpa using hj);simpa using this
theorem Vk (l:List fI) (r:Int) (i:Nat) (hi:i<=l.length) (h1:∀k,k<i->(l.getD k nR).2.1<r) (h2:∀k,i<=k->k<l.length->r<=(l.getD k nR).2.1):posOf l r=i:=by
 unfold posOf;rcases aF i l.length with c|c;·rw[List.findIdx_eq c];have e:=h2 i (ay _) c;rw[aG,aS c]at e;refine⟨aO e,λj hj=> ?_⟩;have e:=h1 j hj;rw[aG,aS (show j<l.length by omega)]at e;exact aP (oQ.2 e)
 ·obtain rfl:i=l.length:=by omega
  rw[List.findIdx_eq_length];intro x hx;obtain⟨j,hj,rfl⟩:=mD.1 hx;have e:=h1 j hj;rw[aG,aS hj]at e;exact aP (oQ.2 e)
theorem Vl (l:List fI) (r:Int):posOf l r<=l.length:=List.findIdx_le_length
theorem Rb (l:List fI) (r:Int):dQ l r=if posOf l r<l.length/\(l.getD (posOf l r) nR).1<=r then(l.getD (posOf l r) nR).2.2 else 0:=by
 unfold dQ posOf;rcases aF (l.findIdx λx=>decide (r<=x.2.1)) l.length with c|c
 ·have hf:l.find? (λx=>decide (r<=x.2.1))=some l[l.findIdx λx=>decide (r<=x.2.1)]:=by rw[List.find?_eq_some_iff_getElem];exact⟨List.findIdx_getElem (w:=c),_,c,rfl,λj hj=>by have:=List.not_of_lt_findIdx hj;simpa using this⟩
  rw[hf,aG,aS c];dsimp only[Option.getD_some];by_cases d:(l[l.findIdx λx=>decide (r<=x.2.1)]).1<=r;·rw[au d,au ⟨c,d⟩]
  ·rw[aj d,aj (λh=>d h.2)]
 ·have hf:l.find? (λx=>decide (r<=x.2.1))=none:=by rw[List.find?_eq_none];have:=List.findIdx_eq_length.1 (Nat.le_antisymm List.findIdx_le_length c);intro x hx;rw[this x hx];exact oN
  rw[hf,aj (λh=>by omega)]
def Pq (l:List fI) (r:Int) (W:World) (e:Ending) (w':World):Prop:=(∃b,e= .returned (.tuple #[.int .i64 (posOf l r), .bool b]))/\Below W.heap.size W w'
theorem Nl (y r:Int):(y<r/\Jb y r= -1)\/(r<y/\Jb y r=1)\/(y=r/\Jb y r=0):=by
 unfold Jb;rcases Int.lt_trichotomy y r with h|h|h;·exact .inl ⟨h,au h⟩
 ·subst h;exact .inr (.inr ⟨rfl,by simp⟩)
 ·exact .inr (.inl ⟨h,by rw[aj (by omega),au h]⟩)
theorem abH (l:List fI) (hl:Ez l=true) (r:Int) (R oR c n:Nat) (hn:l.length=n) (hsm:n<=100000) (W:World)
 (hc:∀k,k<n->W.cell? ⟨R,oR+k*3,none⟩=some (.int .i32 (l.getD k nR).1)/\W.cell? ⟨R,oR+k*3+1,none⟩=some (.int .i32 (l.getD k nR).2.1)/\W.cell? ⟨R,oR+k*3+2,none⟩=some (.int .i64 (l.getD k nR).2.2)):
 Calls Tryz.prog 213 #[.slice (some ⟨R,oR,none⟩) n c, .int .i32 r, .func (.func 214) #[] #[]] W (Pq l r W):=by
 have HC:=ah hc;have HN:=ah hn;have HA:=ah hl
 clear hc hn hl
 go_enter Tryz.func213,Tryz.ntmps213
 go_wp2
 go_loopw [9,10] (λa b wr=>∃i j:Nat,i<=j/\j<=n/\a= .int .i64 i/\b= .int .i64 j/\(∀k,k<i->(l.getD k nR).2.1<r)/\(∀k,j<=k->k<n->r<=(l.getD k nR).2.1)/\Below W.heap.size W wr) (λa b _=>(RowKit.intOf b).toNat-(RowKit.intOf a).toNat)
 case atStart=>exact⟨0,n,aL _,ay _,rfl,rfl,λk hk=>by omega,λk h1 h2=>by omega,aK _ _⟩
 case round=>
  obtain⟨i,j,hij,hjn,rfl,rfl,h1,h2,hb⟩:=hrel
  have H1:=ah h1;have H2:=ah h2;have HB:=ah hb;clear h1 h2 hb
  by_cases hlt:i<j
  ·have hm1:(i+j)/2<n:=by omega
   obtain⟨f0,f1,f2⟩:=HC.out ((i+j)/2) hm1
   have hg:=aW f0
   have g0:wr.cell? ⟨R,oR+(i+j)/2*3,none⟩=_:=(HB.out.cell (p:=⟨R,oR+(i+j)/2*3,none⟩) hg).trans f0
   have g1:wr.cell? ⟨R,oR+(i+j)/2*3+1,none⟩=_:=(HB.out.cell (p:=⟨R,oR+(i+j)/2*3+1,none⟩) hg).trans f1
   have g2:wr.cell? ⟨R,oR+(i+j)/2*3+2,none⟩=_:=(HB.out.cell (p:=⟨R,oR+(i+j)/2*3+2,none⟩) hg).trans f2
   clear f0 f1 f2 hg
   obtain⟨p,hp⟩:∃p,l.getD ((i+j)/2) nR=p:=⟨_,rfl⟩
   rw[hp]at g0 g1 g2
   have HP:=ah hp;clear hp
   obtain⟨lo,y,cl⟩:=p
   dsimp only at g0 g1 g2
   rcases Nl y r with⟨hy,hcm⟩|⟨hy,hcm⟩|⟨hy,hcm⟩
   ·go_wp2_with (go_at_call 214
                 refine(vX lo y cl r _).mono ?_
                 rintro x wz ⟨rfl,hbz⟩
                 rw[hcm]
                 have HBZ:=ah (HB.out.trans (hbz.mono HB.out.size));clear hbz g0 g1 g2)
    go_roundw
    case rel=>
     refine⟨(i+j)/2+1,j,by omega,hjn,by rw[show((i:Int)+(j:Int))/2+1=(((i+j)/2+1:Nat):Int)by omega],rfl,λk hk=> ?_,H2.out,HBZ.out⟩
     rcases aF k ((i+j)/2)with d|d
     ·have:=y9 HA.out k ((i+j)/2) d (by rw[HN.out];exact hm1)
      rw[HP.out]at this
      exact Int.lt_trans this hy
     ·obtain rfl:k=(i+j)/2:=by omega
      rw[HP.out];exact hy
    case measure=>simp[RowKit.intOf];omega
   ·go_wp2_with (go_at_call 214
                 refine(vX lo y cl r _).mono ?_
                 rintro x wz ⟨rfl,hbz⟩
                 rw[hcm]
                 have HBZ:=ah (HB.out.trans (hbz.mono HB.out.size));clear hbz g0 g1 g2)
    go_roundw
    case rel=>
     refine⟨i,(i+j)/2,by omega,by omega,rfl,by rw[show((i:Int)+(j:Int))/2=(((i+j)/2:Nat):Int)by omega],H1.out,λk h1 h2=> ?_,HBZ.out⟩
     rcases aF ((i+j)/2) k with d|d
     ·have:=y9 HA.out ((i+j)/2) k d (by rw[HN.out];exact h2)
      rw[HP.out]at this
      exact Int.le_of_lt (Int.lt_trans hy this)
     ·obtain rfl:k=(i+j)/2:=by omega
      rw[HP.out];exact Int.le_of_lt hy
    case measure=>simp[RowKit.intOf];omega
   ·subst hy
    go_wp2_with (go_at_call 214
                 refine(vX lo y cl y _).mono ?_
                 rintro x wz ⟨rfl,hbz⟩
                 rw[hcm]
                 have HBZ:=ah (HB.out.trans (hbz.mono HB.out.size));clear hbz g0 g1 g2)
    go_roundw
    case rel=>
     refine⟨i,(i+j)/2,by omega,by omega,rfl,by rw[show((i:Int)+(j:Int))/2=(((i+j)/2:Nat):Int)by omega],H1.out,λk h1 h2=> ?_,HBZ.out⟩
     rcases aF ((i+j)/2) k with d|d
     ·have:=y9 HA.out ((i+j)/2) k d (by rw[HN.out];exact h2)
      rw[HP.out]at this
      exact Int.le_of_lt this
     ·obtain rfl:k=(i+j)/2:=by omega
      rw[HP.out];exact Int.le_refl _
    case measure=>simp[RowKit.intOf];omega
  ·obtain rfl:i=j:=by omega
   have hpos:posOf l r=i:=Vk l r i (by rw[HN.out];exact hjn) H1.out (λk h1 h2=>H2.out k h1 (by rw[<-HN.out];exact h2))
   have aeE:=ah hpos;clear hpos
   by_cases hin:i<n
   ·obtain⟨f0,f1,f2⟩:=HC.out i hin
    have hg:=aW f0
    have g0:wr.cell? ⟨R,oR+i*3,none⟩=_:=(HB.out.cell (p:=⟨R,oR+i*3,none⟩) hg).trans f0
    have g1:wr.cell? ⟨R,oR+i*3+1,none⟩=_:=(HB.out.cell (p:=⟨R,oR+i*3+1,none⟩) hg).trans f1
    have g2:wr.cell? ⟨R,oR+i*3+2,none⟩=_:=(HB.out.cell (p:=⟨R,oR+i*3+2,none⟩) hg).trans f2
    clear f0 f1 f2 hg
    obtain⟨p,hp⟩:∃p,l.getD i nR=p:=⟨_,rfl⟩
    rw[hp]at g0 g1 g2
    obtain⟨lo,y,cl⟩:=p
    dsimp only at g0 g1 g2
    go_wp2_with (go_at_call 214
                 refine(vX lo y cl r _).mono ?_
                 rintro x wz ⟨rfl,hbz⟩
                 have HBZ:=ah (HB.out.trans (hbz.mono HB.out.size));clear hbz g0 g1 g2)
    go_ret2
    exact⟨⟨_,by rw[aeE.out];rfl⟩,HBZ.out⟩
   ·go_wp2
    go_ret2
    exact⟨⟨_,by rw[aeE.out];rfl⟩,HB.out⟩
def eF (r:Int):Int:=if r<0\/1114111<r then 65533 else r
def za (c:Int) (W:World) (e:Ending) (w':World):Prop:=e= .returned (.int .i64 c)/\Below W.heap.size W w'
theorem EA (l:List fI) (hl:Ez l=true) (r:Int) (v:Value) (n:Nat) (hn:l.length=n) (hsm:n<=100000) (W:World) (h:KI W v l):
 Calls Tryz.prog 146 #[v, .int .i32 r] W (za (dQ l (eF r)) W):=by
 obtain⟨D,o,R,oR,c,rfl,c1,c2,c3⟩:=h;rw[hn]at c1 c2 c3;rw[Rb,hn];obtain⟨x,hx⟩:∃x,eF r=x:=⟨_,rfl⟩
 have Vm:=ah (abH l hl x R oR c n hn hsm W c3);have HPL:=ah (Vl l x);have HX:=ah hx;rw[hx];have HC:=ah c3;have HN:=ah hn;obtain⟨p,hp⟩:∃p,posOf l x=p:=⟨_,rfl⟩
 unfold Pq at Vm;rw[hp]at Vm HPL;rw[hp];clear hx hp c3 hl hn;have hD:=aW c1;have key:∀wz:World,Below W.heap.size W wz->wz.cell? ⟨D,o+3,none⟩=some (.slice (some ⟨R,oR,none⟩) n c):=λwz hb=>by rw[hb.cell hD];exact c1
 have KEY:=ah key;clear key hD;have hrx:(r<0/\x=65533)\/(¬r<0/\1114111<r/\x=65533)\/(¬r<0/\¬1114111<r/\x=r):=by
  have:=HX.out;unfold eF at this;by_cases a:r<0;·rw[au (.inl a)]at this;exact .inl ⟨a,this.symm⟩
  ·by_cases b:1114111<r
   ·rw[au (.inr b)]at this;exact .inr (.inl ⟨a,b,this.symm⟩)
   ·rw[aj (by omega)]at this;exact .inr (.inr ⟨a,b,this.symm⟩)
 have hend:(¬p<n)\/(p<n/\¬(l.getD p nR).1<=x)\/(p<n/\(l.getD p nR).1<=x):=by
  by_cases a:p<n
  ·by_cases b:(l.getD p nR).1<=x
   ·exact .inr (.inr ⟨a,b⟩)
   ·exact .inr (.inl ⟨a,b⟩)
  ·exact .inl a
 rcases hrx with⟨r1,rfl⟩|⟨r1,r2,rfl⟩|⟨r1,r2,rfl⟩<;>rcases hend with e1|⟨e1,e2⟩|⟨e1,e2⟩
 ·have dp:decide ((p:Int)<n)=false:=aP (by omega);have E1:=ah e1;clear e1;obtain⟨res,hres⟩:∃res,(if p<n/\(l.getD p nR).1<=65533 then(l.getD p nR).2.2 else 0)=res:=⟨_,rfl⟩
  rw[hres];have uE:=ah hres;clear hres;go_enter Tryz.func146,Tryz.ntmps146;go_wp2_with fail;refine Vm.out.mono ?_;rintro e wz ⟨⟨b,rfl⟩,hb⟩;have k1:=KEY.out wz hb;have HB:=ah hb;clear hb;dsimp only;go_wp2;all_goals go_ret
  all_goals exact⟨by rw[<-uE.out,aj (λh=>absurd h.1 E1.out)];rfl,HB.out⟩
 ·have dp:decide ((p:Int)<n)=true:=aO (by omega);have E1:=ah e1;have E2:=ah e2;clear e1 e2;obtain⟨res,hres⟩:∃res,(if p<n/\(l.getD p nR).1<=65533 then(l.getD p nR).2.2 else 0)=res:=⟨_,rfl⟩
  rw[hres];have uE:=ah hres;clear hres;go_enter Tryz.func146,Tryz.ntmps146;go_wp2_with fail;refine Vm.out.mono ?_;rintro e wz ⟨⟨b,rfl⟩,hb⟩;have k1:=KEY.out wz hb;have HB:=ah hb;obtain⟨f0,f1,f2⟩:=HC.out p E1.out;have hg:=aW f0;have g0:wz.cell? ⟨R,oR+p*3,none⟩=_:=(hb.cell (p:=⟨R,oR+p*3,none⟩) hg).trans f0;have g1:wz.cell? ⟨R,oR+p*3+1,none⟩=_:=(hb.cell (p:=⟨R,oR+p*3+1,none⟩) hg).trans f1;have g2:wz.cell? ⟨R,oR+p*3+2,none⟩=_:=(hb.cell (p:=⟨R,oR+p*3+2,none⟩) hg).trans f2;clear f0 f1 f2 hg hb;have E3:=E2.out;obtain⟨q,hq⟩:∃q,l.getD p nR=q:=⟨_,rfl⟩
  rw[hq]at g0 g1 g2 E3;have HQ:=ah hq;clear hq;obtain⟨lo,y,cl⟩:=q;dsimp only at g0 g1 g2;have de:decide (lo<=65533)=false:=aP (show ¬lo<=65533 from oQ.2 E3);clear E3;dsimp only;go_wp2;all_goals go_ret
  all_goals exact⟨by rw[<-uE.out,aj (λh=>(oQ.2 E2.out) h.2)];rfl,HB.out⟩
 ·have dp:decide ((p:Int)<n)=true:=aO (by omega);have E1:=ah e1;have E2:=ah e2;clear e1 e2;obtain⟨res,hres⟩:∃res,(if p<n/\(l.getD p nR).1<=65533 then(l.getD p nR).2.2 else 0)=res:=⟨_,rfl⟩
  rw[hres];have uE:=ah hres;clear hres;go_enter Tryz.func146,Tryz.ntmps146;go_wp2_with fail;refine Vm.out.mono ?_;rintro e wz ⟨⟨b,rfl⟩,hb⟩;have k1:=KEY.out wz hb;have HB:=ah hb;obtain⟨f0,f1,f2⟩:=HC.out p E1.out;have hg:=aW f0;have g0:wz.cell? ⟨R,oR+p*3,none⟩=_:=(hb.cell (p:=⟨R,oR+p*3,none⟩) hg).trans f0;have g1:wz.cell? ⟨R,oR+p*3+1,none⟩=_:=(hb.cell (p:=⟨R,oR+p*3+1,none⟩) hg).trans f1;have g2:wz.cell? ⟨R,oR+p*3+2,none⟩=_:=(hb.cell (p:=⟨R,oR+p*3+2,none⟩) hg).trans f2;clear f0 f1 f2 hg hb;have E3:=E2.out;obtain⟨q,hq⟩:∃q,l.getD p nR=q:=⟨_,rfl⟩
  rw[hq]at g0 g1 g2 E3;have HQ:=ah hq;clear hq;obtain⟨lo,y,cl⟩:=q;dsimp only at g0 g1 g2;have de:decide (lo<=65533)=true:=aO E3;clear E3;dsimp only;go_wp2;all_goals go_ret
  all_goals exact⟨by rw[<-uE.out,au ⟨E1.out,E2.out⟩,HQ.out];rfl,HB.out⟩
 ·have dp:decide ((p:Int)<n)=false:=aP (by omega);have E1:=ah e1;clear e1;obtain⟨res,hres⟩:∃res,(if p<n/\(l.getD p nR).1<=65533 then(l.getD p nR).2.2 else 0)=res:=⟨_,rfl⟩
  rw[hres];have uE:=ah hres;clear hres;go_enter Tryz.func146,Tryz.ntmps146;go_wp2_with fail;refine Vm.out.mono ?_;rintro e wz ⟨⟨b,rfl⟩,hb⟩;have k1:=KEY.out wz hb;have HB:=ah hb;clear hb;dsimp only;go_wp2;all_goals go_ret
  all_goals exact⟨by rw[<-uE.out,aj (λh=>absurd h.1 E1.out)];rfl,HB.out⟩
 ·have dp:decide ((p:Int)<n)=true:=aO (by omega);have E1:=ah e1;have E2:=ah e2;clear e1 e2;obtain⟨res,hres⟩:∃res,(if p<n/\(l.getD p nR).1<=65533 then(l.getD p nR).2.2 else 0)=res:=⟨_,rfl⟩
  rw[hres];have uE:=ah hres;clear hres;go_enter Tryz.func146,Tryz.ntmps146;go_wp2_with fail;refine Vm.out.mono ?_;rintro e wz ⟨⟨b,rfl⟩,hb⟩;have k1:=KEY.out wz hb;have HB:=ah hb;obtain⟨f0,f1,f2⟩:=HC.out p E1.out;have hg:=aW f0;have g0:wz.cell? ⟨R,oR+p*3,none⟩=_:=(hb.cell (p:=⟨R,oR+p*3,none⟩) hg).trans f0;have g1:wz.cell? ⟨R,oR+p*3+1,none⟩=_:=(hb.cell (p:=⟨R,oR+p*3+1,none⟩) hg).trans f1;have g2:wz.cell? ⟨R,oR+p*3+2,none⟩=_:=(hb.cell (p:=⟨R,oR+p*3+2,none⟩) hg).trans f2;clear f0 f1 f2 hg hb;have E3:=E2.out;obtain⟨q,hq⟩:∃q,l.getD p nR=q:=⟨_,rfl⟩
  rw[hq]at g0 g1 g2 E3;have HQ:=ah hq;clear hq;obtain⟨lo,y,cl⟩:=q;dsimp only at g0 g1 g2;have de:decide (lo<=65533)=false:=aP (show ¬lo<=65533 from oQ.2 E3);clear E3;dsimp only;go_wp2;all_goals go_ret
  all_goals exact⟨by rw[<-uE.out,aj (λh=>(oQ.2 E2.out) h.2)];rfl,HB.out⟩
 ·have dp:decide ((p:Int)<n)=true:=aO (by omega);have E1:=ah e1;have E2:=ah e2;clear e1 e2;obtain⟨res,hres⟩:∃res,(if p<n/\(l.getD p nR).1<=65533 then(l.getD p nR).2.2 else 0)=res:=⟨_,rfl⟩
  rw[hres];have uE:=ah hres;clear hres;go_enter Tryz.func146,Tryz.ntmps146;go_wp2_with fail;refine Vm.out.mono ?_;rintro e wz ⟨⟨b,rfl⟩,hb⟩;have k1:=KEY.out wz hb;have HB:=ah hb;obtain⟨f0,f1,f2⟩:=HC.out p E1.out;have hg:=aW f0;have g0:wz.cell? ⟨R,oR+p*3,none⟩=_:=(hb.cell (p:=⟨R,oR+p*3,none⟩) hg).trans f0;have g1:wz.cell? ⟨R,oR+p*3+1,none⟩=_:=(hb.cell (p:=⟨R,oR+p*3+1,none⟩) hg).trans f1;have g2:wz.cell? ⟨R,oR+p*3+2,none⟩=_:=(hb.cell (p:=⟨R,oR+p*3+2,none⟩) hg).trans f2;clear f0 f1 f2 hg hb;have E3:=E2.out;obtain⟨q,hq⟩:∃q,l.getD p nR=q:=⟨_,rfl⟩
  rw[hq]at g0 g1 g2 E3;have HQ:=ah hq;clear hq;obtain⟨lo,y,cl⟩:=q;dsimp only at g0 g1 g2;have de:decide (lo<=65533)=true:=aO E3;clear E3;dsimp only;go_wp2;all_goals go_ret
  all_goals exact⟨by rw[<-uE.out,au ⟨E1.out,E2.out⟩,HQ.out];rfl,HB.out⟩
 ·have dp:decide ((p:Int)<n)=false:=aP (by omega);have E1:=ah e1;clear e1;obtain⟨res,hres⟩:∃res,(if p<n/\(l.getD p nR).1<=x then(l.getD p nR).2.2 else 0)=res:=⟨_,rfl⟩
  rw[hres];have uE:=ah hres;clear hres;go_enter Tryz.func146,Tryz.ntmps146;go_wp2_with fail;refine Vm.out.mono ?_;rintro e wz ⟨⟨b,rfl⟩,hb⟩;have k1:=KEY.out wz hb;have HB:=ah hb;clear hb;dsimp only;go_wp2;all_goals go_ret
  all_goals exact⟨by rw[<-uE.out,aj (λh=>absurd h.1 E1.out)];rfl,HB.out⟩
 ·have dp:decide ((p:Int)<n)=true:=aO (by omega);have E1:=ah e1;have E2:=ah e2;clear e1 e2;obtain⟨res,hres⟩:∃res,(if p<n/\(l.getD p nR).1<=x then(l.getD p nR).2.2 else 0)=res:=⟨_,rfl⟩
  rw[hres];have uE:=ah hres;clear hres;go_enter Tryz.func146,Tryz.ntmps146;go_wp2_with fail;refine Vm.out.mono ?_;rintro e wz ⟨⟨b,rfl⟩,hb⟩;have k1:=KEY.out wz hb;have HB:=ah hb;obtain⟨f0,f1,f2⟩:=HC.out p E1.out;have hg:=aW f0;have g0:wz.cell? ⟨R,oR+p*3,none⟩=_:=(hb.cell (p:=⟨R,oR+p*3,none⟩) hg).trans f0;have g1:wz.cell? ⟨R,oR+p*3+1,none⟩=_:=(hb.cell (p:=⟨R,oR+p*3+1,none⟩) hg).trans f1;have g2:wz.cell? ⟨R,oR+p*3+2,none⟩=_:=(hb.cell (p:=⟨R,oR+p*3+2,none⟩) hg).trans f2;clear f0 f1 f2 hg hb;have E3:=E2.out;obtain⟨q,hq⟩:∃q,l.getD p nR=q:=⟨_,rfl⟩
  rw[hq]at g0 g1 g2 E3;have HQ:=ah hq;clear hq;obtain⟨lo,y,cl⟩:=q;dsimp only at g0 g1 g2;have de:decide (lo<=x)=false:=aP (show ¬lo<=x from oQ.2 E3);clear E3;dsimp only;go_wp2;all_goals go_ret
  all_goals exact⟨by rw[<-uE.out,aj (λh=>(oQ.2 E2.out) h.2)];rfl,HB.out⟩
 ·have dp:decide ((p:Int)<n)=true:=aO (by omega);have E1:=ah e1;have E2:=ah e2;clear e1 e2;obtain⟨res,hres⟩:∃res,(if p<n/\(l.getD p nR).1<=x then(l.getD p nR).2.2 else 0)=res:=⟨_,rfl⟩
  rw[hres];have uE:=ah hres;clear hres;go_enter Tryz.func146,Tryz.ntmps146;go_wp2_with fail;refine Vm.out.mono ?_;rintro e wz ⟨⟨b,rfl⟩,hb⟩;have k1:=KEY.out wz hb;have HB:=ah hb;obtain⟨f0,f1,f2⟩:=HC.out p E1.out;have hg:=aW f0;have g0:wz.cell? ⟨R,oR+p*3,none⟩=_:=(hb.cell (p:=⟨R,oR+p*3,none⟩) hg).trans f0;have g1:wz.cell? ⟨R,oR+p*3+1,none⟩=_:=(hb.cell (p:=⟨R,oR+p*3+1,none⟩) hg).trans f1;have g2:wz.cell? ⟨R,oR+p*3+2,none⟩=_:=(hb.cell (p:=⟨R,oR+p*3+2,none⟩) hg).trans f2;clear f0 f1 f2 hg hb;have E3:=E2.out;obtain⟨q,hq⟩:∃q,l.getD p nR=q:=⟨_,rfl⟩
  rw[hq]at g0 g1 g2 E3;have HQ:=ah hq;clear hq;obtain⟨lo,y,cl⟩:=q;dsimp only at g0 g1 g2;have de:decide (lo<=x)=true:=aO E3;clear E3;dsimp only;go_wp2;all_goals go_ret
  all_goals exact⟨by rw[<-uE.out,au ⟨E1.out,E2.out⟩,HQ.out];rfl,HB.out⟩
theorem Rf (x:Int) (w:World):Calls Tryz.prog 154 #[.int .i64 x] w λe w'=>e= .returned (.bool false)/\w'=w:=by go_enter Tryz.func154,Tryz.ntmps154;go_wp2;go_ret;exact⟨by simp,rfl⟩
theorem vY (x:Int) (w:World):Calls Tryz.prog 103 #[.int .i64 x] w λe w'=>e= .returned (.bool false)/\w'=w:=by go_enter Tryz.func103,Tryz.ntmps103;go_wp2;go_ret;exact⟨by simp,rfl⟩
theorem Cz (x y:Int) (w:World):Calls Tryz.prog 102 #[.int .i64 x, .int .i64 y] w λe w'=>e= .returned (.bool (decide (x<y)))/\w'=w:=by go_enter Tryz.func102,Tryz.ntmps102;go_wp2_with (go_at_call 154;refine(Rf _ _).mono ?_;rintro e w' ⟨rfl,rfl⟩);go_ret;exact⟨rfl,rfl⟩
structure dx (w:World) (A:Option Addr) (n:Nat) (zs:List Int):Prop where
 len:zs.length=n
 small:n<=100000
 at_:0<n->∃g o,A=some ⟨g,o,none⟩/\g<w.heap.size/\∀j,j<n->w.cell? ⟨g,o+j,none⟩=some (.int .i64 (zs.getD j 0))
def Jw (zs:List Int) (x:Int):Nat->Nat->Nat->Nat
 |0,lo,_=>lo
 |f+1,lo,hi=>if lo<hi then(if zs.getD ((lo+hi)/2) 0<x then Jw zs x f ((lo+hi)/2+1) hi else Jw zs x f lo ((lo+hi)/2))else lo
def Yr (zs:List Int) (x:Int):Bool:=decide (Jw zs x zs.length 0 zs.length<zs.length)&&decide (zs.getD (Jw zs x zs.length 0 zs.length) 0=x)
theorem Yt (zs:List Int) (x:Int) (f lo:Nat):Jw zs x f lo lo=lo:=by
 cases f with
 |zero=>rfl
 |succ f=>unfold Jw;rw[aj (dA _)]
def Pt (zs:List Int) (x:Int) (W:World) (e:Ending) (w':World):Prop:=∃m:Int,e= .returned (.tuple #[.int .i64 m, .bool (Yr zs x)])/\Below W.heap.size W w'
theorem abJ (zs:List Int) (x:Int) (A:Option Addr) (n c:Nat) (W:World) (h:dx W A n zs):
 Calls Tryz.prog 53 #[.slice A n c, .int .i64 x] W (Pt zs x W):=by
 have hsm:=h.small;have HC:=ah h;clear h;have HF:=ah (show Yr zs x=(decide (Jw zs x n 0 n<n)&&decide (zs.getD (Jw zs x n 0 n) 0=x))by unfold Yr;rw[HC.out.len]);obtain⟨P,hP⟩:∃P,Jw zs x n 0 n=P:=⟨_,rfl⟩
 obtain⟨z,hz⟩:∃z,Yr zs x=z:=⟨_,rfl⟩
 rw[hP,hz]at HF;unfold Pt;rw[hz];have HP:=ah hP;clear hP hz;go_enter Tryz.func53,Tryz.ntmps53;go_wp2;go_loopw [7,8] (λs7 s8 wr=>∃lo hi f:Nat,s7= .int .i64 lo/\s8= .int .i64 hi/\lo<=hi/\hi<=n/\hi<=lo+f/\Jw zs x f lo hi=P/\Below W.heap.size W wr) (λa b _=>(RowKit.intOf b-RowKit.intOf a).toNat);case atStart=>exact⟨0,n,n,rfl,rfl,aL _,ay _,by omega,HP.out,aK _ _⟩
 case round=>
  obtain⟨lo,hi,f,rfl,rfl,hlh,hin,hf,hp,hb⟩:=hrel;have HB:=ah hb;clear hb;by_cases hlt:lo<hi
  ·obtain⟨f',rfl⟩:∃f',f=f'+1:=⟨f-1,by omega⟩
   unfold Jw at hp;rw[au hlt]at hp;obtain⟨g,o,rfl,hgl,hcell⟩:=HC.out.at_ (by omega);have cm:wr.cell? ⟨g,o+(lo+hi)/2,none⟩=some (.int .i64 (zs.getD ((lo+hi)/2) 0)):=(HB.out.cell (p:=⟨g,o+(lo+hi)/2,none⟩) hgl).trans (hcell _ (by omega));clear hcell;obtain⟨y,hy⟩:∃y,zs.getD ((lo+hi)/2) 0=y:=⟨_,rfl⟩
   rw[hy]at cm hp;have HPP:=ah hp;clear hy hp;by_cases hyx:y<x
   ·have HQ:=ah (show Jw zs x f' ((lo+hi)/2+1) hi=P by have:=HPP.out;rwa [au hyx]at this);go_wp2_with (first|(go_at_call 102;refine(Cz _ _ _).mono ?_;rintro e w' ⟨rfl,rfl⟩)|(go_at_call 103;refine(vY _ _).mono ?_;rintro e w' ⟨rfl,rfl⟩));go_roundw;case rel=>exact⟨(lo+hi)/2+1,hi,f',by rw[show((lo:Int)+(hi:Int))/2+1=(((lo+hi)/2+1:Nat):Int)by omega],rfl,by omega,hin,by omega,HQ.out,HB.out⟩
    case measure=>simp[RowKit.intOf];omega
   ·have HQ:=ah (show Jw zs x f' lo ((lo+hi)/2)=P by have:=HPP.out;rwa [aj hyx]at this);go_wp2_with (first|(go_at_call 102;refine(Cz _ _ _).mono ?_;rintro e w' ⟨rfl,rfl⟩)|(go_at_call 103;refine(vY _ _).mono ?_;rintro e w' ⟨rfl,rfl⟩));go_roundw;case rel=>exact⟨lo,(lo+hi)/2,f',rfl,by rw[show((lo:Int)+(hi:Int))/2=(((lo+hi)/2:Nat):Int)by omega],by omega,by omega,by omega,HQ.out,HB.out⟩
    case measure=>simp[RowKit.intOf];omega
  ·have:hi=lo:=by omega
   subst this;rw[Yt]at hp;have HPP:=ah hp;clear hp;by_cases hn:hi<n
   ·obtain⟨g,o,rfl,hgl,hcell⟩:=HC.out.at_ (by omega);have cl:wr.cell? ⟨g,o+hi,none⟩=some (.int .i64 (zs.getD hi 0)):=(HB.out.cell (p:=⟨g,o+hi,none⟩) hgl).trans (hcell _ hn);clear hcell;obtain⟨y,hy⟩:∃y,zs.getD hi 0=y:=⟨_,rfl⟩
    rw[hy]at cl;have HY:=ah hy;clear hy;by_cases hyx:y=x;·have HZ:=ah (show z=true by rw[HF.out,<-HPP.out,HY.out,hyx];simp;exact hn);go_wp2_with (first|(go_at_call 102;refine(Cz _ _ _).mono ?_;rintro e w' ⟨rfl,rfl⟩)|(go_at_call 103;refine(vY _ _).mono ?_;rintro e w' ⟨rfl,rfl⟩));go_ret2;rw[HZ.out];exact⟨(hi:Int),by first|rfl|simp[hyx],HB.out⟩
    ·have HZ:=ah (show z=false by rw[HF.out,<-HPP.out,HY.out];simp;intro _;exact hyx);go_wp2_with (first|(go_at_call 102;refine(Cz _ _ _).mono ?_;rintro e w' ⟨rfl,rfl⟩)|(go_at_call 103;refine(vY _ _).mono ?_;rintro e w' ⟨rfl,rfl⟩));go_ret2;rw[HZ.out];exact⟨(hi:Int),by first|rfl|simp[hyx],HB.out⟩
   ·have HZ:=ah (show z=false by rw[HF.out,<-HPP.out];simp;intro h;exact absurd h hn);go_wp2_with fail;go_ret2;rw[HZ.out];exact⟨(hi:Int),by first|rfl|simp,HB.out⟩
def CB (l:List Int) (x:Int) (W:World) (e:Ending) (w':World):Prop:=(∃i,e= .returned (.int .i64 i)/\decide (0<=i)=l.contains x)/\w'=W
theorem Rh (l:List Int) (x:Int) (g o n c:Nat) (hn:l.length=n) (hsm:n<=1000000) (W:World) (hc:∀j,j<n->W.cell? ⟨g,o+j,none⟩=some (.int .i32 (l.getD j 0))):
 Calls Tryz.prog 269 #[.slice (some ⟨g,o,none⟩) n c, .int .i32 x] W (CB l x W):=by
 have HC:=ah hc;have HN:=ah hn;clear hc hn;go_enter Tryz.func269,Tryz.ntmps269;go_wp2;go_loop [8] (λi=>∃k:Nat,k<=n/\i= .int .i64 k/\∀j,j<k->l.getD j 0≠x) (λi=>n-(RowKit.intOf i).toNat);case atStart=>exact⟨0,aL _,rfl,λj hj=>by omega⟩
 case round=>
  obtain⟨k,hk,rfl,hlo⟩:=hrel;have mY:=ah hlo;clear hlo;by_cases hlt:k<n
  ·have d1:=HC.out k hlt;obtain⟨y,hy⟩:∃y,l.getD k 0=y:=⟨_,rfl⟩
   rw[hy]at d1;have HY:=ah hy;clear hy;by_cases he:x=y
   ·subst he;go_wp2;go_ret;refine⟨⟨_,rfl,?_⟩,rfl⟩;have hm:x∈l:=by rw[<-HY.out,aG,aS (by rw[HN.out];exact hlt)];exact iN _
    rw[rM.2 hm];exact aO (rQ k)
   ·have hd:(x==y)=false:=dH.2 he;have HE:=ah he;clear he;go_wp2;refine⟨⟨k+1,hlt,by go_num,λj hj=> ?_⟩,by simp[RowKit.intOf];omega⟩;rcases aF j k with c|c
    ·exact mY.out j c
    ·obtain rfl:j=k:=by omega
     rw[HY.out];exact λh=>HE.out h.symm
  ·obtain rfl:k=n:=by omega
   go_wp2;go_ret;refine⟨⟨_,rfl,?_⟩,rfl⟩;have hm:l.contains x=false:=by rw[rO];intro h;obtain⟨j,hj,he⟩:=mD.1 (rM.1 h);exact mY.out j (by rw[<-HN.out];exact hj) (by rw[aG,aS hj];exact he)
   rw[hm];rfl
theorem ze (l:List Int) (x:Int) (g o n c:Nat) (hn:l.length=n) (hsm:n<=1000000) (W:World) (hc:∀j,j<n->W.cell? ⟨g,o+j,none⟩=some (.int .i32 (l.getD j 0))):
 Calls Tryz.prog 210 #[.slice (some ⟨g,o,none⟩) n c, .int .i32 x] W λe w'=>e= .returned (.bool (l.contains x))/\w'=W:=by
 have H:=ah (Rh l x g o n c hn hsm W hc);obtain⟨b,hb⟩:∃b,l.contains x=b:=⟨_,rfl⟩
 unfold CB at H;rw[hb]at H;rw[hb];clear hc hb hn;go_enter Tryz.func210,Tryz.ntmps210;go_wp2_with fail;refine H.out.mono ?_;rintro e w1 ⟨⟨i,rfl,hi⟩,rfl⟩;have HI:=ah hi;clear hi;dsimp only;go_wp2;go_ret;exact⟨by rw[<-HI.out];rfl,rfl⟩
theorem Ri (l:List Int) (x:Int) (g o n c:Nat) (hn:l.length=n) (hsm:n<=1000000) (W:World) (hc:∀j,j<n->W.cell? ⟨g,o+j,none⟩=some (.int .i64 (l.getD j 0))):
 Calls Tryz.prog 270 #[.slice (some ⟨g,o,none⟩) n c, .int .i64 x] W (CB l x W):=by
 have HC:=ah hc;have HN:=ah hn;clear hc hn;go_enter Tryz.func270,Tryz.ntmps270;go_wp2;go_loop [8] (λi=>∃k:Nat,k<=n/\i= .int .i64 k/\∀j,j<k->l.getD j 0≠x) (λi=>n-(RowKit.intOf i).toNat);case atStart=>exact⟨0,aL _,rfl,λj hj=>by omega⟩
 case round=>
  obtain⟨k,hk,rfl,hlo⟩:=hrel;have mY:=ah hlo;clear hlo;by_cases hlt:k<n
  ·have d1:=HC.out k hlt;obtain⟨y,hy⟩:∃y,l.getD k 0=y:=⟨_,rfl⟩
   rw[hy]at d1;have HY:=ah hy;clear hy;by_cases he:x=y
   ·subst he;go_wp2;go_ret;refine⟨⟨_,rfl,?_⟩,rfl⟩;have hm:x∈l:=by rw[<-HY.out,aG,aS (by rw[HN.out];exact hlt)];exact iN _
    rw[rM.2 hm];exact aO (rQ k)
   ·have hd:(x==y)=false:=dH.2 he;have HE:=ah he;clear he;go_wp2;refine⟨⟨k+1,hlt,by go_num,λj hj=> ?_⟩,by simp[RowKit.intOf];omega⟩;rcases aF j k with c|c
    ·exact mY.out j c
    ·obtain rfl:j=k:=by omega
     rw[HY.out];exact λh=>HE.out h.symm
  ·obtain rfl:k=n:=by omega
   go_wp2;go_ret;refine⟨⟨_,rfl,?_⟩,rfl⟩;have hm:l.contains x=false:=by rw[rO];intro h;obtain⟨j,hj,he⟩:=mD.1 (rM.1 h);exact mY.out j (by rw[<-HN.out];exact hj) (by rw[aG,aS hj];exact he)
   rw[hm];rfl
theorem r9 (l:List Int) (x:Int) (g o n c:Nat) (hn:l.length=n) (hsm:n<=1000000) (W:World) (hc:∀j,j<n->W.cell? ⟨g,o+j,none⟩=some (.int .i64 (l.getD j 0))):
 Calls Tryz.prog 211 #[.slice (some ⟨g,o,none⟩) n c, .int .i64 x] W λe w'=>e= .returned (.bool (l.contains x))/\w'=W:=by
 have H:=ah (Ri l x g o n c hn hsm W hc);obtain⟨b,hb⟩:∃b,l.contains x=b:=⟨_,rfl⟩
 unfold CB at H;rw[hb]at H;rw[hb];clear hc hb hn;go_enter Tryz.func211,Tryz.ntmps211;go_wp2_with fail;refine H.out.mono ?_;rintro e w1 ⟨⟨i,rfl,hi⟩,rfl⟩;have HI:=ah hi;clear hi;dsimp only;go_wp2;go_ret;exact⟨by rw[<-HI.out];rfl,rfl⟩
def oV:List Int:=[39,46,58,183,8217]
def qh:List Int:=[4,5,6]
def Nn (r:Int):Int:=dQ fB (eF r)
def bE (r:Int):Bool:=oV.contains r||qh.contains (Nn r)
theorem oW:Ez fB=true:=by decide+kernel
theorem uF:fB.length=54:=rfl
def uG (r:Int) (W:World) (e:Ending) (w':World):Prop:=e= .returned (.bool (bE r))/\Below W.heap.size W w'
theorem EB {B:Nat} {W w:World} (h:Below B W w):Below B W w.drew:=⟨h.os,h.tape,h.output,h.size,h.block⟩
def fiveO:Obj:= .cells #[.int .i32 39, .int .i32 46, .int .i32 58, .int .i32 183, .int .i32 8217] 21
theorem five_cells (W:World):∀j,j<5->(W.alloc (.cells #[.int .i32 39, .int .i32 46, .int .i32 58, .int .i32 183, .int .i32 8217] 21)).drew.cell? ⟨W.heap.size,0+j,none⟩=some (.int .i32 (oV.getD j 0)):=by
 intro j hj;show(W.alloc _).cell? _=_;rw[bI,fu _ _ _ _ _ _ (jl W _)];match j,hj with
 |0,_=>rfl
 |1,_=>rfl
 |2,_=>rfl
 |3,_=>rfl
 |4,_=>rfl
 |j+5,h=>exact absurd h (by omega)
theorem Np (r:Int) (v:Value) (W:World) (h:wQ W v) (hc:oV.contains r=true):Calls Tryz.prog 144 #[v, .int .i32 r] W (uG r W):=by
 have hp:bE r=true:=by unfold bE;rw[hc];rfl
 obtain⟨B,o,rfl,hop,⟨d,c3,hdb⟩,i,c4,hi⟩:=h;have HDB:=ah hdb;obtain⟨D,oD,rfl⟩:∃D oD,d= .pointer (some ⟨D,oD,none⟩):=by obtain⟨D,o,_,_,_,rfl,_⟩:=hdb;exact⟨_,_,rfl⟩
 obtain⟨g,oI,cI,rfl,hle,hi⟩:=hi;have HI:=ah hi;have hk:=And.intro (aW c3) (aW c4);have key:∀w,Below W.heap.size W w->w.cell? ⟨B,o+3,none⟩=some (.pointer (some ⟨D,oD,none⟩))/\w.cell? ⟨B,o+4,none⟩=some (.slice (some ⟨g,oI,none⟩) 3 cI):=λw hb=>⟨by rw[hb.cell hk.1];exact c3,by rw[hb.cell hk.2];exact c4⟩
 have KEY:=ah key;have HB0:=ah ((aK W.heap.size W).alloc (ay _) fiveO);unfold fiveO at HB0;have HP:=ah hp;have HC:=ah hc;clear hp hc c3 c4 hi hk key hle hop hdb;go_enter Tryz.func144,Tryz.ntmps144;go_wp2_with fail;refine wp_region_any (by kernel_rfl) ?_;change wpAny _ _ _ _ _ _ _ (World.drew _);refine bU (i:=1) (v:= ?_) rfl (by kernel_rfl) (by kernel_rfl) (by kernel_rfl) (λ_ _ _ h=>h) (Or.inl ⟨by kernel_rfl,?_⟩) ?_;rotate_left
 ·intro w;go_simp;try with_reducible rfl
 (try simp only[Act.put]);(try simp only[bG]);(try simp only[aU]);(try simp only[aT]);refine eB (rs:=[0]) (by kernel_rfl) (by simp) ?_;refine dw rfl (λK hK=> ?_) ?_
 ·go_simp;have HB:=ah (EB HB0.out);obtain⟨k3,k4⟩:=KEY.out _ HB.out;refine hK _ _ ?_;clear hK K;refine eB (rs:=[2]) (by kernel_rfl) (by simp) ?_;refine dw rfl (λK hK=> ?_) ?_
  ·go_simp;refine(ze oV r W.heap.size 0 5 5 rfl (by decide) _ (five_cells W)).mono ?_;rintro e wz ⟨rfl,rfl⟩;rw[HC.out];dsimp only;refine hK _ _ ?_;clear hK K;refine bU (i:=3) (v:= ?_) rfl (by kernel_rfl) (by kernel_rfl) (by kernel_rfl) (λ_ _ _ h=>h) (Or.inl ⟨by kernel_rfl,?_⟩) ?_;rotate_left
   ·intro w;go_simp;try with_reducible rfl
   (try simp only[Act.put]);(try simp only[bG]);(try simp only[aU]);(try simp only[aT]);refine bU (i:=4) (v:=undef) rfl (by kernel_rfl) (by kernel_rfl) (by kernel_rfl) (λ_ _ _ h=>h) (Or.inr ⟨by kernel_rfl,rfl⟩) ?_;(try simp only[Act.put]);(try simp only[bG]);(try simp only[aU]);(try simp only[aT]);refine bU (i:=5) (v:=undef) rfl (by kernel_rfl) (by kernel_rfl) (by kernel_rfl) (λ_ _ _ h=>h) (Or.inr ⟨by kernel_rfl,rfl⟩) ?_;(try simp only[Act.put]);(try simp only[bG]);(try simp only[aU]);(try simp only[aT]);refine bU (i:=6) (v:=undef) rfl (by kernel_rfl) (by kernel_rfl) (by kernel_rfl) (λ_ _ _ h=>h) (Or.inr ⟨by kernel_rfl,rfl⟩) ?_;(try simp only[Act.put]);(try simp only[bG]);(try simp only[aU]);(try simp only[aT]);refine bU (i:=7) (v:=undef) rfl (by kernel_rfl) (by kernel_rfl) (by kernel_rfl) (λ_ _ _ h=>h) (Or.inr ⟨by kernel_rfl,rfl⟩) ?_;(try simp only[Act.put]);(try simp only[bG]);(try simp only[aU]);(try simp only[aT]);refine bU (i:=8) (v:=undef) rfl (by kernel_rfl) (by kernel_rfl) (by kernel_rfl) (λ_ _ _ h=>h) (Or.inr ⟨by kernel_rfl,rfl⟩) ?_;(try simp only[Act.put]);(try simp only[bG]);(try simp only[aU]);(try simp only[aT]);refine bU (i:=9) (v:=undef) rfl (by kernel_rfl) (by kernel_rfl) (by kernel_rfl) (λ_ _ _ h=>h) (Or.inr ⟨by kernel_rfl,rfl⟩) ?_;(try simp only[Act.put]);(try simp only[bG]);(try simp only[aU]);(try simp only[aT]);refine bU (i:=10) (v:=undef) rfl (by kernel_rfl) (by kernel_rfl) (by kernel_rfl) (λ_ _ _ h=>h) (Or.inr ⟨by kernel_rfl,rfl⟩) ?_;(try simp only[Act.put]);(try simp only[bG]);(try simp only[aU]);(try simp only[aT]);refine bU (i:=11) (v:=undef) rfl (by kernel_rfl) (by kernel_rfl) (by kernel_rfl) (λ_ _ _ h=>h) (Or.inr ⟨by kernel_rfl,rfl⟩) ?_;(try simp only[Act.put]);(try simp only[bG]);(try simp only[aU]);(try simp only[aT]);refine bU (i:=12) (v:=undef) rfl (by kernel_rfl) (by kernel_rfl) (by kernel_rfl) (λ_ _ _ h=>h) (Or.inr ⟨by kernel_rfl,rfl⟩) ?_;(try simp only[Act.put]);(try simp only[bG]);(try simp only[aU]);(try simp only[aT]);refine bU (i:=13) (v:=undef) rfl (by kernel_rfl) (by kernel_rfl) (by kernel_rfl) (λ_ _ _ h=>h) (Or.inr ⟨by kernel_rfl,rfl⟩) ?_;(try simp only[Act.put]);(try simp only[bG]);(try simp only[aU]);(try simp only[aT]);refine bU (i:=14) (v:=undef) rfl (by kernel_rfl) (by kernel_rfl) (by kernel_rfl) (λ_ _ _ h=>h) (Or.inr ⟨by kernel_rfl,rfl⟩) ?_;(try simp only[Act.put]);(try simp only[bG]);(try simp only[aU]);(try simp only[aT]);refine bU (i:=15) (v:= ?_) rfl (by kernel_rfl) (by kernel_rfl) (by kernel_rfl) (λ_ _ _ h=>h) (Or.inl ⟨by kernel_rfl,?_⟩) ?_;rotate_left
   ·intro w;go_simp;try with_reducible rfl
   (try simp only[Act.put]);(try simp only[bG]);(try simp only[aU]);(try simp only[aT]);refine bU (i:=16) (v:= ?_) rfl (by kernel_rfl) (by kernel_rfl) (by kernel_rfl) (λ_ _ _ h=>h) (Or.inl ⟨by kernel_rfl,?_⟩) ?_;rotate_left
   ·intro w;go_simp;try with_reducible rfl
   (try simp only[Act.put]);(try simp only[bG]);(try simp only[aU]);(try simp only[aT]);refine wpAny_done (by kernel_rfl) ?_ _;simp only[List.getElem_toArray,Ct,Cr,bG,aT,aU];go_wp2;go_ret;exact⟨by rw[HP.out];rfl,HB.out⟩
  exact eu
 exact eu
theorem Rj (r:Int) (v:Value) (W:World) (h:wQ W v) (hc:oV.contains r=false):Calls Tryz.prog 144 #[v, .int .i32 r] W (uG r W):=by
 obtain⟨z,hz⟩:∃z,qh.contains (Nn r)=z:=⟨_,rfl⟩
 have hp:bE r=z:=by unfold bE;rw[hc,hz];rfl
 have HZ:=ah hz;clear hz;obtain⟨B,o,rfl,hop,⟨d,c3,hdb⟩,i,c4,hi⟩:=h;have HDB:=ah hdb;obtain⟨D,oD,rfl⟩:∃D oD,d= .pointer (some ⟨D,oD,none⟩):=by obtain⟨D,o,_,_,_,rfl,_⟩:=hdb;exact⟨_,_,rfl⟩
 obtain⟨g,oI,cI,rfl,hle,hi⟩:=hi;have HI:=ah hi;have hk:=And.intro (aW c3) (aW c4);have key:∀w,Below W.heap.size W w->w.cell? ⟨B,o+3,none⟩=some (.pointer (some ⟨D,oD,none⟩))/\w.cell? ⟨B,o+4,none⟩=some (.slice (some ⟨g,oI,none⟩) 3 cI):=λw hb=>⟨by rw[hb.cell hk.1];exact c3,by rw[hb.cell hk.2];exact c4⟩
 have KEY:=ah key;have HB0:=ah ((aK W.heap.size W).alloc (ay _) fiveO);unfold fiveO at HB0;have HP:=ah hp;have HC:=ah hc;clear hp hc c3 c4 hi hk key hle hop hdb;go_enter Tryz.func144,Tryz.ntmps144;go_wp2_with fail;refine wp_region_any (by kernel_rfl) ?_;change wpAny _ _ _ _ _ _ _ (World.drew _);refine bU (i:=1) (v:= ?_) rfl (by kernel_rfl) (by kernel_rfl) (by kernel_rfl) (λ_ _ _ h=>h) (Or.inl ⟨by kernel_rfl,?_⟩) ?_;rotate_left
 ·intro w;go_simp;try with_reducible rfl
 (try simp only[Act.put]);(try simp only[bG]);(try simp only[aU]);(try simp only[aT]);refine eB (rs:=[0]) (by kernel_rfl) (by simp) ?_;refine dw rfl (λK hK=> ?_) ?_
 ·go_simp;have HB:=ah (EB HB0.out);obtain⟨k3,k4⟩:=KEY.out _ HB.out;refine hK _ _ ?_;clear hK K;refine eB (rs:=[2]) (by kernel_rfl) (by simp) ?_;refine dw rfl (λK hK=> ?_) ?_
  ·go_simp;refine(ze oV r W.heap.size 0 5 5 rfl (by decide) _ (five_cells W)).mono ?_;rintro e wz ⟨rfl,rfl⟩;rw[HC.out];dsimp only;refine hK _ _ ?_;clear hK K;refine bU (i:=3) (v:= ?_) rfl (by kernel_rfl) (by kernel_rfl) (by kernel_rfl) (λ_ _ _ h=>h) (Or.inl ⟨by kernel_rfl,?_⟩) ?_;rotate_left
   ·intro w;go_simp;try with_reducible rfl
   (try simp only[Act.put]);(try simp only[bG]);(try simp only[aU]);(try simp only[aT]);refine bU (i:=4) (v:= ?_) rfl (by kernel_rfl) (by kernel_rfl) (by kernel_rfl) (λ_ _ _ h=>h) (Or.inl ⟨by kernel_rfl,?_⟩) ?_;rotate_left
   ·intro w;go_simp;try with_reducible rfl
   (try simp only[Act.put]);(try simp only[bG]);(try simp only[aU]);(try simp only[aT]);refine bU (i:=5) (v:= ?_) rfl (by kernel_rfl) (by kernel_rfl) (by kernel_rfl) (λ_ _ _ h=>h) (Or.inl ⟨by kernel_rfl,?_⟩) ?_;rotate_left
   ·intro w;go_simp;try with_reducible rfl
   (try simp only[Act.put]);(try simp only[bG]);(try simp only[aU]);(try simp only[aT]);refine bU (i:=6) (v:= ?_) rfl (by kernel_rfl) (by kernel_rfl) (by kernel_rfl) (λ_ _ _ h=>h) (Or.inl ⟨by kernel_rfl,?_⟩) ?_;rotate_left
   ·intro w;go_simp;try with_reducible rfl
   (try simp only[Act.put]);(try simp only[bG]);(try simp only[aU]);(try simp only[aT]);refine bU (i:=8) (v:= ?_) rfl (by kernel_rfl) (by kernel_rfl) (by kernel_rfl) (λ_ _ _ h=>h) (Or.inl ⟨by kernel_rfl,?_⟩) ?_;rotate_left
   ·intro w;go_simp;try with_reducible rfl
   (try simp only[Act.put]);(try simp only[bG]);(try simp only[aU]);(try simp only[aT]);refine bU (i:=9) (v:= ?_) rfl (by kernel_rfl) (by kernel_rfl) (by kernel_rfl) (λ_ _ _ h=>h) (Or.inl ⟨by kernel_rfl,?_⟩) ?_;rotate_left
   ·intro w;go_simp;try with_reducible rfl
   (try simp only[Act.put]);(try simp only[bG]);(try simp only[aU]);(try simp only[aT]);refine bU (i:=10) (v:= ?_) rfl (by kernel_rfl) (by kernel_rfl) (by kernel_rfl) (λ_ _ _ h=>h) (Or.inl ⟨by kernel_rfl,?_⟩) ?_;rotate_left
   ·intro w;go_simp;try with_reducible rfl
   (try simp only[Act.put]);(try simp only[bG]);(try simp only[aU]);(try simp only[aT]);refine bU (i:=12) (v:= ?_) rfl (by kernel_rfl) (by kernel_rfl) (by kernel_rfl) (λ_ _ _ h=>h) (Or.inl ⟨by kernel_rfl,?_⟩) ?_;rotate_left
   ·intro w;go_simp;try with_reducible rfl
   (try simp only[Act.put]);(try simp only[bG]);(try simp only[aU]);(try simp only[aT]);refine eB (rs:=[7,11]) (by kernel_rfl) (by simp) ?_;refine dw rfl (λK hK=> ?_) ?_
   ·go_simp;refine hK _ _ ?_;clear hK K;refine eB (rs:=[11]) (by kernel_rfl) (by simp) ?_;refine dw rfl (λK hK=> ?_) ?_
    ·go_simp;refine hK _ _ ?_;clear hK K;refine eB (rs:=[13]) (by kernel_rfl) (by simp) ?_;refine dw rfl (λK hK=> ?_) ?_
     ·go_simp;refine(EA fB oW r _ 54 uF (by decide) _ (lC HDB.out HB.out)).mono ?_;rintro e wz ⟨rfl,hbz⟩;have HB:=ah (HB.out.trans (hbz.mono HB.out.size));clear hbz;obtain⟨k3,k4⟩:=KEY.out _ HB.out;dsimp only;refine hK _ _ ?_;clear hK K;refine eB (rs:=[14]) (by kernel_rfl) (by simp) ?_;refine dw rfl (λK hK=> ?_) ?_
      ·go_simp;refine(r9 qh (Nn r) g oI 3 cI rfl (by decide) _ (λj hj=>by rw[HB.out.cell (aW (HI.out j hj))];exact HI.out j hj)).mono ?_;rintro e wz ⟨rfl,rfl⟩;rw[HZ.out];dsimp only;refine hK _ _ ?_;clear hK K;refine bU (i:=15) (v:= ?_) rfl (by kernel_rfl) (by kernel_rfl) (by kernel_rfl) (λ_ _ _ h=>h) (Or.inl ⟨by kernel_rfl,?_⟩) ?_;rotate_left
       ·intro w;go_simp;try with_reducible rfl
       (try simp only[Act.put]);(try simp only[bG]);(try simp only[aU]);(try simp only[aT]);refine bU (i:=16) (v:= ?_) rfl (by kernel_rfl) (by kernel_rfl) (by kernel_rfl) (λ_ _ _ h=>h) (Or.inl ⟨by kernel_rfl,?_⟩) ?_;rotate_left
       ·intro w;go_simp;try with_reducible rfl
       (try simp only[Act.put]);(try simp only[bG]);(try simp only[aU]);(try simp only[aT]);refine wpAny_done (by kernel_rfl) ?_ _;simp only[List.getElem_toArray,Ct,Cr,bG,aT,aU];go_wp2;go_ret;exact⟨by rw[HP.out];rfl,HB.out⟩
      exact eu
     exact eu
    exact eu
   refine dw rfl (λK hK=> ?_) ?_
   ·go_simp;refine hK _ _ ?_;clear hK K;refine eB (rs:=[7,13]) (by kernel_rfl) (by simp) ?_;refine dw rfl (λK hK=> ?_) ?_
    ·go_simp;refine hK _ _ ?_;clear hK K;refine eB (rs:=[13]) (by kernel_rfl) (by simp) ?_;refine dw rfl (λK hK=> ?_) ?_
     ·go_simp;refine(EA fB oW r _ 54 uF (by decide) _ (lC HDB.out HB.out)).mono ?_;rintro e wz ⟨rfl,hbz⟩;have HB:=ah (HB.out.trans (hbz.mono HB.out.size));clear hbz;obtain⟨k3,k4⟩:=KEY.out _ HB.out;dsimp only;refine hK _ _ ?_;clear hK K;refine eB (rs:=[14]) (by kernel_rfl) (by simp) ?_;refine dw rfl (λK hK=> ?_) ?_
      ·go_simp;refine(r9 qh (Nn r) g oI 3 cI rfl (by decide) _ (λj hj=>by rw[HB.out.cell (aW (HI.out j hj))];exact HI.out j hj)).mono ?_;rintro e wz ⟨rfl,rfl⟩;rw[HZ.out];dsimp only;refine hK _ _ ?_;clear hK K;refine bU (i:=15) (v:= ?_) rfl (by kernel_rfl) (by kernel_rfl) (by kernel_rfl) (λ_ _ _ h=>h) (Or.inl ⟨by kernel_rfl,?_⟩) ?_;rotate_left
       ·intro w;go_simp;try with_reducible rfl
       (try simp only[Act.put]);(try simp only[bG]);(try simp only[aU]);(try simp only[aT]);refine bU (i:=16) (v:= ?_) rfl (by kernel_rfl) (by kernel_rfl) (by kernel_rfl) (λ_ _ _ h=>h) (Or.inl ⟨by kernel_rfl,?_⟩) ?_;rotate_left
       ·intro w;go_simp;try with_reducible rfl
       (try simp only[Act.put]);(try simp only[bG]);(try simp only[aU]);(try simp only[aT]);refine wpAny_done (by kernel_rfl) ?_ _;simp only[List.getElem_toArray,Ct,Cr,bG,aT,aU];go_wp2;go_ret;exact⟨by rw[HP.out];rfl,HB.out⟩
      exact eu
     exact eu
    refine dw rfl (λK hK=> ?_) ?_
    ·go_simp;refine(EA fB oW r _ 54 uF (by decide) _ (lC HDB.out HB.out)).mono ?_;rintro e wz ⟨rfl,hbz⟩;have HB:=ah (HB.out.trans (hbz.mono HB.out.size));clear hbz;obtain⟨k3,k4⟩:=KEY.out _ HB.out;dsimp only;refine hK _ _ ?_;clear hK K;refine eB (rs:=[7]) (by kernel_rfl) (by simp) ?_;refine dw rfl (λK hK=> ?_) ?_
     ·go_simp;refine hK _ _ ?_;clear hK K;refine eB (rs:=[14]) (by kernel_rfl) (by simp) ?_;refine dw rfl (λK hK=> ?_) ?_
      ·go_simp;refine(r9 qh (Nn r) g oI 3 cI rfl (by decide) _ (λj hj=>by rw[HB.out.cell (aW (HI.out j hj))];exact HI.out j hj)).mono ?_;rintro e wz ⟨rfl,rfl⟩;rw[HZ.out];dsimp only;refine hK _ _ ?_;clear hK K;refine bU (i:=15) (v:= ?_) rfl (by kernel_rfl) (by kernel_rfl) (by kernel_rfl) (λ_ _ _ h=>h) (Or.inl ⟨by kernel_rfl,?_⟩) ?_;rotate_left
       ·intro w;go_simp;try with_reducible rfl
       (try simp only[Act.put]);(try simp only[bG]);(try simp only[aU]);(try simp only[aT]);refine bU (i:=16) (v:= ?_) rfl (by kernel_rfl) (by kernel_rfl) (by kernel_rfl) (λ_ _ _ h=>h) (Or.inl ⟨by kernel_rfl,?_⟩) ?_;rotate_left
       ·intro w;go_simp;try with_reducible rfl
       (try simp only[Act.put]);(try simp only[bG]);(try simp only[aU]);(try simp only[aT]);refine wpAny_done (by kernel_rfl) ?_ _;simp only[List.getElem_toArray,Ct,Cr,bG,aT,aU];go_wp2;go_ret;exact⟨by rw[HP.out];rfl,HB.out⟩
      exact eu
     exact eu
    exact eu
   exact eu
  exact eu
 exact eu
theorem qF (r:Int) (v:Value) (W:World) (h:wQ W v):Calls Tryz.prog 144 #[v, .int .i32 r] W (uG r W):=by
 cases hc:oV.contains r;·exact Rj r v W h hc
 ·exact Np r v W h hc
def sO (rs:List Int):Nat->Option Nat
 |0=>none
 |k+1=>if bE (rs.getD k 0)=true then sO rs k else some k
def Ap (rs:List Int):Nat->Nat->Nat
 |0,j=>j
 |n+1,j=>if j<rs.length/\bE (rs.getD j 0)=true then Ap rs n (j+1)else j
def finalF (rs:List Int) (i:Nat):Bool:=match sO rs i with
 |none=>false
 |some k=>Cases.cased (rs.getD k 0)&&(decide (Ap rs rs.length (i+1)=rs.length)|| !Cases.cased (rs.getD (Ap rs rs.length (i+1)) 0))
theorem zf {w:World} {v:Value} (h:wQ w v):uh w v:=by obtain⟨_,_,_,h,_⟩:=h;exact h
theorem EC (r:Int) (v:Value) (w:World) (h:uh w v):Calls Tryz.prog 54 #[v, .int .i32 r] w λe w'=>e= .returned (.bool (Cases.cased r))/\Below w.heap.size w w':=Gn r v w (Et h)
def Aq (b:Bool) (W:World) (e:Ending) (w':World):Prop:=e= .returned (.bool b)/\Below W.heap.size W w'
theorem final_ok (rs:List Int) (v:Value) (g o n c i:Nat) (hn:rs.length=n) (hsm:n<=1000000) (hi:i<n) (W:World) (h:wQ W v) (hc:∀j,j<n->W.cell? ⟨g,o+j,none⟩=some (.int .i32 (rs.getD j 0))):
 Calls Tryz.prog 98 #[v, .slice (some ⟨g,o,none⟩) n c, .int .i64 i] W (Aq (finalF rs i) W):=by
 obtain⟨B,oB,rfl⟩:∃B o,v= .pointer (some ⟨B,o,none⟩):=by obtain⟨B,o,rfl,_⟩:=h;exact⟨B,o,rfl⟩
 obtain⟨z,hz⟩:∃z,finalF rs i=z:=⟨_,rfl⟩
 rw[hz]
 have HZ:=ah hz;have HO:=ah h;have HC:=ah hc;have HN:=ah hn
 clear hz h hc hn
 go_enter Tryz.func98,Tryz.ntmps98
 go_wp2
 go_loopw [7] (λa wr=>∃k:Nat,k<=i/\a= .int .i64 ((k:Int)-1)/\sO rs k=sO rs i/\Below W.heap.size W wr) (λa _=>(RowKit.intOf a+1).toNat)
 case atStart=>exact⟨i,ay _,rfl,rfl,aK _ _⟩
 case round=>
  obtain⟨k,hk,rfl,hbk,hb⟩:=hrel
  have HB:=ah hb;have WZ:=ah hbk;clear hb hbk
  rcases jG k with rfl|hpos
  ·have hz:z=false:=by rw[<-HZ.out];unfold finalF;rw[<-WZ.out];rfl
   have HZ2:=ah hz;clear hz
   go_wp2
   go_ret
   exact⟨by rw[HZ2.out];rfl,HB.out⟩
  ·obtain⟨k',rfl⟩:∃k',k=k'+1:=⟨k-1,by omega⟩
   have e1:((k'+1:Nat):Int)-1=(k':Int):=by omega
   rw[e1]
   clear e1 hpos
   have d1:=HC.out k' (by omega)
   have hg:=aW d1
   have d2:wr.cell? ⟨g,o+k',none⟩=_:=(HB.out.cell (p:=⟨g,o+k',none⟩) hg).trans d1
   obtain⟨r,hr⟩:∃r,rs.getD k' 0=r:=⟨_,rfl⟩
   rw[hr]at d2
   have HR:=ah hr
   clear hr d1 hg
   have hstep:sO rs (k'+1)=if bE r=true then sO rs k' else some k':=by show(if bE (rs.getD k' 0)=true then _ else _)=_;rw[HR.out]
   have HS:=ah hstep;clear hstep
   cases hp:bE r
   ·have HP:=Lib.hid hp;clear hp
    have hbf:sO rs i=some k':=by rw[<-WZ.out,HS.out,HP.out];rfl
    have Vn:=ah hbf;clear hbf
    cases hcs:Cases.cased r
    ·have hz:z=false:=by rw[<-HZ.out];unfold finalF;rw[Vn.out];dsimp only;rw[HR.out,hcs];rfl
     have HZ2:=ah hz;have vZ:=ah hcs;clear hz hcs
     go_wp2_with (first
      |(go_at_call 144
        refine(qF r _ _ (eT HO.out HB.out)).mono ?_
        rintro x wz ⟨rfl,hbz⟩
        rw[HP.out]
        have HB:=ah (HB.out.trans (hbz.mono HB.out.size));clear hbz
        have d2:wz.cell? ⟨g,o+k',none⟩=some (.int .i32 r):=by rw[HB.out.cell (aW (HC.out k' (by omega))),<-HR.out];exact HC.out k' (by omega))
      |(go_at_call 54
        refine(EC r _ _ (zf (eT HO.out HB.out))).mono ?_
        rintro x wz ⟨rfl,hbz⟩
        rw[vZ.out]
        have HB:=ah (HB.out.trans (hbz.mono HB.out.size));clear hbz))
     go_ret
     exact⟨by rw[HZ2.out];rfl,HB.out⟩
    ·have vZ:=Lib.hid hcs;clear hcs
     go_wp2_with (first
      |(go_at_call 144
        refine(qF r _ _ (eT HO.out HB.out)).mono ?_
        rintro x wz ⟨rfl,hbz⟩
        rw[HP.out]
        have HB:=ah (HB.out.trans (hbz.mono HB.out.size));clear hbz
        have d2:wz.cell? ⟨g,o+k',none⟩=some (.int .i32 r):=by rw[HB.out.cell (aW (HC.out k' (by omega))),<-HR.out];exact HC.out k' (by omega))
      |(go_at_call 54
        refine(EC r _ _ (zf (eT HO.out HB.out))).mono ?_
        rintro x wz ⟨rfl,hbz⟩
        rw[vZ.out]
        have HB:=ah (HB.out.trans (hbz.mono HB.out.size));clear hbz))
     go_loopw [7] (λa w2=>∃j f:Nat,j<=n/\a= .int .i64 j/\Ap rs f j=Ap rs n (i+1)/\n<=f+j/\Below W.heap.size W w2) (λa _=>n-(RowKit.intOf a).toNat)
     case atStart=>exact⟨i+1,n,hi,by go_num,rfl,by omega,HB.out⟩
     case round=>
      obtain⟨j,f,hjn,rfl,hon,hf,hb⟩:=hrel
      have HB:=ah hb;have Nq:=ah hon;clear hb hon
      by_cases hlt:j<n
      ·obtain⟨f',rfl⟩:∃f',f=f'+1:=⟨f-1,by omega⟩
       have d3:=HC.out j hlt
       have hg:=aW d3
       have d4:wr.cell? ⟨g,o+j,none⟩=_:=(HB.out.cell (p:=⟨g,o+j,none⟩) hg).trans d3
       obtain⟨r2,hr2⟩:∃r2,rs.getD j 0=r2:=⟨_,rfl⟩
       rw[hr2]at d4
       have HR2:=ah hr2
       clear hr2 d3 hg
       have hstep:Ap rs (f'+1) j=if bE r2=true then Ap rs f' (j+1)else j:=by
        show(if j<rs.length/\bE (rs.getD j 0)=true then _ else _)=_
        rw[HR2.out]
        by_cases q:bE r2=true
        ·rw[au ⟨by rw[HN.out];exact hlt,q⟩,au q]
        ·rw[aj (λh=>q h.2),aj q]
       have HS2:=ah hstep;clear hstep
       cases hp2:bE r2
       ·have ED:=ah hp2;clear hp2
        have aeF:Ap rs rs.length (i+1)=j:=by rw[HN.out,<-Nq.out,HS2.out,ED.out];rfl
        have hz:z= !Cases.cased r2:=by
         rw[<-HZ.out];unfold finalF;rw[Vn.out];dsimp only
         rw[HR.out,vZ.out,aeF,HR2.out,HN.out,aP (show ¬j=n by omega)];rfl
        have HZ2:=ah hz;clear hz aeF
        obtain⟨cz,hcz⟩:∃cz,Cases.cased r2=cz:=⟨_,rfl⟩
        rw[hcz]at HZ2
        have HCZ:=ah hcz;clear hcz
        have dn:((j:Int)==n)=false:=by rw[dH];omega
        have DN:=ah dn
        go_wp2_with (first
         |(go_at_call 144
           refine(qF r2 _ _ (eT HO.out HB.out)).mono ?_
           rintro x wy ⟨rfl,hbz⟩
           rw[ED.out]
           have HB:=ah (HB.out.trans (hbz.mono HB.out.size));clear hbz
           have d5:wy.cell? ⟨g,o+j,none⟩=some (.int .i32 r2):=by rw[HB.out.cell (aW (HC.out j hlt)),<-HR2.out];exact HC.out j hlt)
         |(go_at_call 54
           refine(EC r2 _ _ (zf (eT HO.out HB.out))).mono ?_
           rintro x wy ⟨rfl,hbz⟩
           rw[HCZ.out]
           have HB:=ah (HB.out.trans (hbz.mono HB.out.size));clear hbz))
        go_ret
        exact⟨by rw[HZ2.out];first|rfl|(show Ending.returned (.bool ((j:Int)==n|| !cz))=_;rw[DN.out];rfl),HB.out⟩
       ·have ED:=Lib.hid hp2;clear hp2
        go_wp2_with (go_at_call 144
                     refine(qF r2 _ _ (eT HO.out HB.out)).mono ?_
                     rintro x wy ⟨rfl,hbz⟩
                     rw[ED.out]
                     have HB:=ah (HB.out.trans (hbz.mono HB.out.size));clear hbz)
        refine⟨⟨j+1,f',by omega,by go_num,?_,by omega,HB.out⟩,by simp[RowKit.intOf];omega⟩
        rw[<-Nq.out,HS2.out,ED.out];rfl
      ·obtain rfl:j=n:=by omega
       have hend:Ap rs rs.length (i+1)=rs.length:=by
        rw[HN.out,<-Nq.out]
        cases f with
        |zero=>rfl
        |succ f'=>show(if j<rs.length/\_ then _ else _)=_;rw[aj (λh=>by have:=HN.out;omega)]
       have hz:z=true:=by rw[<-HZ.out];unfold finalF;rw[Vn.out];dsimp only;rw[HR.out,vZ.out,hend];simp
       have HZ2:=ah hz;clear hz hend
       go_wp2
       go_ret
       exact⟨by rw[HZ2.out];rfl,HB.out⟩
   ·have HP:=Lib.hid hp;clear hp
    go_wp2_with (go_at_call 144
                 refine(qF r _ _ (eT HO.out HB.out)).mono ?_
                 rintro x wz ⟨rfl,hbz⟩
                 rw[HP.out]
                 have HB:=ah (HB.out.trans (hbz.mono HB.out.size));clear hbz)
    refine⟨⟨k',by omega,by go_num,?_,HB.out⟩,?_⟩
    ·rw[<-WZ.out,HS.out,HP.out];rfl
    ·simp[RowKit.intOf];try omega
theorem finals_ok (rs:List Int) (hl:rs.length<=1000000) (v:Value) (W:World) (h:wQ W v):Vb v rs (finalF rs) W:=by intro w A c i hb hs hi;obtain⟨A',c',he,_,hc⟩:=hs;injection he with he1 he2 he3;subst he1;subst he3;obtain⟨g,o,rfl,hg⟩:=hc (by omega);exact final_ok rs v g o rs.length c i rfl hl hi w (eT h hb) hg
section
open Folds (dec bn bL)
theorem Nr (t:List UInt8) (fin:Nat->Bool) (v:Value) (W:World) (h:uh W v) (hT:Lib.Utf8Tabs 2 3 W) (hn:t.length<=100000) (hfin:Vb v (dD t) fin W):
 Calls Tryz.prog 51 #[v, .string ⟨t.toArray⟩, .int .i64 0] W (Q0 (Bn 0 fin t) W):=by
 obtain⟨B,o,rfl⟩:∃B o,v= .pointer (some ⟨B,o,none⟩):=by obtain⟨B,o,_,_,_,rfl,_⟩:=h;exact⟨B,o,rfl⟩
 have HR:=ah (Va t (by omega) W)
 obtain⟨s,hs⟩:∃s:ByteArray,(⟨t.toArray⟩:ByteArray)=s:=⟨_,rfl⟩
 rw[hs]at HR⊢
 have hss:s.size=t.length:=size_mk t s hs
 have HS:=ah hs;have HO:=ah h;have HT:=ah hT;have HF:=ah hfin;have BI:=ah hss;
 clear hs h hT hfin hss
 obtain⟨i0,hI0,hz0,hz1,hz2⟩:=gW Nh
 go_enter Tryz.func51,Tryz.ntmps51
 go_wp2_with (go_at_call 97;refine HR.out.mono ?_;rintro e w1 ⟨v7,rfl,hsl,hb1⟩;obtain⟨A7,c7,rfl,_⟩:=id hsl;have HSL:=ah hsl;have HB1:=ah hb1;clear hsl hb1)
 go_loopw [8,9] (λvl vi wr=>∃e n acc,vi= .int .i64 (acc:List Pc).length/\WL w1 s vl e acc wr/\e<=t.length/\t.length<n+e+1/\acc.length<=e/\acc++Yl (uw 0 fin) t n acc.length e=Bn 0 fin t/\acc.length+(aJ t n e).length=(marks t).length) (λ_ _ wr=>s.size-wr.iterPos w1.heap.size)
 case atStart=>
  exact⟨0,t.length,[],rfl,⟨(Below.refl _ w1).alloc (Nat.le_refl _) _,World.iter_heap w1 s 0,⟨rfl, .inl ⟨rfl,rfl⟩⟩⟩,Nat.zero_le _,by omega,Nat.le_refl _,rfl,by simp[marks]⟩
 case round=>
  obtain⟨e,n,acc,rfl,hWL,he,hne,hae,hl,hm⟩:=hrel
  obtain⟨A8,c8,rfl,_⟩:=bA hWL.own
  have hit:=hWL.it
  have hss:=BI.out
  obtain⟨m,hm'⟩:∃m,acc.length=m:=⟨_,rfl⟩
  rw[hm']at hae hl hm hWL⊢
  have HW:=ah hWL;clear hWL
  by_cases hlt:e<s.size
  ·have hlt2:e<t.length:=by omega
   obtain⟨n',rfl⟩:∃n',n=n'+1:=⟨n-1,by omega⟩
   have hnx:=λty=>run_next_any_at (P:=Tryz.prog) wr _ s e ty hit hlt
   rw[lV t e s HS.out]at hnx
   have hne2:t.drop e≠[]:=by intro c;rw[rP]at c;omega
   have hd1:=bn (t.drop e)
   have hd2:=bL (t.drop e) hne2
   rw[gP]at hd2
   unfold Yl at hl
   unfold aJ at hm
   rw[au hlt2]at hl hm
   rw[bT]at hm
   obtain⟨r,hr⟩:∃r,(dec (t.drop e)).1=r:=⟨_,rfl⟩
   obtain⟨wd,hwd⟩:∃wd,(dec (t.drop e)).2=wd:=⟨_,rfl⟩
   rw[hwd]at hd1 hd2 hm hl
   rw[hr]at hl
   rw[hr,hwd]at hnx
   obtain⟨ew,Rk⟩:∃ew,e+wd=ew:=⟨_,rfl⟩
   rw[Rk]at hnx hl hm
   obtain⟨m1,hm1⟩:∃m1,m+1=m1:=⟨_,rfl⟩
   have hwm:wrap64 ((m:Int)+1)=(m1:Int):=by unfold wrap64;omega
   obtain⟨e1,he1⟩:∃e1,e+1=e1:=⟨_,rfl⟩
   have hwr:wrap64 ((e:Int)+1)=(e1:Int):=by unfold wrap64;omega
   have hx1:=Vd t e s HS.out
   have hx2:=Ym t e s HS.out
   rw[he1]at hx2
   have hi0:(0:Int)<=e:=rQ e
   have hi1:(e:Int)<=s.size:=Int.ofNat_le.2 (iG hlt)
   have hi2:(e:Int)<=e1:=Int.ofNat_le.2 (he1▸Nat.le_succ e)
   have hi3:(e1:Int)<=s.size:=Int.ofNat_le.2 (he1▸hlt)
   have hml:m<(dD t).length:=by unfold dD;rw[bM,<-hm];exact Nat.lt_add_of_pos_right (ru _)
   have hone:Folds.one (uw 0 fin m) (t.drop e)=if r=65533/\wd=1 then(t.drop e).take 1 else uw 0 fin m r:=by unfold Folds.one;rw[hr,hwd]
   have Vo:=ah hone;have Rl:=ah hml;have HNE:=ah hne2;have HR2:=ah hr;have HWD:=ah hwd;have HL:=ah hl;have HM:=ah hm;have HEW:=ah Rk;have HM1:=ah hm1;have HWM:=ah hwm;have HLEN:=ah (LEN m hae he hn)
   have hsa:∀W,(Instr.slice 9 (.string s) (some (.int .i64 (e:Int))) none none).run Tryz.prog W= .ok (.string ⟨(t.drop e).toArray⟩) W:=λW=>by
    rw[run_slice_string_from_if _ _ _ _ _ Tryz.underlying9,au ⟨hi0,hi1⟩,mg,hx1]
   have hsb:∀W,(Instr.slice 9 (.string s) (some (.int .i64 (e:Int))) (some (.int .i64 (wrap64 ((e:Int)+1)))) none).run Tryz.prog W= .ok (.string ⟨((t.drop e).take 1).toArray⟩) W:=λW=>by
    rw[hwr,run_slice_string _ _ _ _ _ _ _ Tryz.underlying9 hi0 hi2 hi3,mg,mg,hx2]
   have HD:=ah (And.intro hd1 hd2)
   have HC:=ah (HW.out.iter (e':=ew))
   have HM2:=ah hm'
   rw[hm1]at HL
   clear hone hml hne2 hr hwd hl hm Rk hd1 hd2 hm' hm1 hwm
   have key:∀X:List UInt8,Folds.one (uw 0 fin m) (t.drop e)=X->∀(A':Option Addr) (c':Nat) (w':World),WL w1 s (.slice A' m1 c') ew (acc++[(e,r,X)]) w'->
    (∃e n acc',Value.int .i64 (m1:Int)= .int .i64 (acc':List Pc).length/\WL w1 s (.slice A' m1 c') e acc' w'/\e<=t.length/\t.length<n+e+1/\acc'.length<=e/\acc'++Yl (uw 0 fin) t n acc'.length e=Bn 0 fin t/\acc'.length+(aJ t n e).length=(marks t).length)/\s.size-w'.iterPos w1.heap.size<s.size-wr.iterPos w1.heap.size:=by
    intro X hX A' c' w' hw
    clear hnx hwr hx1 hx2 hi0 hi1 hi2 hi3 hsa hsb
    have hd:=HD.out;have Rk:=HEW.out;have hm':=HM2.out;have hm1:=HM1.out
    have hlen:(acc++[(e,r,X)]).length=m1:=by simp[hm',hm1]
    refine⟨⟨ew,n',acc++[(e,r,X)],by rw[hlen],hw,by omega,by omega,by rw[hlen];omega,?_,?_⟩,?_⟩
    ·rw[hlen,<-HL.out,hX,iL];rfl
    ·rw[hlen];have:=HM.out;omega
    ·have q1:w'.iterPos w1.heap.size=ew:=by unfold World.iterPos;rw[hw.it]
     have q2:wr.iterPos w1.heap.size=e:=by unfold World.iterPos;rw[HW.out.it]
     rw[q1,q2];omega
   have KEY:=ah key;clear key hwr hx1 hx2 hi0 hi1 hi2 hi3 he hne hae hn hss he1
   have hcases:(r=931/\fin m=true)\/(r=931/\fin m=false)\/(r≠931/\r≠65533)\/(r=65533/\wd=1)\/(r=65533/\wd≠1):=by
    by_cases b:r=931
    ·cases hf:fin m
     ·exact .inr (.inl ⟨b,rfl⟩)
     ·exact .inl ⟨b,rfl⟩
    ·by_cases d:r=65533
     ·by_cases e:wd=1
      ·exact .inr (.inr (.inr (.inl ⟨d,e⟩)))
      ·exact .inr (.inr (.inr (.inr ⟨d,e⟩)))
     ·exact .inr (.inr (.inl ⟨b,d⟩))
   rcases hcases with⟨rfl,c3⟩|⟨rfl,c3⟩|⟨c2,c3⟩|⟨rfl,rfl⟩|⟨rfl,c3⟩
   ·skip
    go_wp2_with (first
     |(go_at_call 56
       refine(form_ok 931 0 (by decide) _ _ (iO HO.out (HB1.out.trans (HC.out.aN.mono HB1.out.size)))).mono ?_
       rintro x wz ⟨v2,rfl,hs2,hb2⟩
       have HS2:=ah hs2;have HC:=ah (HC.out.below hb2);clear hs2 hb2)
     |(go_at_call 55
       refine(vU (formV 931 0) _ _ HS2.out (bF (formV_len 931 0) (by decide))).mono ?_
       rintro x wz ⟨rfl,hb3⟩
       have HC:=ah (HC.out.below hb3);clear hb3)
     |(go_at_call 98
       refine(HF.out _ A7 c7 m (HB1.out.trans (HC.out.aN.mono HB1.out.size)) (bD HSL.out HC.out.aN) Rl.out).mono ?_
       rintro x wz ⟨rfl,hb4⟩
       have HC:=ah (HC.out.below hb4);clear hb4
       try rw[c3])
     |(go_at_call 99
       refine(qC (t.drop e) HNE.out _ (jH (HB1.out.trans (HC.out.aN.mono HB1.out.size)) HT.out)).mono ?_
       rintro x wz ⟨rfl,hb5⟩
       rw[HR2.out,HWD.out]
       have HC:=ah (HC.out.below hb5);clear hb5)
     |(at_builtin
       (refine rW _ rfl (.tmp 56) (.tmp 61) 80 rfl w1.heap.size 83 i0 _ 3 32 Tryz.underlying80 hI0 hz0 hz1 hz2 rfl (by decide) (.slice A8 m c8) m (bR acc) rfl (dX HC.out.own') ⟨wz.heap.size,0,none⟩ 1 1 [.int .i64 e, .int .i32 931, .string ⟨([207,130]).toArray⟩] rfl rfl (lW _ _ _ _ _) (lX _ _ _) (by decide) HLEN.out.1 HLEN.out.2 (iR HC.out.aN.size) _ rfl ?_)
       intro g cap wq ho hg hl hs
       rw[HM1.out]at ho⊢
       have HG:=ah (WL.grown HC.out ho hg);clear ho hg hl hs hnx hsa hsb hit hlt hlt2))
    rw[HWM.out]
    exact KEY.out ([207,130]) (by rw[Vo.out,aj (λh=>absurd h.1 (by decide))];unfold uw;rw[au ⟨⟨rfl,rfl⟩,c3⟩]) _ _ _ HG.out
   ·skip
    go_wp2_with (first
     |(go_at_call 56
       refine(form_ok 931 0 (by decide) _ _ (iO HO.out (HB1.out.trans (HC.out.aN.mono HB1.out.size)))).mono ?_
       rintro x wz ⟨v2,rfl,hs2,hb2⟩
       have HS2:=ah hs2;have HC:=ah (HC.out.below hb2);clear hs2 hb2)
     |(go_at_call 55
       refine(vU (formV 931 0) _ _ HS2.out (bF (formV_len 931 0) (by decide))).mono ?_
       rintro x wz ⟨rfl,hb3⟩
       have HC:=ah (HC.out.below hb3);clear hb3)
     |(go_at_call 98
       refine(HF.out _ A7 c7 m (HB1.out.trans (HC.out.aN.mono HB1.out.size)) (bD HSL.out HC.out.aN) Rl.out).mono ?_
       rintro x wz ⟨rfl,hb4⟩
       have HC:=ah (HC.out.below hb4);clear hb4
       try rw[c3])
     |(go_at_call 99
       refine(qC (t.drop e) HNE.out _ (jH (HB1.out.trans (HC.out.aN.mono HB1.out.size)) HT.out)).mono ?_
       rintro x wz ⟨rfl,hb5⟩
       rw[HR2.out,HWD.out]
       have HC:=ah (HC.out.below hb5);clear hb5)
     |(at_builtin
       (refine rW _ rfl (.tmp 56) (.tmp 61) 80 rfl w1.heap.size 83 i0 _ 3 32 Tryz.underlying80 hI0 hz0 hz1 hz2 rfl (by decide) (.slice A8 m c8) m (bR acc) rfl (dX HC.out.own') ⟨wz.heap.size,0,none⟩ 1 1 [.int .i64 e, .int .i32 931, .string ⟨(mX (formV 931 0)).toArray⟩] rfl rfl (lW _ _ _ _ _) (lX _ _ _) (by decide) HLEN.out.1 HLEN.out.2 (iR HC.out.aN.size) _ rfl ?_)
       intro g cap wq ho hg hl hs
       rw[HM1.out]at ho⊢
       have HG:=ah (WL.grown HC.out ho hg);clear ho hg hl hs hnx hsa hsb hit hlt hlt2))
    rw[HWM.out]
    exact KEY.out (mX (formV 931 0)) (by rw[Vo.out,aj (λh=>absurd h.1 (by decide))];unfold uw;rw[aj (λh=>by rw[c3]at h;exact oN h.2)];rfl) _ _ _ HG.out
   ·skip
    have d4:decide ((r:Int)=931)=false:=aP (by omega)
    have d2:decide ((r:Int)=65533)=false:=aP (by omega)
    go_wp2_with (first
     |(go_at_call 56
       refine(form_ok r 0 (by decide) _ _ (iO HO.out (HB1.out.trans (HC.out.aN.mono HB1.out.size)))).mono ?_
       rintro x wz ⟨v2,rfl,hs2,hb2⟩
       have HS2:=ah hs2;have HC:=ah (HC.out.below hb2);clear hs2 hb2)
     |(go_at_call 55
       refine(vU (formV r 0) _ _ HS2.out (bF (formV_len r 0) (by decide))).mono ?_
       rintro x wz ⟨rfl,hb3⟩
       have HC:=ah (HC.out.below hb3);clear hb3)
     |(go_at_call 98
       refine(HF.out _ A7 c7 m (HB1.out.trans (HC.out.aN.mono HB1.out.size)) (bD HSL.out HC.out.aN) Rl.out).mono ?_
       rintro x wz ⟨rfl,hb4⟩
       have HC:=ah (HC.out.below hb4);clear hb4
       try rw[c3])
     |(go_at_call 99
       refine(qC (t.drop e) HNE.out _ (jH (HB1.out.trans (HC.out.aN.mono HB1.out.size)) HT.out)).mono ?_
       rintro x wz ⟨rfl,hb5⟩
       rw[HR2.out,HWD.out]
       have HC:=ah (HC.out.below hb5);clear hb5)
     |(at_builtin
       (refine rW _ rfl (.tmp 56) (.tmp 61) 80 rfl w1.heap.size 83 i0 _ 3 32 Tryz.underlying80 hI0 hz0 hz1 hz2 rfl (by decide) (.slice A8 m c8) m (bR acc) rfl (dX HC.out.own') ⟨wz.heap.size,0,none⟩ 1 1 [.int .i64 e, .int .i32 r, .string ⟨(mX (formV r 0)).toArray⟩] rfl rfl (lW _ _ _ _ _) (lX _ _ _) (by decide) HLEN.out.1 HLEN.out.2 (iR HC.out.aN.size) _ rfl ?_)
       intro g cap wq ho hg hl hs
       rw[HM1.out]at ho⊢
       have HG:=ah (WL.grown HC.out ho hg);clear ho hg hl hs hnx hsa hsb hit hlt hlt2))
    rw[HWM.out]
    exact KEY.out (mX (formV r 0)) (by rw[Vo.out,aj (λh=>c3 h.1)];unfold uw;rw[aj (λh=>c2 h.1.2)]) _ _ _ HG.out
   ·skip
    go_wp2_with (first
     |(go_at_call 56
       refine(form_ok 65533 0 (by decide) _ _ (iO HO.out (HB1.out.trans (HC.out.aN.mono HB1.out.size)))).mono ?_
       rintro x wz ⟨v2,rfl,hs2,hb2⟩
       have HS2:=ah hs2;have HC:=ah (HC.out.below hb2);clear hs2 hb2)
     |(go_at_call 55
       refine(vU (formV 65533 0) _ _ HS2.out (bF (formV_len 65533 0) (by decide))).mono ?_
       rintro x wz ⟨rfl,hb3⟩
       have HC:=ah (HC.out.below hb3);clear hb3)
     |(go_at_call 98
       refine(HF.out _ A7 c7 m (HB1.out.trans (HC.out.aN.mono HB1.out.size)) (bD HSL.out HC.out.aN) Rl.out).mono ?_
       rintro x wz ⟨rfl,hb4⟩
       have HC:=ah (HC.out.below hb4);clear hb4
       try rw[c3])
     |(go_at_call 99
       refine(qC (t.drop e) HNE.out _ (jH (HB1.out.trans (HC.out.aN.mono HB1.out.size)) HT.out)).mono ?_
       rintro x wz ⟨rfl,hb5⟩
       rw[HR2.out,HWD.out]
       have HC:=ah (HC.out.below hb5);clear hb5)
     |(at_builtin
       (refine rW _ rfl (.tmp 56) (.tmp 61) 80 rfl w1.heap.size 83 i0 _ 3 32 Tryz.underlying80 hI0 hz0 hz1 hz2 rfl (by decide) (.slice A8 m c8) m (bR acc) rfl (dX HC.out.own') ⟨wz.heap.size,0,none⟩ 1 1 [.int .i64 e, .int .i32 65533, .string ⟨((t.drop e).take 1).toArray⟩] rfl rfl (lW _ _ _ _ _) (lX _ _ _) (by decide) HLEN.out.1 HLEN.out.2 (iR HC.out.aN.size) _ rfl ?_)
       intro g cap wq ho hg hl hs
       rw[HM1.out]at ho⊢
       have HG:=ah (WL.grown HC.out ho hg);clear ho hg hl hs hnx hsa hsb hit hlt hlt2))
    rw[HWM.out]
    exact KEY.out ((t.drop e).take 1) (by rw[Vo.out,au (by simp)]) _ _ _ HG.out
   ·skip
    have d3:decide ((wd:Int)=1)=false:=aP (by omega)
    go_wp2_with (first
     |(go_at_call 56
       refine(form_ok 65533 0 (by decide) _ _ (iO HO.out (HB1.out.trans (HC.out.aN.mono HB1.out.size)))).mono ?_
       rintro x wz ⟨v2,rfl,hs2,hb2⟩
       have HS2:=ah hs2;have HC:=ah (HC.out.below hb2);clear hs2 hb2)
     |(go_at_call 55
       refine(vU (formV 65533 0) _ _ HS2.out (bF (formV_len 65533 0) (by decide))).mono ?_
       rintro x wz ⟨rfl,hb3⟩
       have HC:=ah (HC.out.below hb3);clear hb3)
     |(go_at_call 98
       refine(HF.out _ A7 c7 m (HB1.out.trans (HC.out.aN.mono HB1.out.size)) (bD HSL.out HC.out.aN) Rl.out).mono ?_
       rintro x wz ⟨rfl,hb4⟩
       have HC:=ah (HC.out.below hb4);clear hb4
       try rw[c3])
     |(go_at_call 99
       refine(qC (t.drop e) HNE.out _ (jH (HB1.out.trans (HC.out.aN.mono HB1.out.size)) HT.out)).mono ?_
       rintro x wz ⟨rfl,hb5⟩
       rw[HR2.out,HWD.out]
       have HC:=ah (HC.out.below hb5);clear hb5)
     |(at_builtin
       (refine rW _ rfl (.tmp 56) (.tmp 61) 80 rfl w1.heap.size 83 i0 _ 3 32 Tryz.underlying80 hI0 hz0 hz1 hz2 rfl (by decide) (.slice A8 m c8) m (bR acc) rfl (dX HC.out.own') ⟨wz.heap.size,0,none⟩ 1 1 [.int .i64 e, .int .i32 65533, .string ⟨(mX (formV 65533 0)).toArray⟩] rfl rfl (lW _ _ _ _ _) (lX _ _ _) (by decide) HLEN.out.1 HLEN.out.2 (iR HC.out.aN.size) _ rfl ?_)
       intro g cap wq ho hg hl hs
       rw[HM1.out]at ho⊢
       have HG:=ah (WL.grown HC.out ho hg);clear ho hg hl hs hnx hsa hsb hit hlt hlt2))
    rw[HWM.out]
    exact KEY.out (mX (formV 65533 0)) (by rw[Vo.out,aj (λh=>c3 h.2)];unfold uw;rw[aj (λh=>absurd h.1.2 (by decide))];rfl) _ _ _ HG.out
  ·have hnx:=λty=>run_next_end_at (P:=Tryz.prog) wr _ s e ty hit hlt
   have hee:e=t.length:=by omega
   have hz:Yl (uw 0 fin) t n m e=[]:=by
    subst hee
    cases n with
    |zero=>rfl
    |succ n'=>show(if t.length<t.length then _ else _)=_;rw[aj (dA _)]
   rw[hz,ji]at hl
   have HL:=ah hl;have HM2:=ah hm'
   clear hl hz hm hm' he hne hae hss hee hn
   go_wp2
   go_ret
   refine⟨_,rfl,?_,HB1.out.trans (HW.out.aN.mono HB1.out.size)⟩
   rw[<-HL.out,HM2.out]
   exact U4 HW.out.own' (λg hg=>bF HB1.out.size (dO HW.out.own' hg).1)
end
def EF (w:World):Prop:=Calls Tryz.prog 50 #[] w λe w'=>∃v,e= .returned v/\wQ w' v/\Below w.heap.size w w'
theorem KX (t:List UInt8):(dD t).length<=t.length:=by unfold dD marks;rw[bM];have:=vV t t.length 0 (aL _);omega
section
open Cases (smalls fO)
open Folds (dec bn bL)
theorem Rm (A B:List Pc) (p:Pc) (X:List UInt8):(bR (A++p::B)).set (A.length*3+2) (.string ⟨X.toArray⟩)=bR (A++(p.1,p.2.1,X)::B):=by rw[uq,uq,<-KV A,List.set_append_right _ _ (by omega),uW];rfl
theorem Yu (A B:List Pc) (p:Pc):(A++p::B).getD A.length Pn=p:=by rw[aG,pG (ay _),uR];rfl
theorem Vp (l:List Pc) (k:Nat) (h:k<l.length):l.drop k=l.getD k Pn::l.drop (k+1):=by rw[pK h,aG,aS h];rfl
structure RowK (w:World) (base g n c k:Nat) (A B:List Pc) (p:Pc):Prop where
 own:w.ownsRow base 83 3 (.slice (some ⟨g,0,none⟩) n c) n (bR (A++p::B))
 len:A.length=k
theorem RowK.cells {w:World} {base g n c k:Nat} {A B:List Pc} {p:Pc} (h:RowK w base g n c k A B p) (hk:k<n):
 w.cell? ⟨g,k*3,none⟩=some (.int .i64 p.1)/\w.cell? ⟨g,k*3+1,none⟩=some (.int .i32 p.2.1)/\w.cell? ⟨g,k*3+2,none⟩=some (.string ⟨p.2.2.toArray⟩)/\w.frozen? ⟨g,k*3+2,none⟩=false/\base<=g/\g<w.heap.size:=by
 obtain⟨h1,h2⟩:=h;have hl:k<(A++p::B).length:=by rw[bV,bT,<-h2];omega
 have hg:=uy (A++p::B) k hl;rw[<-h2,Yu,h2]at hg;refine⟨?_,?_,?_,h1.frozenAt _,?_⟩;·rw[h1.cellAt _ (by omega)];exact hg.1
 ·rw[h1.cellAt _ (by omega)];exact hg.2.1
 ·rw[h1.cellAt _ (by omega)];exact hg.2.2
 ·exact⟨(dO h1 rfl).1,(dO h1 rfl).2.1⟩
theorem RowK.set {w:World} {base g n c k:Nat} {A B:List Pc} {p:Pc} (h:RowK w base g n c k A B p) (X:List UInt8):
 (w.setCell ⟨g,k*3+2,none⟩ (.string ⟨X.toArray⟩)).ownsRow base 83 3 (.slice (some ⟨g,0,none⟩) n c) n (bR ((A++[(p.1,p.2.1,X)])++B)):=by
 obtain⟨h1,rfl⟩:=h;have h2:=(h1.stored (A.length*3+2) (.string ⟨X.toArray⟩)).1;rw[Rm]at h2;rw[iL];exact h2
