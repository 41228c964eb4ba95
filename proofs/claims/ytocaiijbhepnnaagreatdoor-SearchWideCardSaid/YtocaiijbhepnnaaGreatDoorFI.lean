/- SearchWide, walked: the classes of runes; slices.BinarySearch. -/
import Derived.Test.YtocaiijbhepnnaaGreatDoorFB
set_option maxRecDepth 100000
set_option maxHeartbeats 4000000
namespace Go.Proofs.YtocaiijbhepnnaaGreatDoor.searchWide
open Go.Shelf Go.RowKit Go.Lib Go.Proofs.YtocaiijbhepnnaaGreatDoor.Am
theorem EL (r:Int) (w:World):Calls Tryz.prog 268 #[.int .i32 r] w λe w'=>e= .returned (.bool false)/\w'=w:=by go_enter Tryz.func268,Tryz.ntmps268;go_wp2;go_ret;exact⟨by simp,rfl⟩
def JI (x y:Int):Int:=if x<y then-1 else if y<x then 1 else 0
theorem Oi (x y:Int) (w:World):Calls Tryz.prog 207 #[.int .i32 x, .int .i32 y] w λe w'=>e= .returned (.int .i64 (JI x y))/\w'=w:=by
 by_cases h1:x<y;·have d1:decide (x<y)=true:=bg h1;go_enter Tryz.func207,Tryz.ntmps207;go_wp2_with (go_at_call 268;refine(EL _ _).mono ?_;rintro e w1 ⟨rfl,rfl⟩);go_ret;exact⟨by unfold JI;rw[au h1];rfl,rfl⟩
 ·by_cases h2:y<x
  ·have d1:decide (x<y)=false:=bK h1;have d2:decide (y<x)=true:=bg h2;go_enter Tryz.func207,Tryz.ntmps207;go_wp2_with (go_at_call 268;refine(EL _ _).mono ?_;rintro e w1 ⟨rfl,rfl⟩);go_ret;exact⟨by unfold JI;rw[ak (Int.not_lt.2 h1),au h2];rfl,rfl⟩
  ·have d1:decide (x<y)=false:=bK h1;have d2:decide (y<x)=false:=bK h2;go_enter Tryz.func207,Tryz.ntmps207;go_wp2_with (go_at_call 268;refine(EL _ _).mono ?_;rintro e w1 ⟨rfl,rfl⟩);go_ret;exact⟨by unfold JI;rw[ak (Int.not_lt.2 h1),ak (Int.not_lt.2 h2)];rfl,rfl⟩
theorem vV (lo hi c r:Int) (w:World):Calls Tryz.prog 214 #[.agg #[.int .i32 lo, .int .i32 hi, .int .i64 c], .int .i32 r] w λe w'=>e= .returned (.int .i64 (JI hi r))/\Below w.heap.size w w':=by go_enter Tryz.func214,Tryz.ntmps214;go_wp2_with (go_at_call 207;refine(Oi _ _ _).mono ?_;rintro e w1 ⟨rfl,rfl⟩);go_ret;exact⟨rfl,(aM _ w).alloc (ay _) _⟩
def fT (l:List gJ) (r:Int):Int:=match l.find? (λx=>decide (r<=x.2.1))with
 |some x=>if x.1<=r then x.2.2 else 0
 |none=>0
def posOf (l:List gJ) (r:Int):Nat:=l.findIdx (λx=>decide (r<=x.2.1))
def F6:List gJ->Bool
 |[]=>true
 |[_]=>true
 |x::y::l=>decide (x.2.1<y.2.1)&&F6 (y::l)
theorem Qj:∀{l:List gJ} {x:gJ},F6 (x::l)=true->∀y∈l,x.2.1<y.2.1
 |[],_,_,y,hy=>by cases hy
 |z::l,x,h,y,hy=>by
  unfold F6 at h;rw[aP,bf]at h;rcases aT.1 hy with rfl|hy;·exact h.1
  ·have:=Qj h.2 y hy;omega
theorem zk:∀{l:List gJ},F6 l=true->∀i j,i<j->j<l.length->(l.getD i nZ).2.1<(l.getD j nZ).2.1
 |[],_,_,j,_,hj=>by simp at hj
 |x::l,h,0,j+1,_,hj=>by
  have hj':j<l.length:=by simpa using hj
  have hm:l.getD j nZ∈l:=by rw[aU,bJ hj'];exact mK hj'
  have:=Qj h _ hm;simpa using this
 |x::l,h,i+1,j+1,hij,hj=>by
  have h':F6 l=true:=by
   cases l with
   |nil=>rfl
   |cons y l=>unfold F6 at h;rw[aP]at h;exact h.2
  have:=zk h' i j (by omega) (by simpa using hj);simpa using this
theorem Wh (l:List gJ) (r:Int) (i:Nat) (hi:i<=l.length) (h1:∀k,k<i->(l.getD k nZ).2.1<r) (h2:∀k,i<=k->k<l.length->r<=(l.getD k nZ).2.1):posOf l r=i:=by
 unfold posOf;rcases aN i l.length with c|c;·rw[List.findIdx_eq c];have e:=h2 i (ay _) c;rw[aU,bJ c]at e;refine⟨bg e,λj hj=> ?_⟩;have e:=h1 j hj;rw[aU,bJ (show j<l.length by omega)]at e;exact bK (o9.2 e)
 ·obtain rfl:i=l.length:=by omega
  rw[List.findIdx_eq_length];intro x hx;obtain⟨j,hj,rfl⟩:=rJ.1 hx;have e:=h1 j hj;rw[aU,bJ hj]at e;exact bK (o9.2 e)
theorem Wi (l:List gJ) (r:Int):posOf l r<=l.length:=List.findIdx_le_length
theorem Sg (l:List gJ) (r:Int):fT l r=if posOf l r<l.length/\(l.getD (posOf l r) nZ).1<=r then(l.getD (posOf l r) nZ).2.2 else 0:=by
 unfold fT posOf;rcases aN (l.findIdx λx=>decide (r<=x.2.1)) l.length with c|c
 ·have hf:l.find? (λx=>decide (r<=x.2.1))=some l[l.findIdx λx=>decide (r<=x.2.1)]:=by rw[List.find?_eq_some_iff_getElem];exact⟨List.findIdx_getElem (w:=c),_,c,rfl,λj hj=>by have:=List.not_of_lt_findIdx hj;simpa using this⟩
  rw[hf,aU,bJ c];dsimp only[Option.getD_some];by_cases d:(l[l.findIdx λx=>decide (r<=x.2.1)]).1<=r;·rw[au d,au ⟨c,d⟩]
  ·rw[ak d,ak (λh=>d h.2)]
 ·have hf:l.find? (λx=>decide (r<=x.2.1))=none:=by rw[List.find?_eq_none];have:=List.findIdx_eq_length.1 (Nat.le_antisymm List.findIdx_le_length c);intro x hx;rw[this x hx];exact AP
  rw[hf,ak (λh=>by omega)]
def Qk (l:List gJ) (r:Int) (W:World) (e:Ending) (w':World):Prop:=(∃b,e= .returned (.tuple #[.int .i64 (posOf l r), .bool b]))/\Below W.heap.size W w'
theorem Oj (y r:Int):(y<r/\JI y r= -1)\/(r<y/\JI y r=1)\/(y=r/\JI y r=0):=by
 unfold JI;rcases Int.lt_trichotomy y r with h|h|h;·exact .inl ⟨h,au h⟩
 ·subst h;exact .inr (.inr ⟨rfl,by simp⟩)
 ·exact .inr (.inl ⟨h,by rw[ak (by omega),au h]⟩)
theorem acG (l:List gJ) (hl:F6 l=true) (r:Int) (R oR c n:Nat) (hn:l.length=n) (hsm:n<=100000) (W:World)
 (hc:∀k,k<n->W.cell? ⟨R,oR+k*3,none⟩=some (.int .i32 (l.getD k nZ).1)/\W.cell? ⟨R,oR+k*3+1,none⟩=some (.int .i32 (l.getD k nZ).2.1)/\W.cell? ⟨R,oR+k*3+2,none⟩=some (.int .i64 (l.getD k nZ).2.2)):
 Calls Tryz.prog 213 #[.slice (some ⟨R,oR,none⟩) n c, .int .i32 r, .func (.func 214) #[] #[]] W (Qk l r W):=by
 have HC:=ah hc;have HN:=ah hn;have HA:=ah hl
 clear hc hn hl
 go_enter Tryz.func213,Tryz.ntmps213
 go_wp2
 go_loopw [9,10] (λa b wr=>∃i j:Nat,i<=j/\j<=n/\a= .int .i64 i/\b= .int .i64 j/\(∀k,k<i->(l.getD k nZ).2.1<r)/\(∀k,j<=k->k<n->r<=(l.getD k nZ).2.1)/\Below W.heap.size W wr) (λa b _=>(RowKit.intOf b).toNat-(RowKit.intOf a).toNat)
 case atStart=>exact⟨0,n,aL _,ay _,rfl,rfl,λk hk=>by omega,λk h1 h2=>by omega,aM _ _⟩
 case round=>
  obtain⟨i,j,hij,hjn,rfl,rfl,h1,h2,hb⟩:=hrel
  have H1:=ah h1;have H2:=ah h2;have HB:=ah hb;clear h1 h2 hb
  by_cases hlt:i<j
  ·have hm1:(i+j)/2<n:=by omega
   obtain⟨f0,f1,f2⟩:=HC.out ((i+j)/2) hm1
   have hg:=fQ f0
   have g0:wr.cell? ⟨R,oR+(i+j)/2*3,none⟩=_:=(HB.out.cell (p:=⟨R,oR+(i+j)/2*3,none⟩) hg).trans f0
   have g1:wr.cell? ⟨R,oR+(i+j)/2*3+1,none⟩=_:=(HB.out.cell (p:=⟨R,oR+(i+j)/2*3+1,none⟩) hg).trans f1
   have g2:wr.cell? ⟨R,oR+(i+j)/2*3+2,none⟩=_:=(HB.out.cell (p:=⟨R,oR+(i+j)/2*3+2,none⟩) hg).trans f2
   clear f0 f1 f2 hg
   obtain⟨p,hp⟩:∃p,l.getD ((i+j)/2) nZ=p:=⟨_,rfl⟩
   rw[hp]at g0 g1 g2
   have HP:=ah hp;clear hp
   obtain⟨lo,y,cl⟩:=p
   dsimp only at g0 g1 g2
   rcases Oj y r with⟨hy,hcm⟩|⟨hy,hcm⟩|⟨hy,hcm⟩
   ·go_wp2_with (go_at_call 214
                 refine(vV lo y cl r _).mono ?_
                 rintro x wz ⟨rfl,hbz⟩
                 rw[hcm]
                 have HBZ:=ah (HB.out.trans (hbz.mono HB.out.size));clear hbz g0 g1 g2)
    go_roundw
    case rel=>
     refine⟨(i+j)/2+1,j,by omega,hjn,by rw[show((i:Int)+(j:Int))/2+1=(((i+j)/2+1:Nat):Int)by omega],rfl,λk hk=> ?_,H2.out,HBZ.out⟩
     rcases aN k ((i+j)/2)with d|d
     ·have:=zk HA.out k ((i+j)/2) d (by rw[HN.out];exact hm1)
      rw[HP.out]at this
      exact Int.lt_trans this hy
     ·obtain rfl:k=(i+j)/2:=by omega
      rw[HP.out];exact hy
    case measure=>simp[RowKit.intOf];omega
   ·go_wp2_with (go_at_call 214
                 refine(vV lo y cl r _).mono ?_
                 rintro x wz ⟨rfl,hbz⟩
                 rw[hcm]
                 have HBZ:=ah (HB.out.trans (hbz.mono HB.out.size));clear hbz g0 g1 g2)
    go_roundw
    case rel=>
     refine⟨i,(i+j)/2,by omega,by omega,rfl,by rw[show((i:Int)+(j:Int))/2=(((i+j)/2:Nat):Int)by omega],H1.out,λk h1 h2=> ?_,HBZ.out⟩
     rcases aN ((i+j)/2) k with d|d
     ·have:=zk HA.out ((i+j)/2) k d (by rw[HN.out];exact h2)
      rw[HP.out]at this
      exact Int.le_of_lt (Int.lt_trans hy this)
     ·obtain rfl:k=(i+j)/2:=by omega
      rw[HP.out];exact Int.le_of_lt hy
    case measure=>simp[RowKit.intOf];omega
   ·subst hy
    go_wp2_with (go_at_call 214
                 refine(vV lo y cl y _).mono ?_
                 rintro x wz ⟨rfl,hbz⟩
                 rw[hcm]
                 have HBZ:=ah (HB.out.trans (hbz.mono HB.out.size));clear hbz g0 g1 g2)
    go_roundw
    case rel=>
     refine⟨i,(i+j)/2,by omega,by omega,rfl,by rw[show((i:Int)+(j:Int))/2=(((i+j)/2:Nat):Int)by omega],H1.out,λk h1 h2=> ?_,HBZ.out⟩
     rcases aN ((i+j)/2) k with d|d
     ·have:=zk HA.out ((i+j)/2) k d (by rw[HN.out];exact h2)
      rw[HP.out]at this
      exact Int.le_of_lt this
     ·obtain rfl:k=(i+j)/2:=by omega
      rw[HP.out];exact Int.le_refl _
    case measure=>simp[RowKit.intOf];omega
  ·obtain rfl:i=j:=by omega
   have hpos:posOf l r=i:=Wh l r i (by rw[HN.out];exact hjn) H1.out (λk h1 h2=>H2.out k h1 (by rw[<-HN.out];exact h2))
   have afB:=ah hpos;clear hpos
   by_cases hin:i<n
   ·obtain⟨f0,f1,f2⟩:=HC.out i hin
    have hg:=fQ f0
    have g0:wr.cell? ⟨R,oR+i*3,none⟩=_:=(HB.out.cell (p:=⟨R,oR+i*3,none⟩) hg).trans f0
    have g1:wr.cell? ⟨R,oR+i*3+1,none⟩=_:=(HB.out.cell (p:=⟨R,oR+i*3+1,none⟩) hg).trans f1
    have g2:wr.cell? ⟨R,oR+i*3+2,none⟩=_:=(HB.out.cell (p:=⟨R,oR+i*3+2,none⟩) hg).trans f2
    clear f0 f1 f2 hg
    obtain⟨p,hp⟩:∃p,l.getD i nZ=p:=⟨_,rfl⟩
    rw[hp]at g0 g1 g2
    obtain⟨lo,y,cl⟩:=p
    dsimp only at g0 g1 g2
    go_wp2_with (go_at_call 214
                 refine(vV lo y cl r _).mono ?_
                 rintro x wz ⟨rfl,hbz⟩
                 have HBZ:=ah (HB.out.trans (hbz.mono HB.out.size));clear hbz g0 g1 g2)
    go_ret2
    exact⟨⟨_,by rw[afB.out];rfl⟩,HBZ.out⟩
   ·go_wp2
    go_ret2
    exact⟨⟨_,by rw[afB.out];rfl⟩,HB.out⟩
def fD (r:Int):Int:=if r<0\/1114111<r then 65533 else r
def JJ (c:Int) (W:World) (e:Ending) (w':World):Prop:=e= .returned (.int .i64 c)/\Below W.heap.size W w'
theorem Ol (l:List gJ) (hl:F6 l=true) (r:Int) (v:Value) (n:Nat) (hn:l.length=n) (hsm:n<=100000) (W:World) (h:Ew W v l):
 Calls Tryz.prog 146 #[v, .int .i32 r] W (JJ (fT l (fD r)) W):=by
 obtain⟨D,o,R,oR,c,rfl,c1,c2,c3⟩:=h;rw[hn]at c1 c2 c3;rw[Sg,hn];obtain⟨x,hx⟩:∃x,fD r=x:=⟨_,rfl⟩
 have Ql:=ah (acG l hl x R oR c n hn hsm W c3);have TA:=ah (Wi l x);have HX:=ah hx;rw[hx];have HC:=ah c3;have HN:=ah hn;obtain⟨p,hp⟩:∃p,posOf l x=p:=⟨_,rfl⟩
 unfold Qk at Ql;rw[hp]at Ql TA;rw[hp];clear hx hp c3 hl hn;have hD:=fQ c1;have key:∀wz:World,Below W.heap.size W wz->wz.cell? ⟨D,o+3,none⟩=some (.slice (some ⟨R,oR,none⟩) n c):=λwz hb=>by rw[hb.cell hD];exact c1
 have KEY:=ah key;clear key hD;have hrx:(r<0/\x=65533)\/(¬r<0/\1114111<r/\x=65533)\/(¬r<0/\¬1114111<r/\x=r):=by
  have:=HX.out;unfold fD at this;by_cases a:r<0;·rw[au (.inl a)]at this;exact .inl ⟨a,this.symm⟩
  ·by_cases b:1114111<r
   ·rw[au (.inr b)]at this;exact .inr (.inl ⟨a,b,this.symm⟩)
   ·rw[ak (by omega)]at this;exact .inr (.inr ⟨a,b,this.symm⟩)
 have hend:(¬p<n)\/(p<n/\¬(l.getD p nZ).1<=x)\/(p<n/\(l.getD p nZ).1<=x):=by
  by_cases a:p<n
  ·by_cases b:(l.getD p nZ).1<=x
   ·exact .inr (.inr ⟨a,b⟩)
   ·exact .inr (.inl ⟨a,b⟩)
  ·exact .inl a
 rcases hrx with⟨r1,rfl⟩|⟨r1,r2,rfl⟩|⟨r1,r2,rfl⟩<;>rcases hend with e1|⟨e1,e2⟩|⟨e1,e2⟩
 ·have dp:decide ((p:Int)<n)=false:=bK (by omega);have E1:=ah e1;clear e1;obtain⟨res,hres⟩:∃res,(if p<n/\(l.getD p nZ).1<=65533 then(l.getD p nZ).2.2 else 0)=res:=⟨_,rfl⟩
  rw[hres];have uo:=ah hres;clear hres;go_enter Tryz.func146,Tryz.ntmps146;go_wp2_with fail;refine Ql.out.mono ?_;rintro e wz ⟨⟨b,rfl⟩,hb⟩;have k1:=KEY.out wz hb;have HB:=ah hb;clear hb;dsimp only;go_wp2;all_goals go_ret
  all_goals exact⟨by rw[<-uo.out,ak (λh=>absurd h.1 E1.out)];rfl,HB.out⟩
 ·have dp:decide ((p:Int)<n)=true:=bg (by omega);have E1:=ah e1;have E2:=ah e2;clear e1 e2;obtain⟨res,hres⟩:∃res,(if p<n/\(l.getD p nZ).1<=65533 then(l.getD p nZ).2.2 else 0)=res:=⟨_,rfl⟩
  rw[hres];have uo:=ah hres;clear hres;go_enter Tryz.func146,Tryz.ntmps146;go_wp2_with fail;refine Ql.out.mono ?_;rintro e wz ⟨⟨b,rfl⟩,hb⟩;have k1:=KEY.out wz hb;have HB:=ah hb;obtain⟨f0,f1,f2⟩:=HC.out p E1.out;have hg:=fQ f0;have g0:wz.cell? ⟨R,oR+p*3,none⟩=_:=(hb.cell (p:=⟨R,oR+p*3,none⟩) hg).trans f0;have g1:wz.cell? ⟨R,oR+p*3+1,none⟩=_:=(hb.cell (p:=⟨R,oR+p*3+1,none⟩) hg).trans f1;have g2:wz.cell? ⟨R,oR+p*3+2,none⟩=_:=(hb.cell (p:=⟨R,oR+p*3+2,none⟩) hg).trans f2;clear f0 f1 f2 hg hb;have E3:=E2.out;obtain⟨q,hq⟩:∃q,l.getD p nZ=q:=⟨_,rfl⟩
  rw[hq]at g0 g1 g2 E3;have HQ:=ah hq;clear hq;obtain⟨lo,y,cl⟩:=q;dsimp only at g0 g1 g2;have de:decide (lo<=65533)=false:=bK (show ¬lo<=65533 from o9.2 E3);clear E3;dsimp only;go_wp2;all_goals go_ret
  all_goals exact⟨by rw[<-uo.out,ak (λh=>(o9.2 E2.out) h.2)];rfl,HB.out⟩
 ·have dp:decide ((p:Int)<n)=true:=bg (by omega);have E1:=ah e1;have E2:=ah e2;clear e1 e2;obtain⟨res,hres⟩:∃res,(if p<n/\(l.getD p nZ).1<=65533 then(l.getD p nZ).2.2 else 0)=res:=⟨_,rfl⟩
  rw[hres];have uo:=ah hres;clear hres;go_enter Tryz.func146,Tryz.ntmps146;go_wp2_with fail;refine Ql.out.mono ?_;rintro e wz ⟨⟨b,rfl⟩,hb⟩;have k1:=KEY.out wz hb;have HB:=ah hb;obtain⟨f0,f1,f2⟩:=HC.out p E1.out;have hg:=fQ f0;have g0:wz.cell? ⟨R,oR+p*3,none⟩=_:=(hb.cell (p:=⟨R,oR+p*3,none⟩) hg).trans f0;have g1:wz.cell? ⟨R,oR+p*3+1,none⟩=_:=(hb.cell (p:=⟨R,oR+p*3+1,none⟩) hg).trans f1;have g2:wz.cell? ⟨R,oR+p*3+2,none⟩=_:=(hb.cell (p:=⟨R,oR+p*3+2,none⟩) hg).trans f2;clear f0 f1 f2 hg hb;have E3:=E2.out;obtain⟨q,hq⟩:∃q,l.getD p nZ=q:=⟨_,rfl⟩
  rw[hq]at g0 g1 g2 E3;have HQ:=ah hq;clear hq;obtain⟨lo,y,cl⟩:=q;dsimp only at g0 g1 g2;have de:decide (lo<=65533)=true:=bg E3;clear E3;dsimp only;go_wp2;all_goals go_ret
  all_goals exact⟨by rw[<-uo.out,au ⟨E1.out,E2.out⟩,HQ.out];rfl,HB.out⟩
 ·have dp:decide ((p:Int)<n)=false:=bK (by omega);have E1:=ah e1;clear e1;obtain⟨res,hres⟩:∃res,(if p<n/\(l.getD p nZ).1<=65533 then(l.getD p nZ).2.2 else 0)=res:=⟨_,rfl⟩
  rw[hres];have uo:=ah hres;clear hres;go_enter Tryz.func146,Tryz.ntmps146;go_wp2_with fail;refine Ql.out.mono ?_;rintro e wz ⟨⟨b,rfl⟩,hb⟩;have k1:=KEY.out wz hb;have HB:=ah hb;clear hb;dsimp only;go_wp2;all_goals go_ret
  all_goals exact⟨by rw[<-uo.out,ak (λh=>absurd h.1 E1.out)];rfl,HB.out⟩
 ·have dp:decide ((p:Int)<n)=true:=bg (by omega);have E1:=ah e1;have E2:=ah e2;clear e1 e2;obtain⟨res,hres⟩:∃res,(if p<n/\(l.getD p nZ).1<=65533 then(l.getD p nZ).2.2 else 0)=res:=⟨_,rfl⟩
  rw[hres];have uo:=ah hres;clear hres;go_enter Tryz.func146,Tryz.ntmps146;go_wp2_with fail;refine Ql.out.mono ?_;rintro e wz ⟨⟨b,rfl⟩,hb⟩;have k1:=KEY.out wz hb;have HB:=ah hb;obtain⟨f0,f1,f2⟩:=HC.out p E1.out;have hg:=fQ f0;have g0:wz.cell? ⟨R,oR+p*3,none⟩=_:=(hb.cell (p:=⟨R,oR+p*3,none⟩) hg).trans f0;have g1:wz.cell? ⟨R,oR+p*3+1,none⟩=_:=(hb.cell (p:=⟨R,oR+p*3+1,none⟩) hg).trans f1;have g2:wz.cell? ⟨R,oR+p*3+2,none⟩=_:=(hb.cell (p:=⟨R,oR+p*3+2,none⟩) hg).trans f2;clear f0 f1 f2 hg hb;have E3:=E2.out;obtain⟨q,hq⟩:∃q,l.getD p nZ=q:=⟨_,rfl⟩
  rw[hq]at g0 g1 g2 E3;have HQ:=ah hq;clear hq;obtain⟨lo,y,cl⟩:=q;dsimp only at g0 g1 g2;have de:decide (lo<=65533)=false:=bK (show ¬lo<=65533 from o9.2 E3);clear E3;dsimp only;go_wp2;all_goals go_ret
  all_goals exact⟨by rw[<-uo.out,ak (λh=>(o9.2 E2.out) h.2)];rfl,HB.out⟩
 ·have dp:decide ((p:Int)<n)=true:=bg (by omega);have E1:=ah e1;have E2:=ah e2;clear e1 e2;obtain⟨res,hres⟩:∃res,(if p<n/\(l.getD p nZ).1<=65533 then(l.getD p nZ).2.2 else 0)=res:=⟨_,rfl⟩
  rw[hres];have uo:=ah hres;clear hres;go_enter Tryz.func146,Tryz.ntmps146;go_wp2_with fail;refine Ql.out.mono ?_;rintro e wz ⟨⟨b,rfl⟩,hb⟩;have k1:=KEY.out wz hb;have HB:=ah hb;obtain⟨f0,f1,f2⟩:=HC.out p E1.out;have hg:=fQ f0;have g0:wz.cell? ⟨R,oR+p*3,none⟩=_:=(hb.cell (p:=⟨R,oR+p*3,none⟩) hg).trans f0;have g1:wz.cell? ⟨R,oR+p*3+1,none⟩=_:=(hb.cell (p:=⟨R,oR+p*3+1,none⟩) hg).trans f1;have g2:wz.cell? ⟨R,oR+p*3+2,none⟩=_:=(hb.cell (p:=⟨R,oR+p*3+2,none⟩) hg).trans f2;clear f0 f1 f2 hg hb;have E3:=E2.out;obtain⟨q,hq⟩:∃q,l.getD p nZ=q:=⟨_,rfl⟩
  rw[hq]at g0 g1 g2 E3;have HQ:=ah hq;clear hq;obtain⟨lo,y,cl⟩:=q;dsimp only at g0 g1 g2;have de:decide (lo<=65533)=true:=bg E3;clear E3;dsimp only;go_wp2;all_goals go_ret
  all_goals exact⟨by rw[<-uo.out,au ⟨E1.out,E2.out⟩,HQ.out];rfl,HB.out⟩
 ·have dp:decide ((p:Int)<n)=false:=bK (by omega);have E1:=ah e1;clear e1;obtain⟨res,hres⟩:∃res,(if p<n/\(l.getD p nZ).1<=x then(l.getD p nZ).2.2 else 0)=res:=⟨_,rfl⟩
  rw[hres];have uo:=ah hres;clear hres;go_enter Tryz.func146,Tryz.ntmps146;go_wp2_with fail;refine Ql.out.mono ?_;rintro e wz ⟨⟨b,rfl⟩,hb⟩;have k1:=KEY.out wz hb;have HB:=ah hb;clear hb;dsimp only;go_wp2;all_goals go_ret
  all_goals exact⟨by rw[<-uo.out,ak (λh=>absurd h.1 E1.out)];rfl,HB.out⟩
 ·have dp:decide ((p:Int)<n)=true:=bg (by omega);have E1:=ah e1;have E2:=ah e2;clear e1 e2;obtain⟨res,hres⟩:∃res,(if p<n/\(l.getD p nZ).1<=x then(l.getD p nZ).2.2 else 0)=res:=⟨_,rfl⟩
  rw[hres];have uo:=ah hres;clear hres;go_enter Tryz.func146,Tryz.ntmps146;go_wp2_with fail;refine Ql.out.mono ?_;rintro e wz ⟨⟨b,rfl⟩,hb⟩;have k1:=KEY.out wz hb;have HB:=ah hb;obtain⟨f0,f1,f2⟩:=HC.out p E1.out;have hg:=fQ f0;have g0:wz.cell? ⟨R,oR+p*3,none⟩=_:=(hb.cell (p:=⟨R,oR+p*3,none⟩) hg).trans f0;have g1:wz.cell? ⟨R,oR+p*3+1,none⟩=_:=(hb.cell (p:=⟨R,oR+p*3+1,none⟩) hg).trans f1;have g2:wz.cell? ⟨R,oR+p*3+2,none⟩=_:=(hb.cell (p:=⟨R,oR+p*3+2,none⟩) hg).trans f2;clear f0 f1 f2 hg hb;have E3:=E2.out;obtain⟨q,hq⟩:∃q,l.getD p nZ=q:=⟨_,rfl⟩
  rw[hq]at g0 g1 g2 E3;have HQ:=ah hq;clear hq;obtain⟨lo,y,cl⟩:=q;dsimp only at g0 g1 g2;have de:decide (lo<=x)=false:=bK (show ¬lo<=x from o9.2 E3);clear E3;dsimp only;go_wp2;all_goals go_ret
  all_goals exact⟨by rw[<-uo.out,ak (λh=>(o9.2 E2.out) h.2)];rfl,HB.out⟩
 ·have dp:decide ((p:Int)<n)=true:=bg (by omega);have E1:=ah e1;have E2:=ah e2;clear e1 e2;obtain⟨res,hres⟩:∃res,(if p<n/\(l.getD p nZ).1<=x then(l.getD p nZ).2.2 else 0)=res:=⟨_,rfl⟩
  rw[hres];have uo:=ah hres;clear hres;go_enter Tryz.func146,Tryz.ntmps146;go_wp2_with fail;refine Ql.out.mono ?_;rintro e wz ⟨⟨b,rfl⟩,hb⟩;have k1:=KEY.out wz hb;have HB:=ah hb;obtain⟨f0,f1,f2⟩:=HC.out p E1.out;have hg:=fQ f0;have g0:wz.cell? ⟨R,oR+p*3,none⟩=_:=(hb.cell (p:=⟨R,oR+p*3,none⟩) hg).trans f0;have g1:wz.cell? ⟨R,oR+p*3+1,none⟩=_:=(hb.cell (p:=⟨R,oR+p*3+1,none⟩) hg).trans f1;have g2:wz.cell? ⟨R,oR+p*3+2,none⟩=_:=(hb.cell (p:=⟨R,oR+p*3+2,none⟩) hg).trans f2;clear f0 f1 f2 hg hb;have E3:=E2.out;obtain⟨q,hq⟩:∃q,l.getD p nZ=q:=⟨_,rfl⟩
  rw[hq]at g0 g1 g2 E3;have HQ:=ah hq;clear hq;obtain⟨lo,y,cl⟩:=q;dsimp only at g0 g1 g2;have de:decide (lo<=x)=true:=bg E3;clear E3;dsimp only;go_wp2;all_goals go_ret
  all_goals exact⟨by rw[<-uo.out,au ⟨E1.out,E2.out⟩,HQ.out];rfl,HB.out⟩
theorem Si (x:Int) (w:World):Calls Tryz.prog 154 #[.int .i64 x] w λe w'=>e= .returned (.bool false)/\w'=w:=by go_enter Tryz.func154,Tryz.ntmps154;go_wp2;go_ret;exact⟨by simp,rfl⟩
theorem vW (x:Int) (w:World):Calls Tryz.prog 103 #[.int .i64 x] w λe w'=>e= .returned (.bool false)/\w'=w:=by go_enter Tryz.func103,Tryz.ntmps103;go_wp2;go_ret;exact⟨by simp,rfl⟩
theorem Dh (x y:Int) (w:World):Calls Tryz.prog 102 #[.int .i64 x, .int .i64 y] w λe w'=>e= .returned (.bool (decide (x<y)))/\w'=w:=by go_enter Tryz.func102,Tryz.ntmps102;go_wp2_with (go_at_call 154;refine(Si _ _).mono ?_;rintro e w' ⟨rfl,rfl⟩);go_ret;exact⟨rfl,rfl⟩
structure cB (w:World) (A:Option Addr) (n:Nat) (zs:List Int):Prop where
 len:zs.length=n
 small:n<=100000
 at_:0<n->∃g o,A=some ⟨g,o,none⟩/\g<w.heap.size/\∀j,j<n->w.cell? ⟨g,o+j,none⟩=some (.int .i64 (zs.getD j 0))
def Kh (zs:List Int) (x:Int):Nat->Nat->Nat->Nat
 |0,lo,_=>lo
 |f+1,lo,hi=>if lo<hi then(if zs.getD ((lo+hi)/2) 0<x then Kh zs x f ((lo+hi)/2+1) hi else Kh zs x f lo ((lo+hi)/2))else lo
def Qm (zs:List Int) (x:Int):Bool:=decide (Kh zs x zs.length 0 zs.length<zs.length)&&decide (zs.getD (Kh zs x zs.length 0 zs.length) 0=x)
theorem Zd (zs:List Int) (x:Int) (f lo:Nat):Kh zs x f lo lo=lo:=by
 cases f with
 |zero=>rfl
 |succ f=>unfold Kh;rw[ak (dA _)]
def JK (zs:List Int) (x:Int) (W:World) (e:Ending) (w':World):Prop:=∃m:Int,e= .returned (.tuple #[.int .i64 m, .bool (Qm zs x)])/\Below W.heap.size W w'
theorem acI (zs:List Int) (x:Int) (A:Option Addr) (n c:Nat) (W:World) (h:cB W A n zs):
 Calls Tryz.prog 53 #[.slice A n c, .int .i64 x] W (JK zs x W):=by
 have hsm:=h.small;have HC:=ah h;clear h;have HF:=ah (show Qm zs x=(decide (Kh zs x n 0 n<n)&&decide (zs.getD (Kh zs x n 0 n) 0=x))by unfold Qm;rw[HC.out.len]);obtain⟨P,hP⟩:∃P,Kh zs x n 0 n=P:=⟨_,rfl⟩
 obtain⟨z,hz⟩:∃z,Qm zs x=z:=⟨_,rfl⟩
 rw[hP,hz]at HF;unfold JK;rw[hz];have HP:=ah hP;clear hP hz;go_enter Tryz.func53,Tryz.ntmps53;go_wp2;go_loopw [7,8] (λs7 s8 wr=>∃lo hi f:Nat,s7= .int .i64 lo/\s8= .int .i64 hi/\lo<=hi/\hi<=n/\hi<=lo+f/\Kh zs x f lo hi=P/\Below W.heap.size W wr) (λa b _=>(RowKit.intOf b-RowKit.intOf a).toNat);case atStart=>exact⟨0,n,n,rfl,rfl,aL _,ay _,by omega,HP.out,aM _ _⟩
 case round=>
  obtain⟨lo,hi,f,rfl,rfl,hlh,hin,hf,hp,hb⟩:=hrel;have HB:=ah hb;clear hb;by_cases hlt:lo<hi
  ·obtain⟨f',rfl⟩:∃f',f=f'+1:=⟨f-1,by omega⟩
   unfold Kh at hp;rw[au hlt]at hp;obtain⟨g,o,rfl,hgl,hcell⟩:=HC.out.at_ (by omega);have cm:wr.cell? ⟨g,o+(lo+hi)/2,none⟩=some (.int .i64 (zs.getD ((lo+hi)/2) 0)):=(HB.out.cell (p:=⟨g,o+(lo+hi)/2,none⟩) hgl).trans (hcell _ (by omega));clear hcell;obtain⟨y,hy⟩:∃y,zs.getD ((lo+hi)/2) 0=y:=⟨_,rfl⟩
   rw[hy]at cm hp;have HPP:=ah hp;clear hy hp;by_cases hyx:y<x
   ·have HQ:=ah (show Kh zs x f' ((lo+hi)/2+1) hi=P by have:=HPP.out;rwa [au hyx]at this);go_wp2_with (first|(go_at_call 102;refine(Dh _ _ _).mono ?_;rintro e w' ⟨rfl,rfl⟩)|(go_at_call 103;refine(vW _ _).mono ?_;rintro e w' ⟨rfl,rfl⟩));go_roundw;case rel=>exact⟨(lo+hi)/2+1,hi,f',by rw[show((lo:Int)+(hi:Int))/2+1=(((lo+hi)/2+1:Nat):Int)by omega],rfl,by omega,hin,by omega,HQ.out,HB.out⟩
    case measure=>simp[RowKit.intOf];omega
   ·have HQ:=ah (show Kh zs x f' lo ((lo+hi)/2)=P by have:=HPP.out;rwa [ak hyx]at this);go_wp2_with (first|(go_at_call 102;refine(Dh _ _ _).mono ?_;rintro e w' ⟨rfl,rfl⟩)|(go_at_call 103;refine(vW _ _).mono ?_;rintro e w' ⟨rfl,rfl⟩));go_roundw;case rel=>exact⟨lo,(lo+hi)/2,f',rfl,by rw[show((lo:Int)+(hi:Int))/2=(((lo+hi)/2:Nat):Int)by omega],by omega,by omega,by omega,HQ.out,HB.out⟩
    case measure=>simp[RowKit.intOf];omega
  ·have:hi=lo:=by omega
   subst this;rw[Zd]at hp;have HPP:=ah hp;clear hp;by_cases hn:hi<n
   ·obtain⟨g,o,rfl,hgl,hcell⟩:=HC.out.at_ (by omega);have cl:wr.cell? ⟨g,o+hi,none⟩=some (.int .i64 (zs.getD hi 0)):=(HB.out.cell (p:=⟨g,o+hi,none⟩) hgl).trans (hcell _ hn);clear hcell;obtain⟨y,hy⟩:∃y,zs.getD hi 0=y:=⟨_,rfl⟩
    rw[hy]at cl;have HY:=ah hy;clear hy;by_cases hyx:y=x;·have HZ:=ah (show z=true by rw[HF.out,<-HPP.out,HY.out,hyx];simp;exact hn);go_wp2_with (first|(go_at_call 102;refine(Dh _ _ _).mono ?_;rintro e w' ⟨rfl,rfl⟩)|(go_at_call 103;refine(vW _ _).mono ?_;rintro e w' ⟨rfl,rfl⟩));go_ret2;rw[HZ.out];exact⟨(hi:Int),by first|rfl|simp[hyx],HB.out⟩
    ·have HZ:=ah (show z=false by rw[HF.out,<-HPP.out,HY.out];simp;intro _;exact hyx);go_wp2_with (first|(go_at_call 102;refine(Dh _ _ _).mono ?_;rintro e w' ⟨rfl,rfl⟩)|(go_at_call 103;refine(vW _ _).mono ?_;rintro e w' ⟨rfl,rfl⟩));go_ret2;rw[HZ.out];exact⟨(hi:Int),by first|rfl|simp[hyx],HB.out⟩
   ·have HZ:=ah (show z=false by rw[HF.out,<-HPP.out];simp;intro h;exact absurd h hn);go_wp2_with fail;go_ret2;rw[HZ.out];exact⟨(hi:Int),by first|rfl|simp,HB.out⟩
