/- SearchEach, walked: the classes of runes; slices.BinarySearch. -/
import Derived.Test.YtocaiijbhepnnaaGreatDoorFA
import Derived.Test.YtocaiijbhepnnaaGreatDoorFB
import Derived.IntWalk
set_option maxRecDepth 100000
set_option maxHeartbeats 4000000
namespace Go.Proofs.YtocaiijbhepnnaaGreatDoor.searchEach
open Go.Shelf Go.RowKit Go.Lib Go.Proofs.YtocaiijbhepnnaaGreatDoor.Am
theorem Gn (r:Int) (w:World):Calls Tryz.prog 268 #[.int .i32 r] w fun e w'=>e= .returned (.bool false)∧w'=w:=by go_enter Tryz.func268,Tryz.ntmps268;go_wp2;go_ret;exact⟨by simp,rfl⟩
def KR (x y:Int):Int:=if x<y then-1 else if y<x then 1 else 0
theorem Qr (x y:Int) (w:World):Calls Tryz.prog 207 #[.int .i32 x, .int .i32 y] w fun e w'=>e= .returned (.int .i64 (KR x y))∧w'=w:=by
 by_cases h1:x<y;·have d1:decide (x<y)=true:=bB h1;go_enter Tryz.func207,Tryz.ntmps207;go_wp2_with (go_at_call 268;refine(Gn _ _).mono ?_;rintro e w1 ⟨rfl,rfl⟩);go_ret;exact⟨by unfold KR;rw[ak h1];rfl,rfl⟩
 ·by_cases h2:y<x
  ·have d1:decide (x<y)=false:=aX h1;have d2:decide (y<x)=true:=bB h2;go_enter Tryz.func207,Tryz.ntmps207;go_wp2_with (go_at_call 268;refine(Gn _ _).mono ?_;rintro e w1 ⟨rfl,rfl⟩);go_ret;exact⟨by unfold KR;rw[aj (Int.not_lt.2 h1),ak h2];rfl,rfl⟩
  ·have d1:decide (x<y)=false:=aX h1;have d2:decide (y<x)=false:=aX h2;go_enter Tryz.func207,Tryz.ntmps207;go_wp2_with (go_at_call 268;refine(Gn _ _).mono ?_;rintro e w1 ⟨rfl,rfl⟩);go_ret;exact⟨by unfold KR;rw[aj (Int.not_lt.2 h1),aj (Int.not_lt.2 h2)];rfl,rfl⟩
theorem xJ (lo hi c r:Int) (w:World):Calls Tryz.prog 214 #[.agg #[.int .i32 lo, .int .i32 hi, .int .i64 c], .int .i32 r] w fun e w'=>e= .returned (.int .i64 (KR hi r))∧Below w.heap.size w w':=by go_enter Tryz.func214,Tryz.ntmps214;go_wp2_with (go_at_call 207;refine(Qr _ _ _).mono ?_;rintro e w1 ⟨rfl,rfl⟩);go_ret;exact⟨rfl,(aF _ w).alloc (ay _) _⟩
def fM (l:List gI) (r:Int):Int:=match l.find? (fun x=>decide (r≤x.2.1))with
 |some x=>if x.1≤r then x.2.2 else 0
 |none=>0
def posOf (l:List gI) (r:Int):Nat:=l.findIdx (fun x=>decide (r≤x.2.1))
def Ih:List gI→Bool
 |[]=>true
 |[_]=>true
 |x::y::l=>decide (x.2.1<y.2.1)&&Ih (y::l)
theorem Sv:∀{l:List gI} {x:gI},Ih (x::l)=true→∀y∈l,x.2.1<y.2.1
 |[],_,_,y,hy=>by cases hy
 |z::l,x,h,y,hy=>by
  unfold Ih at h;rw[aP,bI]at h;rcases aU.1 hy with rfl|hy;·exact h.1
  ·have:=Sv h.2 y hy;omega
theorem AO:∀{l:List gI},Ih l=true→∀i j,i<j→j<l.length→(l.getD i pE).2.1<(l.getD j pE).2.1
 |[],_,_,j,_,hj=>by simp at hj
 |x::l,h,0,j+1,_,hj=>by
  have hj':j<l.length:=by simpa using hj
  have hm:l.getD j pE∈l:=by rw[aM,aY hj'];exact mG hj'
  have:=Sv h _ hm;simpa using this
 |x::l,h,i+1,j+1,hij,hj=>by
  have h':Ih l=true:=by
   cases l with
   |nil=>rfl
   |cons y l=>unfold Ih at h;rw[aP]at h;exact h.2
  have:=AO h' i j (by omega) (by simpa using hj);simpa using this
theorem YJ (l:List gI) (r:Int) (i:Nat) (hi:i≤l.length) (h1:∀k,k<i→(l.getD k pE).2.1<r) (h2:∀k,i≤k→k<l.length→r≤(l.getD k pE).2.1):posOf l r=i:=by
 unfold posOf;rcases aK i l.length with c|c;·rw[List.findIdx_eq c];have e:=h2 i (ay _) c;rw[aM,aY c]at e;refine⟨bB e,fun j hj=> ?_⟩;have e:=h1 j hj;rw[aM,aY (show j<l.length by omega)]at e;exact aX (qz.2 e)
 ·obtain rfl:i=l.length:=by omega
  rw[List.findIdx_eq_length];intro x hx;obtain⟨j,hj,rfl⟩:=tH.1 hx;have e:=h1 j hj;rw[aM,aY hj]at e;exact aX (qz.2 e)
theorem YK (l:List gI) (r:Int):posOf l r≤l.length:=List.findIdx_le_length
theorem U4 (l:List gI) (r:Int):fM l r=if posOf l r<l.length∧(l.getD (posOf l r) pE).1≤r then(l.getD (posOf l r) pE).2.2 else 0:=by
 unfold fM posOf;rcases aK (l.findIdx fun x=>decide (r≤x.2.1)) l.length with c|c
 ·have hf:l.find? (fun x=>decide (r≤x.2.1))=some l[l.findIdx fun x=>decide (r≤x.2.1)]:=by rw[List.find?_eq_some_iff_getElem];exact⟨List.findIdx_getElem (w:=c),_,c,rfl,fun j hj=>by have:=List.not_of_lt_findIdx hj;simpa using this⟩
  rw[hf,aM,aY c];dsimp only[Option.getD_some];by_cases d:(l[l.findIdx fun x=>decide (r≤x.2.1)]).1≤r;·rw[ak d,ak ⟨c,d⟩]
  ·rw[aj d,aj (fun h=>d h.2)]
 ·have hf:l.find? (fun x=>decide (r≤x.2.1))=none:=by rw[List.find?_eq_none];have:=List.findIdx_eq_length.1 (Nat.le_antisymm List.findIdx_le_length c);intro x hx;rw[this x hx];exact yT
  rw[hf,aj (fun h=>by omega)]
def Sw (l:List gI) (r:Int) (W:World) (e:Ending) (w':World):Prop:=(∃b,e= .returned (.tuple #[.int .i64 (posOf l r), .bool b]))∧Below W.heap.size W w'
theorem Qs (y r:Int):(y<r∧KR y r= -1)∨(r<y∧KR y r=1)∨(y=r∧KR y r=0):=by
 unfold KR;rcases Int.lt_trichotomy y r with h|h|h;·exact .inl ⟨h,ak h⟩
 ·subst h;exact .inr (.inr ⟨rfl,by simp⟩)
 ·exact .inr (.inl ⟨h,by rw[aj (by omega),ak h]⟩)
theorem aft (l:List gI) (hl:Ih l=true) (r:Int) (R oR c n:Nat) (hn:l.length=n) (hsm:n≤100000) (W:World)
 (hc:∀k,k<n→W.cell? ⟨R,oR+k*3,none⟩=some (.int .i32 (l.getD k pE).1)∧W.cell? ⟨R,oR+k*3+1,none⟩=some (.int .i32 (l.getD k pE).2.1)∧W.cell? ⟨R,oR+k*3+2,none⟩=some (.int .i64 (l.getD k pE).2.2)):
 Calls Tryz.prog 213 #[.slice (some ⟨R,oR,none⟩) n c, .int .i32 r, .func (.func 214) #[] #[]] W (Sw l r W):=by
 have HC:=ah hc;have HN:=ah hn;have HA:=ah hl
 clear hc hn hl
 go_enter Tryz.func213,Tryz.ntmps213
 go_wp2
 go_loopw [9,10] (fun a b wr=>∃i j:Nat,i≤j∧j≤n∧a= .int .i64 i∧b= .int .i64 j∧(∀k,k<i→(l.getD k pE).2.1<r)∧(∀k,j≤k→k<n→r≤(l.getD k pE).2.1)∧Below W.heap.size W wr) (fun a b _=>(RowKit.intOf b).toNat-(RowKit.intOf a).toNat)
 case atStart=>exact⟨0,n,aH _,ay _,rfl,rfl,fun k hk=>by omega,fun k h1 h2=>by omega,aF _ _⟩
 case round=>
  obtain⟨i,j,hij,hjn,rfl,rfl,h1,h2,hb⟩:=hrel
  have H1:=ah h1;have H2:=ah h2;have HB:=ah hb;clear h1 h2 hb
  by_cases hlt:i<j
  ·have hm1:(i+j)/2<n:=by omega
   obtain⟨f0,f1,f2⟩:=HC.out ((i+j)/2) hm1
   have hg:=dK f0
   have g0:wr.cell? ⟨R,oR+(i+j)/2*3,none⟩=_:=(HB.out.cell (p:=⟨R,oR+(i+j)/2*3,none⟩) hg).trans f0
   have g1:wr.cell? ⟨R,oR+(i+j)/2*3+1,none⟩=_:=(HB.out.cell (p:=⟨R,oR+(i+j)/2*3+1,none⟩) hg).trans f1
   have g2:wr.cell? ⟨R,oR+(i+j)/2*3+2,none⟩=_:=(HB.out.cell (p:=⟨R,oR+(i+j)/2*3+2,none⟩) hg).trans f2
   clear f0 f1 f2 hg
   obtain⟨p,hp⟩:∃p,l.getD ((i+j)/2) pE=p:=⟨_,rfl⟩
   rw[hp]at g0 g1 g2
   have HP:=ah hp;clear hp
   obtain⟨lo,y,cl⟩:=p
   dsimp only at g0 g1 g2
   rcases Qs y r with⟨hy,hcm⟩|⟨hy,hcm⟩|⟨hy,hcm⟩
   ·go_wp2_with (go_at_call 214
                 refine(xJ lo y cl r _).mono ?_
                 rintro x wz ⟨rfl,hbz⟩
                 rw[hcm]
                 have HBZ:=ah (HB.out.trans (hbz.mono HB.out.size));clear hbz g0 g1 g2)
    go_roundw
    case rel=>
     refine⟨(i+j)/2+1,j,by omega,hjn,by rw[show((i:Int)+(j:Int))/2+1=(((i+j)/2+1:Nat):Int)by omega],rfl,fun k hk=> ?_,H2.out,HBZ.out⟩
     rcases aK k ((i+j)/2)with d|d
     ·have:=AO HA.out k ((i+j)/2) d (by rw[HN.out];exact hm1)
      rw[HP.out]at this
      exact Int.lt_trans this hy
     ·obtain rfl:k=(i+j)/2:=by omega
      rw[HP.out];exact hy
    case measure=>simp[RowKit.intOf];omega
   ·go_wp2_with (go_at_call 214
                 refine(xJ lo y cl r _).mono ?_
                 rintro x wz ⟨rfl,hbz⟩
                 rw[hcm]
                 have HBZ:=ah (HB.out.trans (hbz.mono HB.out.size));clear hbz g0 g1 g2)
    go_roundw
    case rel=>
     refine⟨i,(i+j)/2,by omega,by omega,rfl,by rw[show((i:Int)+(j:Int))/2=(((i+j)/2:Nat):Int)by omega],H1.out,fun k h1 h2=> ?_,HBZ.out⟩
     rcases aK ((i+j)/2) k with d|d
     ·have:=AO HA.out ((i+j)/2) k d (by rw[HN.out];exact h2)
      rw[HP.out]at this
      exact Int.le_of_lt (Int.lt_trans hy this)
     ·obtain rfl:k=(i+j)/2:=by omega
      rw[HP.out];exact Int.le_of_lt hy
    case measure=>simp[RowKit.intOf];omega
   ·subst hy
    go_wp2_with (go_at_call 214
                 refine(xJ lo y cl y _).mono ?_
                 rintro x wz ⟨rfl,hbz⟩
                 rw[hcm]
                 have HBZ:=ah (HB.out.trans (hbz.mono HB.out.size));clear hbz g0 g1 g2)
    go_roundw
    case rel=>
     refine⟨i,(i+j)/2,by omega,by omega,rfl,by rw[show((i:Int)+(j:Int))/2=(((i+j)/2:Nat):Int)by omega],H1.out,fun k h1 h2=> ?_,HBZ.out⟩
     rcases aK ((i+j)/2) k with d|d
     ·have:=AO HA.out ((i+j)/2) k d (by rw[HN.out];exact h2)
      rw[HP.out]at this
      exact Int.le_of_lt this
     ·obtain rfl:k=(i+j)/2:=by omega
      rw[HP.out];exact Int.le_refl _
    case measure=>simp[RowKit.intOf];omega
  ·obtain rfl:i=j:=by omega
   have hpos:posOf l r=i:=YJ l r i (by rw[HN.out];exact hjn) H1.out (fun k h1 h2=>H2.out k h1 (by rw[←HN.out];exact h2))
   have aix:=ah hpos;clear hpos
   by_cases hin:i<n
   ·obtain⟨f0,f1,f2⟩:=HC.out i hin
    have hg:=dK f0
    have g0:wr.cell? ⟨R,oR+i*3,none⟩=_:=(HB.out.cell (p:=⟨R,oR+i*3,none⟩) hg).trans f0
    have g1:wr.cell? ⟨R,oR+i*3+1,none⟩=_:=(HB.out.cell (p:=⟨R,oR+i*3+1,none⟩) hg).trans f1
    have g2:wr.cell? ⟨R,oR+i*3+2,none⟩=_:=(HB.out.cell (p:=⟨R,oR+i*3+2,none⟩) hg).trans f2
    clear f0 f1 f2 hg
    obtain⟨p,hp⟩:∃p,l.getD i pE=p:=⟨_,rfl⟩
    rw[hp]at g0 g1 g2
    obtain⟨lo,y,cl⟩:=p
    dsimp only at g0 g1 g2
    go_wp2_with (go_at_call 214
                 refine(xJ lo y cl r _).mono ?_
                 rintro x wz ⟨rfl,hbz⟩
                 have HBZ:=ah (HB.out.trans (hbz.mono HB.out.size));clear hbz g0 g1 g2)
    go_ret2
    exact⟨⟨_,by rw[aix.out];rfl⟩,HBZ.out⟩
   ·go_wp2
    go_ret2
    exact⟨⟨_,by rw[aix.out];rfl⟩,HB.out⟩
def fB (r:Int):Int:=if r<0∨1114111<r then 65533 else r
def KS (c:Int) (W:World) (e:Ending) (w':World):Prop:=e= .returned (.int .i64 c)∧Below W.heap.size W w'
theorem Qt (l:List gI) (hl:Ih l=true) (r:Int) (v:Value) (n:Nat) (hn:l.length=n) (hsm:n≤100000) (W:World) (h:Gc W v l):
 Calls Tryz.prog 146 #[v, .int .i32 r] W (KS (fM l (fB r)) W):=by
 obtain⟨D,o,R,oR,c,rfl,c1,c2,c3⟩:=h;rw[hn]at c1 c2 c3;rw[U4,hn];obtain⟨x,hx⟩:∃x,fB r=x:=⟨_,rfl⟩
 have LC:=ah (aft l hl x R oR c n hn hsm W c3);have O8:=ah (YK l x);have HX:=ah hx;rw[hx];have HC:=ah c3;have HN:=ah hn;obtain⟨p,hp⟩:∃p,posOf l x=p:=⟨_,rfl⟩
 unfold Sw at LC;rw[hp]at LC O8;rw[hp];clear hx hp c3 hl hn;have hD:=dK c1;have key:∀wz:World,Below W.heap.size W wz→wz.cell? ⟨D,o+3,none⟩=some (.slice (some ⟨R,oR,none⟩) n c):=fun wz hb=>by rw[hb.cell hD];exact c1
 have KEY:=ah key;clear key hD;have hrx:(r<0∧x=65533)∨(¬r<0∧1114111<r∧x=65533)∨(¬r<0∧¬1114111<r∧x=r):=by
  have:=HX.out;unfold fB at this;by_cases a:r<0;·rw[ak (.inl a)]at this;exact .inl ⟨a,this.symm⟩
  ·by_cases b:1114111<r
   ·rw[ak (.inr b)]at this;exact .inr (.inl ⟨a,b,this.symm⟩)
   ·rw[aj (by omega)]at this;exact .inr (.inr ⟨a,b,this.symm⟩)
 have hend:(¬p<n)∨(p<n∧¬(l.getD p pE).1≤x)∨(p<n∧(l.getD p pE).1≤x):=by
  by_cases a:p<n
  ·by_cases b:(l.getD p pE).1≤x
   ·exact .inr (.inr ⟨a,b⟩)
   ·exact .inr (.inl ⟨a,b⟩)
  ·exact .inl a
 rcases hrx with⟨r1,rfl⟩|⟨r1,r2,rfl⟩|⟨r1,r2,rfl⟩<;>rcases hend with e1|⟨e1,e2⟩|⟨e1,e2⟩
 ·have dp:decide ((p:Int)<n)=false:=aX (by omega);have E1:=ah e1;clear e1;obtain⟨res,hres⟩:∃res,(if p<n∧(l.getD p pE).1≤65533 then(l.getD p pE).2.2 else 0)=res:=⟨_,rfl⟩
  rw[hres];have vL:=ah hres;clear hres;go_enter Tryz.func146,Tryz.ntmps146;go_wp2_with fail;refine LC.out.mono ?_;rintro e wz ⟨⟨b,rfl⟩,hb⟩;have k1:=KEY.out wz hb;have HB:=ah hb;clear hb;dsimp only;go_wp2;all_goals go_ret
  all_goals exact⟨by rw[←vL.out,aj (fun h=>absurd h.1 E1.out)];rfl,HB.out⟩
 ·have dp:decide ((p:Int)<n)=true:=bB (by omega);have E1:=ah e1;have E2:=ah e2;clear e1 e2;obtain⟨res,hres⟩:∃res,(if p<n∧(l.getD p pE).1≤65533 then(l.getD p pE).2.2 else 0)=res:=⟨_,rfl⟩
  rw[hres];have vL:=ah hres;clear hres;go_enter Tryz.func146,Tryz.ntmps146;go_wp2_with fail;refine LC.out.mono ?_;rintro e wz ⟨⟨b,rfl⟩,hb⟩;have k1:=KEY.out wz hb;have HB:=ah hb;obtain⟨f0,f1,f2⟩:=HC.out p E1.out;have hg:=dK f0;have g0:wz.cell? ⟨R,oR+p*3,none⟩=_:=(hb.cell (p:=⟨R,oR+p*3,none⟩) hg).trans f0;have g1:wz.cell? ⟨R,oR+p*3+1,none⟩=_:=(hb.cell (p:=⟨R,oR+p*3+1,none⟩) hg).trans f1;have g2:wz.cell? ⟨R,oR+p*3+2,none⟩=_:=(hb.cell (p:=⟨R,oR+p*3+2,none⟩) hg).trans f2;clear f0 f1 f2 hg hb;have E3:=E2.out;obtain⟨q,hq⟩:∃q,l.getD p pE=q:=⟨_,rfl⟩
  rw[hq]at g0 g1 g2 E3;have HQ:=ah hq;clear hq;obtain⟨lo,y,cl⟩:=q;dsimp only at g0 g1 g2;have de:decide (lo≤65533)=false:=aX (show ¬lo≤65533 from qz.2 E3);clear E3;dsimp only;go_wp2;all_goals go_ret
  all_goals exact⟨by rw[←vL.out,aj (fun h=>(qz.2 E2.out) h.2)];rfl,HB.out⟩
 ·have dp:decide ((p:Int)<n)=true:=bB (by omega);have E1:=ah e1;have E2:=ah e2;clear e1 e2;obtain⟨res,hres⟩:∃res,(if p<n∧(l.getD p pE).1≤65533 then(l.getD p pE).2.2 else 0)=res:=⟨_,rfl⟩
  rw[hres];have vL:=ah hres;clear hres;go_enter Tryz.func146,Tryz.ntmps146;go_wp2_with fail;refine LC.out.mono ?_;rintro e wz ⟨⟨b,rfl⟩,hb⟩;have k1:=KEY.out wz hb;have HB:=ah hb;obtain⟨f0,f1,f2⟩:=HC.out p E1.out;have hg:=dK f0;have g0:wz.cell? ⟨R,oR+p*3,none⟩=_:=(hb.cell (p:=⟨R,oR+p*3,none⟩) hg).trans f0;have g1:wz.cell? ⟨R,oR+p*3+1,none⟩=_:=(hb.cell (p:=⟨R,oR+p*3+1,none⟩) hg).trans f1;have g2:wz.cell? ⟨R,oR+p*3+2,none⟩=_:=(hb.cell (p:=⟨R,oR+p*3+2,none⟩) hg).trans f2;clear f0 f1 f2 hg hb;have E3:=E2.out;obtain⟨q,hq⟩:∃q,l.getD p pE=q:=⟨_,rfl⟩
  rw[hq]at g0 g1 g2 E3;have HQ:=ah hq;clear hq;obtain⟨lo,y,cl⟩:=q;dsimp only at g0 g1 g2;have de:decide (lo≤65533)=true:=bB E3;clear E3;dsimp only;go_wp2;all_goals go_ret
  all_goals exact⟨by rw[←vL.out,ak ⟨E1.out,E2.out⟩,HQ.out];rfl,HB.out⟩
 ·have dp:decide ((p:Int)<n)=false:=aX (by omega);have E1:=ah e1;clear e1;obtain⟨res,hres⟩:∃res,(if p<n∧(l.getD p pE).1≤65533 then(l.getD p pE).2.2 else 0)=res:=⟨_,rfl⟩
  rw[hres];have vL:=ah hres;clear hres;go_enter Tryz.func146,Tryz.ntmps146;go_wp2_with fail;refine LC.out.mono ?_;rintro e wz ⟨⟨b,rfl⟩,hb⟩;have k1:=KEY.out wz hb;have HB:=ah hb;clear hb;dsimp only;go_wp2;all_goals go_ret
  all_goals exact⟨by rw[←vL.out,aj (fun h=>absurd h.1 E1.out)];rfl,HB.out⟩
 ·have dp:decide ((p:Int)<n)=true:=bB (by omega);have E1:=ah e1;have E2:=ah e2;clear e1 e2;obtain⟨res,hres⟩:∃res,(if p<n∧(l.getD p pE).1≤65533 then(l.getD p pE).2.2 else 0)=res:=⟨_,rfl⟩
  rw[hres];have vL:=ah hres;clear hres;go_enter Tryz.func146,Tryz.ntmps146;go_wp2_with fail;refine LC.out.mono ?_;rintro e wz ⟨⟨b,rfl⟩,hb⟩;have k1:=KEY.out wz hb;have HB:=ah hb;obtain⟨f0,f1,f2⟩:=HC.out p E1.out;have hg:=dK f0;have g0:wz.cell? ⟨R,oR+p*3,none⟩=_:=(hb.cell (p:=⟨R,oR+p*3,none⟩) hg).trans f0;have g1:wz.cell? ⟨R,oR+p*3+1,none⟩=_:=(hb.cell (p:=⟨R,oR+p*3+1,none⟩) hg).trans f1;have g2:wz.cell? ⟨R,oR+p*3+2,none⟩=_:=(hb.cell (p:=⟨R,oR+p*3+2,none⟩) hg).trans f2;clear f0 f1 f2 hg hb;have E3:=E2.out;obtain⟨q,hq⟩:∃q,l.getD p pE=q:=⟨_,rfl⟩
  rw[hq]at g0 g1 g2 E3;have HQ:=ah hq;clear hq;obtain⟨lo,y,cl⟩:=q;dsimp only at g0 g1 g2;have de:decide (lo≤65533)=false:=aX (show ¬lo≤65533 from qz.2 E3);clear E3;dsimp only;go_wp2;all_goals go_ret
  all_goals exact⟨by rw[←vL.out,aj (fun h=>(qz.2 E2.out) h.2)];rfl,HB.out⟩
 ·have dp:decide ((p:Int)<n)=true:=bB (by omega);have E1:=ah e1;have E2:=ah e2;clear e1 e2;obtain⟨res,hres⟩:∃res,(if p<n∧(l.getD p pE).1≤65533 then(l.getD p pE).2.2 else 0)=res:=⟨_,rfl⟩
  rw[hres];have vL:=ah hres;clear hres;go_enter Tryz.func146,Tryz.ntmps146;go_wp2_with fail;refine LC.out.mono ?_;rintro e wz ⟨⟨b,rfl⟩,hb⟩;have k1:=KEY.out wz hb;have HB:=ah hb;obtain⟨f0,f1,f2⟩:=HC.out p E1.out;have hg:=dK f0;have g0:wz.cell? ⟨R,oR+p*3,none⟩=_:=(hb.cell (p:=⟨R,oR+p*3,none⟩) hg).trans f0;have g1:wz.cell? ⟨R,oR+p*3+1,none⟩=_:=(hb.cell (p:=⟨R,oR+p*3+1,none⟩) hg).trans f1;have g2:wz.cell? ⟨R,oR+p*3+2,none⟩=_:=(hb.cell (p:=⟨R,oR+p*3+2,none⟩) hg).trans f2;clear f0 f1 f2 hg hb;have E3:=E2.out;obtain⟨q,hq⟩:∃q,l.getD p pE=q:=⟨_,rfl⟩
  rw[hq]at g0 g1 g2 E3;have HQ:=ah hq;clear hq;obtain⟨lo,y,cl⟩:=q;dsimp only at g0 g1 g2;have de:decide (lo≤65533)=true:=bB E3;clear E3;dsimp only;go_wp2;all_goals go_ret
  all_goals exact⟨by rw[←vL.out,ak ⟨E1.out,E2.out⟩,HQ.out];rfl,HB.out⟩
 ·have dp:decide ((p:Int)<n)=false:=aX (by omega);have E1:=ah e1;clear e1;obtain⟨res,hres⟩:∃res,(if p<n∧(l.getD p pE).1≤x then(l.getD p pE).2.2 else 0)=res:=⟨_,rfl⟩
  rw[hres];have vL:=ah hres;clear hres;go_enter Tryz.func146,Tryz.ntmps146;go_wp2_with fail;refine LC.out.mono ?_;rintro e wz ⟨⟨b,rfl⟩,hb⟩;have k1:=KEY.out wz hb;have HB:=ah hb;clear hb;dsimp only;go_wp2;all_goals go_ret
  all_goals exact⟨by rw[←vL.out,aj (fun h=>absurd h.1 E1.out)];rfl,HB.out⟩
 ·have dp:decide ((p:Int)<n)=true:=bB (by omega);have E1:=ah e1;have E2:=ah e2;clear e1 e2;obtain⟨res,hres⟩:∃res,(if p<n∧(l.getD p pE).1≤x then(l.getD p pE).2.2 else 0)=res:=⟨_,rfl⟩
  rw[hres];have vL:=ah hres;clear hres;go_enter Tryz.func146,Tryz.ntmps146;go_wp2_with fail;refine LC.out.mono ?_;rintro e wz ⟨⟨b,rfl⟩,hb⟩;have k1:=KEY.out wz hb;have HB:=ah hb;obtain⟨f0,f1,f2⟩:=HC.out p E1.out;have hg:=dK f0;have g0:wz.cell? ⟨R,oR+p*3,none⟩=_:=(hb.cell (p:=⟨R,oR+p*3,none⟩) hg).trans f0;have g1:wz.cell? ⟨R,oR+p*3+1,none⟩=_:=(hb.cell (p:=⟨R,oR+p*3+1,none⟩) hg).trans f1;have g2:wz.cell? ⟨R,oR+p*3+2,none⟩=_:=(hb.cell (p:=⟨R,oR+p*3+2,none⟩) hg).trans f2;clear f0 f1 f2 hg hb;have E3:=E2.out;obtain⟨q,hq⟩:∃q,l.getD p pE=q:=⟨_,rfl⟩
  rw[hq]at g0 g1 g2 E3;have HQ:=ah hq;clear hq;obtain⟨lo,y,cl⟩:=q;dsimp only at g0 g1 g2;have de:decide (lo≤x)=false:=aX (show ¬lo≤x from qz.2 E3);clear E3;dsimp only;go_wp2;all_goals go_ret
  all_goals exact⟨by rw[←vL.out,aj (fun h=>(qz.2 E2.out) h.2)];rfl,HB.out⟩
 ·have dp:decide ((p:Int)<n)=true:=bB (by omega);have E1:=ah e1;have E2:=ah e2;clear e1 e2;obtain⟨res,hres⟩:∃res,(if p<n∧(l.getD p pE).1≤x then(l.getD p pE).2.2 else 0)=res:=⟨_,rfl⟩
  rw[hres];have vL:=ah hres;clear hres;go_enter Tryz.func146,Tryz.ntmps146;go_wp2_with fail;refine LC.out.mono ?_;rintro e wz ⟨⟨b,rfl⟩,hb⟩;have k1:=KEY.out wz hb;have HB:=ah hb;obtain⟨f0,f1,f2⟩:=HC.out p E1.out;have hg:=dK f0;have g0:wz.cell? ⟨R,oR+p*3,none⟩=_:=(hb.cell (p:=⟨R,oR+p*3,none⟩) hg).trans f0;have g1:wz.cell? ⟨R,oR+p*3+1,none⟩=_:=(hb.cell (p:=⟨R,oR+p*3+1,none⟩) hg).trans f1;have g2:wz.cell? ⟨R,oR+p*3+2,none⟩=_:=(hb.cell (p:=⟨R,oR+p*3+2,none⟩) hg).trans f2;clear f0 f1 f2 hg hb;have E3:=E2.out;obtain⟨q,hq⟩:∃q,l.getD p pE=q:=⟨_,rfl⟩
  rw[hq]at g0 g1 g2 E3;have HQ:=ah hq;clear hq;obtain⟨lo,y,cl⟩:=q;dsimp only at g0 g1 g2;have de:decide (lo≤x)=true:=bB E3;clear E3;dsimp only;go_wp2;all_goals go_ret
  all_goals exact⟨by rw[←vL.out,ak ⟨E1.out,E2.out⟩,HQ.out];rfl,HB.out⟩
theorem U5 (x:Int) (w:World):Calls Tryz.prog 154 #[.int .i64 x] w fun e w'=>e= .returned (.bool false)∧w'=w:=by go_enter Tryz.func154,Tryz.ntmps154;go_wp2;go_ret;exact⟨by simp,rfl⟩
theorem xK (x:Int) (w:World):Calls Tryz.prog 103 #[.int .i64 x] w fun e w'=>e= .returned (.bool false)∧w'=w:=by go_enter Tryz.func103,Tryz.ntmps103;go_wp2;go_ret;exact⟨by simp,rfl⟩
theorem EG (x y:Int) (w:World):Calls Tryz.prog 102 #[.int .i64 x, .int .i64 y] w fun e w'=>e= .returned (.bool (decide (x<y)))∧w'=w:=by go_enter Tryz.func102,Tryz.ntmps102;go_wp2_with (go_at_call 154;refine(U5 _ _).mono ?_;rintro e w' ⟨rfl,rfl⟩);go_ret;exact⟨rfl,rfl⟩
structure bQ (w:World) (A:Option Addr) (n:Nat) (zs:List Int):Prop where
 len:zs.length=n
 small:n≤100000
 at_:0<n→∃g o,A=some ⟨g,o,none⟩∧g<w.heap.size∧∀j,j<n→w.cell? ⟨g,o+j,none⟩=some (.int .i64 (zs.getD j 0))
def LD (zs:List Int) (x:Int):Nat→Nat→Nat→Nat
 |0,lo,_=>lo
 |f+1,lo,hi=>if lo<hi then(if zs.getD ((lo+hi)/2) 0<x then LD zs x f ((lo+hi)/2+1) hi else LD zs x f lo ((lo+hi)/2))else lo
def Sy (zs:List Int) (x:Int):Bool:=decide (LD zs x zs.length 0 zs.length<zs.length)&&decide (zs.getD (LD zs x zs.length 0 zs.length) 0=x)
theorem abO (zs:List Int) (x:Int) (f lo:Nat):LD zs x f lo lo=lo:=by
 cases f with
 |zero=>rfl
 |succ f=>unfold LD;rw[aj (dA _)]
def KT (zs:List Int) (x:Int) (W:World) (e:Ending) (w':World):Prop:=∃m:Int,e= .returned (.tuple #[.int .i64 m, .bool (Sy zs x)])∧Below W.heap.size W w'
theorem afv (zs:List Int) (x:Int) (A:Option Addr) (n c:Nat) (W:World) (h:bQ W A n zs):
 Calls Tryz.prog 53 #[.slice A n c, .int .i64 x] W (KT zs x W):=by
 have hsm:=h.small;have HC:=ah h;clear h;have HF:=ah (show Sy zs x=(decide (LD zs x n 0 n<n)&&decide (zs.getD (LD zs x n 0 n) 0=x))by unfold Sy;rw[HC.out.len]);obtain⟨P,hP⟩:∃P,LD zs x n 0 n=P:=⟨_,rfl⟩
 obtain⟨z,hz⟩:∃z,Sy zs x=z:=⟨_,rfl⟩
 rw[hP,hz]at HF;unfold KT;rw[hz];have HP:=ah hP;clear hP hz;go_enter Tryz.func53,Tryz.ntmps53;go_wp2;go_loopw [7,8] (fun s7 s8 wr=>∃lo hi f:Nat,s7= .int .i64 lo∧s8= .int .i64 hi∧lo≤hi∧hi≤n∧hi≤lo+f∧LD zs x f lo hi=P∧Below W.heap.size W wr) (fun a b _=>(RowKit.intOf b-RowKit.intOf a).toNat);case atStart=>exact⟨0,n,n,rfl,rfl,aH _,ay _,by omega,HP.out,aF _ _⟩
 case round=>
  obtain⟨lo,hi,f,rfl,rfl,hlh,hin,hf,hp,hb⟩:=hrel;have HB:=ah hb;clear hb;by_cases hlt:lo<hi
  ·obtain⟨f',rfl⟩:∃f',f=f'+1:=⟨f-1,by omega⟩
   unfold LD at hp;rw[ak hlt]at hp;obtain⟨g,o,rfl,hgl,hcell⟩:=HC.out.at_ (by omega);have cm:wr.cell? ⟨g,o+(lo+hi)/2,none⟩=some (.int .i64 (zs.getD ((lo+hi)/2) 0)):=(HB.out.cell (p:=⟨g,o+(lo+hi)/2,none⟩) hgl).trans (hcell _ (by omega));clear hcell;obtain⟨y,hy⟩:∃y,zs.getD ((lo+hi)/2) 0=y:=⟨_,rfl⟩
   rw[hy]at cm hp;have HPP:=ah hp;clear hy hp;by_cases hyx:y<x
   ·have HQ:=ah (show LD zs x f' ((lo+hi)/2+1) hi=P by have:=HPP.out;rwa [ak hyx]at this);go_wp2_with (first|(go_at_call 102;refine(EG _ _ _).mono ?_;rintro e w' ⟨rfl,rfl⟩)|(go_at_call 103;refine(xK _ _).mono ?_;rintro e w' ⟨rfl,rfl⟩));go_roundw;case rel=>exact⟨(lo+hi)/2+1,hi,f',by rw[show((lo:Int)+(hi:Int))/2+1=(((lo+hi)/2+1:Nat):Int)by omega],rfl,by omega,hin,by omega,HQ.out,HB.out⟩
    case measure=>simp[RowKit.intOf];omega
   ·have HQ:=ah (show LD zs x f' lo ((lo+hi)/2)=P by have:=HPP.out;rwa [aj hyx]at this);go_wp2_with (first|(go_at_call 102;refine(EG _ _ _).mono ?_;rintro e w' ⟨rfl,rfl⟩)|(go_at_call 103;refine(xK _ _).mono ?_;rintro e w' ⟨rfl,rfl⟩));go_roundw;case rel=>exact⟨lo,(lo+hi)/2,f',rfl,by rw[show((lo:Int)+(hi:Int))/2=(((lo+hi)/2:Nat):Int)by omega],by omega,by omega,by omega,HQ.out,HB.out⟩
    case measure=>simp[RowKit.intOf];omega
  ·have:hi=lo:=by omega
   subst this;rw[abO]at hp;have HPP:=ah hp;clear hp;by_cases hn:hi<n
   ·obtain⟨g,o,rfl,hgl,hcell⟩:=HC.out.at_ (by omega);have cl:wr.cell? ⟨g,o+hi,none⟩=some (.int .i64 (zs.getD hi 0)):=(HB.out.cell (p:=⟨g,o+hi,none⟩) hgl).trans (hcell _ hn);clear hcell;obtain⟨y,hy⟩:∃y,zs.getD hi 0=y:=⟨_,rfl⟩
    rw[hy]at cl;have HY:=ah hy;clear hy;by_cases hyx:y=x;·have HZ:=ah (show z=true by rw[HF.out,←HPP.out,HY.out,hyx];simp;exact hn);go_wp2_with (first|(go_at_call 102;refine(EG _ _ _).mono ?_;rintro e w' ⟨rfl,rfl⟩)|(go_at_call 103;refine(xK _ _).mono ?_;rintro e w' ⟨rfl,rfl⟩));go_ret2;rw[HZ.out];exact⟨(hi:Int),by first|rfl|simp[hyx],HB.out⟩
    ·have HZ:=ah (show z=false by rw[HF.out,←HPP.out,HY.out];simp;intro _;exact hyx);go_wp2_with (first|(go_at_call 102;refine(EG _ _ _).mono ?_;rintro e w' ⟨rfl,rfl⟩)|(go_at_call 103;refine(xK _ _).mono ?_;rintro e w' ⟨rfl,rfl⟩));go_ret2;rw[HZ.out];exact⟨(hi:Int),by first|rfl|simp[hyx],HB.out⟩
   ·have HZ:=ah (show z=false by rw[HF.out,←HPP.out];simp;intro h;exact absurd h hn);go_wp2_with fail;go_ret2;rw[HZ.out];exact⟨(hi:Int),by first|rfl|simp,HB.out⟩
end Go.Proofs.YtocaiijbhepnnaaGreatDoor.searchEach
