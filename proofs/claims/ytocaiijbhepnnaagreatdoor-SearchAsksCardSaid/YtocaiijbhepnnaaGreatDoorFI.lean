/- SearchAsks, walked: the classes of runes; slices.BinarySearch. -/
import Derived.Test.YtocaiijbhepnnaaGreatDoorFA
import Derived.Test.YtocaiijbhepnnaaGreatDoorFB
import Derived.IntWalk
set_option maxRecDepth 100000
set_option maxHeartbeats 4000000
namespace Go.Proofs.YtocaiijbhepnnaaGreatDoor.searchAsks
open Go.Shelf Go.RowKit Go.Lib Go.Proofs.YtocaiijbhepnnaaGreatDoor.Am
theorem Gc (r:Int) (w:World):Calls Tryz.prog 268 #[.int .i32 r] w fun e w'=>e= .returned (.bool false)∧w'=w:=by go_enter Tryz.func268,Tryz.ntmps268;go_wp2;go_ret;exact⟨by simp,rfl⟩
def KH (x y:Int):Int:=if x<y then-1 else if y<x then 1 else 0
theorem Qc (x y:Int) (w:World):Calls Tryz.prog 207 #[.int .i32 x, .int .i32 y] w fun e w'=>e= .returned (.int .i64 (KH x y))∧w'=w:=by
 by_cases h1:x<y;·have d1:decide (x<y)=true:=bD h1;go_enter Tryz.func207,Tryz.ntmps207;go_wp2_with (go_at_call 268;refine(Gc _ _).mono ?_;rintro e w1 ⟨rfl,rfl⟩);go_ret;exact⟨by unfold KH;rw[ak h1];rfl,rfl⟩
 ·by_cases h2:y<x
  ·have d1:decide (x<y)=false:=bg h1;have d2:decide (y<x)=true:=bD h2;go_enter Tryz.func207,Tryz.ntmps207;go_wp2_with (go_at_call 268;refine(Gc _ _).mono ?_;rintro e w1 ⟨rfl,rfl⟩);go_ret;exact⟨by unfold KH;rw[aj (Int.not_lt.2 h1),ak h2];rfl,rfl⟩
  ·have d1:decide (x<y)=false:=bg h1;have d2:decide (y<x)=false:=bg h2;go_enter Tryz.func207,Tryz.ntmps207;go_wp2_with (go_at_call 268;refine(Gc _ _).mono ?_;rintro e w1 ⟨rfl,rfl⟩);go_ret;exact⟨by unfold KH;rw[aj (Int.not_lt.2 h1),aj (Int.not_lt.2 h2)];rfl,rfl⟩
theorem xB (lo hi c r:Int) (w:World):Calls Tryz.prog 214 #[.agg #[.int .i32 lo, .int .i32 hi, .int .i64 c], .int .i32 r] w fun e w'=>e= .returned (.int .i64 (KH hi r))∧Below w.heap.size w w':=by go_enter Tryz.func214,Tryz.ntmps214;go_wp2_with (go_at_call 207;refine(Qc _ _ _).mono ?_;rintro e w1 ⟨rfl,rfl⟩);go_ret;exact⟨rfl,(aG _ w).alloc (ay _) _⟩
def fO (l:List gI) (r:Int):Int:=match l.find? (fun x=>decide (r≤x.2.1))with
 |some x=>if x.1≤r then x.2.2 else 0
 |none=>0
def posOf (l:List gI) (r:Int):Nat:=l.findIdx (fun x=>decide (r≤x.2.1))
def Hy:List gI→Bool
 |[]=>true
 |[_]=>true
 |x::y::l=>decide (x.2.1<y.2.1)&&Hy (y::l)
theorem R5:∀{l:List gI} {x:gI},Hy (x::l)=true→∀y∈l,x.2.1<y.2.1
 |[],_,_,y,hy=>by cases hy
 |z::l,x,h,y,hy=>by
  unfold Hy at h;rw[aJ,aV]at h;rcases aW.1 hy with rfl|hy;·exact h.1
  ·have:=R5 h.2 y hy;omega
theorem Ap:∀{l:List gI},Hy l=true→∀i j,i<j→j<l.length→(l.getD i o8).2.1<(l.getD j o8).2.1
 |[],_,_,j,_,hj=>by simp at hj
 |x::l,h,0,j+1,_,hj=>by
  have hj':j<l.length:=by simpa using hj
  have hm:l.getD j o8∈l:=by rw[aN,bf hj'];exact mH hj'
  have:=R5 h _ hm;simpa using this
 |x::l,h,i+1,j+1,hij,hj=>by
  have h':Hy l=true:=by
   cases l with
   |nil=>rfl
   |cons y l=>unfold Hy at h;rw[aJ]at h;exact h.2
  have:=Ap h' i j (by omega) (by simpa using hj);simpa using this
theorem Yr (l:List gI) (r:Int) (i:Nat) (hi:i≤l.length) (h1:∀k,k<i→(l.getD k o8).2.1<r) (h2:∀k,i≤k→k<l.length→r≤(l.getD k o8).2.1):posOf l r=i:=by
 unfold posOf;rcases aL i l.length with c|c;·rw[List.findIdx_eq c];have e:=h2 i (ay _) c;rw[aN,bf c]at e;refine⟨bD e,fun j hj=> ?_⟩;have e:=h1 j hj;rw[aN,bf (show j<l.length by omega)]at e;exact bg (qm.2 e)
 ·obtain rfl:i=l.length:=by omega
  rw[List.findIdx_eq_length];intro x hx;obtain⟨j,hj,rfl⟩:=sW.1 hx;have e:=h1 j hj;rw[aN,bf hj]at e;exact bg (qm.2 e)
theorem Yt (l:List gI) (r:Int):posOf l r≤l.length:=List.findIdx_le_length
theorem UJ (l:List gI) (r:Int):fO l r=if posOf l r<l.length∧(l.getD (posOf l r) o8).1≤r then(l.getD (posOf l r) o8).2.2 else 0:=by
 unfold fO posOf;rcases aL (l.findIdx fun x=>decide (r≤x.2.1)) l.length with c|c
 ·have hf:l.find? (fun x=>decide (r≤x.2.1))=some l[l.findIdx fun x=>decide (r≤x.2.1)]:=by rw[List.find?_eq_some_iff_getElem];exact⟨List.findIdx_getElem (w:=c),_,c,rfl,fun j hj=>by have:=List.not_of_lt_findIdx hj;simpa using this⟩
  rw[hf,aN,bf c];dsimp only[Option.getD_some];by_cases d:(l[l.findIdx fun x=>decide (r≤x.2.1)]).1≤r;·rw[ak d,ak ⟨c,d⟩]
  ·rw[aj d,aj (fun h=>d h.2)]
 ·have hf:l.find? (fun x=>decide (r≤x.2.1))=none:=by rw[List.find?_eq_none];have:=List.findIdx_eq_length.1 (Nat.le_antisymm List.findIdx_le_length c);intro x hx;rw[this x hx];exact yM
  rw[hf,aj (fun h=>by omega)]
def R6 (l:List gI) (r:Int) (W:World) (e:Ending) (w':World):Prop:=(∃b,e= .returned (.tuple #[.int .i64 (posOf l r), .bool b]))∧Below W.heap.size W w'
theorem Qd (y r:Int):(y<r∧KH y r= -1)∨(r<y∧KH y r=1)∨(y=r∧KH y r=0):=by
 unfold KH;rcases Int.lt_trichotomy y r with h|h|h;·exact .inl ⟨h,ak h⟩
 ·subst h;exact .inr (.inr ⟨rfl,by simp⟩)
 ·exact .inr (.inl ⟨h,by rw[aj (by omega),ak h]⟩)
theorem ae6 (l:List gI) (hl:Hy l=true) (r:Int) (R oR c n:Nat) (hn:l.length=n) (hsm:n≤100000) (W:World)
 (hc:∀k,k<n→W.cell? ⟨R,oR+k*3,none⟩=some (.int .i32 (l.getD k o8).1)∧W.cell? ⟨R,oR+k*3+1,none⟩=some (.int .i32 (l.getD k o8).2.1)∧W.cell? ⟨R,oR+k*3+2,none⟩=some (.int .i64 (l.getD k o8).2.2)):
 Calls Tryz.prog 213 #[.slice (some ⟨R,oR,none⟩) n c, .int .i32 r, .func (.func 214) #[] #[]] W (R6 l r W):=by
 have HC:=ah hc;have HN:=ah hn;have HA:=ah hl
 clear hc hn hl
 go_enter Tryz.func213,Tryz.ntmps213
 go_wp2
 go_loopw [9,10] (fun a b wr=>∃i j:Nat,i≤j∧j≤n∧a= .int .i64 i∧b= .int .i64 j∧(∀k,k<i→(l.getD k o8).2.1<r)∧(∀k,j≤k→k<n→r≤(l.getD k o8).2.1)∧Below W.heap.size W wr) (fun a b _=>(RowKit.intOf b).toNat-(RowKit.intOf a).toNat)
 case atStart=>exact⟨0,n,aH _,ay _,rfl,rfl,fun k hk=>by omega,fun k h1 h2=>by omega,aG _ _⟩
 case round=>
  obtain⟨i,j,hij,hjn,rfl,rfl,h1,h2,hb⟩:=hrel
  have H1:=ah h1;have H2:=ah h2;have HB:=ah hb;clear h1 h2 hb
  by_cases hlt:i<j
  ·have hm1:(i+j)/2<n:=by omega
   obtain⟨f0,f1,f2⟩:=HC.out ((i+j)/2) hm1
   have hg:=dI f0
   have g0:wr.cell? ⟨R,oR+(i+j)/2*3,none⟩=_:=(HB.out.cell (p:=⟨R,oR+(i+j)/2*3,none⟩) hg).trans f0
   have g1:wr.cell? ⟨R,oR+(i+j)/2*3+1,none⟩=_:=(HB.out.cell (p:=⟨R,oR+(i+j)/2*3+1,none⟩) hg).trans f1
   have g2:wr.cell? ⟨R,oR+(i+j)/2*3+2,none⟩=_:=(HB.out.cell (p:=⟨R,oR+(i+j)/2*3+2,none⟩) hg).trans f2
   clear f0 f1 f2 hg
   obtain⟨p,hp⟩:∃p,l.getD ((i+j)/2) o8=p:=⟨_,rfl⟩
   rw[hp]at g0 g1 g2
   have HP:=ah hp;clear hp
   obtain⟨lo,y,cl⟩:=p
   dsimp only at g0 g1 g2
   rcases Qd y r with⟨hy,hcm⟩|⟨hy,hcm⟩|⟨hy,hcm⟩
   ·go_wp2_with (go_at_call 214
                 refine(xB lo y cl r _).mono ?_
                 rintro x wz ⟨rfl,hbz⟩
                 rw[hcm]
                 have HBZ:=ah (HB.out.trans (hbz.mono HB.out.size));clear hbz g0 g1 g2)
    go_roundw
    case rel=>
     refine⟨(i+j)/2+1,j,by omega,hjn,by rw[show((i:Int)+(j:Int))/2+1=(((i+j)/2+1:Nat):Int)by omega],rfl,fun k hk=> ?_,H2.out,HBZ.out⟩
     rcases aL k ((i+j)/2)with d|d
     ·have:=Ap HA.out k ((i+j)/2) d (by rw[HN.out];exact hm1)
      rw[HP.out]at this
      exact Int.lt_trans this hy
     ·obtain rfl:k=(i+j)/2:=by omega
      rw[HP.out];exact hy
    case measure=>simp[RowKit.intOf];omega
   ·go_wp2_with (go_at_call 214
                 refine(xB lo y cl r _).mono ?_
                 rintro x wz ⟨rfl,hbz⟩
                 rw[hcm]
                 have HBZ:=ah (HB.out.trans (hbz.mono HB.out.size));clear hbz g0 g1 g2)
    go_roundw
    case rel=>
     refine⟨i,(i+j)/2,by omega,by omega,rfl,by rw[show((i:Int)+(j:Int))/2=(((i+j)/2:Nat):Int)by omega],H1.out,fun k h1 h2=> ?_,HBZ.out⟩
     rcases aL ((i+j)/2) k with d|d
     ·have:=Ap HA.out ((i+j)/2) k d (by rw[HN.out];exact h2)
      rw[HP.out]at this
      exact Int.le_of_lt (Int.lt_trans hy this)
     ·obtain rfl:k=(i+j)/2:=by omega
      rw[HP.out];exact Int.le_of_lt hy
    case measure=>simp[RowKit.intOf];omega
   ·subst hy
    go_wp2_with (go_at_call 214
                 refine(xB lo y cl y _).mono ?_
                 rintro x wz ⟨rfl,hbz⟩
                 rw[hcm]
                 have HBZ:=ah (HB.out.trans (hbz.mono HB.out.size));clear hbz g0 g1 g2)
    go_roundw
    case rel=>
     refine⟨i,(i+j)/2,by omega,by omega,rfl,by rw[show((i:Int)+(j:Int))/2=(((i+j)/2:Nat):Int)by omega],H1.out,fun k h1 h2=> ?_,HBZ.out⟩
     rcases aL ((i+j)/2) k with d|d
     ·have:=Ap HA.out ((i+j)/2) k d (by rw[HN.out];exact h2)
      rw[HP.out]at this
      exact Int.le_of_lt this
     ·obtain rfl:k=(i+j)/2:=by omega
      rw[HP.out];exact Int.le_refl _
    case measure=>simp[RowKit.intOf];omega
  ·obtain rfl:i=j:=by omega
   have hpos:posOf l r=i:=Yr l r i (by rw[HN.out];exact hjn) H1.out (fun k h1 h2=>H2.out k h1 (by rw[←HN.out];exact h2))
   have aie:=ah hpos;clear hpos
   by_cases hin:i<n
   ·obtain⟨f0,f1,f2⟩:=HC.out i hin
    have hg:=dI f0
    have g0:wr.cell? ⟨R,oR+i*3,none⟩=_:=(HB.out.cell (p:=⟨R,oR+i*3,none⟩) hg).trans f0
    have g1:wr.cell? ⟨R,oR+i*3+1,none⟩=_:=(HB.out.cell (p:=⟨R,oR+i*3+1,none⟩) hg).trans f1
    have g2:wr.cell? ⟨R,oR+i*3+2,none⟩=_:=(HB.out.cell (p:=⟨R,oR+i*3+2,none⟩) hg).trans f2
    clear f0 f1 f2 hg
    obtain⟨p,hp⟩:∃p,l.getD i o8=p:=⟨_,rfl⟩
    rw[hp]at g0 g1 g2
    obtain⟨lo,y,cl⟩:=p
    dsimp only at g0 g1 g2
    go_wp2_with (go_at_call 214
                 refine(xB lo y cl r _).mono ?_
                 rintro x wz ⟨rfl,hbz⟩
                 have HBZ:=ah (HB.out.trans (hbz.mono HB.out.size));clear hbz g0 g1 g2)
    go_ret2
    exact⟨⟨_,by rw[aie.out];rfl⟩,HBZ.out⟩
   ·go_wp2
    go_ret2
    exact⟨⟨_,by rw[aie.out];rfl⟩,HB.out⟩
def fD (r:Int):Int:=if r<0∨1114111<r then 65533 else r
def KI (c:Int) (W:World) (e:Ending) (w':World):Prop:=e= .returned (.int .i64 c)∧Below W.heap.size W w'
theorem Qe (l:List gI) (hl:Hy l=true) (r:Int) (v:Value) (n:Nat) (hn:l.length=n) (hsm:n≤100000) (W:World) (h:F3 W v l):
 Calls Tryz.prog 146 #[v, .int .i32 r] W (KI (fO l (fD r)) W):=by
 obtain⟨D,o,R,oR,c,rfl,c1,c2,c3⟩:=h;rw[hn]at c1 c2 c3;rw[UJ,hn];obtain⟨x,hx⟩:∃x,fD r=x:=⟨_,rfl⟩
 have R7:=ah (ae6 l hl x R oR c n hn hsm W c3);have OO:=ah (Yt l x);have HX:=ah hx;rw[hx];have HC:=ah c3;have HN:=ah hn;obtain⟨p,hp⟩:∃p,posOf l x=p:=⟨_,rfl⟩
 unfold R6 at R7;rw[hp]at R7 OO;rw[hp];clear hx hp c3 hl hn;have hD:=dI c1;have key:∀wz:World,Below W.heap.size W wz→wz.cell? ⟨D,o+3,none⟩=some (.slice (some ⟨R,oR,none⟩) n c):=fun wz hb=>by rw[hb.cell hD];exact c1
 have KEY:=ah key;clear key hD;have hrx:(r<0∧x=65533)∨(¬r<0∧1114111<r∧x=65533)∨(¬r<0∧¬1114111<r∧x=r):=by
  have:=HX.out;unfold fD at this;by_cases a:r<0;·rw[ak (.inl a)]at this;exact .inl ⟨a,this.symm⟩
  ·by_cases b:1114111<r
   ·rw[ak (.inr b)]at this;exact .inr (.inl ⟨a,b,this.symm⟩)
   ·rw[aj (by omega)]at this;exact .inr (.inr ⟨a,b,this.symm⟩)
 have hend:(¬p<n)∨(p<n∧¬(l.getD p o8).1≤x)∨(p<n∧(l.getD p o8).1≤x):=by
  by_cases a:p<n
  ·by_cases b:(l.getD p o8).1≤x
   ·exact .inr (.inr ⟨a,b⟩)
   ·exact .inr (.inl ⟨a,b⟩)
  ·exact .inl a
 rcases hrx with⟨r1,rfl⟩|⟨r1,r2,rfl⟩|⟨r1,r2,rfl⟩<;>rcases hend with e1|⟨e1,e2⟩|⟨e1,e2⟩
 ·have dp:decide ((p:Int)<n)=false:=bg (by omega);have E1:=ah e1;clear e1;obtain⟨res,hres⟩:∃res,(if p<n∧(l.getD p o8).1≤65533 then(l.getD p o8).2.2 else 0)=res:=⟨_,rfl⟩
  rw[hres];have vG:=ah hres;clear hres;go_enter Tryz.func146,Tryz.ntmps146;go_wp2_with fail;refine R7.out.mono ?_;rintro e wz ⟨⟨b,rfl⟩,hb⟩;have k1:=KEY.out wz hb;have HB:=ah hb;clear hb;dsimp only;go_wp2;all_goals go_ret
  all_goals exact⟨by rw[←vG.out,aj (fun h=>absurd h.1 E1.out)];rfl,HB.out⟩
 ·have dp:decide ((p:Int)<n)=true:=bD (by omega);have E1:=ah e1;have E2:=ah e2;clear e1 e2;obtain⟨res,hres⟩:∃res,(if p<n∧(l.getD p o8).1≤65533 then(l.getD p o8).2.2 else 0)=res:=⟨_,rfl⟩
  rw[hres];have vG:=ah hres;clear hres;go_enter Tryz.func146,Tryz.ntmps146;go_wp2_with fail;refine R7.out.mono ?_;rintro e wz ⟨⟨b,rfl⟩,hb⟩;have k1:=KEY.out wz hb;have HB:=ah hb;obtain⟨f0,f1,f2⟩:=HC.out p E1.out;have hg:=dI f0;have g0:wz.cell? ⟨R,oR+p*3,none⟩=_:=(hb.cell (p:=⟨R,oR+p*3,none⟩) hg).trans f0;have g1:wz.cell? ⟨R,oR+p*3+1,none⟩=_:=(hb.cell (p:=⟨R,oR+p*3+1,none⟩) hg).trans f1;have g2:wz.cell? ⟨R,oR+p*3+2,none⟩=_:=(hb.cell (p:=⟨R,oR+p*3+2,none⟩) hg).trans f2;clear f0 f1 f2 hg hb;have E3:=E2.out;obtain⟨q,hq⟩:∃q,l.getD p o8=q:=⟨_,rfl⟩
  rw[hq]at g0 g1 g2 E3;have HQ:=ah hq;clear hq;obtain⟨lo,y,cl⟩:=q;dsimp only at g0 g1 g2;have de:decide (lo≤65533)=false:=bg (show ¬lo≤65533 from qm.2 E3);clear E3;dsimp only;go_wp2;all_goals go_ret
  all_goals exact⟨by rw[←vG.out,aj (fun h=>(qm.2 E2.out) h.2)];rfl,HB.out⟩
 ·have dp:decide ((p:Int)<n)=true:=bD (by omega);have E1:=ah e1;have E2:=ah e2;clear e1 e2;obtain⟨res,hres⟩:∃res,(if p<n∧(l.getD p o8).1≤65533 then(l.getD p o8).2.2 else 0)=res:=⟨_,rfl⟩
  rw[hres];have vG:=ah hres;clear hres;go_enter Tryz.func146,Tryz.ntmps146;go_wp2_with fail;refine R7.out.mono ?_;rintro e wz ⟨⟨b,rfl⟩,hb⟩;have k1:=KEY.out wz hb;have HB:=ah hb;obtain⟨f0,f1,f2⟩:=HC.out p E1.out;have hg:=dI f0;have g0:wz.cell? ⟨R,oR+p*3,none⟩=_:=(hb.cell (p:=⟨R,oR+p*3,none⟩) hg).trans f0;have g1:wz.cell? ⟨R,oR+p*3+1,none⟩=_:=(hb.cell (p:=⟨R,oR+p*3+1,none⟩) hg).trans f1;have g2:wz.cell? ⟨R,oR+p*3+2,none⟩=_:=(hb.cell (p:=⟨R,oR+p*3+2,none⟩) hg).trans f2;clear f0 f1 f2 hg hb;have E3:=E2.out;obtain⟨q,hq⟩:∃q,l.getD p o8=q:=⟨_,rfl⟩
  rw[hq]at g0 g1 g2 E3;have HQ:=ah hq;clear hq;obtain⟨lo,y,cl⟩:=q;dsimp only at g0 g1 g2;have de:decide (lo≤65533)=true:=bD E3;clear E3;dsimp only;go_wp2;all_goals go_ret
  all_goals exact⟨by rw[←vG.out,ak ⟨E1.out,E2.out⟩,HQ.out];rfl,HB.out⟩
 ·have dp:decide ((p:Int)<n)=false:=bg (by omega);have E1:=ah e1;clear e1;obtain⟨res,hres⟩:∃res,(if p<n∧(l.getD p o8).1≤65533 then(l.getD p o8).2.2 else 0)=res:=⟨_,rfl⟩
  rw[hres];have vG:=ah hres;clear hres;go_enter Tryz.func146,Tryz.ntmps146;go_wp2_with fail;refine R7.out.mono ?_;rintro e wz ⟨⟨b,rfl⟩,hb⟩;have k1:=KEY.out wz hb;have HB:=ah hb;clear hb;dsimp only;go_wp2;all_goals go_ret
  all_goals exact⟨by rw[←vG.out,aj (fun h=>absurd h.1 E1.out)];rfl,HB.out⟩
 ·have dp:decide ((p:Int)<n)=true:=bD (by omega);have E1:=ah e1;have E2:=ah e2;clear e1 e2;obtain⟨res,hres⟩:∃res,(if p<n∧(l.getD p o8).1≤65533 then(l.getD p o8).2.2 else 0)=res:=⟨_,rfl⟩
  rw[hres];have vG:=ah hres;clear hres;go_enter Tryz.func146,Tryz.ntmps146;go_wp2_with fail;refine R7.out.mono ?_;rintro e wz ⟨⟨b,rfl⟩,hb⟩;have k1:=KEY.out wz hb;have HB:=ah hb;obtain⟨f0,f1,f2⟩:=HC.out p E1.out;have hg:=dI f0;have g0:wz.cell? ⟨R,oR+p*3,none⟩=_:=(hb.cell (p:=⟨R,oR+p*3,none⟩) hg).trans f0;have g1:wz.cell? ⟨R,oR+p*3+1,none⟩=_:=(hb.cell (p:=⟨R,oR+p*3+1,none⟩) hg).trans f1;have g2:wz.cell? ⟨R,oR+p*3+2,none⟩=_:=(hb.cell (p:=⟨R,oR+p*3+2,none⟩) hg).trans f2;clear f0 f1 f2 hg hb;have E3:=E2.out;obtain⟨q,hq⟩:∃q,l.getD p o8=q:=⟨_,rfl⟩
  rw[hq]at g0 g1 g2 E3;have HQ:=ah hq;clear hq;obtain⟨lo,y,cl⟩:=q;dsimp only at g0 g1 g2;have de:decide (lo≤65533)=false:=bg (show ¬lo≤65533 from qm.2 E3);clear E3;dsimp only;go_wp2;all_goals go_ret
  all_goals exact⟨by rw[←vG.out,aj (fun h=>(qm.2 E2.out) h.2)];rfl,HB.out⟩
 ·have dp:decide ((p:Int)<n)=true:=bD (by omega);have E1:=ah e1;have E2:=ah e2;clear e1 e2;obtain⟨res,hres⟩:∃res,(if p<n∧(l.getD p o8).1≤65533 then(l.getD p o8).2.2 else 0)=res:=⟨_,rfl⟩
  rw[hres];have vG:=ah hres;clear hres;go_enter Tryz.func146,Tryz.ntmps146;go_wp2_with fail;refine R7.out.mono ?_;rintro e wz ⟨⟨b,rfl⟩,hb⟩;have k1:=KEY.out wz hb;have HB:=ah hb;obtain⟨f0,f1,f2⟩:=HC.out p E1.out;have hg:=dI f0;have g0:wz.cell? ⟨R,oR+p*3,none⟩=_:=(hb.cell (p:=⟨R,oR+p*3,none⟩) hg).trans f0;have g1:wz.cell? ⟨R,oR+p*3+1,none⟩=_:=(hb.cell (p:=⟨R,oR+p*3+1,none⟩) hg).trans f1;have g2:wz.cell? ⟨R,oR+p*3+2,none⟩=_:=(hb.cell (p:=⟨R,oR+p*3+2,none⟩) hg).trans f2;clear f0 f1 f2 hg hb;have E3:=E2.out;obtain⟨q,hq⟩:∃q,l.getD p o8=q:=⟨_,rfl⟩
  rw[hq]at g0 g1 g2 E3;have HQ:=ah hq;clear hq;obtain⟨lo,y,cl⟩:=q;dsimp only at g0 g1 g2;have de:decide (lo≤65533)=true:=bD E3;clear E3;dsimp only;go_wp2;all_goals go_ret
  all_goals exact⟨by rw[←vG.out,ak ⟨E1.out,E2.out⟩,HQ.out];rfl,HB.out⟩
 ·have dp:decide ((p:Int)<n)=false:=bg (by omega);have E1:=ah e1;clear e1;obtain⟨res,hres⟩:∃res,(if p<n∧(l.getD p o8).1≤x then(l.getD p o8).2.2 else 0)=res:=⟨_,rfl⟩
  rw[hres];have vG:=ah hres;clear hres;go_enter Tryz.func146,Tryz.ntmps146;go_wp2_with fail;refine R7.out.mono ?_;rintro e wz ⟨⟨b,rfl⟩,hb⟩;have k1:=KEY.out wz hb;have HB:=ah hb;clear hb;dsimp only;go_wp2;all_goals go_ret
  all_goals exact⟨by rw[←vG.out,aj (fun h=>absurd h.1 E1.out)];rfl,HB.out⟩
 ·have dp:decide ((p:Int)<n)=true:=bD (by omega);have E1:=ah e1;have E2:=ah e2;clear e1 e2;obtain⟨res,hres⟩:∃res,(if p<n∧(l.getD p o8).1≤x then(l.getD p o8).2.2 else 0)=res:=⟨_,rfl⟩
  rw[hres];have vG:=ah hres;clear hres;go_enter Tryz.func146,Tryz.ntmps146;go_wp2_with fail;refine R7.out.mono ?_;rintro e wz ⟨⟨b,rfl⟩,hb⟩;have k1:=KEY.out wz hb;have HB:=ah hb;obtain⟨f0,f1,f2⟩:=HC.out p E1.out;have hg:=dI f0;have g0:wz.cell? ⟨R,oR+p*3,none⟩=_:=(hb.cell (p:=⟨R,oR+p*3,none⟩) hg).trans f0;have g1:wz.cell? ⟨R,oR+p*3+1,none⟩=_:=(hb.cell (p:=⟨R,oR+p*3+1,none⟩) hg).trans f1;have g2:wz.cell? ⟨R,oR+p*3+2,none⟩=_:=(hb.cell (p:=⟨R,oR+p*3+2,none⟩) hg).trans f2;clear f0 f1 f2 hg hb;have E3:=E2.out;obtain⟨q,hq⟩:∃q,l.getD p o8=q:=⟨_,rfl⟩
  rw[hq]at g0 g1 g2 E3;have HQ:=ah hq;clear hq;obtain⟨lo,y,cl⟩:=q;dsimp only at g0 g1 g2;have de:decide (lo≤x)=false:=bg (show ¬lo≤x from qm.2 E3);clear E3;dsimp only;go_wp2;all_goals go_ret
  all_goals exact⟨by rw[←vG.out,aj (fun h=>(qm.2 E2.out) h.2)];rfl,HB.out⟩
 ·have dp:decide ((p:Int)<n)=true:=bD (by omega);have E1:=ah e1;have E2:=ah e2;clear e1 e2;obtain⟨res,hres⟩:∃res,(if p<n∧(l.getD p o8).1≤x then(l.getD p o8).2.2 else 0)=res:=⟨_,rfl⟩
  rw[hres];have vG:=ah hres;clear hres;go_enter Tryz.func146,Tryz.ntmps146;go_wp2_with fail;refine R7.out.mono ?_;rintro e wz ⟨⟨b,rfl⟩,hb⟩;have k1:=KEY.out wz hb;have HB:=ah hb;obtain⟨f0,f1,f2⟩:=HC.out p E1.out;have hg:=dI f0;have g0:wz.cell? ⟨R,oR+p*3,none⟩=_:=(hb.cell (p:=⟨R,oR+p*3,none⟩) hg).trans f0;have g1:wz.cell? ⟨R,oR+p*3+1,none⟩=_:=(hb.cell (p:=⟨R,oR+p*3+1,none⟩) hg).trans f1;have g2:wz.cell? ⟨R,oR+p*3+2,none⟩=_:=(hb.cell (p:=⟨R,oR+p*3+2,none⟩) hg).trans f2;clear f0 f1 f2 hg hb;have E3:=E2.out;obtain⟨q,hq⟩:∃q,l.getD p o8=q:=⟨_,rfl⟩
  rw[hq]at g0 g1 g2 E3;have HQ:=ah hq;clear hq;obtain⟨lo,y,cl⟩:=q;dsimp only at g0 g1 g2;have de:decide (lo≤x)=true:=bD E3;clear E3;dsimp only;go_wp2;all_goals go_ret
  all_goals exact⟨by rw[←vG.out,ak ⟨E1.out,E2.out⟩,HQ.out];rfl,HB.out⟩
theorem UK (x:Int) (w:World):Calls Tryz.prog 154 #[.int .i64 x] w fun e w'=>e= .returned (.bool false)∧w'=w:=by go_enter Tryz.func154,Tryz.ntmps154;go_wp2;go_ret;exact⟨by simp,rfl⟩
theorem xC (x:Int) (w:World):Calls Tryz.prog 103 #[.int .i64 x] w fun e w'=>e= .returned (.bool false)∧w'=w:=by go_enter Tryz.func103,Tryz.ntmps103;go_wp2;go_ret;exact⟨by simp,rfl⟩
theorem Ev (x y:Int) (w:World):Calls Tryz.prog 102 #[.int .i64 x, .int .i64 y] w fun e w'=>e= .returned (.bool (decide (x<y)))∧w'=w:=by go_enter Tryz.func102,Tryz.ntmps102;go_wp2_with (go_at_call 154;refine(UK _ _).mono ?_;rintro e w' ⟨rfl,rfl⟩);go_ret;exact⟨rfl,rfl⟩
structure bR (w:World) (A:Option Addr) (n:Nat) (zs:List Int):Prop where
 len:zs.length=n
 small:n≤100000
 at_:0<n→∃g o,A=some ⟨g,o,none⟩∧g<w.heap.size∧∀j,j<n→w.cell? ⟨g,o+j,none⟩=some (.int .i64 (zs.getD j 0))
def Lj (zs:List Int) (x:Int):Nat→Nat→Nat→Nat
 |0,lo,_=>lo
 |f+1,lo,hi=>if lo<hi then(if zs.getD ((lo+hi)/2) 0<x then Lj zs x f ((lo+hi)/2+1) hi else Lj zs x f lo ((lo+hi)/2))else lo
def R9 (zs:List Int) (x:Int):Bool:=decide (Lj zs x zs.length 0 zs.length<zs.length)&&decide (zs.getD (Lj zs x zs.length 0 zs.length) 0=x)
theorem abr (zs:List Int) (x:Int) (f lo:Nat):Lj zs x f lo lo=lo:=by
 cases f with
 |zero=>rfl
 |succ f=>unfold Lj;rw[aj (dB _)]
def KJ (zs:List Int) (x:Int) (W:World) (e:Ending) (w':World):Prop:=∃m:Int,e= .returned (.tuple #[.int .i64 m, .bool (R9 zs x)])∧Below W.heap.size W w'
theorem ae8 (zs:List Int) (x:Int) (A:Option Addr) (n c:Nat) (W:World) (h:bR W A n zs):
 Calls Tryz.prog 53 #[.slice A n c, .int .i64 x] W (KJ zs x W):=by
 have hsm:=h.small;have HC:=ah h;clear h;have HF:=ah (show R9 zs x=(decide (Lj zs x n 0 n<n)&&decide (zs.getD (Lj zs x n 0 n) 0=x))by unfold R9;rw[HC.out.len]);obtain⟨P,hP⟩:∃P,Lj zs x n 0 n=P:=⟨_,rfl⟩
 obtain⟨z,hz⟩:∃z,R9 zs x=z:=⟨_,rfl⟩
 rw[hP,hz]at HF;unfold KJ;rw[hz];have HP:=ah hP;clear hP hz;go_enter Tryz.func53,Tryz.ntmps53;go_wp2;go_loopw [7,8] (fun s7 s8 wr=>∃lo hi f:Nat,s7= .int .i64 lo∧s8= .int .i64 hi∧lo≤hi∧hi≤n∧hi≤lo+f∧Lj zs x f lo hi=P∧Below W.heap.size W wr) (fun a b _=>(RowKit.intOf b-RowKit.intOf a).toNat);case atStart=>exact⟨0,n,n,rfl,rfl,aH _,ay _,by omega,HP.out,aG _ _⟩
 case round=>
  obtain⟨lo,hi,f,rfl,rfl,hlh,hin,hf,hp,hb⟩:=hrel;have HB:=ah hb;clear hb;by_cases hlt:lo<hi
  ·obtain⟨f',rfl⟩:∃f',f=f'+1:=⟨f-1,by omega⟩
   unfold Lj at hp;rw[ak hlt]at hp;obtain⟨g,o,rfl,hgl,hcell⟩:=HC.out.at_ (by omega);have cm:wr.cell? ⟨g,o+(lo+hi)/2,none⟩=some (.int .i64 (zs.getD ((lo+hi)/2) 0)):=(HB.out.cell (p:=⟨g,o+(lo+hi)/2,none⟩) hgl).trans (hcell _ (by omega));clear hcell;obtain⟨y,hy⟩:∃y,zs.getD ((lo+hi)/2) 0=y:=⟨_,rfl⟩
   rw[hy]at cm hp;have HPP:=ah hp;clear hy hp;by_cases hyx:y<x
   ·have HQ:=ah (show Lj zs x f' ((lo+hi)/2+1) hi=P by have:=HPP.out;rwa [ak hyx]at this);go_wp2_with (first|(go_at_call 102;refine(Ev _ _ _).mono ?_;rintro e w' ⟨rfl,rfl⟩)|(go_at_call 103;refine(xC _ _).mono ?_;rintro e w' ⟨rfl,rfl⟩));go_roundw;case rel=>exact⟨(lo+hi)/2+1,hi,f',by rw[show((lo:Int)+(hi:Int))/2+1=(((lo+hi)/2+1:Nat):Int)by omega],rfl,by omega,hin,by omega,HQ.out,HB.out⟩
    case measure=>simp[RowKit.intOf];omega
   ·have HQ:=ah (show Lj zs x f' lo ((lo+hi)/2)=P by have:=HPP.out;rwa [aj hyx]at this);go_wp2_with (first|(go_at_call 102;refine(Ev _ _ _).mono ?_;rintro e w' ⟨rfl,rfl⟩)|(go_at_call 103;refine(xC _ _).mono ?_;rintro e w' ⟨rfl,rfl⟩));go_roundw;case rel=>exact⟨lo,(lo+hi)/2,f',rfl,by rw[show((lo:Int)+(hi:Int))/2=(((lo+hi)/2:Nat):Int)by omega],by omega,by omega,by omega,HQ.out,HB.out⟩
    case measure=>simp[RowKit.intOf];omega
  ·have:hi=lo:=by omega
   subst this;rw[abr]at hp;have HPP:=ah hp;clear hp;by_cases hn:hi<n
   ·obtain⟨g,o,rfl,hgl,hcell⟩:=HC.out.at_ (by omega);have cl:wr.cell? ⟨g,o+hi,none⟩=some (.int .i64 (zs.getD hi 0)):=(HB.out.cell (p:=⟨g,o+hi,none⟩) hgl).trans (hcell _ hn);clear hcell;obtain⟨y,hy⟩:∃y,zs.getD hi 0=y:=⟨_,rfl⟩
    rw[hy]at cl;have HY:=ah hy;clear hy;by_cases hyx:y=x;·have HZ:=ah (show z=true by rw[HF.out,←HPP.out,HY.out,hyx];simp;exact hn);go_wp2_with (first|(go_at_call 102;refine(Ev _ _ _).mono ?_;rintro e w' ⟨rfl,rfl⟩)|(go_at_call 103;refine(xC _ _).mono ?_;rintro e w' ⟨rfl,rfl⟩));go_ret2;rw[HZ.out];exact⟨(hi:Int),by first|rfl|simp[hyx],HB.out⟩
    ·have HZ:=ah (show z=false by rw[HF.out,←HPP.out,HY.out];simp;intro _;exact hyx);go_wp2_with (first|(go_at_call 102;refine(Ev _ _ _).mono ?_;rintro e w' ⟨rfl,rfl⟩)|(go_at_call 103;refine(xC _ _).mono ?_;rintro e w' ⟨rfl,rfl⟩));go_ret2;rw[HZ.out];exact⟨(hi:Int),by first|rfl|simp[hyx],HB.out⟩
   ·have HZ:=ah (show z=false by rw[HF.out,←HPP.out];simp;intro h;exact absurd h hn);go_wp2_with fail;go_ret2;rw[HZ.out];exact⟨(hi:Int),by first|rfl|simp,HB.out⟩
end Go.Proofs.YtocaiijbhepnnaaGreatDoor.searchAsks
