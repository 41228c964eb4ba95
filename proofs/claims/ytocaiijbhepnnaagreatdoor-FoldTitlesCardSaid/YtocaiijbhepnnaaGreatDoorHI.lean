/- FoldTitles, walked: the document's passed, final, small. -/
import Derived.Test.YtocaiijbhepnnaaGreatDoorHD
set_option maxRecDepth 100000
set_option maxHeartbeats 4000000
namespace Go.Proofs.YtocaiijbhepnnaaGreatDoor.foldTitles
open Go.Shelf Go.RowKit Go.Lib Go.Proofs.YtocaiijbhepnnaaGreatDoor.Am
def Bv (L:List (List (Int×Int))) (q:Int):Nat:=L.findIdx λl=>kM l q
def qb (L:List (List (Int×Int))) (q:Int):Int:=if Bv L q<13 then(Bv L q:Int)+1 else 0
theorem zD {L:List (List (Int×Int))} (hL:L.length=13) {q:Int} {k:Nat} (hk:k<13) (h:kM (L.getD k []) q=true) (hlo:∀j,j<k->kM (L.getD j []) q=false):Bv L q=k:=by
 have hk':k<L.length:=by rw[hL];exact hk
 unfold Bv;rw[List.findIdx_eq hk'];rw[aG,aS hk']at h;refine⟨h,λj hj=> ?_⟩;have:=hlo j hj;rw[aG,aS (Nat.lt_trans hj hk')]at this;exact this
theorem zF {L:List (List (Int×Int))} (hL:L.length=13) {q:Int} (hlo:∀j,j<13->kM (L.getD j []) q=false):Bv L q=13:=by unfold Bv;rw[<-hL];refine List.findIdx_eq_length_of_false λl hl=> ?_;obtain⟨j,hj,he⟩:=mD.1 hl;have:=hlo j (by rw[<-hL];exact hj);rw[aG,aS hj]at this;subst he;exact this
theorem Oh:∀j,j<13->(wR.getD j []).length<=100000:=by decide+kernel
theorem WJ (L:List (List (Int×Int))) (hL:L.length=13) (hs:∀j,j<13->(L.getD j []).length<=100000) (r:Int) (v:Value) (W:World) (h:uj W v L):Calls Tryz.prog 162 #[v, .int .i32 r] W (za (qb L (eF r)) W):=by
 obtain⟨D,o,S,oS,c,rfl,c1,l1,hS⟩:=h;rw[hL]at c1 l1;have GK:=ah hL;have HSM:=ah hs;have HS:=ah (show ∀i,i<13->∃s,W.cell? ⟨S,oS+(i+1),none⟩=some s/\KM W s (L.getD i [])from λi hi=>hS i (by rw[hL];exact hi));clear hS hL hs;obtain⟨q,hq⟩:∃q,eF r=q:=⟨_,rfl⟩
 have HQ:=ah (show 0<=q/\q<=1114111 by rw[<-hq];unfold eF;split<;>omega);rw[hq];go_enter Tryz.func162,Tryz.ntmps162;have hcase:(decide (r<0)=true/\q=65533)\/(decide (r<0)=false/\decide (1114111<r)=true/\q=65533)\/(decide (r<0)=false/\decide (1114111<r)=false/\r=q):=by
  unfold eF at hq;by_cases h0:r<0;·rw[au (Or.inl h0)]at hq;exact Or.inl ⟨aO h0,hq.symm⟩
  ·by_cases h1:1114111<r
   ·rw[au (Or.inr h1)]at hq;exact Or.inr (Or.inl ⟨aP h0,aO h1,hq.symm⟩)
   ·rw[aj (by omega)]at hq;exact Or.inr (Or.inr ⟨aP h0,aP h1,hq⟩)
 clear hq;rcases hcase with⟨d0,hq⟩|⟨d0,d1,hq⟩|⟨d0,d1,hq⟩
 ·go_wp2;rw[<-hq];clear d0 hq;go_loop [5] (λi=>∃k:Nat,k<=13/\i= .int .i64 ((k:Int)+1)/\∀j,j<k->kM (L.getD j []) q=false) (λi=>14-(RowKit.intOf i).toNat);case atStart=>exact⟨0,by omega,rfl,λj hj=>by omega⟩
  case round=>
   obtain⟨k,hk,rfl,hlo⟩:=hrel;have mY:=ah hlo;clear hlo;by_cases hlt:k<13
   ·obtain⟨s,e1,e2⟩:=HS.out k hlt;have HE:=ah e2;obtain⟨sg,so,sc,rfl,_⟩:=e2;have HB:=ah (zD GK.out (q:=q) hlt);have HL:=ah (HSM.out k hlt);obtain⟨l,hl⟩:∃l,L.getD k []=l:=⟨_,rfl⟩
    rw[hl]at HE HB HL e1;have HN:=ah hl;clear hl;obtain⟨n,hn⟩:∃n,l.length=n:=⟨_,rfl⟩
    rw[hn]at e1 HL HE;have HM:=ah hn;clear hn;rcases xE (kM l q)with hb|hb;·have HH:=ah hb;clear hb;go_wp2_with (go_at_call 228;refine(mF l _ HQ.out.1 HQ.out.2 _ _ rfl (by rw[HM.out];exact HL.out) _ HE.out).mono ?_;rintro e w1 ⟨rfl,rfl⟩;rw[HH.out]);go_ret;refine⟨?_,aK _ _⟩;have:=HB.out HH.out mY.out;unfold qb;rw[this,au hlt];rfl
    ·have HH:=ah hb;clear hb;go_wp2_with (go_at_call 228;refine(mF l _ HQ.out.1 HQ.out.2 _ _ rfl (by rw[HM.out];exact HL.out) _ HE.out).mono ?_;rintro e w1 ⟨rfl,rfl⟩;rw[HH.out]);go_round;case rel=>exact⟨k+1,hlt,by go_num,λj hj=>by
      rcases aF j k with c|c;·exact mY.out j c
      ·obtain rfl:j=k:=by omega
       rw[HN.out];exact HH.out⟩
     case measure=>simp[RowKit.intOf];omega
   ·obtain rfl:k=13:=by omega
    go_wp2;go_ret;refine⟨?_,aK _ _⟩;unfold qb;rw[zF GK.out mY.out,aj (by decide)];rfl
 ·go_wp2;rw[<-hq];clear d0 d1 hq;go_loop [5] (λi=>∃k:Nat,k<=13/\i= .int .i64 ((k:Int)+1)/\∀j,j<k->kM (L.getD j []) q=false) (λi=>14-(RowKit.intOf i).toNat);case atStart=>exact⟨0,by omega,rfl,λj hj=>by omega⟩
  case round=>
   obtain⟨k,hk,rfl,hlo⟩:=hrel;have mY:=ah hlo;clear hlo;by_cases hlt:k<13
   ·obtain⟨s,e1,e2⟩:=HS.out k hlt;have HE:=ah e2;obtain⟨sg,so,sc,rfl,_⟩:=e2;have HB:=ah (zD GK.out (q:=q) hlt);have HL:=ah (HSM.out k hlt);obtain⟨l,hl⟩:∃l,L.getD k []=l:=⟨_,rfl⟩
    rw[hl]at HE HB HL e1;have HN:=ah hl;clear hl;obtain⟨n,hn⟩:∃n,l.length=n:=⟨_,rfl⟩
    rw[hn]at e1 HL HE;have HM:=ah hn;clear hn;rcases xE (kM l q)with hb|hb;·have HH:=ah hb;clear hb;go_wp2_with (go_at_call 228;refine(mF l _ HQ.out.1 HQ.out.2 _ _ rfl (by rw[HM.out];exact HL.out) _ HE.out).mono ?_;rintro e w1 ⟨rfl,rfl⟩;rw[HH.out]);go_ret;refine⟨?_,aK _ _⟩;have:=HB.out HH.out mY.out;unfold qb;rw[this,au hlt];rfl
    ·have HH:=ah hb;clear hb;go_wp2_with (go_at_call 228;refine(mF l _ HQ.out.1 HQ.out.2 _ _ rfl (by rw[HM.out];exact HL.out) _ HE.out).mono ?_;rintro e w1 ⟨rfl,rfl⟩;rw[HH.out]);go_round;case rel=>exact⟨k+1,hlt,by go_num,λj hj=>by
      rcases aF j k with c|c;·exact mY.out j c
      ·obtain rfl:j=k:=by omega
       rw[HN.out];exact HH.out⟩
     case measure=>simp[RowKit.intOf];omega
   ·obtain rfl:k=13:=by omega
    go_wp2;go_ret;refine⟨?_,aK _ _⟩;unfold qb;rw[zF GK.out mY.out,aj (by decide)];rfl
 ·subst hq;go_wp2;clear d0 d1;go_loop [5] (λi=>∃k:Nat,k<=13/\i= .int .i64 ((k:Int)+1)/\∀j,j<k->kM (L.getD j []) r=false) (λi=>14-(RowKit.intOf i).toNat);case atStart=>exact⟨0,by omega,rfl,λj hj=>by omega⟩
  case round=>
   obtain⟨k,hk,rfl,hlo⟩:=hrel;have mY:=ah hlo;clear hlo;by_cases hlt:k<13
   ·obtain⟨s,e1,e2⟩:=HS.out k hlt;have HE:=ah e2;obtain⟨sg,so,sc,rfl,_⟩:=e2;have HB:=ah (zD GK.out (q:=r) hlt);have HL:=ah (HSM.out k hlt);obtain⟨l,hl⟩:∃l,L.getD k []=l:=⟨_,rfl⟩
    rw[hl]at HE HB HL e1;have HN:=ah hl;clear hl;obtain⟨n,hn⟩:∃n,l.length=n:=⟨_,rfl⟩
    rw[hn]at e1 HL HE;have HM:=ah hn;clear hn;rcases xE (kM l r)with hb|hb;·have HH:=ah hb;clear hb;go_wp2_with (go_at_call 228;refine(mF l _ HQ.out.1 HQ.out.2 _ _ rfl (by rw[HM.out];exact HL.out) _ HE.out).mono ?_;rintro e w1 ⟨rfl,rfl⟩;rw[HH.out]);go_ret;refine⟨?_,aK _ _⟩;have:=HB.out HH.out mY.out;unfold qb;rw[this,au hlt];rfl
    ·have HH:=ah hb;clear hb;go_wp2_with (go_at_call 228;refine(mF l _ HQ.out.1 HQ.out.2 _ _ rfl (by rw[HM.out];exact HL.out) _ HE.out).mono ?_;rintro e w1 ⟨rfl,rfl⟩;rw[HH.out]);go_round;case rel=>exact⟨k+1,hlt,by go_num,λj hj=>by
      rcases aF j k with c|c;·exact mY.out j c
      ·obtain rfl:j=k:=by omega
       rw[HN.out];exact HH.out⟩
     case measure=>simp[RowKit.intOf];omega
   ·obtain rfl:k=13:=by omega
    go_wp2;go_ret;refine⟨?_,aK _ _⟩;unfold qb;rw[zF GK.out mY.out,aj (by decide)];rfl
theorem Zk (r:Int) (v:Value) (W:World) (h:uj W v wR):Calls Tryz.prog 162 #[v, .int .i32 r] W (za (qb wR (eF r)) W):=WJ wR rfl Oh r v W h
theorem xS (c q:Int):kM (setOf c) q=true↔∃x∈fB,x.2.2=c/\x.1<=q/\q<=x.2.1:=by
 unfold kM setOf;rw[rR];constructor;·rintro⟨p,hp,hc⟩;obtain⟨x,hx,rfl⟩:=bX.1 hp;obtain⟨h1,h2⟩:=kg.1 hx;rw[aQ,aY,aY]at hc;exact⟨x,h1,gK h2,hc.1,hc.2⟩
 ·rintro⟨x,h1,h2,h3,h4⟩;exact⟨(x.1,x.2.1),bX.2 ⟨x,kg.2 ⟨h1,aO h2⟩,rfl⟩,by rw[aO h3,aO h4];rfl⟩
def Zl:List fI->Bool
 |[]=>true
 |x::l=>decide (x.1<=x.2.1)&&(l.all (λy=>decide (x.2.1<y.1))&&Zl l)
theorem LW (q:Int):∀l:List fI,Zl l=true->(∃x∈l,x.1<=q/\q<=x.2.1/\dQ l q=x.2.2/\∀y∈l,y.1<=q->q<=y.2.1->y=x)\/((∀x∈l,¬(x.1<=q/\q<=x.2.1))/\dQ l q=0)
 |[],_=> .inr ⟨λx h=>absurd h nQ,rfl⟩
 |a::l,h=>by
  unfold Zl at h;rw[aQ,aQ,aY,dZ]at h;obtain⟨h1,h2,h3⟩:=h;have h2:∀y∈l,a.2.1<y.1:=λy hy=>gK (h2 y hy);by_cases c:q<=a.2.1
  ·have hf:dQ (a::l) q=if a.1<=q then a.2.2 else 0:=by unfold dQ;rw[List.find?_cons_of_pos (by exact aO c)]
   by_cases d:a.1<=q
   ·refine .inl ⟨a,oK,d,c,by rw[hf,au d],λy hy e1 e2=> ?_⟩;rcases aR.1 hy with rfl|hy
    ·rfl
    ·have:=h2 y hy;omega
   ·refine .inr ⟨λx hx e=> ?_,by rw[hf,aj d]⟩;rcases aR.1 hx with rfl|hx
    ·exact d e.1
    ·have:=h2 x hx;omega
  ·have hf:dQ (a::l) q=dQ l q:=by unfold dQ;rw[List.find?_cons_of_neg (by simpa using c)]
   rcases LW q l h3 with⟨x,hx,e1,e2,e3,e4⟩|⟨e1,e2⟩
   ·refine .inl ⟨x,rH _ hx,e1,e2,by rw[hf,e3],λy hy f1 f2=> ?_⟩;rcases aR.1 hy with rfl|hy
    ·exact absurd f2 c
    ·exact e4 y hy f1 f2
   ·refine .inr ⟨λx hx e=> ?_,by rw[hf,e2]⟩;rcases aR.1 hx with rfl|hx
    ·exact c e.2
    ·exact e1 x hx e
theorem LX:Zl fB=true:=by decide+kernel
theorem LY:(fB.all λx=>decide (1<=x.2.2)&&decide (x.2.2<=13))=true:=by decide+kernel
theorem AO:∀k,k<13->wR.getD k []=setOf ((k:Int)+1):=λk hk=>match k,hk with
 |0,_=>rfl
 |1,_=>rfl
 |2,_=>rfl
 |3,_=>rfl
 |4,_=>rfl
 |5,_=>rfl
 |6,_=>rfl
 |7,_=>rfl
 |8,_=>rfl
 |9,_=>rfl
 |10,_=>rfl
 |11,_=>rfl
 |12,_=>rfl
 |n+13,h=>absurd h (by omega)
theorem WK (q:Int):qb wR q=dQ fB q:=by
 unfold qb;rcases LW q fB LX with⟨x,hx,e1,e2,e3,e4⟩|⟨e1,e2⟩
 ·have hc:=dZ.1 LY x hx;rw[aQ,aY,aY]at hc;obtain⟨k,hk⟩:∃k:Nat,x.2.2=(k:Int)+1:=⟨(x.2.2-1).toNat,by omega⟩
  have acn:k<13:=by omega
  have hs:Bv wR q=k:=zD rfl acn (by rw[AO k acn,xS];exact⟨x,hx,hk,e1,e2⟩) (λj hj=>by
   rw[AO j (by omega),rO];intro h;obtain⟨y,hy,f1,f2,f3⟩:=(xS _ _).1 h;have:=e4 y hy f2 f3;subst this;omega)
  rw[hs,au acn,e3,hk]
 ·have hs:Bv wR q=13:=zF rfl (λj hj=>by
   rw[AO j hj,rO];intro h;obtain⟨y,hy,f1,f2,f3⟩:=(xS _ _).1 h;exact e1 y hy ⟨f2,f3⟩)
  rw[hs,aj (by decide),e2]
theorem bH {w w':World} {v:Value} (h:Bj w v) (hb:Below w.heap.size w w'):Bj w' v:=by obtain⟨h1,B,o,G,oG,d,rfl,c1,c2,h2⟩:=h;exact⟨uK h1 hb,B,o,G,oG,d,rfl,by rw[hb.cell (aW c1)];exact c1,by rw[hb.cell (aW c2)];exact c2,mW h2 hb⟩
def Qe (c r:Int):Bool:=decide (c=4)||(decide (c=5)||(decide (c=6)||(decide (r=39)||(decide (r=46)||(decide (r=58)||(decide (r=183)||decide (r=8217)))))))
theorem Oi (r:Int):bE r=Qe (Nn r) r:=by unfold bE Qe oV qh;rw[dY];simp only[dI,rM,aR,nQ,mU,aY];omega
theorem iy (r:Int) (v:Value) (W:World) (h:Bj W v):Calls Tryz.prog 165 #[v, .int .i32 r] W (uG r W):=by
 obtain⟨_,B,o,G,oG,d,rfl,c1,c2,hs⟩:=h;have HD:=ah (Zk r d W hs);obtain⟨c,hc⟩:∃c,Nn r=c:=⟨_,rfl⟩
 have HP:=ah (show bE r=Qe c r by rw[<-hc];exact Oi r);rw[WK,show dQ fB (eF r)=c from hc]at HD;clear hs hc;unfold uG;rw[HP.out];unfold Qe;go_enter Tryz.func165,Tryz.ntmps165;go_wp2_with (go_at_call 162;refine HD.out.mono ?_;rintro e w1 ⟨rfl,hb⟩;have HB:=ah hb;clear hb);all_goals go_ret
 all_goals refine⟨?_,HB.out⟩
 all_goals (clear HD HP HB c1 c2;simp_all)
 rw[dY];simp[*]
structure uP (w:World) (g n:Nat) (rs:List Int):Prop where
 len:rs.length=n
 small:n<=10000
 rune:∀j,j<n->rZ (rs.getD j 0)=true
 lt:0<n->g<w.heap.size
 cell:∀j,j<n->w.cell? ⟨g,j*4+2,none⟩=some (.int .i32 (rs.getD j 0))
theorem uP.below {w w':World} {g n:Nat} {rs:List Int} (h:uP w g n rs) (hb:Below w.heap.size w w'):uP w' g n rs:=
 ⟨h.len,h.small,h.rune,λhn=>bJ (h.lt hn) hb.size,λj hj=>by rw[hb.cell (p:=⟨g,j*4+2,none⟩) (h.lt (by omega))];exact h.cell j hj⟩
theorem uP.int {w:World} {g n:Nat} {rs:List Int} (h:uP w g n rs) {j:Nat} (hj:j<n): -2147483648<=rs.getD j 0/\rs.getD j 0<=2147483647:=by have:=(jc _).1 (h.rune j hj);omega
theorem wD (r:Int) (hr: -2147483648<=r/\r<=2147483647) (v:Value) (W:World) (h:Bj W v):Calls Tryz.prog 65 #[v, .int .i32 r] W (Aq (Cases.cased r) W):=by rw[Cases.QT];exact Ru r hr v W h.1.1
theorem Sc (rs:List Int) (v:Value) (g n c i:Nat) (hi:i<n) (W:World) (h:Bj W v) (hm:uP W g n rs):
 Calls Tryz.prog 114 #[v, .slice (some ⟨g,0,none⟩) n c, .int .i64 i] W (Aq (finalF rs i) W):=by
 have hsm:=hm.small;obtain⟨B,oB,rfl⟩:∃B o,v= .pointer (some ⟨B,o,none⟩):=by obtain⟨_,B,o,_,_,_,rfl,_⟩:=h;exact⟨B,o,rfl⟩
 obtain⟨z,hz⟩:∃z,finalF rs i=z:=⟨_,rfl⟩
 rw[hz];have HZ:=ah hz;have HO:=ah h;have HM:=ah hm;clear hz h hm;go_enter Tryz.func114,Tryz.ntmps114;go_wp2;go_loopw [7] (λa wr=>∃k:Nat,k<=i/\a= .int .i64 ((k:Int)-1)/\sO rs k=sO rs i/\Below W.heap.size W wr) (λa _=>(RowKit.intOf a+1).toNat);case atStart=>exact⟨i,ay _,rfl,rfl,aK _ _⟩
 case round=>
  obtain⟨k,hk,rfl,hbk,hb⟩:=hrel;have HB:=ah hb;have WZ:=ah hbk;clear hb hbk;rcases jG k with rfl|hpos
  ·have hz:z=false:=by rw[<-HZ.out];unfold finalF;rw[<-WZ.out];rfl
   have HZ2:=ah hz;clear hz;rw[show((0:Nat):Int)-1= -1 from rfl];go_wp2;go_loopw [8] (λa w2=>∃j f:Nat,j<=n/\a= .int .i64 j/\Ap rs f j=Ap rs n (i+1)/\n<=f+j/\Below W.heap.size W w2) (λa _=>n-(RowKit.intOf a).toNat);case atStart=>exact⟨i+1,n,hi,by go_num,rfl,by omega,HB.out⟩
   case round=>
    obtain⟨j,f,hjn,rfl,hon,hf,hb⟩:=hrel;have HB:=ah hb;have Nq:=ah hon;clear hb hon;by_cases hlt:j<n
    ·obtain⟨f',rfl⟩:∃f',f=f'+1:=⟨f-1,by omega⟩
     have d4:=(HM.out.below HB.out).cell j hlt;have HI2:=ah (HM.out.int hlt);obtain⟨r2,hr2⟩:∃r2,rs.getD j 0=r2:=⟨_,rfl⟩
     rw[hr2]at d4 HI2;have HR2:=ah hr2;clear hr2;have hstep:Ap rs (f'+1) j=if bE r2=true then Ap rs f' (j+1)else j:=by
      show(if j<rs.length/\bE (rs.getD j 0)=true then _ else _)=_;rw[HR2.out];by_cases q:bE r2=true;·rw[au ⟨by rw[HM.out.len];exact hlt,q⟩,au q]
      ·rw[aj (λh=>q h.2),aj q]
     have HS2:=ah hstep;clear hstep;cases hp2:bE r2;·have ED:=ah hp2;clear hp2;have U6:=ah (show Ap rs rs.length (i+1)=j by rw[HM.out.len,<-Nq.out,HS2.out,ED.out];rfl);go_wp2_with (go_at_call 165;refine(iy r2 _ _ (bH HO.out HB.out)).mono ?_;rintro x wz ⟨rfl,hbz⟩;rw[ED.out];have HB:=ah (HB.out.trans (hbz.mono HB.out.size));clear hbz);go_ret;exact⟨by rw[HZ2.out];rfl,HB.out⟩
     ·have ED:=ah hp2;clear hp2;go_wp2_with (go_at_call 165;refine(iy r2 _ _ (bH HO.out HB.out)).mono ?_;rintro x wz ⟨rfl,hbz⟩;rw[ED.out];have HB:=ah (HB.out.trans (hbz.mono HB.out.size));clear hbz);refine⟨⟨j+1,f',by omega,by go_num,?_,by omega,HB.out⟩,by simp[RowKit.intOf];omega⟩;rw[<-Nq.out,HS2.out,ED.out];rfl
    ·obtain rfl:j=n:=by omega
     have U6:=ah (show Ap rs rs.length (i+1)=rs.length by
      rw[HM.out.len,<-Nq.out];cases f with
      |zero=>rfl
      |succ f'=>show(if j<rs.length/\_ then _ else _)=_;rw[aj (λh=>by have:=HM.out.len;omega)])
     go_wp2;go_ret;exact⟨by rw[HZ2.out];rfl,HB.out⟩
  ·obtain⟨k',rfl⟩:∃k',k=k'+1:=⟨k-1,by omega⟩
   have e1:((k'+1:Nat):Int)-1=(k':Int):=by omega
   rw[e1];clear e1 hpos;have hkn:k'<n:=by omega
   have d2:=(HM.out.below HB.out).cell k' hkn;have HI1:=ah (HM.out.int hkn);have hK2:=λw (hb:Below W.heap.size W w)=>(HM.out.below hb).cell k' hkn;obtain⟨r,hr⟩:∃r,rs.getD k' 0=r:=⟨_,rfl⟩
   rw[hr]at d2 HI1 hK2;have HK2:=ah hK2;have HR:=ah hr;clear hr hK2;have hstep:sO rs (k'+1)=if bE r=true then sO rs k' else some k':=by show(if bE (rs.getD k' 0)=true then _ else _)=_;rw[HR.out]
   have HS:=ah hstep;clear hstep;cases hp:bE r
   ·have HP:=ah hp;clear hp;have hbf:sO rs i=some k':=by rw[<-WZ.out,HS.out,HP.out];rfl
    have Vn:=ah hbf;clear hbf;cases hcs:Cases.cased r
    ·have vZ:=ah hcs;clear hcs;go_wp2_with (go_at_call 165;refine(iy r _ _ (bH HO.out HB.out)).mono ?_;rintro x wz ⟨rfl,hbz⟩;rw[HP.out];have HB:=ah (HB.out.trans (hbz.mono HB.out.size));clear hbz;have d2:=HK2.out _ HB.out);go_loopw [8] (λa w2=>∃j f:Nat,j<=n/\a= .int .i64 j/\Ap rs f j=Ap rs n (i+1)/\n<=f+j/\Below W.heap.size W w2) (λa _=>n-(RowKit.intOf a).toNat);case atStart=>exact⟨i+1,n,hi,by go_num,rfl,by omega,HB.out⟩
     case round=>
      obtain⟨j,f,hjn,rfl,hon,hf,hb⟩:=hrel;have HB:=ah hb;have Nq:=ah hon;clear hb hon;by_cases hlt:j<n
      ·obtain⟨f',rfl⟩:∃f',f=f'+1:=⟨f-1,by omega⟩
       have d4:=(HM.out.below HB.out).cell j hlt;have HI2:=ah (HM.out.int hlt);obtain⟨r2,hr2⟩:∃r2,rs.getD j 0=r2:=⟨_,rfl⟩
       rw[hr2]at d4 HI2;have HR2:=ah hr2;clear hr2;have hstep:Ap rs (f'+1) j=if bE r2=true then Ap rs f' (j+1)else j:=by
        show(if j<rs.length/\bE (rs.getD j 0)=true then _ else _)=_;rw[HR2.out];by_cases q:bE r2=true;·rw[au ⟨by rw[HM.out.len];exact hlt,q⟩,au q]
        ·rw[aj (λh=>q h.2),aj q]
       have HS2:=ah hstep;clear hstep;cases hp2:bE r2
       ·have ED:=ah hp2;clear hp2;have U6:=ah (show Ap rs rs.length (i+1)=j by rw[HM.out.len,<-Nq.out,HS2.out,ED.out];rfl);have hz:z=false:=by rw[<-HZ.out];unfold finalF;rw[Vn.out];dsimp only;rw[HR.out,vZ.out];rfl
        have HZ2:=ah hz;clear hz;go_wp2_with (first
         |(go_at_call 165;refine(iy r2 _ _ (bH HO.out HB.out)).mono ?_;rintro x wy ⟨rfl,hbz⟩;rw[ED.out];have HB:=ah (HB.out.trans (hbz.mono HB.out.size));clear hbz;have d2:=HK2.out _ HB.out;have d4:=(HM.out.below HB.out).cell j hlt;rw[HR2.out]at d4)
         |(go_at_call 65;refine(wD r HI1.out _ _ (bH HO.out HB.out)).mono ?_;rintro x wx ⟨rfl,hbz⟩;rw[vZ.out];have HB:=ah (HB.out.trans (hbz.mono HB.out.size));clear hbz))
        go_ret;exact⟨by rw[HZ2.out];first|rfl|simp,HB.out⟩
       ·have ED:=ah hp2;clear hp2;go_wp2_with (go_at_call 165;refine(iy r2 _ _ (bH HO.out HB.out)).mono ?_;rintro x wz ⟨rfl,hbz⟩;rw[ED.out];have HB:=ah (HB.out.trans (hbz.mono HB.out.size));clear hbz);refine⟨⟨j+1,f',by omega,by go_num,?_,by omega,HB.out⟩,by simp[RowKit.intOf];omega⟩;rw[<-Nq.out,HS2.out,ED.out];rfl
      ·obtain rfl:j=n:=by omega
       have U6:=ah (show Ap rs rs.length (i+1)=rs.length by
        rw[HM.out.len,<-Nq.out];cases f with
        |zero=>rfl
        |succ f'=>show(if j<rs.length/\_ then _ else _)=_;rw[aj (λh=>by have:=HM.out.len;omega)])
       have hz:z=false:=by rw[<-HZ.out];unfold finalF;rw[Vn.out];dsimp only;rw[HR.out,vZ.out];rfl
       have HZ2:=ah hz;clear hz;have d2:=HK2.out _ HB.out;go_wp2_with (first
        |(go_at_call 65;refine(wD r HI1.out _ _ (bH HO.out HB.out)).mono ?_;rintro x wx ⟨rfl,hbz⟩;rw[vZ.out];have HB:=ah (HB.out.trans (hbz.mono HB.out.size));clear hbz))
       go_ret;exact⟨by rw[HZ2.out];first|rfl|simp,HB.out⟩
    ·have vZ:=ah hcs;clear hcs;go_wp2_with (go_at_call 165;refine(iy r _ _ (bH HO.out HB.out)).mono ?_;rintro x wz ⟨rfl,hbz⟩;rw[HP.out];have HB:=ah (HB.out.trans (hbz.mono HB.out.size));clear hbz;have d2:=HK2.out _ HB.out);go_loopw [8] (λa w2=>∃j f:Nat,j<=n/\a= .int .i64 j/\Ap rs f j=Ap rs n (i+1)/\n<=f+j/\Below W.heap.size W w2) (λa _=>n-(RowKit.intOf a).toNat);case atStart=>exact⟨i+1,n,hi,by go_num,rfl,by omega,HB.out⟩
     case round=>
      obtain⟨j,f,hjn,rfl,hon,hf,hb⟩:=hrel;have HB:=ah hb;have Nq:=ah hon;clear hb hon;by_cases hlt:j<n
      ·obtain⟨f',rfl⟩:∃f',f=f'+1:=⟨f-1,by omega⟩
       have d4:=(HM.out.below HB.out).cell j hlt;have HI2:=ah (HM.out.int hlt);obtain⟨r2,hr2⟩:∃r2,rs.getD j 0=r2:=⟨_,rfl⟩
       rw[hr2]at d4 HI2;have HR2:=ah hr2;clear hr2;have hstep:Ap rs (f'+1) j=if bE r2=true then Ap rs f' (j+1)else j:=by
        show(if j<rs.length/\bE (rs.getD j 0)=true then _ else _)=_;rw[HR2.out];by_cases q:bE r2=true;·rw[au ⟨by rw[HM.out.len];exact hlt,q⟩,au q]
        ·rw[aj (λh=>q h.2),aj q]
       have HS2:=ah hstep;clear hstep;cases hp2:bE r2
       ·have ED:=ah hp2;clear hp2;have U6:=ah (show Ap rs rs.length (i+1)=j by rw[HM.out.len,<-Nq.out,HS2.out,ED.out];rfl);have hz:z= !Cases.cased r2:=by rw[<-HZ.out];unfold finalF;rw[Vn.out];dsimp only;rw[HR.out,vZ.out,U6.out,HR2.out,HM.out.len,aP (show ¬j=n by omega)];rfl
        have HZ2:=ah hz;clear hz;obtain⟨cz,hcz⟩:∃cz,Cases.cased r2=cz:=⟨_,rfl⟩
        rw[hcz]at HZ2;have HCZ:=ah hcz;clear hcz;have dn:((j:Int)==n)=false:=by rw[dH];omega
        have DN:=ah dn;go_wp2_with (first
         |(go_at_call 165;refine(iy r2 _ _ (bH HO.out HB.out)).mono ?_;rintro x wy ⟨rfl,hbz⟩;rw[ED.out];have HB:=ah (HB.out.trans (hbz.mono HB.out.size));clear hbz;have d2:=HK2.out _ HB.out;have d4:=(HM.out.below HB.out).cell j hlt;rw[HR2.out]at d4)
         |(go_at_call 65;refine(wD r HI1.out _ _ (bH HO.out HB.out)).mono ?_;rintro x wx ⟨rfl,hbz⟩;rw[vZ.out];have HB:=ah (HB.out.trans (hbz.mono HB.out.size));clear hbz;clear HI1;have d4:=(HM.out.below HB.out).cell j hlt;rw[HR2.out]at d4)
         |(go_at_call 65;refine(wD r2 HI2.out _ _ (bH HO.out HB.out)).mono ?_;rintro x wv ⟨rfl,hbz⟩;rw[HCZ.out];have HB:=ah (HB.out.trans (hbz.mono HB.out.size));clear hbz))
        go_ret;exact⟨by rw[HZ2.out];first|rfl|(show Ending.returned (.bool ((j:Int)==n|| !cz))=_;rw[DN.out];rfl),HB.out⟩
       ·have ED:=ah hp2;clear hp2;go_wp2_with (go_at_call 165;refine(iy r2 _ _ (bH HO.out HB.out)).mono ?_;rintro x wz ⟨rfl,hbz⟩;rw[ED.out];have HB:=ah (HB.out.trans (hbz.mono HB.out.size));clear hbz);refine⟨⟨j+1,f',by omega,by go_num,?_,by omega,HB.out⟩,by simp[RowKit.intOf];omega⟩;rw[<-Nq.out,HS2.out,ED.out];rfl
      ·obtain rfl:j=n:=by omega
       have U6:=ah (show Ap rs rs.length (i+1)=rs.length by
        rw[HM.out.len,<-Nq.out];cases f with
        |zero=>rfl
        |succ f'=>show(if j<rs.length/\_ then _ else _)=_;rw[aj (λh=>by have:=HM.out.len;omega)])
       have hz:z=true:=by rw[<-HZ.out];unfold finalF;rw[Vn.out];dsimp only;rw[HR.out,vZ.out,U6.out];simp
       have HZ2:=ah hz;clear hz;have d2:=HK2.out _ HB.out;go_wp2_with (first
        |(go_at_call 65;refine(wD r HI1.out _ _ (bH HO.out HB.out)).mono ?_;rintro x wx ⟨rfl,hbz⟩;rw[vZ.out];have HB:=ah (HB.out.trans (hbz.mono HB.out.size));clear hbz))
       go_ret;exact⟨by rw[HZ2.out];first|rfl|simp,HB.out⟩
   ·have HP:=ah hp;clear hp;go_wp2_with (go_at_call 165;refine(iy r _ _ (bH HO.out HB.out)).mono ?_;rintro x wz ⟨rfl,hbz⟩;rw[HP.out];have HB:=ah (HB.out.trans (hbz.mono HB.out.size));clear hbz);refine⟨⟨k',by omega,by go_num,?_,HB.out⟩,?_⟩
    ·rw[<-WZ.out,HS.out,HP.out];rfl
    ·simp[RowKit.intOf];try omega
def kS (rs:List Int) (i:Nat):List Int:=if rs.getD i 0=931/\finalF rs i=true then[962]else formV (rs.getD i 0) 0
theorem xR (rs:List Int) (i:Nat):(kS rs i).length<=3:=by
 unfold kS;split;·simp
 ·exact formV_len _ _
theorem Od (rs:List Int) (i:Nat) (h:rZ (rs.getD i 0)=true):∀x∈kS rs i,rZ x=true:=by
 unfold kS;split;·intro x hx;rw[eG]at hx;subst hx;decide
 ·exact(form_facts _ h 0 (by decide)).2.1
theorem G7 (rs:List Int) (v:Value) (g n c i:Nat) (hi:i<n) (W:World) (h:Bj W v) (hm:uP W g n rs):
 Calls Tryz.prog 68 #[v, .slice (some ⟨g,0,none⟩) n c, .int .i64 i] W (uo (kS rs i) W):=by
 have HFI:=ah (Sc rs v g n c i hi W h hm);have hsm:=hm.small;have d2:=hm.cell i hi;have hri:=hm.int hi;obtain⟨B,o,rfl⟩:∃B o,v= .pointer (some ⟨B,o,none⟩):=by obtain⟨_,B,o,_,_,_,rfl,_⟩:=h;exact⟨B,o,rfl⟩
 have HF:=ah (λw (hb:Below W.heap.size W w)=>form2_ok (rs.getD i 0) hri 0 (by decide) _ _ (uK h.1 hb));have HV:=ah (show kS rs i=if rs.getD i 0=931/\finalF rs i=true then[962]else formV (rs.getD i 0) 0 from rfl);obtain⟨r,hr⟩:∃r,rs.getD i 0=r:=⟨_,rfl⟩
 rw[hr]at d2 HF HV;have hg:=hm.lt (by omega);have HK:=ah (λw (hb:Below W.heap.size W w)=>show w.cell? ⟨g,i*4+2,none⟩=some (.int .i32 r)from(hb.cell (p:=⟨g,i*4+2,none⟩) hg).trans d2);clear h hm hri hr hg;by_cases h9:r=931
 ·subst h9;cases hf:finalF rs i
  ·have HF2:=ah hf;clear hf;have HV2:=ah (show kS rs i=formV 931 0 by rw[HV.out,aj (λh=>by rw[HF2.out]at h;exact oN h.2)]);rw[HV2.out];go_enter Tryz.func68,Tryz.ntmps68;go_wp2_with (first
    |(go_at_call 114;refine HFI.out.mono ?_;rintro e w1 ⟨rfl,hb⟩;rw[HF2.out];have HB:=ah hb;have d3:=HK.out _ hb;clear hb)
    |(go_at_call 67;refine(HF.out _ HB.out).mono ?_;rintro e w2 ⟨s,rfl,hs,hb⟩;have HS:=ah hs;have HB2:=ah (HB.out.trans (hb.mono HB.out.size));clear hs hb))
   go_ret;exact⟨_,rfl,HS.out,HB2.out⟩
  ·have HF2:=ah hf;clear hf;have HV2:=ah (show kS rs i=[962]by rw[HV.out,au ⟨rfl,HF2.out⟩]);rw[HV2.out];go_enter Tryz.func68,Tryz.ntmps68;go_wp2_with (go_at_call 114;refine HFI.out.mono ?_;rintro e w1 ⟨rfl,hb⟩;rw[HF2.out];have HB:=ah hb;have d3:=HK.out _ hb;clear hb);go_ret;exact⟨_,rfl,Al _ _ _ rfl,HB.out.alloc HB.out.size _⟩
 ·have hd:decide (r=931)=false:=aP h9;have HV2:=ah (show kS rs i=formV r 0 by rw[HV.out,aj (λh=>h9 h.1)]);rw[HV2.out];have hd2:(r==931)=false:=by rw[dH];exact h9
  clear h9;go_enter Tryz.func68,Tryz.ntmps68;go_wp2_with (go_at_call 67;refine(HF.out _ (aK _ _)).mono ?_;rintro e w2 ⟨s,rfl,hs,hb⟩;have HS:=ah hs;have HB2:=ah hb;clear hs hb);go_ret;exact⟨_,rfl,HS.out,HB2.out⟩
section
open Folds (dec bn bL)
def Xg (rs:List Int) (t:List UInt8) (i:Nat) (m:Mk):List UInt8:=if m.2.2.2=true then(t.drop m.1).take m.2.1 else mX (kS rs i)
theorem Zh (rs:List Int) (t:List UInt8) (i:Nat) (m:Mk) (h:m.2.1<=4):(Xg rs t i m).length<=12:=by
 unfold Xg;split;·rw[jh];omega
 ·exact bF (lU _) (by have:=xR rs i;omega)
theorem zB (t:List UInt8):∀n e,(mk4 t n e).map (λm=>(m.2.2.1:Int))=(aJ t n e).map λx=>(x.2:Int)
 |0,_=>rfl
 |n+1,e=>by
  unfold mk4 aJ;split;·rw[jD,jD,zB t n]
  ·rfl
theorem Wz (l:List Mk) (j:Nat):(l.map λm=>(m.2.2.1:Int)).getD j 0=((l.getD j Bq).2.2.1:Int):=by rw[aG,aG,fq];cases l[j]? <;>rfl
theorem ace:mX [962]=[207,130]:=by decide+kernel
