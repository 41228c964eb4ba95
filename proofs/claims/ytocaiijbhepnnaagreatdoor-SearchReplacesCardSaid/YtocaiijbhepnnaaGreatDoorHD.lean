/- SearchReplaces, walked: the document's classes. -/
import Derived.Test.YtocaiijbhepnnaaGreatDoorHC
import Derived.Test.YtocaiijbhepnnaaGreatDoorHA
set_option maxRecDepth 100000
set_option maxHeartbeats 8000000
namespace Go.Proofs.YtocaiijbhepnnaaGreatDoor.searchReplaces
open Go.Shelf Go.RowKit Go.Lib Go.Proofs.YtocaiijbhepnnaaGreatDoor.Am
def wI (l:List (Int×Int)) (r:Int):Bool:=l.any λp=>decide (p.1<=r)&&decide (r<=p.2)
theorem aao {l:List (Int×Int)} {r:Int} {k:Nat} (hk:k<l.length) (h1:(l.getD k (0,0)).1<=r) (h2:r<=(l.getD k (0,0)).2):wI l r=true:=by unfold wI;rw[xS];rw[aM,aX hk]at h1 h2;exact⟨_,l6 hk,by have h1:l[k].1<=r:=h1;have h2:r<=l[k].2:=h2;rw[bE h1,bE h2];rfl⟩
theorem adt {l:List (Int×Int)} {r:Int} (h:∀j,j<l.length->¬((l.getD j (0,0)).1<=r/\r<=(l.getD j (0,0)).2)):wI l r=false:=by rw[Bh];intro c;unfold wI at c;rw[xS]at c;obtain⟨p,hp,hc⟩:=c;obtain⟨j,hj,he⟩:=uw.1 hp;rw[aR,aW,aW]at hc;refine h j hj ?_;rw[aM,aX hj];subst he;exact hc
def adu (b:Bool) (W:World) (e:Ending) (w':World):Prop:=e= .returned (.bool b)/\w'=W
theorem Dq (l:List (Int×Int)) (r:Int) (hr0:0<=r) (hr1:r<=1114111) (v:Value) (n:Nat) (hn:l.length=n) (hsm:n<=100000) (W:World) (h:Tm W v l):Calls Tryz.prog 228 #[v, .int .i32 r] W (adu (wI l r) W):=by
 obtain⟨g,o,c,rfl,l1,hS⟩:=h;have HS:=ah hS;clear hS;rw[hn]at l1;rw[hn];have HN:=ah hn;clear hn;have d0:decide (0<=r)=true:=bE hr0;have d1:decide (r<=1114111)=true:=bE hr1;go_enter Tryz.func228,Tryz.ntmps228;go_wp2;go_loop [5] (λi=>∃k:Nat,k<=n/\i= .int .i64 k/\∀j,j<k->¬((l.getD j (0,0)).1<=r/\r<=(l.getD j (0,0)).2)) (λi=>n-(RowKit.intOf i).toNat);case atStart=>exact⟨0,by omega,rfl,λj hj=>by omega⟩
 case round=>
  obtain⟨k,hk,rfl,hlo⟩:=hrel;have zO:=ah hlo;clear hlo;by_cases hlt:k<n
  ·have hkl:k<l.length:=by rw[HN.out];exact hlt
   obtain⟨e1,e2⟩:=HS.out k hkl;have HY:=ah (aao (r:=r) hkl);obtain⟨x,hx⟩:∃x,l.getD k (0,0)=x:=⟨_,rfl⟩
   obtain⟨a,b⟩:=x;rw[hx]at e1 e2 HY;dsimp only at e1 e2;have HX:=ah hx;clear hx hkl;by_cases ha:a<=r
   ·have HA:=ah ha;have da:decide (a<=r)=true:=bE ha;clear ha;by_cases hb:r<=b
    ·have HB:=ah hb;have db:decide (r<=b)=true:=bE hb;clear hb;go_wp2;go_ret;exact⟨by rw[HY.out HA.out HB.out];rfl,rfl⟩
    ·have HB:=ah hb;have db:decide (r<=b)=false:=aZ hb;clear hb;go_wp2;go_round;case rel=>exact⟨k+1,hlt,by go_num,λj hj=>by
      rcases aK j k with c|c;·exact zO.out j c
      ·obtain rfl:j=k:=by omega
       rw[HX.out];exact λh=>HB.out h.2⟩
     case measure=>simp[RowKit.intOf];omega
   ·have HA:=ah ha;have da:decide (a<=r)=false:=aZ ha;clear ha;go_wp2;go_round;case rel=>exact⟨k+1,hlt,by go_num,λj hj=>by
     rcases aK j k with c|c;·exact zO.out j c
     ·obtain rfl:j=k:=by omega
      rw[HX.out];exact λh=>HA.out h.1⟩
    case measure=>simp[RowKit.intOf];omega
  ·obtain rfl:k=n:=by omega
   go_wp2;go_ret;exact⟨by rw[adt (λj hj=>zO.out j (by rw[<-HN.out];exact hj))];rfl,rfl⟩
def Eb (L:List (List (Int×Int))) (q:Int):Nat:=L.findIdx λl=>wI l q
def uN (N:Nat) (L:List (List (Int×Int))) (q:Int):Int:=if Eb L q<N then(Eb L q:Int)+1 else 0
theorem Ca {L:List (List (Int×Int))} {N:Nat} (hL:L.length=N) {q:Int} {k:Nat} (hk:k<N) (h:wI (L.getD k []) q=true) (hlo:∀j,j<k->wI (L.getD j []) q=false):Eb L q=k:=by
 have hk':k<L.length:=by rw[hL];exact hk
 unfold Eb;rw[List.findIdx_eq hk'];rw[aM,aX hk']at h;refine⟨h,λj hj=> ?_⟩;have:=hlo j hj;rw[aM,aX (Nat.lt_trans hj hk')]at this;exact this
theorem Cb {L:List (List (Int×Int))} {N:Nat} (hL:L.length=N) {q:Int} (hlo:∀j,j<N->wI (L.getD j []) q=false):Eb L q=N:=by unfold Eb;rw[<-hL];refine List.findIdx_eq_length_of_false λl hl=> ?_;obtain⟨j,hj,he⟩:=uw.1 hl;have:=hlo j (by rw[<-hL];exact hj);rw[aM,aX hj]at this;subst he;exact this
theorem agM (L:List (List (Int×Int))) (N:Nat) (hN:N<=1000) (hL:L.length=N) (hs:∀j,j<N->(L.getD j []).length<=100000) (r:Int) (v:Value) (W:World) (h:GD W v L):Calls Tryz.prog 162 #[v, .int .i32 r] W (Li (uN N L (fM r)) W):=by
 obtain⟨D,o,S,oS,c,rfl,c1,l1,hS⟩:=h;rw[hL]at c1 l1;obtain⟨M,hM⟩:∃M,N+1=M:=⟨_,rfl⟩
 rw[hM]at c1 l1;have HMN:=ah hM;clear hM;have V7:=ah hL;have WU:=ah hs;have HS:=ah (show ∀i,i<N->∃s,W.cell? ⟨S,oS+(i+1),none⟩=some s/\Tm W s (L.getD i [])from λi hi=>hS i (by rw[hL];exact hi));clear hS hL hs;obtain⟨q,hq⟩:∃q,fM r=q:=⟨_,rfl⟩
 have HQ:=ah (show 0<=q/\q<=1114111 by rw[<-hq];unfold fM;split<;>omega);rw[hq];go_enter Tryz.func162,Tryz.ntmps162;have hcase:(decide (r<0)=true/\q=65533)\/(decide (r<0)=false/\decide (1114111<r)=true/\q=65533)\/(decide (r<0)=false/\decide (1114111<r)=false/\r=q):=by
  unfold fM at hq;by_cases h0:r<0;·rw[ak (Or.inl h0)]at hq;exact Or.inl ⟨bE h0,hq.symm⟩
  ·by_cases h1:1114111<r
   ·rw[ak (Or.inr h1)]at hq;exact Or.inr (Or.inl ⟨aZ h0,bE h1,hq.symm⟩)
   ·rw[aj (by omega)]at hq;exact Or.inr (Or.inr ⟨aZ h0,aZ h1,hq⟩)
 clear hq;rcases hcase with⟨d0,hq⟩|⟨d0,d1,hq⟩|⟨d0,d1,hq⟩
 ·go_wp2;rw[<-hq];clear d0 hq;go_loop [5] (λi=>∃k:Nat,k<=N/\i= .int .i64 ((k:Int)+1)/\∀j,j<k->wI (L.getD j []) q=false) (λi=>N+1-(RowKit.intOf i).toNat);case atStart=>exact⟨0,by omega,rfl,λj hj=>by omega⟩
  case round=>
   obtain⟨k,hk,rfl,hlo⟩:=hrel;have zO:=ah hlo;clear hlo;by_cases hlt:k<N
   ·have hkM:(k:Int)+1<M:=by have:=HMN.out;omega
    have hk0:(0:Int)<=(k:Int)+1:=by omega
    have hwi:wrap64 ((k:Int)+1+1)=(k:Int)+1+1:=by unfold wrap64;omega
    obtain⟨s,e1,e2⟩:=HS.out k hlt;have HE:=ah e2;obtain⟨sg,so,sc,rfl,_⟩:=e2;have HB:=ah (Ca V7.out (q:=q) hlt);have HL:=ah (WU.out k hlt);obtain⟨l,hl⟩:∃l,L.getD k []=l:=⟨_,rfl⟩
    rw[hl]at HE HB HL e1;have HN:=ah hl;clear hl;obtain⟨n,hn⟩:∃n,l.length=n:=⟨_,rfl⟩
    rw[hn]at e1 HL HE;have HM:=ah hn;clear hn;rcases EW (wI l q)with hb|hb;·have HH:=ah hb;clear hb;go_wp2_with (go_at_call 228;refine(Dq l _ HQ.out.1 HQ.out.2 _ _ rfl (by rw[HM.out];exact HL.out) _ HE.out).mono ?_;rintro e w1 ⟨rfl,rfl⟩;rw[HH.out]);go_ret;refine⟨?_,aF _ _⟩;have:=HB.out HH.out zO.out;unfold uN;rw[this,ak hlt];rfl
    ·have HH:=ah hb;clear hb;go_wp2_with (go_at_call 228;refine(Dq l _ HQ.out.1 HQ.out.2 _ _ rfl (by rw[HM.out];exact HL.out) _ HE.out).mono ?_;rintro e w1 ⟨rfl,rfl⟩;rw[HH.out]);go_round;case rel=>exact⟨k+1,hlt,by go_num,λj hj=>by
      rcases aK j k with c|c;·exact zO.out j c
      ·obtain rfl:j=k:=by omega
       rw[HN.out];exact HH.out⟩
     case measure=>simp[RowKit.intOf];omega
   ·obtain rfl:k=N:=by omega
    have hkM:¬(k:Int)+1<M:=by have:=HMN.out;omega
    go_wp2;go_ret;refine⟨?_,aF _ _⟩;unfold uN;rw[Cb V7.out zO.out,aj (dI _)];rfl
 ·go_wp2;rw[<-hq];clear d0 d1 hq;go_loop [5] (λi=>∃k:Nat,k<=N/\i= .int .i64 ((k:Int)+1)/\∀j,j<k->wI (L.getD j []) q=false) (λi=>N+1-(RowKit.intOf i).toNat);case atStart=>exact⟨0,by omega,rfl,λj hj=>by omega⟩
  case round=>
   obtain⟨k,hk,rfl,hlo⟩:=hrel;have zO:=ah hlo;clear hlo;by_cases hlt:k<N
   ·have hkM:(k:Int)+1<M:=by have:=HMN.out;omega
    have hk0:(0:Int)<=(k:Int)+1:=by omega
    have hwi:wrap64 ((k:Int)+1+1)=(k:Int)+1+1:=by unfold wrap64;omega
    obtain⟨s,e1,e2⟩:=HS.out k hlt;have HE:=ah e2;obtain⟨sg,so,sc,rfl,_⟩:=e2;have HB:=ah (Ca V7.out (q:=q) hlt);have HL:=ah (WU.out k hlt);obtain⟨l,hl⟩:∃l,L.getD k []=l:=⟨_,rfl⟩
    rw[hl]at HE HB HL e1;have HN:=ah hl;clear hl;obtain⟨n,hn⟩:∃n,l.length=n:=⟨_,rfl⟩
    rw[hn]at e1 HL HE;have HM:=ah hn;clear hn;rcases EW (wI l q)with hb|hb;·have HH:=ah hb;clear hb;go_wp2_with (go_at_call 228;refine(Dq l _ HQ.out.1 HQ.out.2 _ _ rfl (by rw[HM.out];exact HL.out) _ HE.out).mono ?_;rintro e w1 ⟨rfl,rfl⟩;rw[HH.out]);go_ret;refine⟨?_,aF _ _⟩;have:=HB.out HH.out zO.out;unfold uN;rw[this,ak hlt];rfl
    ·have HH:=ah hb;clear hb;go_wp2_with (go_at_call 228;refine(Dq l _ HQ.out.1 HQ.out.2 _ _ rfl (by rw[HM.out];exact HL.out) _ HE.out).mono ?_;rintro e w1 ⟨rfl,rfl⟩;rw[HH.out]);go_round;case rel=>exact⟨k+1,hlt,by go_num,λj hj=>by
      rcases aK j k with c|c;·exact zO.out j c
      ·obtain rfl:j=k:=by omega
       rw[HN.out];exact HH.out⟩
     case measure=>simp[RowKit.intOf];omega
   ·obtain rfl:k=N:=by omega
    have hkM:¬(k:Int)+1<M:=by have:=HMN.out;omega
    go_wp2;go_ret;refine⟨?_,aF _ _⟩;unfold uN;rw[Cb V7.out zO.out,aj (dI _)];rfl
 ·subst hq;go_wp2;clear d0 d1;go_loop [5] (λi=>∃k:Nat,k<=N/\i= .int .i64 ((k:Int)+1)/\∀j,j<k->wI (L.getD j []) r=false) (λi=>N+1-(RowKit.intOf i).toNat);case atStart=>exact⟨0,by omega,rfl,λj hj=>by omega⟩
  case round=>
   obtain⟨k,hk,rfl,hlo⟩:=hrel;have zO:=ah hlo;clear hlo;by_cases hlt:k<N
   ·have hkM:(k:Int)+1<M:=by have:=HMN.out;omega
    have hk0:(0:Int)<=(k:Int)+1:=by omega
    have hwi:wrap64 ((k:Int)+1+1)=(k:Int)+1+1:=by unfold wrap64;omega
    obtain⟨s,e1,e2⟩:=HS.out k hlt;have HE:=ah e2;obtain⟨sg,so,sc,rfl,_⟩:=e2;have HB:=ah (Ca V7.out (q:=r) hlt);have HL:=ah (WU.out k hlt);obtain⟨l,hl⟩:∃l,L.getD k []=l:=⟨_,rfl⟩
    rw[hl]at HE HB HL e1;have HN:=ah hl;clear hl;obtain⟨n,hn⟩:∃n,l.length=n:=⟨_,rfl⟩
    rw[hn]at e1 HL HE;have HM:=ah hn;clear hn;rcases EW (wI l r)with hb|hb;·have HH:=ah hb;clear hb;go_wp2_with (go_at_call 228;refine(Dq l _ HQ.out.1 HQ.out.2 _ _ rfl (by rw[HM.out];exact HL.out) _ HE.out).mono ?_;rintro e w1 ⟨rfl,rfl⟩;rw[HH.out]);go_ret;refine⟨?_,aF _ _⟩;have:=HB.out HH.out zO.out;unfold uN;rw[this,ak hlt];rfl
    ·have HH:=ah hb;clear hb;go_wp2_with (go_at_call 228;refine(Dq l _ HQ.out.1 HQ.out.2 _ _ rfl (by rw[HM.out];exact HL.out) _ HE.out).mono ?_;rintro e w1 ⟨rfl,rfl⟩;rw[HH.out]);go_round;case rel=>exact⟨k+1,hlt,by go_num,λj hj=>by
      rcases aK j k with c|c;·exact zO.out j c
      ·obtain rfl:j=k:=by omega
       rw[HN.out];exact HH.out⟩
     case measure=>simp[RowKit.intOf];omega
   ·obtain rfl:k=N:=by omega
    have hkM:¬(k:Int)+1<M:=by have:=HMN.out;omega
    go_wp2;go_ret;refine⟨?_,aF _ _⟩;unfold uN;rw[Cb V7.out zO.out,aj (dI _)];rfl
def aap (R:List gU) (c:Int):List (Int×Int):=(R.filter (λx=>decide (x.2.2=c))).map λx=>(x.1,x.2.1)
def tq (R:List gU) (N:Nat):List (List (Int×Int)):=(List.range N).map λ(k:Nat)=>aap R ((k:Int)+1)
theorem Dr (R:List gU) (c q:Int):wI (aap R c) q=true↔∃x∈R,x.2.2=c/\x.1<=q/\q<=x.2.1:=by
 unfold wI aap;rw[xS];constructor;·rintro⟨p,hp,hc⟩;obtain⟨x,hx,rfl⟩:=dH.1 hp;obtain⟨h1,h2⟩:=oq.1 hx;rw[aR,aW,aW]at hc;exact⟨x,h1,jg h2,hc.1,hc.2⟩
 ·rintro⟨x,h1,h2,h3,h4⟩;exact⟨(x.1,x.2.1),dH.2 ⟨x,oq.2 ⟨h1,bE h2⟩,rfl⟩,by rw[bE h3,bE h4];rfl⟩
def aaq:List gU->Bool
 |[]=>true
 |x::l=>decide (x.1<=x.2.1)&&(l.all (λy=>decide (x.2.1<y.1))&&aaq l)
theorem Ue (q:Int):∀l:List gU,aaq l=true->(∃x∈l,x.1<=q/\q<=x.2.1/\gq l q=x.2.2/\∀y∈l,y.1<=q->q<=y.2.1->y=x)\/((∀x∈l,¬(x.1<=q/\q<=x.2.1))/\gq l q=0)
 |[],_=> .inr ⟨λx h=>absurd h kQ,rfl⟩
 |a::l,h=>by
  unfold aaq at h;rw[aR,aR,aW,gF]at h;obtain⟨h1,h2,h3⟩:=h;have h2:∀y∈l,a.2.1<y.1:=λy hy=>jg (h2 y hy);by_cases c:q<=a.2.1
  ·have hf:gq (a::l) q=if a.1<=q then a.2.2 else 0:=by unfold gq;rw[List.find?_cons_of_pos (by exact bE c)]
   by_cases d:a.1<=q
   ·refine .inl ⟨a,pW,d,c,by rw[hf,ak d],λy hy e1 e2=> ?_⟩;rcases aU.1 hy with rfl|hy
    ·rfl
    ·have:=h2 y hy;omega
   ·refine .inr ⟨λx hx e=> ?_,by rw[hf,aj d]⟩;rcases aU.1 hx with rfl|hx
    ·exact d e.1
    ·have:=h2 x hx;omega
  ·have hf:gq (a::l) q=gq l q:=by unfold gq;rw[List.find?_cons_of_neg (by simpa using c)]
   rcases Ue q l h3 with⟨x,hx,e1,e2,e3,e4⟩|⟨e1,e2⟩
   ·refine .inl ⟨x,oh _ hx,e1,e2,by rw[hf,e3],λy hy f1 f2=> ?_⟩;rcases aU.1 hy with rfl|hy
    ·exact absurd f2 c
    ·exact e4 y hy f1 f2
   ·refine .inr ⟨λx hx e=> ?_,by rw[hf,e2]⟩;rcases aU.1 hx with rfl|hx
    ·exact c e.2
    ·exact e1 x hx e
theorem Dt (R:List gU) (N:Nat):(tq R N).length=N:=by unfold tq;rw[dG,nY]
theorem yF (R:List gU) {N k:Nat} (h:k<N):(tq R N).getD k []=aap R ((k:Int)+1):=by unfold tq;rw[aM,fQ,wX h];rfl
theorem O7 (R:List gU) (N:Nat) (hR:R.length<=100000):∀j,j<N->((tq R N).getD j []).length<=100000:=λj hj=>by rw[yF R hj];unfold aap;rw[dG];exact aS (EZ _ _) hR
theorem Wt (R:List gU) (N:Nat) (hs:aaq R=true) (hc:(R.all λx=>decide (1<=x.2.2)&&decide (x.2.2<=(N:Int)))=true) (q:Int):uN N (tq R N) q=gq R q:=by
 unfold uN;rcases Ue q R hs with⟨x,hx,e1,e2,e3,e4⟩|⟨e1,e2⟩
 ·have hc:=gF.1 hc x hx;rw[aR,aW,aW]at hc;obtain⟨k,hk⟩:∃k:Nat,x.2.2=(k:Int)+1:=⟨(x.2.2-1).toNat,by omega⟩
  have hkN:k<N:=by omega
  have hs:Eb (tq R N) q=k:=Ca (Dt R N) hkN (by rw[yF R hkN,Dr];exact⟨x,hx,hk,e1,e2⟩) (λj hj=>by
   rw[yF R (by omega),Bh];intro h;obtain⟨y,hy,f1,f2,f3⟩:=(Dr _ _ _).1 h;have:=e4 y hy f2 f3;subst this;omega)
  rw[hs,ak hkN,e3,hk]
 ·have hs:Eb (tq R N) q=N:=Cb (Dt R N) (λj hj=>by
   rw[yF R hj,Bh];intro h;obtain⟨y,hy,f1,f2,f3⟩:=(Dr _ _ _).1 h;exact e1 y hy ⟨f2,f3⟩)
  rw[hs,aj (dI _),e2]
theorem Uf (L:Nat):∀(l:List (Nat×Nat)) (k:Nat),k<l.length->((Rs L l).getD k ZV).1=(l.getD k (0,0)).2
 |[],_,h=>absurd h (jh _)
 |[_],0,_=>rfl
 |[_],_+1,h=>by simp at h
 |_::_::_,0,_=>rfl
 |x::y::r,k+1,h=>by have:=Uf L (y::r) k (by simpa using h);show((Rs L (y::r)).getD k ZV).1=((y::r).getD k (0,0)).2;exact this
def iZ (R:List gU) (t:List UInt8):List Int:=(marks t).map λx=>gq R (fM (x.2:Int))
theorem qy (R:List gU) (t:List UInt8):(iZ R t).length=(marks t).length:=dG _
theorem Wu (R:List gU) (t:List UInt8) {k:Nat} (h:k<(marks t).length):(iZ R t).take (k+1)=(iZ R t).take k++[gq R (fM (((BK t).getD k ZV).1:Int))]:=by
 have h':k<(iZ R t).length:=by rw[qy];exact h
 have hk:(iZ R t)[k]? =some (gq R (fM (((BK t).getD k ZV).1:Int))):=by unfold iZ BK;rw[fQ,Uf _ _ _ h,aM,aX h];rfl
 rw[Bg,hk];rfl
def DbT (w:World) (d:Value) (R:List gU) (N:Nat):Prop:=GD w d (tq R N)
structure yY (R:List gU) (N:Nat):Prop where
 sep:aaq R=true
 cls:(R.all λx=>decide (1<=x.2.2)&&decide (x.2.2<=(N:Int)))=true
 small:R.length<=100000
 few:N<=1000
theorem aar {R:List gU} {N:Nat} (h:yY R N) (r:Int) (v:Value) (W:World) (hd:DbT W v R N):Calls Tryz.prog 162 #[v, .int .i32 r] W (Li (gq R (fM r)) W):=by have:=agM (tq R N) N h.few (Dt R N) (O7 R N h.small) r v W hd;rwa [Wt R N h.sep h.cls]at this
theorem Ug {w:World} {base:Nat} {e:TypeId} {A:Option Addr} {m c size n:Nat} {xs:List Value} (h:w.ownsRow base e size (.slice A m c) n xs):n<=c:=by obtain⟨A',c',h1,h2⟩:=aL h;injection h1 with _ _ h1;rw[h1];exact h2
def JX (zs:List Int) (W:World) (e:Ending) (w':World):Prop:=∃A n c,e= .returned (.slice A n c)/\bQ w' A n zs/\n<=c/\Below W.heap.size W w'
theorem Ec (R:List gU) (N:Nat) (hT:yY R N) (t:List UInt8) (gx:Nat) (d:Value) (A:Option Addr) (n c:Nat) (W:World) (hgx:gx<W.heap.size) (hx:W.cell? ⟨gx,0,none⟩=some d) (hD:DbT W d R N) (hR:JO IB 3 ZV W A n (BK t)) (hn:t.length<=10000):
 Calls Tryz.prog 125 #[.pointer (some ⟨gx,0,none⟩), .slice A n c] W (JX (iZ R t) W):=by
 have HR:=ah hR;have HN:=ah (hR.len.symm.trans (yD t));have hml:(marks t).length<=10000:=aS (ql t) hn;have hn2:n<=10000:=by have:=HN.out;omega
 have HG:=ah (λ(w:World) (hb:Below W.heap.size W w) (r:Int)=>aar hT r d w (jP hD hb));clear hR hml hn hD;obtain⟨i0,hI0,hz0,hz1,hz2⟩:=eD gK;go_enter Tryz.func125,Tryz.ntmps125;go_wp2_with fail;go_loopw [5,6] (λvl vi wr=>∃(k:Nat) (A2:Option Addr) (c2:Nat),k<=n/\vi= .int .i64 k/\vl= .slice A2 k c2/\IA W (.slice A2 k c2) k ((iZ R t).take k) wr) (λ_ vi _=>n-(RowKit.intOf vi).toNat);case atStart=>exact⟨0,none,0,aH _,rfl,rfl,IA.nil W⟩
 case round=>
  obtain⟨k,A2,c2,hk,rfl,rfl,hA⟩:=hrel;have HA:=ah hA;clear hA;by_cases hlt:k<n
  ·have HLEN:=ah (Ev (show k<=100000 by omega));obtain⟨g,rfl,hg,hc⟩:=HR.out.at_ (by omega);have hkm:k<(marks t).length:=by rw[<-HN.out];exact hlt
   have d1:=hc k hlt 0 _ (by decide) rfl;rw[dA]at d1;have Er:=ah (Wu R t hkm);obtain⟨r,hr⟩:∃r:Nat,((BK t).getD k ZV).1=r:=⟨_,rfl⟩
   rw[hr]at d1 Er;obtain⟨x,Qp⟩:∃x,gq R (fM (r:Int))=x:=⟨_,rfl⟩
   have HAd:=ah (show IA W (.slice A2 k c2) k ((iZ R t).take k) wr.drew from⟨⟨HA.out.aB.os,HA.out.aB.tape,HA.out.aB.output,HA.out.aB.size,HA.out.aB.block⟩,HA.out.own⟩);have HGx:=ah (HG.out wr.drew HAd.out.aB (r:Int));rw[Qp]at Er HGx;have d2:=(HAd.out.aB.cell (p:=⟨g,k*3,none⟩) hg).trans d1;have d3:=(HAd.out.aB.cell (p:=⟨gx,0,none⟩) hgx).trans hx;have hk0:(0:Int)<=k:=by omega
   have hk1:(k:Int)<n:=by omega
   have jX:=ah (show wrap64 ((k:Int)+1)=((k+1:Nat):Int)by unfold wrap64;omega);clear hr Qp hc hg d1 hkm;go_upto_region 5 with fail;go_region_law (first
    |(go_simp;refine HGx.out.mono ?_;rintro e w4 ⟨rfl,hb⟩;have Ml:=Lib.hid (HAd.out.below hb);clear hb;dsimp only)
    |(refine step_append_lies _ (by rfl) (.tmp 13) (.tmp 24) 41 (by rfl) W.heap.size 3 i0 _ 1 8 Tryz.underlying41 hI0 hz0 hz1 hz2 rfl (by omega) _ k (bD ((iZ R t).take k)) (by rfl) Ml.out.eF ⟨w4.heap.size,0,none⟩ 1 1 [.int .i64 x] (by rfl) (by rfl) (World.news_of_block (heap_alloc_new w4 _)) (by simp[Value.oneCell']) (by omega) HLEN.out.1 HLEN.out.2 (by rw[World.size_alloc];have:=Ml.out.aB.size;omega) _ rfl ?_;intro g3 IV w7 hown3 hgrow3 _ _;have nT:=Lib.hid (Ml.out.grow hown3 hgrow3);clear hown3 hgrow3))
   all_goals go_wp2_with fail
   all_goals exact⟨⟨k+1,_,_,hlt,rfl,rfl,by rw[Er.out];exact nT.out⟩,by simp[RowKit.intOf];omega⟩
  ·obtain rfl:k=n:=by omega
   have htk:(iZ R t).take k=iZ R t:=nC (by rw[qy,HN.out];exact ay _);rw[htk]at HA;have HK:=ah (show k<=100000 by omega);clear htk hk;go_wp2;go_ret;exact⟨_,_,_,rfl,gM HA.out.own HK.out,Ug HA.out.own,HA.out.aB⟩
section
open Folds (dec bf bW)
structure Uh (W:World) (s:ByteArray) (e m:Nat) (v:Value) (acc:List Int) (w:World):Prop where
 aB:Below W.heap.size W w
 it:w.heap[W.heap.size]? =some (.stringIter s e)
 own:w.ownsRow W.heap.size 3 1 v m (bD acc)
section
variable {W w w':World} {s:ByteArray} {e m:Nat} {v:Value} {acc:List Int}
theorem Uh.below (h:Uh W s e m v acc w) (hb:Below w.heap.size w w'):Uh W s e m v acc w':=
 ⟨h.aB.trans (hb.mono h.aB.size),bM hb h.it,own_below hb h.own⟩
theorem Uh.iter (h:Uh W s e m v acc w) (e':Nat):Uh W s e' m v acc (w.iterAt W.heap.size s e'):=
 ⟨below_iterAt h.aB (ay _) s e',iterAt_heap w _ s e e' h.it,own_iterAt h.it h.own⟩
theorem Uh.eF (h:Uh W s e m v acc w) {o:Obj}:(w.alloc o).ownsRow W.heap.size 3 1 v m (bD acc):=dZ h.own
theorem Uh.grow (h:Uh W s e m v acc w) {o:Obj} {v':Value} {x:Int} (ho:w'.ownsRow W.heap.size 3 1 v' (m+1) (bD acc++[.int .i64 x])) (hg:(w.alloc o).grownBy w' v.ownBlock):Uh W s e (m+1) v' (acc++[x]) w':=by have h':=h.below ((aF _ w).alloc (ay _) o);refine⟨h'.aB.grown hg h'.aB.size (λk hk=>(bB h'.own hk).1),?_,by rw[kZ];exact ho⟩;rw[hg.block _ (bU h'.it) (λc=>by obtain⟨_,_,cur,hc⟩:=bB h'.own (g:=W.heap.size) (by first|exact c|exact c.symm);rw[h'.it]at hc;cases hc)];exact h'.it
end
theorem agN (R:List gU) (N:Nat) (hT:yY R N) (t:List UInt8) (d:Value) (W:World) (hD:DbT W d R N) (hn:t.length<=10000):Calls Tryz.prog 110 #[d, .string ⟨t.toArray⟩] W (JX (iZ R t) W):=by
 obtain⟨s,hs⟩:∃s:ByteArray,(⟨t.toArray⟩:ByteArray)=s:=⟨_,rfl⟩
 have hss:s.size=t.length:=size_mk t s hs;rw[hs];have HG:=ah (λ(w:World) (hb:Below W.heap.size W w) (r:Int)=>aar hT r d w (jP hD hb));have HS:=ah hs;have lI:=ah hss;have TF:=ah hn;clear hs hss hn hD;obtain⟨i0,hI0,hz0,hz1,hz2⟩:=eD gK;go_enter Tryz.func110,Tryz.ntmps110;go_wp2_with fail;go_loopw [5] (λvo wr=>∃(e f m:Nat) (A:Option Addr) (c:Nat) (p:List (Nat×Nat)),vo= .slice A m c/\Uh W s e m (.slice A m c) (p.map λx=>gq R (fM (x.2:Int))) wr/\e<=s.size/\s.size<f+e+1/\m<=e/\p.length=m/\p++aD t f e=marks t) (λ_ wr=>s.size-wr.iterPos W.heap.size);case atStart=>exact⟨0,t.length,0,none,0,[],rfl,⟨(aF _ W).alloc (ay _) _,cO W _,⟨rfl, .inl ⟨rfl,rfl⟩⟩⟩,aH _,by have:=lI.out;omega,ay _,rfl,rfl⟩
 case round=>
  obtain⟨e,f,m,A,c,p,rfl,ZG,he,hf,hm,hpl,hl⟩:=hrel;have hit:=ZG.it;have HOL:=ah ZG;clear ZG;by_cases hlt:e<s.size
  ·obtain⟨f',rfl⟩:∃f',f=f'+1:=⟨f-1,by omega⟩
   have hlt2:e<t.length:=by have:=lI.out;omega
   unfold aD at hl;rw[ak hlt2]at hl;have hnx:=λty=>run_next_any_at (P:=Tryz.prog) wr _ s e ty hit hlt;rw[iB t e s HS.out]at hnx;have hne2:t.drop e≠[]:=by intro c;rw[jy]at c;have:=lI.out;omega
   have hd1:=bf (t.drop e);have hd2:=bW (t.drop e) hne2;rw[bZ,<-lI.out]at hd2;obtain⟨r,hr⟩:∃r,(dec (t.drop e)).1=r:=⟨_,rfl⟩
   obtain⟨wd,hwd⟩:∃wd,(dec (t.drop e)).2=wd:=⟨_,rfl⟩
   rw[hwd]at hd1 hd2;rw[hr,hwd]at hnx hl;obtain⟨ew,Db⟩:∃ew,e+wd=ew:=⟨_,rfl⟩
   rw[Db]at hnx hl;have HL:=ah hl;clear hr hwd hl hlt2 hne2;have HLEN:=ah (Ev (show m<=100000 by have:=TF.out;have:=lI.out;omega));have tF:=ah (HOL.out.iter ew);have hq2:wr.iterPos W.heap.size=e:=by unfold World.iterPos;rw[hit]
   obtain⟨x,hx⟩:∃x,gq R (fM (r:Int))=x:=⟨_,rfl⟩
   have KEY:=ah (λ(B1:Option Addr) (d1:Nat) (w':World) (h:Uh W s ew (m+1) (.slice B1 (m+1) d1) ((p.map λx=>gq R (fM (x.2:Int)))++[x]) w')=>
    show(∃(e' f m':Nat) (A:Option Addr) (c:Nat) (p:List (Nat×Nat)),Value.slice B1 (m+1) d1= .slice A m' c/\Uh W s e' m' (.slice A m' c) (p.map λx=>gq R (fM (x.2:Int))) w'/\e'<=s.size/\s.size<f+e'+1/\m'<=e'/\p.length=m'/\p++aD t f e'=marks t)/\s.size-w'.iterPos W.heap.size<s.size-wr.iterPos W.heap.size from by
     refine⟨⟨ew,f',m+1,B1,d1,p++[(e,r)],rfl,by rw[Bj];subst hx;exact h,by omega,by omega,by omega,by rw[bG,hpl];rfl,by rw[dR];exact HL.out⟩,?_⟩;have q1:w'.iterPos W.heap.size=ew:=by unfold World.iterPos;rw[h.it]
     rw[q1,hq2];omega)
   have HGx:=ah (HG.out _ tF.out.aB (r:Int));rw[hx]at HGx;clear Db hd1 hd2 hf hm he hq2 hlt hpl hx;go_wp2_with (first
    |(go_at_call 162;refine HGx.out.mono ?_;rintro e w4 ⟨rfl,hb⟩;have Ml:=ah (tF.out.below hb);clear hb)
    |(at_builtin;refine aY _ rfl (.tmp 13) (.tmp 17) 41 rfl W.heap.size 3 i0 _ 8 Tryz.underlying41 hI0 hz0 hz1 hz2 rfl (.slice A m c) m (bD (p.map λx=>gq R (fM (x.2:Int)))) rfl Ml.out.eF _ 1 1 [.int .i64 x] rfl (bY _ _ _) (by simp[Value.oneCell']) HLEN.out.1 HLEN.out.2 (by rw[World.size_alloc];have:=Ml.out.aB.size;omega) ?_;intro v' wp ho hg hn;obtain⟨B1,d1,rfl,_⟩:=aL ho;have nT:=Lib.hid (Ml.out.grow ho hg);clear ho hg hn))
   exact KEY.out _ _ _ nT.out
  ·obtain rfl:e=s.size:=by omega
   have hz:aD t f s.size=[]:=by
    cases f with
    |zero=>rfl
    |succ f=>unfold aD;rw[aj (by have:=lI.out;omega)]
   rw[hz,fq]at hl;subst hl;clear hz;have hnx:=λty=>run_next_end_at (P:=Tryz.prog) wr _ s s.size ty hit hlt;have hmm:m<=100000:=by have:=lI.out;have:=TF.out;omega
   have HM:=ah hmm;clear hf he hm hmm hlt hpl;go_wp2_with fail;go_ret;exact⟨A,m,c,rfl,gM HOL.out.own HM.out,Ug HOL.out.own,HOL.out.aB⟩
end
section
open Folds (dec)
theorem RI (t:List UInt8):∀n e,(mk4 t n e).map (·.1)=(aD t n e).map (·.1)
 |0,_=>rfl
 |n+1,e=>by
  unfold mk4 aD;by_cases c:e<t.length;·rw[ak c,ak c,lJ,lJ,RI t n]
  ·rw[aj c,aj c];rfl
theorem adv (t:List UInt8) (k:Nat):(((BG t).getD k (0,0,0,false)).1:Int)=(eG t).getD k 0:=by
 have h:=RI t t.length 0;unfold eG marks BG;have e:((mk4 t t.length 0).getD k (0,0,0,false)).1=((mk4 t t.length 0).map (·.1)).getD k 0:=by rw[aM,aM,fQ];cases(mk4 t t.length 0)[k]? <;>rfl
 rw[e,h,aM,aM,fQ,fQ];cases(aD t t.length 0)[k]? <;>rfl
theorem aas (t:List UInt8):(BG t).length=(marks t).length:=by have:=eO List.length (RI t t.length 0);simpa[BG,marks]using this
theorem O8 (m:Mk):(jR m).length=4:=rfl
theorem Wv (t:List UInt8) (W:World) (hn:t.length<=10000):Calls Tryz.prog 108 #[.string ⟨t.toArray⟩] W (dL (gV t) W):=by
 obtain⟨s,hs⟩:∃s:ByteArray,(⟨t.toArray⟩:ByteArray)=s:=⟨_,rfl⟩
 have hss:s.size=t.length:=size_mk t s hs;have LM:=ah (Oz t W (by omega));rw[hs]at LM⊢;have hml:(marks t).length<=10000:=aS (ql t) hn;have WS:=ah hml;clear hml hn hs;obtain⟨i0,hI0,hz0,hz1,hz2⟩:=eD gK;go_enter Tryz.func108,Tryz.ntmps108;go_wp2_with (go_at_call 63;refine LM.out.mono ?_;rintro e w1 ⟨v,rfl,ho,hb⟩;obtain⟨A,c,rfl,_⟩:=aL ho;obtain⟨n,hn⟩:∃n,(BG t).length=n:=⟨_,rfl⟩;rw[hn]at ho⊢;have HN:=ah (hn.symm.trans (aas t));have HR:=ah (JQ O8 (0,0,0,false) hn ho (by have:=WS.out;have:=HN.out;omega));have HB:=ah hb;clear ho hb hn);have hn2:n<=10000:=by have:=WS.out;have:=HN.out;omega
 go_loopw [4,5] (λvl vi wr=>∃(k:Nat) (A2:Option Addr) (c2:Nat),k<=n/\vi= .int .i64 k/\vl= .slice A2 k c2/\IA w1 (.slice A2 k c2) k ((eG t).take k) wr) (λ_ vi _=>n-(RowKit.intOf vi).toNat);case atStart=>exact⟨0,none,0,aH _,rfl,rfl,IA.nil w1⟩
 case round=>
  obtain⟨k,A2,c2,hk,rfl,rfl,hA⟩:=hrel;have HA:=ah hA;clear hA;by_cases hlt:k<n
  ·have HLEN:=ah (Ev (show k<=100000 by omega));obtain⟨g,rfl,hg,hc⟩:=HR.out.at_ (by omega);have hkm:k<(marks t).length:=by rw[<-HN.out];exact hlt
   have d1:=hc k hlt 0 _ (by decide) rfl;rw[adv t k,dA]at d1;have Er:=ah (OO t hkm);obtain⟨x,hx⟩:∃x,(eG t).getD k 0=x:=⟨_,rfl⟩
   rw[hx]at d1 Er;have d2:=(HA.out.aB.cell (p:=⟨g,k*4,none⟩) hg).trans d1;have hk0:(0:Int)<=k:=by omega
   have hk1:(k:Int)<n:=by omega
   have hwk:wrap64 ((k:Int)+1)=((k+1:Nat):Int):=by unfold wrap64;omega
   have jX:=ah hwk;clear hwk hx hc hg d1 hkm;go_wp2_with (at_builtin;refine aY _ rfl (.tmp 14) (.tmp 20) 41 rfl w1.heap.size 3 i0 _ 8 Tryz.underlying41 hI0 hz0 hz1 hz2 rfl (.slice A2 k c2) k (bD ((eG t).take k)) rfl HA.out.eF _ 1 1 [.int .i64 x] rfl (bY _ _ _) (by simp[Value.oneCell']) HLEN.out.1 HLEN.out.2 (by rw[World.size_alloc];have:=HA.out.aB.size;omega) ?_;intro v' wp ho hg hn;obtain⟨B1,d1,rfl,_⟩:=aL ho;have nT:=Lib.hid (HA.out.grow ho hg);clear ho hg hn);(try rw[jX.out]);exact⟨⟨k+1,_,_,hlt,rfl,rfl,by rw[<-Er.out];exact nT.out⟩,by simp[RowKit.intOf];omega⟩
  ·obtain rfl:k=n:=by omega
   have htk:(eG t).take k=eG t:=nC (by rw[rD,HN.out];exact ay _);rw[htk]at HA;have HLEN:=ah (Ev (show k<=100000 by omega));have ajK:(s.size:Int)=(t.length:Nat):=by rw[hss]
   have HK:=ah (show k+1<=100000 by omega);clear htk hk;go_wp2_with (at_builtin;refine aY _ rfl (.tmp 22) (.tmp 25) 41 rfl w1.heap.size 3 i0 _ 8 Tryz.underlying41 hI0 hz0 hz1 hz2 rfl (.slice A2 k c2) k (bD (eG t)) rfl HA.out.eF _ 1 1 [.int .i64 (t.length:Nat)] rfl (bY _ _ _) (by simp[Value.oneCell']) HLEN.out.1 HLEN.out.2 (by rw[World.size_alloc];have:=HA.out.aB.size;omega) ?_;intro v' wp ho hg hn;obtain⟨B1,d1,rfl,_⟩:=aL ho;have nT:=Lib.hid (HA.out.grow ho hg);clear ho hg hn);go_ret;refine⟨_,_,_,rfl,?_,HB.out.trans (nT.out.aB.mono HB.out.size)⟩;exact gM nT.out.own HK.out
