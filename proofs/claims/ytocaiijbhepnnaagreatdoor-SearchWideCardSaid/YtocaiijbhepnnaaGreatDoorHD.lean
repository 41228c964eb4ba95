/- SearchWide, walked: the document's classes. -/
import Derived.Test.YtocaiijbhepnnaaGreatDoorHC
import Derived.Test.YtocaiijbhepnnaaGreatDoorHA
set_option maxRecDepth 100000
set_option maxHeartbeats 4000000
namespace Go.Proofs.YtocaiijbhepnnaaGreatDoor.searchWide
open Go.Shelf Go.RowKit Go.Lib Go.Proofs.YtocaiijbhepnnaaGreatDoor.Am
def uK (l:List (Int×Int)) (r:Int):Bool:=l.any λp=>decide (p.1<=r)&&decide (r<=p.2)
theorem Xb {l:List (Int×Int)} {r:Int} {k:Nat} (hk:k<l.length) (h1:(l.getD k (0,0)).1<=r) (h2:r<=(l.getD k (0,0)).2):uK l r=true:=by unfold uK;rw[vO];rw[aU,bJ hk]at h1 h2;exact⟨_,mK hk,by have h1:l[k].1<=r:=h1;have h2:r<=l[k].2:=h2;rw[bg h1,bg h2];rfl⟩
theorem ZN {l:List (Int×Int)} {r:Int} (h:∀j,j<l.length->¬((l.getD j (0,0)).1<=r/\r<=(l.getD j (0,0)).2)):uK l r=false:=by rw[Bool.eq_false_iff];intro c;unfold uK at c;rw[vO]at c;obtain⟨p,hp,hc⟩:=c;obtain⟨j,hj,he⟩:=rJ.1 hp;rw[aP,bf,bf]at hc;refine h j hj ?_;rw[aU,bJ hj];subst he;exact hc
def ZO (b:Bool) (W:World) (e:Ending) (w':World):Prop:=e= .returned (.bool b)/\w'=W
theorem Bh (l:List (Int×Int)) (r:Int) (hr0:0<=r) (hr1:r<=1114111) (v:Value) (n:Nat) (hn:l.length=n) (hsm:n<=100000) (W:World) (h:Qg W v l):Calls Tryz.prog 228 #[v, .int .i32 r] W (ZO (uK l r) W):=by
 obtain⟨g,o,c,rfl,l1,hS⟩:=h;have HS:=ah hS;clear hS;rw[hn]at l1;rw[hn];have HN:=ah hn;clear hn;have d0:decide (0<=r)=true:=bg hr0;have d1:decide (r<=1114111)=true:=bg hr1;go_enter Tryz.func228,Tryz.ntmps228;go_wp2;go_loop [5] (λi=>∃k:Nat,k<=n/\i= .int .i64 k/\∀j,j<k->¬((l.getD j (0,0)).1<=r/\r<=(l.getD j (0,0)).2)) (λi=>n-(RowKit.intOf i).toNat);case atStart=>exact⟨0,by omega,rfl,λj hj=>by omega⟩
 case round=>
  obtain⟨k,hk,rfl,hlo⟩:=hrel;have sP:=ah hlo;clear hlo;by_cases hlt:k<n
  ·have hkl:k<l.length:=by rw[HN.out];exact hlt
   obtain⟨e1,e2⟩:=HS.out k hkl;have HY:=ah (Xb (r:=r) hkl);obtain⟨x,hx⟩:∃x,l.getD k (0,0)=x:=⟨_,rfl⟩
   obtain⟨a,b⟩:=x;rw[hx]at e1 e2 HY;dsimp only at e1 e2;have HX:=ah hx;clear hx hkl;by_cases ha:a<=r
   ·have HA:=ah ha;have da:decide (a<=r)=true:=bg ha;clear ha;by_cases hb:r<=b
    ·have HB:=ah hb;have db:decide (r<=b)=true:=bg hb;clear hb;go_wp2;go_ret;exact⟨by rw[HY.out HA.out HB.out];rfl,rfl⟩
    ·have HB:=ah hb;have db:decide (r<=b)=false:=bK hb;clear hb;go_wp2;go_round;case rel=>exact⟨k+1,hlt,by go_num,λj hj=>by
      rcases aN j k with c|c;·exact sP.out j c
      ·obtain rfl:j=k:=by omega
       rw[HX.out];exact λh=>HB.out h.2⟩
     case measure=>simp[RowKit.intOf];omega
   ·have HA:=ah ha;have da:decide (a<=r)=false:=bK ha;clear ha;go_wp2;go_round;case rel=>exact⟨k+1,hlt,by go_num,λj hj=>by
     rcases aN j k with c|c;·exact sP.out j c
     ·obtain rfl:j=k:=by omega
      rw[HX.out];exact λh=>HA.out h.1⟩
    case measure=>simp[RowKit.intOf];omega
  ·obtain rfl:k=n:=by omega
   go_wp2;go_ret;exact⟨by rw[ZN (λj hj=>sP.out j (by rw[<-HN.out];exact hj))];rfl,rfl⟩
def Ca (L:List (List (Int×Int))) (q:Int):Nat:=L.findIdx λl=>uK l q
def rZ (N:Nat) (L:List (List (Int×Int))) (q:Int):Int:=if Ca L q<N then(Ca L q:Int)+1 else 0
theorem zG {L:List (List (Int×Int))} {N:Nat} (hL:L.length=N) {q:Int} {k:Nat} (hk:k<N) (h:uK (L.getD k []) q=true) (hlo:∀j,j<k->uK (L.getD j []) q=false):Ca L q=k:=by
 have hk':k<L.length:=by rw[hL];exact hk
 unfold Ca;rw[List.findIdx_eq hk'];rw[aU,bJ hk']at h;refine⟨h,λj hj=> ?_⟩;have:=hlo j hj;rw[aU,bJ (Nat.lt_trans hj hk')]at this;exact this
theorem zH {L:List (List (Int×Int))} {N:Nat} (hL:L.length=N) {q:Int} (hlo:∀j,j<N->uK (L.getD j []) q=false):Ca L q=N:=by unfold Ca;rw[<-hL];refine List.findIdx_eq_length_of_false λl hl=> ?_;obtain⟨j,hj,he⟩:=rJ.1 hl;have:=hlo j (by rw[<-hL];exact hj);rw[aU,bJ hj]at this;subst he;exact this
theorem adf (L:List (List (Int×Int))) (N:Nat) (hN:N<=1000) (hL:L.length=N) (hs:∀j,j<N->(L.getD j []).length<=100000) (r:Int) (v:Value) (W:World) (h:Ey W v L):Calls Tryz.prog 162 #[v, .int .i32 r] W (JJ (rZ N L (fD r)) W):=by
 obtain⟨D,o,S,oS,c,rfl,c1,l1,hS⟩:=h;rw[hL]at c1 l1;obtain⟨M,hM⟩:∃M,N+1=M:=⟨_,rfl⟩
 rw[hM]at c1 l1;have XU:=ah hM;clear hM;have XV:=ah hL;have TG:=ah hs;have HS:=ah (show ∀i,i<N->∃s,W.cell? ⟨S,oS+(i+1),none⟩=some s/\Qg W s (L.getD i [])from λi hi=>hS i (by rw[hL];exact hi));clear hS hL hs;obtain⟨q,hq⟩:∃q,fD r=q:=⟨_,rfl⟩
 have HQ:=ah (show 0<=q/\q<=1114111 by rw[<-hq];unfold fD;split<;>omega);rw[hq];go_enter Tryz.func162,Tryz.ntmps162;have hcase:(decide (r<0)=true/\q=65533)\/(decide (r<0)=false/\decide (1114111<r)=true/\q=65533)\/(decide (r<0)=false/\decide (1114111<r)=false/\r=q):=by
  unfold fD at hq;by_cases h0:r<0;·rw[au (Or.inl h0)]at hq;exact Or.inl ⟨bg h0,hq.symm⟩
  ·by_cases h1:1114111<r
   ·rw[au (Or.inr h1)]at hq;exact Or.inr (Or.inl ⟨bK h0,bg h1,hq.symm⟩)
   ·rw[ak (by omega)]at hq;exact Or.inr (Or.inr ⟨bK h0,bK h1,hq⟩)
 clear hq;rcases hcase with⟨d0,hq⟩|⟨d0,d1,hq⟩|⟨d0,d1,hq⟩
 ·go_wp2;rw[<-hq];clear d0 hq;go_loop [5] (λi=>∃k:Nat,k<=N/\i= .int .i64 ((k:Int)+1)/\∀j,j<k->uK (L.getD j []) q=false) (λi=>N+1-(RowKit.intOf i).toNat);case atStart=>exact⟨0,by omega,rfl,λj hj=>by omega⟩
  case round=>
   obtain⟨k,hk,rfl,hlo⟩:=hrel;have sP:=ah hlo;clear hlo;by_cases hlt:k<N
   ·have hkM:(k:Int)+1<M:=by have:=XU.out;omega
    have hk0:(0:Int)<=(k:Int)+1:=by omega
    have hwi:wrap64 ((k:Int)+1+1)=(k:Int)+1+1:=by unfold wrap64;omega
    obtain⟨s,e1,e2⟩:=HS.out k hlt;have HE:=ah e2;obtain⟨sg,so,sc,rfl,_⟩:=e2;have HB:=ah (zG XV.out (q:=q) hlt);have HL:=ah (TG.out k hlt);obtain⟨l,hl⟩:∃l,L.getD k []=l:=⟨_,rfl⟩
    rw[hl]at HE HB HL e1;have HN:=ah hl;clear hl;obtain⟨n,hn⟩:∃n,l.length=n:=⟨_,rfl⟩
    rw[hn]at e1 HL HE;have HM:=ah hn;clear hn;rcases yZ (uK l q)with hb|hb;·have HH:=ah hb;clear hb;go_wp2_with (go_at_call 228;refine(Bh l _ HQ.out.1 HQ.out.2 _ _ rfl (by rw[HM.out];exact HL.out) _ HE.out).mono ?_;rintro e w1 ⟨rfl,rfl⟩;rw[HH.out]);go_ret;refine⟨?_,aM _ _⟩;have:=HB.out HH.out sP.out;unfold rZ;rw[this,au hlt];rfl
    ·have HH:=ah hb;clear hb;go_wp2_with (go_at_call 228;refine(Bh l _ HQ.out.1 HQ.out.2 _ _ rfl (by rw[HM.out];exact HL.out) _ HE.out).mono ?_;rintro e w1 ⟨rfl,rfl⟩;rw[HH.out]);go_round;case rel=>exact⟨k+1,hlt,by go_num,λj hj=>by
      rcases aN j k with c|c;·exact sP.out j c
      ·obtain rfl:j=k:=by omega
       rw[HN.out];exact HH.out⟩
     case measure=>simp[RowKit.intOf];omega
   ·obtain rfl:k=N:=by omega
    have hkM:¬(k:Int)+1<M:=by have:=XU.out;omega
    go_wp2;go_ret;refine⟨?_,aM _ _⟩;unfold rZ;rw[zH XV.out sP.out,ak (dA _)];rfl
 ·go_wp2;rw[<-hq];clear d0 d1 hq;go_loop [5] (λi=>∃k:Nat,k<=N/\i= .int .i64 ((k:Int)+1)/\∀j,j<k->uK (L.getD j []) q=false) (λi=>N+1-(RowKit.intOf i).toNat);case atStart=>exact⟨0,by omega,rfl,λj hj=>by omega⟩
  case round=>
   obtain⟨k,hk,rfl,hlo⟩:=hrel;have sP:=ah hlo;clear hlo;by_cases hlt:k<N
   ·have hkM:(k:Int)+1<M:=by have:=XU.out;omega
    have hk0:(0:Int)<=(k:Int)+1:=by omega
    have hwi:wrap64 ((k:Int)+1+1)=(k:Int)+1+1:=by unfold wrap64;omega
    obtain⟨s,e1,e2⟩:=HS.out k hlt;have HE:=ah e2;obtain⟨sg,so,sc,rfl,_⟩:=e2;have HB:=ah (zG XV.out (q:=q) hlt);have HL:=ah (TG.out k hlt);obtain⟨l,hl⟩:∃l,L.getD k []=l:=⟨_,rfl⟩
    rw[hl]at HE HB HL e1;have HN:=ah hl;clear hl;obtain⟨n,hn⟩:∃n,l.length=n:=⟨_,rfl⟩
    rw[hn]at e1 HL HE;have HM:=ah hn;clear hn;rcases yZ (uK l q)with hb|hb;·have HH:=ah hb;clear hb;go_wp2_with (go_at_call 228;refine(Bh l _ HQ.out.1 HQ.out.2 _ _ rfl (by rw[HM.out];exact HL.out) _ HE.out).mono ?_;rintro e w1 ⟨rfl,rfl⟩;rw[HH.out]);go_ret;refine⟨?_,aM _ _⟩;have:=HB.out HH.out sP.out;unfold rZ;rw[this,au hlt];rfl
    ·have HH:=ah hb;clear hb;go_wp2_with (go_at_call 228;refine(Bh l _ HQ.out.1 HQ.out.2 _ _ rfl (by rw[HM.out];exact HL.out) _ HE.out).mono ?_;rintro e w1 ⟨rfl,rfl⟩;rw[HH.out]);go_round;case rel=>exact⟨k+1,hlt,by go_num,λj hj=>by
      rcases aN j k with c|c;·exact sP.out j c
      ·obtain rfl:j=k:=by omega
       rw[HN.out];exact HH.out⟩
     case measure=>simp[RowKit.intOf];omega
   ·obtain rfl:k=N:=by omega
    have hkM:¬(k:Int)+1<M:=by have:=XU.out;omega
    go_wp2;go_ret;refine⟨?_,aM _ _⟩;unfold rZ;rw[zH XV.out sP.out,ak (dA _)];rfl
 ·subst hq;go_wp2;clear d0 d1;go_loop [5] (λi=>∃k:Nat,k<=N/\i= .int .i64 ((k:Int)+1)/\∀j,j<k->uK (L.getD j []) r=false) (λi=>N+1-(RowKit.intOf i).toNat);case atStart=>exact⟨0,by omega,rfl,λj hj=>by omega⟩
  case round=>
   obtain⟨k,hk,rfl,hlo⟩:=hrel;have sP:=ah hlo;clear hlo;by_cases hlt:k<N
   ·have hkM:(k:Int)+1<M:=by have:=XU.out;omega
    have hk0:(0:Int)<=(k:Int)+1:=by omega
    have hwi:wrap64 ((k:Int)+1+1)=(k:Int)+1+1:=by unfold wrap64;omega
    obtain⟨s,e1,e2⟩:=HS.out k hlt;have HE:=ah e2;obtain⟨sg,so,sc,rfl,_⟩:=e2;have HB:=ah (zG XV.out (q:=r) hlt);have HL:=ah (TG.out k hlt);obtain⟨l,hl⟩:∃l,L.getD k []=l:=⟨_,rfl⟩
    rw[hl]at HE HB HL e1;have HN:=ah hl;clear hl;obtain⟨n,hn⟩:∃n,l.length=n:=⟨_,rfl⟩
    rw[hn]at e1 HL HE;have HM:=ah hn;clear hn;rcases yZ (uK l r)with hb|hb;·have HH:=ah hb;clear hb;go_wp2_with (go_at_call 228;refine(Bh l _ HQ.out.1 HQ.out.2 _ _ rfl (by rw[HM.out];exact HL.out) _ HE.out).mono ?_;rintro e w1 ⟨rfl,rfl⟩;rw[HH.out]);go_ret;refine⟨?_,aM _ _⟩;have:=HB.out HH.out sP.out;unfold rZ;rw[this,au hlt];rfl
    ·have HH:=ah hb;clear hb;go_wp2_with (go_at_call 228;refine(Bh l _ HQ.out.1 HQ.out.2 _ _ rfl (by rw[HM.out];exact HL.out) _ HE.out).mono ?_;rintro e w1 ⟨rfl,rfl⟩;rw[HH.out]);go_round;case rel=>exact⟨k+1,hlt,by go_num,λj hj=>by
      rcases aN j k with c|c;·exact sP.out j c
      ·obtain rfl:j=k:=by omega
       rw[HN.out];exact HH.out⟩
     case measure=>simp[RowKit.intOf];omega
   ·obtain rfl:k=N:=by omega
    have hkM:¬(k:Int)+1<M:=by have:=XU.out;omega
    go_wp2;go_ret;refine⟨?_,aM _ _⟩;unfold rZ;rw[zH XV.out sP.out,ak (dA _)];rfl
def Xc (R:List gJ) (c:Int):List (Int×Int):=(R.filter (λx=>decide (x.2.2=c))).map λx=>(x.1,x.2.1)
def qH (R:List gJ) (N:Nat):List (List (Int×Int)):=(List.range N).map λ(k:Nat)=>Xc R ((k:Int)+1)
theorem Bj (R:List gJ) (c q:Int):uK (Xc R c) q=true↔∃x∈R,x.2.2=c/\x.1<=q/\q<=x.2.1:=by
 unfold uK Xc;rw[vO];constructor;·rintro⟨p,hp,hc⟩;obtain⟨x,hx,rfl⟩:=dw.1 hp;obtain⟨h1,h2⟩:=kC.1 hx;rw[aP,bf,bf]at hc;exact⟨x,h1,jm h2,hc.1,hc.2⟩
 ·rintro⟨x,h1,h2,h3,h4⟩;exact⟨(x.1,x.2.1),dw.2 ⟨x,kC.2 ⟨h1,bg h2⟩,rfl⟩,by rw[bg h3,bg h4];rfl⟩
def Xd:List gJ->Bool
 |[]=>true
 |x::l=>decide (x.1<=x.2.1)&&(l.all (λy=>decide (x.2.1<y.1))&&Xd l)
theorem QG (q:Int):∀l:List gJ,Xd l=true->(∃x∈l,x.1<=q/\q<=x.2.1/\fT l q=x.2.2/\∀y∈l,y.1<=q->q<=y.2.1->y=x)\/((∀x∈l,¬(x.1<=q/\q<=x.2.1))/\fT l q=0)
 |[],_=> .inr ⟨λx h=>absurd h kG,rfl⟩
 |a::l,h=>by
  unfold Xd at h;rw[aP,aP,bf,iK]at h;obtain⟨h1,h2,h3⟩:=h;have h2:∀y∈l,a.2.1<y.1:=λy hy=>jm (h2 y hy);by_cases c:q<=a.2.1
  ·have hf:fT (a::l) q=if a.1<=q then a.2.2 else 0:=by unfold fT;rw[List.find?_cons_of_pos (by exact bg c)]
   by_cases d:a.1<=q
   ·refine .inl ⟨a,nU,d,c,by rw[hf,au d],λy hy e1 e2=> ?_⟩;rcases aT.1 hy with rfl|hy
    ·rfl
    ·have:=h2 y hy;omega
   ·refine .inr ⟨λx hx e=> ?_,by rw[hf,ak d]⟩;rcases aT.1 hx with rfl|hx
    ·exact d e.1
    ·have:=h2 x hx;omega
  ·have hf:fT (a::l) q=fT l q:=by unfold fT;rw[List.find?_cons_of_neg (by simpa using c)]
   rcases QG q l h3 with⟨x,hx,e1,e2,e3,e4⟩|⟨e1,e2⟩
   ·refine .inl ⟨x,lH _ hx,e1,e2,by rw[hf,e3],λy hy f1 f2=> ?_⟩;rcases aT.1 hy with rfl|hy
    ·exact absurd f2 c
    ·exact e4 y hy f1 f2
   ·refine .inr ⟨λx hx e=> ?_,by rw[hf,e2]⟩;rcases aT.1 hx with rfl|hx
    ·exact c e.2
    ·exact e1 x hx e
theorem Bl (R:List gJ) (N:Nat):(qH R N).length=N:=by unfold qH;rw[dR,nR]
theorem wE (R:List gJ) {N k:Nat} (h:k<N):(qH R N).getD k []=Xc R ((k:Int)+1):=by unfold qH;rw[aU,iU,Ah h];rfl
theorem MH (R:List gJ) (N:Nat) (hR:R.length<=100000):∀j,j<N->((qH R N).getD j []).length<=100000:=λj hj=>by rw[wE R hj];unfold Xc;rw[dR];exact bn (List.length_filter_le _ _) hR
theorem SX (R:List gJ) (N:Nat) (hs:Xd R=true) (hc:(R.all λx=>decide (1<=x.2.2)&&decide (x.2.2<=(N:Int)))=true) (q:Int):rZ N (qH R N) q=fT R q:=by
 unfold rZ;rcases QG q R hs with⟨x,hx,e1,e2,e3,e4⟩|⟨e1,e2⟩
 ·have hc:=iK.1 hc x hx;rw[aP,bf,bf]at hc;obtain⟨k,hk⟩:∃k:Nat,x.2.2=(k:Int)+1:=⟨(x.2.2-1).toNat,by omega⟩
  have hkN:k<N:=by omega
  have hs:Ca (qH R N) q=k:=zG (Bl R N) hkN (by rw[wE R hkN,Bj];exact⟨x,hx,hk,e1,e2⟩) (λj hj=>by
   rw[wE R (by omega),Bool.eq_false_iff];intro h;obtain⟨y,hy,f1,f2,f3⟩:=(Bj _ _ _).1 h;have:=e4 y hy f2 f3;subst this;omega)
  rw[hs,au hkN,e3,hk]
 ·have hs:Ca (qH R N) q=N:=zH (Bl R N) (λj hj=>by
   rw[wE R hj,Bool.eq_false_iff];intro h;obtain⟨y,hy,f1,f2,f3⟩:=(Bj _ _ _).1 h;exact e1 y hy ⟨f2,f3⟩)
  rw[hs,ak (dA _),e2]
theorem QH (L:Nat):∀(l:List (Nat×Nat)) (k:Nat),k<l.length->((Oz L l).getD k Sw).1=(l.getD k (0,0)).2
 |[],_,h=>absurd h (iM _)
 |[_],0,_=>rfl
 |[_],_+1,h=>by simp at h
 |_::_::_,0,_=>rfl
 |x::y::r,k+1,h=>by have:=QH L (y::r) k (by simpa using h);show((Oz L (y::r)).getD k Sw).1=((y::r).getD k (0,0)).2;exact this
def iR (R:List gJ) (t:List UInt8):List Int:=(marks t).map λx=>fT R (fD (x.2:Int))
theorem qI (R:List gJ) (t:List UInt8):(iR R t).length=(marks t).length:=dR _
theorem SY (R:List gJ) (t:List UInt8) {k:Nat} (h:k<(marks t).length):(iR R t).take (k+1)=(iR R t).take k++[fT R (fD (((wU t).getD k Sw).1:Int))]:=by
 have h':k<(iR R t).length:=by rw[qI];exact h
 have hk:(iR R t)[k]? =some (fT R (fD (((wU t).getD k Sw).1:Int))):=by unfold iR wU;rw[iU,QH _ _ _ h,aU,bJ h];rfl
 rw[List.take_add_one,hk];rfl
def DbT (w:World) (d:Value) (R:List gJ) (N:Nat):Prop:=Ey w d (qH R N)
structure Fq (R:List gJ) (N:Nat):Prop where
 sep:Xd R=true
 cls:(R.all λx=>decide (1<=x.2.2)&&decide (x.2.2<=(N:Int)))=true
 small:R.length<=100000
 few:N<=1000
theorem Xe {R:List gJ} {N:Nat} (h:Fq R N) (r:Int) (v:Value) (W:World) (hd:DbT W v R N):Calls Tryz.prog 162 #[v, .int .i32 r] W (JJ (fT R (fD r)) W):=by have:=adf (qH R N) N h.few (Bl R N) (MH R N h.small) r v W hd;rwa [SX R N h.sep h.cls]at this
theorem ZP {w:World} {base:Nat} {e:TypeId} {A:Option Addr} {m c size n:Nat} {xs:List Value} (h:w.ownsRow base e size (.slice A m c) n xs):n<=c:=by obtain⟨A',c',h1,h2⟩:=aW h;injection h1 with _ _ h1;rw[h1];exact h2
def S9 (zs:List Int) (W:World) (e:Ending) (w':World):Prop:=∃A n c,e= .returned (.slice A n c)/\cB w' A n zs/\n<=c/\Below W.heap.size W w'
theorem Cb (R:List gJ) (N:Nat) (hT:Fq R N) (t:List UInt8) (gx:Nat) (d:Value) (A:Option Addr) (n c:Nat) (W:World) (hgx:gx<W.heap.size) (hx:W.cell? ⟨gx,0,none⟩=some d) (hD:DbT W d R N) (hR:wT Fg 3 Sw W A n (wU t)) (hn:t.length<=10000):
 Calls Tryz.prog 125 #[.pointer (some ⟨gx,0,none⟩), .slice A n c] W (S9 (iR R t) W):=by
 have HR:=ah hR;have HN:=ah (hR.len.symm.trans (wC t));have hml:(marks t).length<=10000:=bn (EN t) hn;have hn2:n<=10000:=by have:=HN.out;omega
 have HG:=ah (λ(w:World) (hb:Below W.heap.size W w) (r:Int)=>Xe hT r d w (kI hD hb));clear hR hml hn hD;obtain⟨i0,hI0,hz0,hz1,hz2⟩:=iA l9;go_enter Tryz.func125,Tryz.ntmps125;go_wp2_with fail;go_loopw [5,6] (λvl vi wr=>∃(k:Nat) (A2:Option Addr) (c2:Nat),k<=n/\vi= .int .i64 k/\vl= .slice A2 k c2/\IA W (.slice A2 k c2) k ((iR R t).take k) wr) (λ_ vi _=>n-(RowKit.intOf vi).toNat);case atStart=>exact⟨0,none,0,aL _,rfl,rfl,IA.nil W⟩
 case round=>
  obtain⟨k,A2,c2,hk,rfl,rfl,hA⟩:=hrel;have HA:=ah hA;clear hA;by_cases hlt:k<n
  ·have HLEN:=ah (Zz (show k<=100000 by omega));obtain⟨g,rfl,hg,hc⟩:=HR.out.at_ (by omega);have hkm:k<(marks t).length:=by rw[<-HN.out];exact hlt
   have d1:=hc k hlt 0 _ (by decide) rfl;rw[cK]at d1;have HTK:=ah (SY R t hkm);obtain⟨r,hr⟩:∃r:Nat,((wU t).getD k Sw).1=r:=⟨_,rfl⟩
   rw[hr]at d1 HTK;obtain⟨x,hxx⟩:∃x,fT R (fD (r:Int))=x:=⟨_,rfl⟩
   have HAd:=ah (show IA W (.slice A2 k c2) k ((iR R t).take k) wr.drew from⟨⟨HA.out.aD.os,HA.out.aD.tape,HA.out.aD.output,HA.out.aD.size,HA.out.aD.block⟩,HA.out.own⟩);have HGx:=ah (HG.out wr.drew HAd.out.aD (r:Int));rw[hxx]at HTK HGx;have d2:=(HAd.out.aD.cell (p:=⟨g,k*3,none⟩) hg).trans d1;have d3:=(HAd.out.aD.cell (p:=⟨gx,0,none⟩) hgx).trans hx;have hk0:(0:Int)<=k:=by omega
   have hk1:(k:Int)<n:=by omega
   have iQ:=ah (show wrap64 ((k:Int)+1)=((k+1:Nat):Int)by unfold wrap64;omega);clear hr hxx hc hg d1 hkm;go_upto_region 5 with fail;go_region_law (first
    |(go_simp;refine HGx.out.mono ?_;rintro e w4 ⟨rfl,hb⟩;have HA4:=Lib.hid (HAd.out.below hb);clear hb;dsimp only)
    |(refine step_append_lies _ (by rfl) (.tmp 13) (.tmp 24) 41 (by rfl) W.heap.size 3 i0 _ 1 8 Tryz.underlying41 hI0 hz0 hz1 hz2 rfl (by omega) _ k (bX ((iR R t).take k)) (by rfl) HA4.out.gD ⟨w4.heap.size,0,none⟩ 1 1 [.int .i64 x] (by rfl) (by rfl) (World.news_of_block (heap_alloc_new w4 _)) (by simp[Value.oneCell']) (by omega) HLEN.out.1 HLEN.out.2 (by rw[World.size_alloc];have:=HA4.out.aD.size;omega) _ rfl ?_;intro g3 Mi w7 hown3 hgrow3 _ _;have xL:=Lib.hid (HA4.out.grow hown3 hgrow3);clear hown3 hgrow3))
   all_goals go_wp2_with fail
   all_goals exact⟨⟨k+1,_,_,hlt,rfl,rfl,by rw[HTK.out];exact xL.out⟩,by simp[RowKit.intOf];omega⟩
  ·obtain rfl:k=n:=by omega
   have htk:(iR R t).take k=iR R t:=Da (by rw[qI,HN.out];exact ay _);rw[htk]at HA;have HK:=ah (show k<=100000 by omega);clear htk hk;go_wp2;go_ret;exact⟨_,_,_,rfl,kM HA.out.own HK.out,ZP HA.out.own,HA.out.aD⟩
section
open Folds (dec aZ bQ)
section
variable {W w w':World} {s:ByteArray} {e m:Nat} {v:Value} {acc:List Int}
end
end
section
open Folds (dec)
