/- FoldTitles, walked: the document's classes. -/
import Derived.Test.YtocaiijbhepnnaaGreatDoorHC
import Derived.Test.YtocaiijbhepnnaaGreatDoorHA
set_option maxRecDepth 100000
set_option maxHeartbeats 8000000
namespace Go.Proofs.YtocaiijbhepnnaaGreatDoor.foldTitles
open Go.Shelf Go.RowKit Go.Lib Go.Proofs.YtocaiijbhepnnaaGreatDoor.Am
def kM (l:List (Int×Int)) (r:Int):Bool:=l.any λp=>decide (p.1<=r)&&decide (r<=p.2)
theorem V7 {l:List (Int×Int)} {r:Int} {k:Nat} (hk:k<l.length) (h1:(l.getD k (0,0)).1<=r) (h2:r<=(l.getD k (0,0)).2):kM l r=true:=by unfold kM;rw[rR];rw[aG,aS hk]at h1 h2;exact⟨_,iN hk,by have h1:l[k].1<=r:=h1;have h2:r<=l[k].2:=h2;rw[aO h1,aO h2];rfl⟩
theorem Y2 {l:List (Int×Int)} {r:Int} (h:∀j,j<l.length->¬((l.getD j (0,0)).1<=r/\r<=(l.getD j (0,0)).2)):kM l r=false:=by rw[rO];intro c;unfold kM at c;rw[rR]at c;obtain⟨p,hp,hc⟩:=c;obtain⟨j,hj,he⟩:=mD.1 hp;rw[aQ,aY,aY]at hc;refine h j hj ?_;rw[aG,aS hj];subst he;exact hc
def Y3 (b:Bool) (W:World) (e:Ending) (w':World):Prop:=e= .returned (.bool b)/\w'=W
theorem mF (l:List (Int×Int)) (r:Int) (hr0:0<=r) (hr1:r<=1114111) (v:Value) (n:Nat) (hn:l.length=n) (hsm:n<=100000) (W:World) (h:KM W v l):Calls Tryz.prog 228 #[v, .int .i32 r] W (Y3 (kM l r) W):=by
 obtain⟨g,o,c,rfl,l1,hS⟩:=h;have HS:=ah hS;clear hS;rw[hn]at l1;rw[hn];have HN:=ah hn;clear hn;have d0:decide (0<=r)=true:=aO hr0;have d1:decide (r<=1114111)=true:=aO hr1;go_enter Tryz.func228,Tryz.ntmps228;go_wp2;go_loop [5] (λi=>∃k:Nat,k<=n/\i= .int .i64 k/\∀j,j<k->¬((l.getD j (0,0)).1<=r/\r<=(l.getD j (0,0)).2)) (λi=>n-(RowKit.intOf i).toNat);case atStart=>exact⟨0,by omega,rfl,λj hj=>by omega⟩
 case round=>
  obtain⟨k,hk,rfl,hlo⟩:=hrel;have mY:=ah hlo;clear hlo;by_cases hlt:k<n
  ·have hkl:k<l.length:=by rw[HN.out];exact hlt
   obtain⟨e1,e2⟩:=HS.out k hkl;have HY:=ah (V7 (r:=r) hkl);obtain⟨x,hx⟩:∃x,l.getD k (0,0)=x:=⟨_,rfl⟩
   obtain⟨a,b⟩:=x;rw[hx]at e1 e2 HY;dsimp only at e1 e2;have HX:=ah hx;clear hx hkl;by_cases ha:a<=r
   ·have HA:=ah ha;have da:decide (a<=r)=true:=aO ha;clear ha;by_cases hb:r<=b
    ·have HB:=ah hb;have db:decide (r<=b)=true:=aO hb;clear hb;go_wp2;go_ret;exact⟨by rw[HY.out HA.out HB.out];rfl,rfl⟩
    ·have HB:=ah hb;have db:decide (r<=b)=false:=aP hb;clear hb;go_wp2;go_round;case rel=>exact⟨k+1,hlt,by go_num,λj hj=>by
      rcases aF j k with c|c;·exact mY.out j c
      ·obtain rfl:j=k:=by omega
       rw[HX.out];exact λh=>HB.out h.2⟩
     case measure=>simp[RowKit.intOf];omega
   ·have HA:=ah ha;have da:decide (a<=r)=false:=aP ha;clear ha;go_wp2;go_round;case rel=>exact⟨k+1,hlt,by go_num,λj hj=>by
     rcases aF j k with c|c;·exact mY.out j c
     ·obtain rfl:j=k:=by omega
      rw[HX.out];exact λh=>HA.out h.1⟩
    case measure=>simp[RowKit.intOf];omega
  ·obtain rfl:k=n:=by omega
   go_wp2;go_ret;exact⟨by rw[Y2 (λj hj=>mY.out j (by rw[<-HN.out];exact hj))];rfl,rfl⟩
def Bt (L:List (List (Int×Int))) (q:Int):Nat:=L.findIdx λl=>kM l q
def su (N:Nat) (L:List (List (Int×Int))) (q:Int):Int:=if Bt L q<N then(Bt L q:Int)+1 else 0
theorem zq {L:List (List (Int×Int))} {N:Nat} (hL:L.length=N) {q:Int} {k:Nat} (hk:k<N) (h:kM (L.getD k []) q=true) (hlo:∀j,j<k->kM (L.getD j []) q=false):Bt L q=k:=by
 have hk':k<L.length:=by rw[hL];exact hk
 unfold Bt;rw[List.findIdx_eq hk'];rw[aG,aS hk']at h;refine⟨h,λj hj=> ?_⟩;have:=hlo j hj;rw[aG,aS (Nat.lt_trans hj hk')]at this;exact this
theorem zu {L:List (List (Int×Int))} {N:Nat} (hL:L.length=N) {q:Int} (hlo:∀j,j<N->kM (L.getD j []) q=false):Bt L q=N:=by unfold Bt;rw[<-hL];refine List.findIdx_eq_length_of_false λl hl=> ?_;obtain⟨j,hj,he⟩:=mD.1 hl;have:=hlo j (by rw[<-hL];exact hj);rw[aG,aS hj]at this;subst he;exact this
theorem ab1 (L:List (List (Int×Int))) (N:Nat) (hN:N<=1000) (hL:L.length=N) (hs:∀j,j<N->(L.getD j []).length<=100000) (r:Int) (v:Value) (W:World) (h:uj W v L):Calls Tryz.prog 162 #[v, .int .i32 r] W (za (su N L (eF r)) W):=by
 obtain⟨D,o,S,oS,c,rfl,c1,l1,hS⟩:=h;rw[hL]at c1 l1;obtain⟨M,hM⟩:∃M,N+1=M:=⟨_,rfl⟩
 rw[hM]at c1 l1;have HMN:=ah hM;clear hM;have GK:=ah hL;have HSM:=ah hs;have HS:=ah (show ∀i,i<N->∃s,W.cell? ⟨S,oS+(i+1),none⟩=some s/\KM W s (L.getD i [])from λi hi=>hS i (by rw[hL];exact hi));clear hS hL hs;obtain⟨q,hq⟩:∃q,eF r=q:=⟨_,rfl⟩
 have HQ:=ah (show 0<=q/\q<=1114111 by rw[<-hq];unfold eF;split<;>omega);rw[hq];go_enter Tryz.func162,Tryz.ntmps162;have hcase:(decide (r<0)=true/\q=65533)\/(decide (r<0)=false/\decide (1114111<r)=true/\q=65533)\/(decide (r<0)=false/\decide (1114111<r)=false/\r=q):=by
  unfold eF at hq;by_cases h0:r<0;·rw[au (Or.inl h0)]at hq;exact Or.inl ⟨aO h0,hq.symm⟩
  ·by_cases h1:1114111<r
   ·rw[au (Or.inr h1)]at hq;exact Or.inr (Or.inl ⟨aP h0,aO h1,hq.symm⟩)
   ·rw[aj (by omega)]at hq;exact Or.inr (Or.inr ⟨aP h0,aP h1,hq⟩)
 clear hq;rcases hcase with⟨d0,hq⟩|⟨d0,d1,hq⟩|⟨d0,d1,hq⟩
 ·go_wp2;rw[<-hq];clear d0 hq;go_loop [5] (λi=>∃k:Nat,k<=N/\i= .int .i64 ((k:Int)+1)/\∀j,j<k->kM (L.getD j []) q=false) (λi=>N+1-(RowKit.intOf i).toNat);case atStart=>exact⟨0,by omega,rfl,λj hj=>by omega⟩
  case round=>
   obtain⟨k,hk,rfl,hlo⟩:=hrel;have mY:=ah hlo;clear hlo;by_cases hlt:k<N
   ·have hkM:(k:Int)+1<M:=by have:=HMN.out;omega
    have hk0:(0:Int)<=(k:Int)+1:=by omega
    have hwi:wrap64 ((k:Int)+1+1)=(k:Int)+1+1:=by unfold wrap64;omega
    obtain⟨s,e1,e2⟩:=HS.out k hlt;have HE:=ah e2;obtain⟨sg,so,sc,rfl,_⟩:=e2;have HB:=ah (zq GK.out (q:=q) hlt);have HL:=ah (HSM.out k hlt);obtain⟨l,hl⟩:∃l,L.getD k []=l:=⟨_,rfl⟩
    rw[hl]at HE HB HL e1;have HN:=ah hl;clear hl;obtain⟨n,hn⟩:∃n,l.length=n:=⟨_,rfl⟩
    rw[hn]at e1 HL HE;have HM:=ah hn;clear hn;rcases xE (kM l q)with hb|hb;·have HH:=ah hb;clear hb;go_wp2_with (go_at_call 228;refine(mF l _ HQ.out.1 HQ.out.2 _ _ rfl (by rw[HM.out];exact HL.out) _ HE.out).mono ?_;rintro e w1 ⟨rfl,rfl⟩;rw[HH.out]);go_ret;refine⟨?_,aK _ _⟩;have:=HB.out HH.out mY.out;unfold su;rw[this,au hlt];rfl
    ·have HH:=ah hb;clear hb;go_wp2_with (go_at_call 228;refine(mF l _ HQ.out.1 HQ.out.2 _ _ rfl (by rw[HM.out];exact HL.out) _ HE.out).mono ?_;rintro e w1 ⟨rfl,rfl⟩;rw[HH.out]);go_round;case rel=>exact⟨k+1,hlt,by go_num,λj hj=>by
      rcases aF j k with c|c;·exact mY.out j c
      ·obtain rfl:j=k:=by omega
       rw[HN.out];exact HH.out⟩
     case measure=>simp[RowKit.intOf];omega
   ·obtain rfl:k=N:=by omega
    have hkM:¬(k:Int)+1<M:=by have:=HMN.out;omega
    go_wp2;go_ret;refine⟨?_,aK _ _⟩;unfold su;rw[zu GK.out mY.out,aj (dA _)];rfl
 ·go_wp2;rw[<-hq];clear d0 d1 hq;go_loop [5] (λi=>∃k:Nat,k<=N/\i= .int .i64 ((k:Int)+1)/\∀j,j<k->kM (L.getD j []) q=false) (λi=>N+1-(RowKit.intOf i).toNat);case atStart=>exact⟨0,by omega,rfl,λj hj=>by omega⟩
  case round=>
   obtain⟨k,hk,rfl,hlo⟩:=hrel;have mY:=ah hlo;clear hlo;by_cases hlt:k<N
   ·have hkM:(k:Int)+1<M:=by have:=HMN.out;omega
    have hk0:(0:Int)<=(k:Int)+1:=by omega
    have hwi:wrap64 ((k:Int)+1+1)=(k:Int)+1+1:=by unfold wrap64;omega
    obtain⟨s,e1,e2⟩:=HS.out k hlt;have HE:=ah e2;obtain⟨sg,so,sc,rfl,_⟩:=e2;have HB:=ah (zq GK.out (q:=q) hlt);have HL:=ah (HSM.out k hlt);obtain⟨l,hl⟩:∃l,L.getD k []=l:=⟨_,rfl⟩
    rw[hl]at HE HB HL e1;have HN:=ah hl;clear hl;obtain⟨n,hn⟩:∃n,l.length=n:=⟨_,rfl⟩
    rw[hn]at e1 HL HE;have HM:=ah hn;clear hn;rcases xE (kM l q)with hb|hb;·have HH:=ah hb;clear hb;go_wp2_with (go_at_call 228;refine(mF l _ HQ.out.1 HQ.out.2 _ _ rfl (by rw[HM.out];exact HL.out) _ HE.out).mono ?_;rintro e w1 ⟨rfl,rfl⟩;rw[HH.out]);go_ret;refine⟨?_,aK _ _⟩;have:=HB.out HH.out mY.out;unfold su;rw[this,au hlt];rfl
    ·have HH:=ah hb;clear hb;go_wp2_with (go_at_call 228;refine(mF l _ HQ.out.1 HQ.out.2 _ _ rfl (by rw[HM.out];exact HL.out) _ HE.out).mono ?_;rintro e w1 ⟨rfl,rfl⟩;rw[HH.out]);go_round;case rel=>exact⟨k+1,hlt,by go_num,λj hj=>by
      rcases aF j k with c|c;·exact mY.out j c
      ·obtain rfl:j=k:=by omega
       rw[HN.out];exact HH.out⟩
     case measure=>simp[RowKit.intOf];omega
   ·obtain rfl:k=N:=by omega
    have hkM:¬(k:Int)+1<M:=by have:=HMN.out;omega
    go_wp2;go_ret;refine⟨?_,aK _ _⟩;unfold su;rw[zu GK.out mY.out,aj (dA _)];rfl
 ·subst hq;go_wp2;clear d0 d1;go_loop [5] (λi=>∃k:Nat,k<=N/\i= .int .i64 ((k:Int)+1)/\∀j,j<k->kM (L.getD j []) r=false) (λi=>N+1-(RowKit.intOf i).toNat);case atStart=>exact⟨0,by omega,rfl,λj hj=>by omega⟩
  case round=>
   obtain⟨k,hk,rfl,hlo⟩:=hrel;have mY:=ah hlo;clear hlo;by_cases hlt:k<N
   ·have hkM:(k:Int)+1<M:=by have:=HMN.out;omega
    have hk0:(0:Int)<=(k:Int)+1:=by omega
    have hwi:wrap64 ((k:Int)+1+1)=(k:Int)+1+1:=by unfold wrap64;omega
    obtain⟨s,e1,e2⟩:=HS.out k hlt;have HE:=ah e2;obtain⟨sg,so,sc,rfl,_⟩:=e2;have HB:=ah (zq GK.out (q:=r) hlt);have HL:=ah (HSM.out k hlt);obtain⟨l,hl⟩:∃l,L.getD k []=l:=⟨_,rfl⟩
    rw[hl]at HE HB HL e1;have HN:=ah hl;clear hl;obtain⟨n,hn⟩:∃n,l.length=n:=⟨_,rfl⟩
    rw[hn]at e1 HL HE;have HM:=ah hn;clear hn;rcases xE (kM l r)with hb|hb;·have HH:=ah hb;clear hb;go_wp2_with (go_at_call 228;refine(mF l _ HQ.out.1 HQ.out.2 _ _ rfl (by rw[HM.out];exact HL.out) _ HE.out).mono ?_;rintro e w1 ⟨rfl,rfl⟩;rw[HH.out]);go_ret;refine⟨?_,aK _ _⟩;have:=HB.out HH.out mY.out;unfold su;rw[this,au hlt];rfl
    ·have HH:=ah hb;clear hb;go_wp2_with (go_at_call 228;refine(mF l _ HQ.out.1 HQ.out.2 _ _ rfl (by rw[HM.out];exact HL.out) _ HE.out).mono ?_;rintro e w1 ⟨rfl,rfl⟩;rw[HH.out]);go_round;case rel=>exact⟨k+1,hlt,by go_num,λj hj=>by
      rcases aF j k with c|c;·exact mY.out j c
      ·obtain rfl:j=k:=by omega
       rw[HN.out];exact HH.out⟩
     case measure=>simp[RowKit.intOf];omega
   ·obtain rfl:k=N:=by omega
    have hkM:¬(k:Int)+1<M:=by have:=HMN.out;omega
    go_wp2;go_ret;refine⟨?_,aK _ _⟩;unfold su;rw[zu GK.out mY.out,aj (dA _)];rfl
def V8 (R:List fI) (c:Int):List (Int×Int):=(R.filter (λx=>decide (x.2.2=c))).map λx=>(x.1,x.2.1)
def uN (R:List fI) (N:Nat):List (List (Int×Int)):=(List.range N).map λ(k:Nat)=>V8 R ((k:Int)+1)
theorem Ay (R:List fI) (c q:Int):kM (V8 R c) q=true↔∃x∈R,x.2.2=c/\x.1<=q/\q<=x.2.1:=by
 unfold kM V8;rw[rR];constructor;·rintro⟨p,hp,hc⟩;obtain⟨x,hx,rfl⟩:=bX.1 hp;obtain⟨h1,h2⟩:=kg.1 hx;rw[aQ,aY,aY]at hc;exact⟨x,h1,gK h2,hc.1,hc.2⟩
 ·rintro⟨x,h1,h2,h3,h4⟩;exact⟨(x.1,x.2.1),bX.2 ⟨x,kg.2 ⟨h1,aO h2⟩,rfl⟩,by rw[aO h3,aO h4];rfl⟩
def V9:List fI->Bool
 |[]=>true
 |x::l=>decide (x.1<=x.2.1)&&(l.all (λy=>decide (x.2.1<y.1))&&V9 l)
theorem PO (q:Int):∀l:List fI,V9 l=true->(∃x∈l,x.1<=q/\q<=x.2.1/\dQ l q=x.2.2/\∀y∈l,y.1<=q->q<=y.2.1->y=x)\/((∀x∈l,¬(x.1<=q/\q<=x.2.1))/\dQ l q=0)
 |[],_=> .inr ⟨λx h=>absurd h nQ,rfl⟩
 |a::l,h=>by
  unfold V9 at h;rw[aQ,aQ,aY,dZ]at h;obtain⟨h1,h2,h3⟩:=h;have h2:∀y∈l,a.2.1<y.1:=λy hy=>gK (h2 y hy);by_cases c:q<=a.2.1
  ·have hf:dQ (a::l) q=if a.1<=q then a.2.2 else 0:=by unfold dQ;rw[List.find?_cons_of_pos (by exact aO c)]
   by_cases d:a.1<=q
   ·refine .inl ⟨a,oK,d,c,by rw[hf,au d],λy hy e1 e2=> ?_⟩;rcases aR.1 hy with rfl|hy
    ·rfl
    ·have:=h2 y hy;omega
   ·refine .inr ⟨λx hx e=> ?_,by rw[hf,aj d]⟩;rcases aR.1 hx with rfl|hx
    ·exact d e.1
    ·have:=h2 x hx;omega
  ·have hf:dQ (a::l) q=dQ l q:=by unfold dQ;rw[List.find?_cons_of_neg (by simpa using c)]
   rcases PO q l h3 with⟨x,hx,e1,e2,e3,e4⟩|⟨e1,e2⟩
   ·refine .inl ⟨x,rH _ hx,e1,e2,by rw[hf,e3],λy hy f1 f2=> ?_⟩;rcases aR.1 hy with rfl|hy
    ·exact absurd f2 c
    ·exact e4 y hy f1 f2
   ·refine .inr ⟨λx hx e=> ?_,by rw[hf,e2]⟩;rcases aR.1 hx with rfl|hx
    ·exact c e.2
    ·exact e1 x hx e
theorem Az (R:List fI) (N:Nat):(uN R N).length=N:=by unfold uN;rw[bM,mq]
theorem wC (R:List fI) {N k:Nat} (h:k<N):(uN R N).getD k []=V8 R ((k:Int)+1):=by unfold uN;rw[aG,fq,zV h];rfl
theorem Lj (R:List fI) (N:Nat) (hR:R.length<=100000):∀j,j<N->((uN R N).getD j []).length<=100000:=λj hj=>by rw[wC R hj];unfold V8;rw[bM];exact bF (List.length_filter_le _ _) hR
theorem RL (R:List fI) (N:Nat) (hs:V9 R=true) (hc:(R.all λx=>decide (1<=x.2.2)&&decide (x.2.2<=(N:Int)))=true) (q:Int):su N (uN R N) q=dQ R q:=by
 unfold su;rcases PO q R hs with⟨x,hx,e1,e2,e3,e4⟩|⟨e1,e2⟩
 ·have hc:=dZ.1 hc x hx;rw[aQ,aY,aY]at hc;obtain⟨k,hk⟩:∃k:Nat,x.2.2=(k:Int)+1:=⟨(x.2.2-1).toNat,by omega⟩
  have hkN:k<N:=by omega
  have hs:Bt (uN R N) q=k:=zq (Az R N) hkN (by rw[wC R hkN,Ay];exact⟨x,hx,hk,e1,e2⟩) (λj hj=>by
   rw[wC R (by omega),rO];intro h;obtain⟨y,hy,f1,f2,f3⟩:=(Ay _ _ _).1 h;have:=e4 y hy f2 f3;subst this;omega)
  rw[hs,au hkN,e3,hk]
 ·have hs:Bt (uN R N) q=N:=zu (Az R N) (λj hj=>by
   rw[wC R hj,rO];intro h;obtain⟨y,hy,f1,f2,f3⟩:=(Ay _ _ _).1 h;exact e1 y hy ⟨f2,f3⟩)
  rw[hs,aj (dA _),e2]
def sw (R:List fI) (t:List UInt8):List Int:=(marks t).map λx=>dQ R (eF (x.2:Int))
theorem Ll (R:List fI) (t:List UInt8):(sw R t).length=(marks t).length:=bM _
def DbT (w:World) (d:Value) (R:List fI) (N:Nat):Prop:=uj w d (uN R N)
structure GL (R:List fI) (N:Nat):Prop where
 sep:V9 R=true
 cls:(R.all λx=>decide (1<=x.2.2)&&decide (x.2.2<=(N:Int)))=true
 small:R.length<=100000
 few:N<=1000
theorem ab3 {R:List fI} {N:Nat} (h:GL R N) (r:Int) (v:Value) (W:World) (hd:DbT W v R N):Calls Tryz.prog 162 #[v, .int .i32 r] W (za (dQ R (eF r)) W):=by have:=ab1 (uN R N) N h.few (Az R N) (Lj R N h.small) r v W hd;rwa [RL R N h.sep h.cls]at this
theorem Y4 {w:World} {base:Nat} {e:TypeId} {A:Option Addr} {m c size n:Nat} {xs:List Value} (h:w.ownsRow base e size (.slice A m c) n xs):n<=c:=by obtain⟨A',c',h1,h2⟩:=bA h;injection h1 with _ _ h1;rw[h1];exact h2
def RO (zs:List Int) (W:World) (e:Ending) (w':World):Prop:=∃A n c,e= .returned (.slice A n c)/\dx w' A n zs/\n<=c/\Below W.heap.size W w'
section
open Folds (dec bn bL)
structure PU (W:World) (s:ByteArray) (e m:Nat) (v:Value) (acc:List Int) (w:World):Prop where
 aN:Below W.heap.size W w
 it:w.heap[W.heap.size]? =some (.stringIter s e)
 own:w.ownsRow W.heap.size 3 1 v m (dF acc)
section
variable {W w w':World} {s:ByteArray} {e m:Nat} {v:Value} {acc:List Int}
theorem PU.below (h:PU W s e m v acc w) (hb:Below w.heap.size w w'):PU W s e m v acc w':=
 ⟨h.aN.trans (hb.mono h.aN.size),iZ hb h.it,own_below hb h.own⟩
theorem PU.iter (h:PU W s e m v acc w) (e':Nat):PU W s e' m v acc (w.iterAt W.heap.size s e'):=
 ⟨below_iterAt h.aN (ay _) s e',iterAt_heap w _ s e e' h.it,own_iterAt h.it h.own⟩
theorem PU.kE (h:PU W s e m v acc w) {o:Obj}:(w.alloc o).ownsRow W.heap.size 3 1 v m (dF acc):=dX h.own
theorem PU.grow (h:PU W s e m v acc w) {o:Obj} {v':Value} {x:Int} (ho:w'.ownsRow W.heap.size 3 1 v' (m+1) (dF acc++[.int .i64 x])) (hg:(w.alloc o).grownBy w' v.ownBlock):PU W s e (m+1) v' (acc++[x]) w':=by have h':=h.below ((aK _ w).alloc (ay _) o);refine⟨h'.aN.grown hg h'.aN.size (λk hk=>(dO h'.own hk).1),?_,by rw[qD];exact ho⟩;rw[hg.block _ (eH h'.it) (λc=>by obtain⟨_,_,cur,hc⟩:=dO h'.own (g:=W.heap.size) (by first|exact c|exact c.symm);rw[h'.it]at hc;cases hc)];exact h'.it
end
theorem ab4 (R:List fI) (N:Nat) (hT:GL R N) (t:List UInt8) (d:Value) (W:World) (hD:DbT W d R N) (hn:t.length<=10000):Calls Tryz.prog 110 #[d, .string ⟨t.toArray⟩] W (RO (sw R t) W):=by
 obtain⟨s,hs⟩:∃s:ByteArray,(⟨t.toArray⟩:ByteArray)=s:=⟨_,rfl⟩
 have hss:s.size=t.length:=size_mk t s hs;rw[hs];have HG:=ah (λ(w:World) (hb:Below W.heap.size W w) (r:Int)=>ab3 hT r d w (mW hD hb));have HS:=ah hs;have BI:=ah hss;have HLT:=ah hn;clear hs hss hn hD;obtain⟨i0,hI0,hz0,hz1,hz2⟩:=gW lY;go_enter Tryz.func110,Tryz.ntmps110;go_wp2_with fail;go_loopw [5] (λvo wr=>∃(e f m:Nat) (A:Option Addr) (c:Nat) (p:List (Nat×Nat)),vo= .slice A m c/\PU W s e m (.slice A m c) (p.map λx=>dQ R (eF (x.2:Int))) wr/\e<=s.size/\s.size<f+e+1/\m<=e/\p.length=m/\p++aJ t f e=marks t) (λ_ wr=>s.size-wr.iterPos W.heap.size);case atStart=>exact⟨0,t.length,0,none,0,[],rfl,⟨(aK _ W).alloc (ay _) _,jl W _,⟨rfl, .inl ⟨rfl,rfl⟩⟩⟩,aL _,by have:=BI.out;omega,ay _,rfl,rfl⟩
 case round=>
  obtain⟨e,f,m,A,c,p,rfl,hOL,he,hf,hm,hpl,hl⟩:=hrel;have hit:=hOL.it;have HOL:=ah hOL;clear hOL;by_cases hlt:e<s.size
  ·obtain⟨f',rfl⟩:∃f',f=f'+1:=⟨f-1,by omega⟩
   have hlt2:e<t.length:=by have:=BI.out;omega
   unfold aJ at hl;rw[au hlt2]at hl;have hnx:=λty=>run_next_any_at (P:=Tryz.prog) wr _ s e ty hit hlt;rw[lV t e s HS.out]at hnx;have hne2:t.drop e≠[]:=by intro c;rw[rP]at c;have:=BI.out;omega
   have hd1:=bn (t.drop e);have hd2:=bL (t.drop e) hne2;rw[gP,<-BI.out]at hd2;obtain⟨r,hr⟩:∃r,(dec (t.drop e)).1=r:=⟨_,rfl⟩
   obtain⟨wd,hwd⟩:∃wd,(dec (t.drop e)).2=wd:=⟨_,rfl⟩
   rw[hwd]at hd1 hd2;rw[hr,hwd]at hnx hl;obtain⟨ew,Rk⟩:∃ew,e+wd=ew:=⟨_,rfl⟩
   rw[Rk]at hnx hl;have HL:=ah hl;clear hr hwd hl hlt2 hne2;have HLEN:=ah (NK (show m<=100000 by have:=HLT.out;have:=BI.out;omega));have HSI:=ah (HOL.out.iter ew);have hq2:wr.iterPos W.heap.size=e:=by unfold World.iterPos;rw[hit]
   obtain⟨x,hx⟩:∃x,dQ R (eF (r:Int))=x:=⟨_,rfl⟩
   have KEY:=ah (λ(B1:Option Addr) (d1:Nat) (w':World) (h:PU W s ew (m+1) (.slice B1 (m+1) d1) ((p.map λx=>dQ R (eF (x.2:Int)))++[x]) w')=>
    show(∃(e' f m':Nat) (A:Option Addr) (c:Nat) (p:List (Nat×Nat)),Value.slice B1 (m+1) d1= .slice A m' c/\PU W s e' m' (.slice A m' c) (p.map λx=>dQ R (eF (x.2:Int))) w'/\e'<=s.size/\s.size<f+e'+1/\m'<=e'/\p.length=m'/\p++aJ t f e'=marks t)/\s.size-w'.iterPos W.heap.size<s.size-wr.iterPos W.heap.size from by
     refine⟨⟨ew,f',m+1,B1,d1,p++[(e,r)],rfl,by rw[List.map_append];subst hx;exact h,by omega,by omega,by omega,by rw[bV,hpl];rfl,by rw[iL];exact HL.out⟩,?_⟩;have q1:w'.iterPos W.heap.size=ew:=by unfold World.iterPos;rw[h.it]
     rw[q1,hq2];omega)
   have HGx:=ah (HG.out _ HSI.out.aN (r:Int));rw[hx]at HGx;clear Rk hd1 hd2 hf hm he hq2 hlt hpl hx;go_wp2_with (first
    |(go_at_call 162;refine HGx.out.mono ?_;rintro e w4 ⟨rfl,hb⟩;have Y5:=ah (HSI.out.below hb);clear hb)
    |(at_builtin;refine eD _ rfl (.tmp 13) (.tmp 17) 41 rfl W.heap.size 3 i0 _ 8 Tryz.underlying41 hI0 hz0 hz1 hz2 rfl (.slice A m c) m (dF (p.map λx=>dQ R (eF (x.2:Int)))) rfl Y5.out.kE _ 1 1 [.int .i64 x] rfl (gX _ _ _) (by simp[Value.oneCell']) HLEN.out.1 HLEN.out.2 (by rw[World.size_alloc];have:=Y5.out.aN.size;omega) ?_;intro v' wp ho hg hn;obtain⟨B1,d1,rfl,_⟩:=bA ho;have Fe:=Lib.hid (Y5.out.grow ho hg);clear ho hg hn))
   exact KEY.out _ _ _ Fe.out
  ·obtain rfl:e=s.size:=by omega
   have hz:aJ t f s.size=[]:=by
    cases f with
    |zero=>rfl
    |succ f=>unfold aJ;rw[aj (by have:=BI.out;omega)]
   rw[hz,ji]at hl;subst hl;clear hz;have hnx:=λty=>run_next_end_at (P:=Tryz.prog) wr _ s s.size ty hit hlt;have hmm:m<=100000:=by have:=BI.out;have:=HLT.out;omega
   have HM:=ah hmm;clear hf he hm hmm hlt hpl;go_wp2_with fail;go_ret;exact⟨A,m,c,rfl,kF HOL.out.own HM.out,Y4 HOL.out.own,HOL.out.aN⟩
end
section
open Folds (dec)
theorem NW (t:List UInt8):∀n e,(mk4 t n e).map (·.1)=(aJ t n e).map (·.1)
 |0,_=>rfl
 |n+1,e=>by
  unfold mk4 aJ;by_cases c:e<t.length;·rw[au c,au c,jD,jD,NW t n]
  ·rw[aj c,aj c];rfl
theorem Y6 (t:List UInt8) (k:Nat):(((iw t).getD k (0,0,0,false)).1:Int)=(jR t).getD k 0:=by
 have h:=NW t t.length 0;unfold jR marks iw;have e:((mk4 t t.length 0).getD k (0,0,0,false)).1=((mk4 t t.length 0).map (·.1)).getD k 0:=by rw[aG,aG,fq];cases(mk4 t t.length 0)[k]? <;>rfl
 rw[e,h,aG,aG,fq,fq];cases(aJ t t.length 0)[k]? <;>rfl
theorem Wh (t:List UInt8):(iw t).length=(marks t).length:=by have:=fJ List.length (NW t t.length 0);simpa[iw,marks]using this
theorem Lm (m:Mk):(jd m).length=4:=rfl
theorem RP (t:List UInt8) (W:World) (hn:t.length<=10000):Calls Tryz.prog 108 #[.string ⟨t.toArray⟩] W (jO (jJ t) W):=by
 obtain⟨s,hs⟩:∃s:ByteArray,(⟨t.toArray⟩:ByteArray)=s:=⟨_,rfl⟩
 have hss:s.size=t.length:=size_mk t s hs;have Xf:=ah (Lf t W (by omega));rw[hs]at Xf⊢;have hml:(marks t).length<=10000:=bF (EI t) hn;have Rl:=ah hml;clear hml hn hs;obtain⟨i0,hI0,hz0,hz1,hz2⟩:=gW lY;go_enter Tryz.func108,Tryz.ntmps108;go_wp2_with (go_at_call 63;refine Xf.out.mono ?_;rintro e w1 ⟨v,rfl,ho,hb⟩;obtain⟨A,c,rfl,_⟩:=bA ho;obtain⟨n,hn⟩:∃n,(iw t).length=n:=⟨_,rfl⟩;rw[hn]at ho⊢;have HN:=ah (hn.symm.trans (Wh t));have HR:=ah (Rx Lm (0,0,0,false) hn ho (by have:=Rl.out;have:=HN.out;omega));have HB:=ah hb;clear ho hb hn);have hn2:n<=10000:=by have:=Rl.out;have:=HN.out;omega
 go_loopw [4,5] (λvl vi wr=>∃(k:Nat) (A2:Option Addr) (c2:Nat),k<=n/\vi= .int .i64 k/\vl= .slice A2 k c2/\IA w1 (.slice A2 k c2) k ((jR t).take k) wr) (λ_ vi _=>n-(RowKit.intOf vi).toNat);case atStart=>exact⟨0,none,0,aL _,rfl,rfl,IA.nil w1⟩
 case round=>
  obtain⟨k,A2,c2,hk,rfl,rfl,hA⟩:=hrel;have HA:=ah hA;clear hA;by_cases hlt:k<n
  ·have HLEN:=ah (NK (show k<=100000 by omega));obtain⟨g,rfl,hg,hc⟩:=HR.out.at_ (by omega);have hkm:k<(marks t).length:=by rw[<-HN.out];exact hlt
   have d1:=hc k hlt 0 _ (by decide) rfl;rw[Y6 t k,dG]at d1;have Z0:=ah (VJ t hkm);obtain⟨x,hx⟩:∃x,(jR t).getD k 0=x:=⟨_,rfl⟩
   rw[hx]at d1 Z0;have d2:=(HA.out.aN.cell (p:=⟨g,k*4,none⟩) hg).trans d1;have hk0:(0:Int)<=k:=by omega
   have hk1:(k:Int)<n:=by omega
   have hwk:wrap64 ((k:Int)+1)=((k+1:Nat):Int):=by unfold wrap64;omega
   have Fg:=ah hwk;clear hwk hx hc hg d1 hkm;go_wp2_with (at_builtin;refine eD _ rfl (.tmp 14) (.tmp 20) 41 rfl w1.heap.size 3 i0 _ 8 Tryz.underlying41 hI0 hz0 hz1 hz2 rfl (.slice A2 k c2) k (dF ((jR t).take k)) rfl HA.out.kE _ 1 1 [.int .i64 x] rfl (gX _ _ _) (by simp[Value.oneCell']) HLEN.out.1 HLEN.out.2 (by rw[World.size_alloc];have:=HA.out.aN.size;omega) ?_;intro v' wp ho hg hn;obtain⟨B1,d1,rfl,_⟩:=bA ho;have Fe:=Lib.hid (HA.out.grow ho hg);clear ho hg hn);(try rw[Fg.out]);exact⟨⟨k+1,_,_,hlt,rfl,rfl,by rw[<-Z0.out];exact Fe.out⟩,by simp[RowKit.intOf];omega⟩
  ·obtain rfl:k=n:=by omega
   have htk:(jR t).take k=jR t:=xG (by rw[sj,HN.out];exact ay _);rw[htk]at HA;have HLEN:=ah (NK (show k<=100000 by omega));have alT:(s.size:Int)=(t.length:Nat):=by rw[hss]
   have HK:=ah (show k+1<=100000 by omega);clear htk hk;go_wp2_with (at_builtin;refine eD _ rfl (.tmp 22) (.tmp 25) 41 rfl w1.heap.size 3 i0 _ 8 Tryz.underlying41 hI0 hz0 hz1 hz2 rfl (.slice A2 k c2) k (dF (jR t)) rfl HA.out.kE _ 1 1 [.int .i64 (t.length:Nat)] rfl (gX _ _ _) (by simp[Value.oneCell']) HLEN.out.1 HLEN.out.2 (by rw[World.size_alloc];have:=HA.out.aN.size;omega) ?_;intro v' wp ho hg hn;obtain⟨B1,d1,rfl,_⟩:=bA ho;have Fe:=Lib.hid (HA.out.grow ho hg);clear ho hg hn);go_ret;refine⟨_,_,_,rfl,?_,HB.out.trans (Fe.out.aN.mono HB.out.size)⟩;exact kF Fe.out.own HK.out
