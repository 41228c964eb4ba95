/- SearchEach, walked: the document's classes. -/
import Derived.Test.YtocaiijbhepnnaaGreatDoorFA
import Derived.Test.YtocaiijbhepnnaaGreatDoorFI
import Derived.Test.YtocaiijbhepnnaaGreatDoorHC
import Derived.Test.YtocaiijbhepnnaaGreatDoorHB
import Derived.Test.YtocaiijbhepnnaaGreatDoorHA
set_option maxRecDepth 100000
set_option maxHeartbeats 8000000
namespace Go.Proofs.YtocaiijbhepnnaaGreatDoor.searchEach
open Go.Shelf Go.RowKit Go.Lib Go.Proofs.YtocaiijbhepnnaaGreatDoor.Am
def vU (l:List (Int×Int)) (r:Int):Bool:=l.any fun p=>decide (p.1≤r)&&decide (r≤p.2)
theorem ZF {l:List (Int×Int)} {r:Int} {k:Nat} (hk:k<l.length) (h1:(l.getD k (0,0)).1≤r) (h2:r≤(l.getD k (0,0)).2):vU l r=true:=by unfold vU;rw[xB];rw[aM,aY hk]at h1 h2;exact⟨_,mG hk,by have h1:l[k].1≤r:=h1;have h2:r≤l[k].2:=h2;rw[bB h1,bB h2];rfl⟩
theorem acN {l:List (Int×Int)} {r:Int} (h:∀j,j<l.length→¬((l.getD j (0,0)).1≤r∧r≤(l.getD j (0,0)).2)):vU l r=false:=by rw[Au];intro c;unfold vU at c;rw[xB]at c;obtain⟨p,hp,hc⟩:=c;obtain⟨j,hj,he⟩:=tH.1 hp;rw[aP,bI,bI]at hc;refine h j hj ?_;rw[aM,aY hj];subst he;exact hc
def acO (b:Bool) (W:World) (e:Ending) (w':World):Prop:=e= .returned (.bool b)∧w'=W
theorem CQ (l:List (Int×Int)) (r:Int) (hr0:0≤r) (hr1:r≤1114111) (v:Value) (n:Nat) (hn:l.length=n) (hsm:n≤100000) (W:World) (h:Sn W v l):Calls Tryz.prog 228 #[v, .int .i32 r] W (acO (vU l r) W):=by
 obtain⟨g,o,c,rfl,l1,hS⟩:=h;have HS:=ah hS;clear hS;rw[hn]at l1;rw[hn];have HN:=ah hn;clear hn;have d0:decide (0≤r)=true:=bB hr0;have d1:decide (r≤1114111)=true:=bB hr1;go_enter Tryz.func228,Tryz.ntmps228;go_wp2;go_loop [5] (fun i=>∃k:Nat,k≤n∧i= .int .i64 k∧∀j,j<k→¬((l.getD j (0,0)).1≤r∧r≤(l.getD j (0,0)).2)) (fun i=>n-(RowKit.intOf i).toNat);case atStart=>exact⟨0,by omega,rfl,fun j hj=>by omega⟩
 case round=>
  obtain⟨k,hk,rfl,hlo⟩:=hrel;have zo:=ah hlo;clear hlo;by_cases hlt:k<n
  ·have hkl:k<l.length:=by rw[HN.out];exact hlt
   obtain⟨e1,e2⟩:=HS.out k hkl;have HY:=ah (ZF (r:=r) hkl);obtain⟨x,hx⟩:∃x,l.getD k (0,0)=x:=⟨_,rfl⟩
   obtain⟨a,b⟩:=x;rw[hx]at e1 e2 HY;dsimp only at e1 e2;have HX:=ah hx;clear hx hkl;by_cases ha:a≤r
   ·have HA:=ah ha;have da:decide (a≤r)=true:=bB ha;clear ha;by_cases hb:r≤b
    ·have HB:=ah hb;have db:decide (r≤b)=true:=bB hb;clear hb;go_wp2;go_ret;exact⟨by rw[HY.out HA.out HB.out];rfl,rfl⟩
    ·have HB:=ah hb;have db:decide (r≤b)=false:=aX hb;clear hb;go_wp2;go_round;case rel=>exact⟨k+1,hlt,by go_num,fun j hj=>by
      rcases aK j k with c|c;·exact zo.out j c
      ·obtain rfl:j=k:=by omega
       rw[HX.out];exact fun h=>HB.out h.2⟩
     case measure=>simp[RowKit.intOf];omega
   ·have HA:=ah ha;have da:decide (a≤r)=false:=aX ha;clear ha;go_wp2;go_round;case rel=>exact⟨k+1,hlt,by go_num,fun j hj=>by
     rcases aK j k with c|c;·exact zo.out j c
     ·obtain rfl:j=k:=by omega
      rw[HX.out];exact fun h=>HA.out h.1⟩
    case measure=>simp[RowKit.intOf];omega
  ·obtain rfl:k=n:=by omega
   go_wp2;go_ret;exact⟨by rw[acN (fun j hj=>zo.out j (by rw[←HN.out];exact hj))];rfl,rfl⟩
def DC (L:List (List (Int×Int))) (q:Int):Nat:=L.findIdx fun l=>vU l q
def uj (N:Nat) (L:List (List (Int×Int))) (q:Int):Int:=if DC L q<N then(DC L q:Int)+1 else 0
theorem Br {L:List (List (Int×Int))} {N:Nat} (hL:L.length=N) {q:Int} {k:Nat} (hk:k<N) (h:vU (L.getD k []) q=true) (hlo:∀j,j<k→vU (L.getD j []) q=false):DC L q=k:=by
 have hk':k<L.length:=by rw[hL];exact hk
 unfold DC;rw[List.findIdx_eq hk'];rw[aM,aY hk']at h;refine⟨h,fun j hj=> ?_⟩;have:=hlo j hj;rw[aM,aY (Nat.lt_trans hj hk')]at this;exact this
theorem Bt {L:List (List (Int×Int))} {N:Nat} (hL:L.length=N) {q:Int} (hlo:∀j,j<N→vU (L.getD j []) q=false):DC L q=N:=by unfold DC;rw[←hL];refine List.findIdx_eq_length_of_false fun l hl=> ?_;obtain⟨j,hj,he⟩:=tH.1 hl;have:=hlo j (by rw[←hL];exact hj);rw[aM,aY hj]at this;subst he;exact this
theorem af5 (L:List (List (Int×Int))) (N:Nat) (hN:N≤1000) (hL:L.length=N) (hs:∀j,j<N→(L.getD j []).length≤100000) (r:Int) (v:Value) (W:World) (h:Gd W v L):Calls Tryz.prog 162 #[v, .int .i32 r] W (KS (uj N L (fB r)) W):=by
 obtain⟨D,o,S,oS,c,rfl,c1,l1,hS⟩:=h;rw[hL]at c1 l1;obtain⟨M,hM⟩:∃M,N+1=M:=⟨_,rfl⟩
 rw[hM]at c1 l1;have HMN:=ah hM;clear hM;have Vt:=ah hL;have V5:=ah hs;have HS:=ah (show ∀i,i<N→∃s,W.cell? ⟨S,oS+(i+1),none⟩=some s∧Sn W s (L.getD i [])from fun i hi=>hS i (by rw[hL];exact hi));clear hS hL hs;obtain⟨q,hq⟩:∃q,fB r=q:=⟨_,rfl⟩
 have HQ:=ah (show 0≤q∧q≤1114111 by rw[←hq];unfold fB;split<;>omega);rw[hq];go_enter Tryz.func162,Tryz.ntmps162;have hcase:(decide (r<0)=true∧q=65533)∨(decide (r<0)=false∧decide (1114111<r)=true∧q=65533)∨(decide (r<0)=false∧decide (1114111<r)=false∧r=q):=by
  unfold fB at hq;by_cases h0:r<0;·rw[ak (Or.inl h0)]at hq;exact Or.inl ⟨bB h0,hq.symm⟩
  ·by_cases h1:1114111<r
   ·rw[ak (Or.inr h1)]at hq;exact Or.inr (Or.inl ⟨aX h0,bB h1,hq.symm⟩)
   ·rw[aj (by omega)]at hq;exact Or.inr (Or.inr ⟨aX h0,aX h1,hq⟩)
 clear hq;rcases hcase with⟨d0,hq⟩|⟨d0,d1,hq⟩|⟨d0,d1,hq⟩
 ·go_wp2;rw[←hq];clear d0 hq;go_loop [5] (fun i=>∃k:Nat,k≤N∧i= .int .i64 ((k:Int)+1)∧∀j,j<k→vU (L.getD j []) q=false) (fun i=>N+1-(RowKit.intOf i).toNat);case atStart=>exact⟨0,by omega,rfl,fun j hj=>by omega⟩
  case round=>
   obtain⟨k,hk,rfl,hlo⟩:=hrel;have zo:=ah hlo;clear hlo;by_cases hlt:k<N
   ·have hkM:(k:Int)+1<M:=by have:=HMN.out;omega
    have hk0:(0:Int)≤(k:Int)+1:=by omega
    have hwi:wrap64 ((k:Int)+1+1)=(k:Int)+1+1:=by unfold wrap64;omega
    obtain⟨s,e1,e2⟩:=HS.out k hlt;have HE:=ah e2;obtain⟨sg,so,sc,rfl,_⟩:=e2;have HB:=ah (Br Vt.out (q:=q) hlt);have HL:=ah (V5.out k hlt);obtain⟨l,hl⟩:∃l,L.getD k []=l:=⟨_,rfl⟩
    rw[hl]at HE HB HL e1;have HN:=ah hl;clear hl;obtain⟨n,hn⟩:∃n,l.length=n:=⟨_,rfl⟩
    rw[hn]at e1 HL HE;have HM:=ah hn;clear hn;rcases Ey (vU l q)with hb|hb;·have HH:=ah hb;clear hb;go_wp2_with (go_at_call 228;refine(CQ l _ HQ.out.1 HQ.out.2 _ _ rfl (by rw[HM.out];exact HL.out) _ HE.out).mono ?_;rintro e w1 ⟨rfl,rfl⟩;rw[HH.out]);go_ret;refine⟨?_,aF _ _⟩;have:=HB.out HH.out zo.out;unfold uj;rw[this,ak hlt];rfl
    ·have HH:=ah hb;clear hb;go_wp2_with (go_at_call 228;refine(CQ l _ HQ.out.1 HQ.out.2 _ _ rfl (by rw[HM.out];exact HL.out) _ HE.out).mono ?_;rintro e w1 ⟨rfl,rfl⟩;rw[HH.out]);go_round;case rel=>exact⟨k+1,hlt,by go_num,fun j hj=>by
      rcases aK j k with c|c;·exact zo.out j c
      ·obtain rfl:j=k:=by omega
       rw[HN.out];exact HH.out⟩
     case measure=>simp[RowKit.intOf];omega
   ·obtain rfl:k=N:=by omega
    have hkM:¬(k:Int)+1<M:=by have:=HMN.out;omega
    go_wp2;go_ret;refine⟨?_,aF _ _⟩;unfold uj;rw[Bt Vt.out zo.out,aj (dA _)];rfl
 ·go_wp2;rw[←hq];clear d0 d1 hq;go_loop [5] (fun i=>∃k:Nat,k≤N∧i= .int .i64 ((k:Int)+1)∧∀j,j<k→vU (L.getD j []) q=false) (fun i=>N+1-(RowKit.intOf i).toNat);case atStart=>exact⟨0,by omega,rfl,fun j hj=>by omega⟩
  case round=>
   obtain⟨k,hk,rfl,hlo⟩:=hrel;have zo:=ah hlo;clear hlo;by_cases hlt:k<N
   ·have hkM:(k:Int)+1<M:=by have:=HMN.out;omega
    have hk0:(0:Int)≤(k:Int)+1:=by omega
    have hwi:wrap64 ((k:Int)+1+1)=(k:Int)+1+1:=by unfold wrap64;omega
    obtain⟨s,e1,e2⟩:=HS.out k hlt;have HE:=ah e2;obtain⟨sg,so,sc,rfl,_⟩:=e2;have HB:=ah (Br Vt.out (q:=q) hlt);have HL:=ah (V5.out k hlt);obtain⟨l,hl⟩:∃l,L.getD k []=l:=⟨_,rfl⟩
    rw[hl]at HE HB HL e1;have HN:=ah hl;clear hl;obtain⟨n,hn⟩:∃n,l.length=n:=⟨_,rfl⟩
    rw[hn]at e1 HL HE;have HM:=ah hn;clear hn;rcases Ey (vU l q)with hb|hb;·have HH:=ah hb;clear hb;go_wp2_with (go_at_call 228;refine(CQ l _ HQ.out.1 HQ.out.2 _ _ rfl (by rw[HM.out];exact HL.out) _ HE.out).mono ?_;rintro e w1 ⟨rfl,rfl⟩;rw[HH.out]);go_ret;refine⟨?_,aF _ _⟩;have:=HB.out HH.out zo.out;unfold uj;rw[this,ak hlt];rfl
    ·have HH:=ah hb;clear hb;go_wp2_with (go_at_call 228;refine(CQ l _ HQ.out.1 HQ.out.2 _ _ rfl (by rw[HM.out];exact HL.out) _ HE.out).mono ?_;rintro e w1 ⟨rfl,rfl⟩;rw[HH.out]);go_round;case rel=>exact⟨k+1,hlt,by go_num,fun j hj=>by
      rcases aK j k with c|c;·exact zo.out j c
      ·obtain rfl:j=k:=by omega
       rw[HN.out];exact HH.out⟩
     case measure=>simp[RowKit.intOf];omega
   ·obtain rfl:k=N:=by omega
    have hkM:¬(k:Int)+1<M:=by have:=HMN.out;omega
    go_wp2;go_ret;refine⟨?_,aF _ _⟩;unfold uj;rw[Bt Vt.out zo.out,aj (dA _)];rfl
 ·subst hq;go_wp2;clear d0 d1;go_loop [5] (fun i=>∃k:Nat,k≤N∧i= .int .i64 ((k:Int)+1)∧∀j,j<k→vU (L.getD j []) r=false) (fun i=>N+1-(RowKit.intOf i).toNat);case atStart=>exact⟨0,by omega,rfl,fun j hj=>by omega⟩
  case round=>
   obtain⟨k,hk,rfl,hlo⟩:=hrel;have zo:=ah hlo;clear hlo;by_cases hlt:k<N
   ·have hkM:(k:Int)+1<M:=by have:=HMN.out;omega
    have hk0:(0:Int)≤(k:Int)+1:=by omega
    have hwi:wrap64 ((k:Int)+1+1)=(k:Int)+1+1:=by unfold wrap64;omega
    obtain⟨s,e1,e2⟩:=HS.out k hlt;have HE:=ah e2;obtain⟨sg,so,sc,rfl,_⟩:=e2;have HB:=ah (Br Vt.out (q:=r) hlt);have HL:=ah (V5.out k hlt);obtain⟨l,hl⟩:∃l,L.getD k []=l:=⟨_,rfl⟩
    rw[hl]at HE HB HL e1;have HN:=ah hl;clear hl;obtain⟨n,hn⟩:∃n,l.length=n:=⟨_,rfl⟩
    rw[hn]at e1 HL HE;have HM:=ah hn;clear hn;rcases Ey (vU l r)with hb|hb;·have HH:=ah hb;clear hb;go_wp2_with (go_at_call 228;refine(CQ l _ HQ.out.1 HQ.out.2 _ _ rfl (by rw[HM.out];exact HL.out) _ HE.out).mono ?_;rintro e w1 ⟨rfl,rfl⟩;rw[HH.out]);go_ret;refine⟨?_,aF _ _⟩;have:=HB.out HH.out zo.out;unfold uj;rw[this,ak hlt];rfl
    ·have HH:=ah hb;clear hb;go_wp2_with (go_at_call 228;refine(CQ l _ HQ.out.1 HQ.out.2 _ _ rfl (by rw[HM.out];exact HL.out) _ HE.out).mono ?_;rintro e w1 ⟨rfl,rfl⟩;rw[HH.out]);go_round;case rel=>exact⟨k+1,hlt,by go_num,fun j hj=>by
      rcases aK j k with c|c;·exact zo.out j c
      ·obtain rfl:j=k:=by omega
       rw[HN.out];exact HH.out⟩
     case measure=>simp[RowKit.intOf];omega
   ·obtain rfl:k=N:=by omega
    have hkM:¬(k:Int)+1<M:=by have:=HMN.out;omega
    go_wp2;go_ret;refine⟨?_,aF _ _⟩;unfold uj;rw[Bt Vt.out zo.out,aj (dA _)];rfl
def ZG (R:List gI) (c:Int):List (Int×Int):=(R.filter (fun x=>decide (x.2.2=c))).map fun x=>(x.1,x.2.1)
def rZ (R:List gI) (N:Nat):List (List (Int×Int)):=(List.range N).map fun(k:Nat)=>ZG R ((k:Int)+1)
theorem CS (R:List gI) (c q:Int):vU (ZG R c) q=true↔∃x∈R,x.2.2=c∧x.1≤q∧q≤x.2.1:=by
 unfold vU ZG;rw[xB];constructor;·rintro⟨p,hp,hc⟩;obtain⟨x,hx,rfl⟩:=dz.1 hp;obtain⟨h1,h2⟩:=nL.1 hx;rw[aP,bI,bI]at hc;exact⟨x,h1,iV h2,hc.1,hc.2⟩
 ·rintro⟨x,h1,h2,h3,h4⟩;exact⟨(x.1,x.2.1),dz.2 ⟨x,nL.2 ⟨h1,bB h2⟩,rfl⟩,by rw[bB h3,bB h4];rfl⟩
def ZH:List gI→Bool
 |[]=>true
 |x::l=>decide (x.1≤x.2.1)&&(l.all (fun y=>decide (x.2.1<y.1))&&ZH l)
theorem Tm (q:Int):∀l:List gI,ZH l=true→(∃x∈l,x.1≤q∧q≤x.2.1∧fM l q=x.2.2∧∀y∈l,y.1≤q→q≤y.2.1→y=x)∨((∀x∈l,¬(x.1≤q∧q≤x.2.1))∧fM l q=0)
 |[],_=> .inr ⟨fun x h=>absurd h lH,rfl⟩
 |a::l,h=>by
  unfold ZH at h;rw[aP,aP,bI,fU]at h;obtain⟨h1,h2,h3⟩:=h;have h2:∀y∈l,a.2.1<y.1:=fun y hy=>iV (h2 y hy);by_cases c:q≤a.2.1
  ·have hf:fM (a::l) q=if a.1≤q then a.2.2 else 0:=by unfold fM;rw[List.find?_cons_of_pos (by exact bB c)]
   by_cases d:a.1≤q
   ·refine .inl ⟨a,tC,d,c,by rw[hf,ak d],fun y hy e1 e2=> ?_⟩;rcases aU.1 hy with rfl|hy
    ·rfl
    ·have:=h2 y hy;omega
   ·refine .inr ⟨fun x hx e=> ?_,by rw[hf,aj d]⟩;rcases aU.1 hx with rfl|hx
    ·exact d e.1
    ·have:=h2 x hx;omega
  ·have hf:fM (a::l) q=fM l q:=by unfold fM;rw[List.find?_cons_of_neg (by simpa using c)]
   rcases Tm q l h3 with⟨x,hx,e1,e2,e3,e4⟩|⟨e1,e2⟩
   ·refine .inl ⟨x,zX _ hx,e1,e2,by rw[hf,e3],fun y hy f1 f2=> ?_⟩;rcases aU.1 hy with rfl|hy
    ·exact absurd f2 c
    ·exact e4 y hy f1 f2
   ·refine .inr ⟨fun x hx e=> ?_,by rw[hf,e2]⟩;rcases aU.1 hx with rfl|hx
    ·exact c e.2
    ·exact e1 x hx e
theorem CU (R:List gI) (N:Nat):(rZ R N).length=N:=by unfold rZ;rw[dx,nI]
theorem xV (R:List gI) {N k:Nat} (h:k<N):(rZ R N).getD k []=ZG R ((k:Int)+1):=by unfold rZ;rw[aM,fF,wH h];rfl
theorem Oq (R:List gI) (N:Nat) (hR:R.length≤100000):∀j,j<N→((rZ R N).getD j []).length≤100000:=fun j hj=>by rw[xV R hj];unfold ZG;rw[dx];exact aQ (EC _ _) hR
theorem VG (R:List gI) (N:Nat) (hs:ZH R=true) (hc:(R.all fun x=>decide (1≤x.2.2)&&decide (x.2.2≤(N:Int)))=true) (q:Int):uj N (rZ R N) q=fM R q:=by
 unfold uj;rcases Tm q R hs with⟨x,hx,e1,e2,e3,e4⟩|⟨e1,e2⟩
 ·have hc:=fU.1 hc x hx;rw[aP,bI,bI]at hc;obtain⟨k,hk⟩:∃k:Nat,x.2.2=(k:Int)+1:=⟨(x.2.2-1).toNat,by omega⟩
  have hkN:k<N:=by omega
  have hs:DC (rZ R N) q=k:=Br (CU R N) hkN (by rw[xV R hkN,CS];exact⟨x,hx,hk,e1,e2⟩) (fun j hj=>by
   rw[xV R (by omega),Au];intro h;obtain⟨y,hy,f1,f2,f3⟩:=(CS _ _ _).1 h;have:=e4 y hy f2 f3;subst this;omega)
  rw[hs,ak hkN,e3,hk]
 ·have hs:DC (rZ R N) q=N:=Bt (CU R N) (fun j hj=>by
   rw[xV R hj,Au];intro h;obtain⟨y,hy,f1,f2,f3⟩:=(CS _ _ _).1 h;exact e1 y hy ⟨f2,f3⟩)
  rw[hs,aj (dA _),e2]
theorem Tn (L:Nat):∀(l:List (Nat×Nat)) (k:Nat),k<l.length→((QN L l).getD k Zf).1=(l.getD k (0,0)).2
 |[],_,h=>absurd h (iN _)
 |[_],0,_=>rfl
 |[_],_+1,h=>by simp at h
 |_::_::_,0,_=>rfl
 |x::y::r,k+1,h=>by have:=Tn L (y::r) k (by simpa using h);show((QN L (y::r)).getD k Zf).1=((y::r).getD k (0,0)).2;exact this
def iQ (R:List gI) (t:List UInt8):List Int:=(marks t).map fun x=>fM R (fB (x.2:Int))
theorem pU (R:List gI) (t:List UInt8):(iQ R t).length=(marks t).length:=dx _
theorem VH (R:List gI) (t:List UInt8) {k:Nat} (h:k<(marks t).length):(iQ R t).take (k+1)=(iQ R t).take k++[fM R (fB (((Bg t).getD k Zf).1:Int))]:=by
 have h':k<(iQ R t).length:=by rw[pU];exact h
 have hk:(iQ R t)[k]? =some (fM R (fB (((Bg t).getD k Zf).1:Int))):=by unfold iQ Bg;rw[fF,Tn _ _ _ h,aM,aY h];rfl
 rw[xw,hk];rfl
def DbT (w:World) (d:Value) (R:List gI) (N:Nat):Prop:=Gd w d (rZ R N)
structure yE (R:List gI) (N:Nat):Prop where
 sep:ZH R=true
 cls:(R.all fun x=>decide (1≤x.2.2)&&decide (x.2.2≤(N:Int)))=true
 small:R.length≤100000
 few:N≤1000
theorem ZI {R:List gI} {N:Nat} (h:yE R N) (r:Int) (v:Value) (W:World) (hd:DbT W v R N):Calls Tryz.prog 162 #[v, .int .i32 r] W (KS (fM R (fB r)) W):=by have:=af5 (rZ R N) N h.few (CU R N) (Oq R N h.small) r v W hd;rwa [VG R N h.sep h.cls]at this
theorem Tp {w:World} {base:Nat} {e:TypeId} {A:Option Addr} {m c size n:Nat} {xs:List Value} (h:w.ownsRow base e size (.slice A m c) n xs):n≤c:=by obtain⟨A',c',h1,h2⟩:=aL h;injection h1 with _ _ h1;rw[h1];exact h2
def Jw (zs:List Int) (W:World) (e:Ending) (w':World):Prop:=∃A n c,e= .returned (.slice A n c)∧bQ w' A n zs∧n≤c∧Below W.heap.size W w'
theorem DF (R:List gI) (N:Nat) (hT:yE R N) (t:List UInt8) (gx:Nat) (d:Value) (A:Option Addr) (n c:Nat) (W:World) (hgx:gx<W.heap.size) (hx:W.cell? ⟨gx,0,none⟩=some d) (hD:DbT W d R N) (hR:Jr Hz 3 Zf W A n (Bg t)) (hn:t.length≤10000):
 Calls Tryz.prog 125 #[.pointer (some ⟨gx,0,none⟩), .slice A n c] W (Jw (iQ R t) W):=by
 have HR:=ah hR;have HN:=ah (hR.len.symm.trans (xS t));have hml:(marks t).length≤10000:=aQ (pJ t) hn;have hn2:n≤10000:=by have:=HN.out;omega
 have HG:=ah (fun(w:World) (hb:Below W.heap.size W w) (r:Int)=>ZI hT r d w (jF hD hb));clear hR hml hn hD;obtain⟨i0,hI0,hz0,hz1,hz2⟩:=dY gB;go_enter Tryz.func125,Tryz.ntmps125;go_wp2_with fail;go_loopw [5,6] (fun vl vi wr=>∃(k:Nat) (A2:Option Addr) (c2:Nat),k≤n∧vi= .int .i64 k∧vl= .slice A2 k c2∧IA W (.slice A2 k c2) k ((iQ R t).take k) wr) (fun _ vi _=>n-(RowKit.intOf vi).toNat);case atStart=>exact⟨0,none,0,aH _,rfl,rfl,IA.nil W⟩
 case round=>
  obtain⟨k,A2,c2,hk,rfl,rfl,hA⟩:=hrel;have HA:=ah hA;clear hA;by_cases hlt:k<n
  ·have HLEN:=ah (D9 (show k≤100000 by omega));obtain⟨g,rfl,hg,hc⟩:=HR.out.at_ (by omega);have hkm:k<(marks t).length:=by rw[←HN.out];exact hlt
   have d1:=hc k hlt 0 _ (by decide) rfl;rw[cZ]at d1;have BG:=ah (VH R t hkm);obtain⟨r,hr⟩:∃r:Nat,((Bg t).getD k Zf).1=r:=⟨_,rfl⟩
   rw[hr]at d1 BG;obtain⟨x,PW⟩:∃x,fM R (fB (r:Int))=x:=⟨_,rfl⟩
   have HAd:=ah (show IA W (.slice A2 k c2) k ((iQ R t).take k) wr.drew from⟨⟨HA.out.aB.os,HA.out.aB.tape,HA.out.aB.output,HA.out.aB.size,HA.out.aB.block⟩,HA.out.own⟩);have HGx:=ah (HG.out wr.drew HAd.out.aB (r:Int));rw[PW]at BG HGx;have d2:=(HAd.out.aB.cell (p:=⟨g,k*3,none⟩) hg).trans d1;have d3:=(HAd.out.aB.cell (p:=⟨gx,0,none⟩) hgx).trans hx;have hk0:(0:Int)≤k:=by omega
   have hk1:(k:Int)<n:=by omega
   have j5:=ah (show wrap64 ((k:Int)+1)=((k+1:Nat):Int)by unfold wrap64;omega);clear hr PW hc hg d1 hkm;go_upto_region 5 with fail;go_region_law (first
    |(go_simp;refine HGx.out.mono ?_;rintro e w4 ⟨rfl,hb⟩;have LH:=Lib.hid (HAd.out.below hb);clear hb;dsimp only)
    |(refine step_append_lies _ (by rfl) (.tmp 13) (.tmp 24) 41 (by rfl) W.heap.size 3 i0 _ 1 8 Tryz.underlying41 hI0 hz0 hz1 hz2 rfl (by omega) _ k (bA ((iQ R t).take k)) (by rfl) LH.out.dU ⟨w4.heap.size,0,none⟩ 1 1 [.int .i64 x] (by rfl) (by rfl) (World.news_of_block (heap_alloc_new w4 _)) (by simp[Value.oneCell']) (by omega) HLEN.out.1 HLEN.out.2 (by rw[World.size_alloc];have:=LH.out.aB.size;omega) _ rfl ?_;intro g3 Ii w7 hown3 hgrow3 _ _;have ny:=Lib.hid (LH.out.grow hown3 hgrow3);clear hown3 hgrow3))
   all_goals go_wp2_with fail
   all_goals exact⟨⟨k+1,_,_,hlt,rfl,rfl,by rw[BG.out];exact ny.out⟩,by simp[RowKit.intOf];omega⟩
  ·obtain rfl:k=n:=by omega
   have htk:(iQ R t).take k=iQ R t:=mH (by rw[pU,HN.out];exact ay _);rw[htk]at HA;have HK:=ah (show k≤100000 by omega);clear htk hk;go_wp2;go_ret;exact⟨_,_,_,rfl,gD HA.out.own HK.out,Tp HA.out.own,HA.out.aB⟩
section
open Folds (dec aZ bV)
structure Tq (W:World) (s:ByteArray) (e m:Nat) (v:Value) (acc:List Int) (w:World):Prop where
 aB:Below W.heap.size W w
 it:w.heap[W.heap.size]? =some (.stringIter s e)
 own:w.ownsRow W.heap.size 3 1 v m (bA acc)
section
variable {W w w':World} {s:ByteArray} {e m:Nat} {v:Value} {acc:List Int}
theorem Tq.below (h:Tq W s e m v acc w) (hb:Below w.heap.size w w'):Tq W s e m v acc w':=
 ⟨h.aB.trans (hb.mono h.aB.size),bM hb h.it,own_below hb h.own⟩
theorem Tq.iter (h:Tq W s e m v acc w) (e':Nat):Tq W s e' m v acc (w.iterAt W.heap.size s e'):=
 ⟨below_iterAt h.aB (ay _) s e',iterAt_heap w _ s e e' h.it,own_iterAt h.it h.own⟩
theorem Tq.dU (h:Tq W s e m v acc w) {o:Obj}:(w.alloc o).ownsRow W.heap.size 3 1 v m (bA acc):=dN h.own
theorem Tq.grow (h:Tq W s e m v acc w) {o:Obj} {v':Value} {x:Int} (ho:w'.ownsRow W.heap.size 3 1 v' (m+1) (bA acc++[.int .i64 x])) (hg:(w.alloc o).grownBy w' v.ownBlock):Tq W s e (m+1) v' (acc++[x]) w':=by have h':=h.below ((aF _ w).alloc (ay _) o);refine⟨h'.aB.grown hg h'.aB.size (fun k hk=>(bD h'.own hk).1),?_,by rw[kJ];exact ho⟩;rw[hg.block _ (bZ h'.it) (fun c=>by obtain⟨_,_,cur,hc⟩:=bD h'.own (g:=W.heap.size) (by first|exact c|exact c.symm);rw[h'.it]at hc;cases hc)];exact h'.it
end
theorem af6 (R:List gI) (N:Nat) (hT:yE R N) (t:List UInt8) (d:Value) (W:World) (hD:DbT W d R N) (hn:t.length≤10000):Calls Tryz.prog 110 #[d, .string ⟨t.toArray⟩] W (Jw (iQ R t) W):=by
 obtain⟨s,hs⟩:∃s:ByteArray,(⟨t.toArray⟩:ByteArray)=s:=⟨_,rfl⟩
 have hss:s.size=t.length:=size_mk t s hs;rw[hs];have HG:=ah (fun(w:World) (hb:Below W.heap.size W w) (r:Int)=>ZI hT r d w (jF hD hb));have HS:=ah hs;have kS:=ah hss;have O9:=ah hn;clear hs hss hn hD;obtain⟨i0,hI0,hz0,hz1,hz2⟩:=dY gB;go_enter Tryz.func110,Tryz.ntmps110;go_wp2_with fail;go_loopw [5] (fun vo wr=>∃(e f m:Nat) (A:Option Addr) (c:Nat) (p:List (Nat×Nat)),vo= .slice A m c∧Tq W s e m (.slice A m c) (p.map fun x=>fM R (fB (x.2:Int))) wr∧e≤s.size∧s.size<f+e+1∧m≤e∧p.length=m∧p++aD t f e=marks t) (fun _ wr=>s.size-wr.iterPos W.heap.size);case atStart=>exact⟨0,t.length,0,none,0,[],rfl,⟨(aF _ W).alloc (ay _) _,dh W _,⟨rfl, .inl ⟨rfl,rfl⟩⟩⟩,aH _,by have:=kS.out;omega,ay _,rfl,rfl⟩
 case round=>
  obtain⟨e,f,m,A,c,p,rfl,Y1,he,hf,hm,hpl,hl⟩:=hrel;have hit:=Y1.it;have HOL:=ah Y1;clear Y1;by_cases hlt:e<s.size
  ·obtain⟨f',rfl⟩:∃f',f=f'+1:=⟨f-1,by omega⟩
   have hlt2:e<t.length:=by have:=kS.out;omega
   unfold aD at hl;rw[ak hlt2]at hl;have hnx:=fun ty=>run_next_any_at (P:=Tryz.prog) wr _ s e ty hit hlt;rw[gY t e s HS.out]at hnx;have hne2:t.drop e≠[]:=by intro c;rw[je]at c;have:=kS.out;omega
   have hd1:=aZ (t.drop e);have hd2:=bV (t.drop e) hne2;rw[dQ,←kS.out]at hd2;obtain⟨r,hr⟩:∃r,(dec (t.drop e)).1=r:=⟨_,rfl⟩
   obtain⟨wd,hwd⟩:∃wd,(dec (t.drop e)).2=wd:=⟨_,rfl⟩
   rw[hwd]at hd1 hd2;rw[hr,hwd]at hnx hl;obtain⟨ew,Cv⟩:∃ew,e+wd=ew:=⟨_,rfl⟩
   rw[Cv]at hnx hl;have HL:=ah hl;clear hr hwd hl hlt2 hne2;have HLEN:=ah (D9 (show m≤100000 by have:=O9.out;have:=kS.out;omega));have sw:=ah (HOL.out.iter ew);have hq2:wr.iterPos W.heap.size=e:=by unfold World.iterPos;rw[hit]
   obtain⟨x,hx⟩:∃x,fM R (fB (r:Int))=x:=⟨_,rfl⟩
   have KEY:=ah (fun(B1:Option Addr) (d1:Nat) (w':World) (h:Tq W s ew (m+1) (.slice B1 (m+1) d1) ((p.map fun x=>fM R (fB (x.2:Int)))++[x]) w')=>
    show(∃(e' f m':Nat) (A:Option Addr) (c:Nat) (p:List (Nat×Nat)),Value.slice B1 (m+1) d1= .slice A m' c∧Tq W s e' m' (.slice A m' c) (p.map fun x=>fM R (fB (x.2:Int))) w'∧e'≤s.size∧s.size<f+e'+1∧m'≤e'∧p.length=m'∧p++aD t f e'=marks t)∧s.size-w'.iterPos W.heap.size<s.size-wr.iterPos W.heap.size from by
     refine⟨⟨ew,f',m+1,B1,d1,p++[(e,r)],rfl,by rw[Av];subst hx;exact h,by omega,by omega,by omega,by rw[bf,hpl];rfl,by rw[dI];exact HL.out⟩,?_⟩;have q1:w'.iterPos W.heap.size=ew:=by unfold World.iterPos;rw[h.it]
     rw[q1,hq2];omega)
   have HGx:=ah (HG.out _ sw.out.aB (r:Int));rw[hx]at HGx;clear Cv hd1 hd2 hf hm he hq2 hlt hpl hx;go_wp2_with (first
    |(go_at_call 162;refine HGx.out.mono ?_;rintro e w4 ⟨rfl,hb⟩;have LH:=ah (sw.out.below hb);clear hb)
    |(at_builtin;refine aT _ rfl (.tmp 13) (.tmp 17) 41 rfl W.heap.size 3 i0 _ 8 Tryz.underlying41 hI0 hz0 hz1 hz2 rfl (.slice A m c) m (bA (p.map fun x=>fM R (fB (x.2:Int)))) rfl LH.out.dU _ 1 1 [.int .i64 x] rfl (bX _ _ _) (by simp[Value.oneCell']) HLEN.out.1 HLEN.out.2 (by rw[World.size_alloc];have:=LH.out.aB.size;omega) ?_;intro v' wp ho hg hn;obtain⟨B1,d1,rfl,_⟩:=aL ho;have ny:=Lib.hid (LH.out.grow ho hg);clear ho hg hn))
   exact KEY.out _ _ _ ny.out
  ·obtain rfl:e=s.size:=by omega
   have hz:aD t f s.size=[]:=by
    cases f with
    |zero=>rfl
    |succ f=>unfold aD;rw[aj (by have:=kS.out;omega)]
   rw[hz,eD]at hl;subst hl;clear hz;have hnx:=fun ty=>run_next_end_at (P:=Tryz.prog) wr _ s s.size ty hit hlt;have hmm:m≤100000:=by have:=kS.out;have:=O9.out;omega
   have HM:=ah hmm;clear hf he hm hmm hlt hpl;go_wp2_with fail;go_ret;exact⟨A,m,c,rfl,gD HOL.out.own HM.out,Tp HOL.out.own,HOL.out.aB⟩
end
section
open Folds (dec)
theorem Q5 (t:List UInt8):∀n e,(mk4 t n e).map (·.1)=(aD t n e).map (·.1)
 |0,_=>rfl
 |n+1,e=>by
  unfold mk4 aD;by_cases c:e<t.length;·rw[ak c,ak c,kT,kT,Q5 t n]
  ·rw[aj c,aj c];rfl
theorem acP (t:List UInt8) (k:Nat):(((Bb t).getD k (0,0,0,false)).1:Int)=(dV t).getD k 0:=by
 have h:=Q5 t t.length 0;unfold dV marks Bb;have e:((mk4 t t.length 0).getD k (0,0,0,false)).1=((mk4 t t.length 0).map (·.1)).getD k 0:=by rw[aM,aM,fF];cases(mk4 t t.length 0)[k]? <;>rfl
 rw[e,h,aM,aM,fF,fF];cases(aD t t.length 0)[k]? <;>rfl
theorem ZJ (t:List UInt8):(Bb t).length=(marks t).length:=by have:=eT List.length (Q5 t t.length 0);simpa[Bb,marks]using this
theorem Ot (m:Mk):(jH m).length=4:=rfl
theorem VI (t:List UInt8) (W:World) (hn:t.length≤10000):Calls Tryz.prog 108 #[.string ⟨t.toArray⟩] W (dF (gJ t) W):=by
 obtain⟨s,hs⟩:∃s:ByteArray,(⟨t.toArray⟩:ByteArray)=s:=⟨_,rfl⟩
 have hss:s.size=t.length:=size_mk t s hs;have Vi:=ah (NV t W (by omega));rw[hs]at Vi⊢;have hml:(marks t).length≤10000:=aQ (pJ t) hn;have VZ:=ah hml;clear hml hn hs;obtain⟨i0,hI0,hz0,hz1,hz2⟩:=dY gB;go_enter Tryz.func108,Tryz.ntmps108;go_wp2_with (go_at_call 63;refine Vi.out.mono ?_;rintro e w1 ⟨v,rfl,ho,hb⟩;obtain⟨A,c,rfl,_⟩:=aL ho;obtain⟨n,hn⟩:∃n,(Bb t).length=n:=⟨_,rfl⟩;rw[hn]at ho⊢;have HN:=ah (hn.symm.trans (ZJ t));have HR:=ah (Js Ot (0,0,0,false) hn ho (by have:=VZ.out;have:=HN.out;omega));have HB:=ah hb;clear ho hb hn);have hn2:n≤10000:=by have:=VZ.out;have:=HN.out;omega
 go_loopw [4,5] (fun vl vi wr=>∃(k:Nat) (A2:Option Addr) (c2:Nat),k≤n∧vi= .int .i64 k∧vl= .slice A2 k c2∧IA w1 (.slice A2 k c2) k ((dV t).take k) wr) (fun _ vi _=>n-(RowKit.intOf vi).toNat);case atStart=>exact⟨0,none,0,aH _,rfl,rfl,IA.nil w1⟩
 case round=>
  obtain⟨k,A2,c2,hk,rfl,rfl,hA⟩:=hrel;have HA:=ah hA;clear hA;by_cases hlt:k<n
  ·have HLEN:=ah (D9 (show k≤100000 by omega));obtain⟨g,rfl,hg,hc⟩:=HR.out.at_ (by omega);have hkm:k<(marks t).length:=by rw[←HN.out];exact hlt
   have d1:=hc k hlt 0 _ (by decide) rfl;rw[acP t k,cZ]at d1;have BG:=ah (Ob t hkm);obtain⟨x,hx⟩:∃x,(dV t).getD k 0=x:=⟨_,rfl⟩
   rw[hx]at d1 BG;have d2:=(HA.out.aB.cell (p:=⟨g,k*4,none⟩) hg).trans d1;have hk0:(0:Int)≤k:=by omega
   have hk1:(k:Int)<n:=by omega
   have hwk:wrap64 ((k:Int)+1)=((k+1:Nat):Int):=by unfold wrap64;omega
   have j5:=ah hwk;clear hwk hx hc hg d1 hkm;go_wp2_with (at_builtin;refine aT _ rfl (.tmp 14) (.tmp 20) 41 rfl w1.heap.size 3 i0 _ 8 Tryz.underlying41 hI0 hz0 hz1 hz2 rfl (.slice A2 k c2) k (bA ((dV t).take k)) rfl HA.out.dU _ 1 1 [.int .i64 x] rfl (bX _ _ _) (by simp[Value.oneCell']) HLEN.out.1 HLEN.out.2 (by rw[World.size_alloc];have:=HA.out.aB.size;omega) ?_;intro v' wp ho hg hn;obtain⟨B1,d1,rfl,_⟩:=aL ho;have ny:=Lib.hid (HA.out.grow ho hg);clear ho hg hn);(try rw[j5.out]);exact⟨⟨k+1,_,_,hlt,rfl,rfl,by rw[←BG.out];exact ny.out⟩,by simp[RowKit.intOf];omega⟩
  ·obtain rfl:k=n:=by omega
   have htk:(dV t).take k=dV t:=mH (by rw[qJ,HN.out];exact ay _);rw[htk]at HA;have HLEN:=ah (D9 (show k≤100000 by omega));have ai2:(s.size:Int)=(t.length:Nat):=by rw[hss]
   have HK:=ah (show k+1≤100000 by omega);clear htk hk;go_wp2_with (at_builtin;refine aT _ rfl (.tmp 22) (.tmp 25) 41 rfl w1.heap.size 3 i0 _ 8 Tryz.underlying41 hI0 hz0 hz1 hz2 rfl (.slice A2 k c2) k (bA (dV t)) rfl HA.out.dU _ 1 1 [.int .i64 (t.length:Nat)] rfl (bX _ _ _) (by simp[Value.oneCell']) HLEN.out.1 HLEN.out.2 (by rw[World.size_alloc];have:=HA.out.aB.size;omega) ?_;intro v' wp ho hg hn;obtain⟨B1,d1,rfl,_⟩:=aL ho;have ny:=Lib.hid (HA.out.grow ho hg);clear ho hg hn);go_ret;refine⟨_,_,_,rfl,?_,HB.out.trans (ny.out.aB.mono HB.out.size)⟩;exact gD ny.out.own HK.out
end
end Go.Proofs.YtocaiijbhepnnaaGreatDoor.searchEach
