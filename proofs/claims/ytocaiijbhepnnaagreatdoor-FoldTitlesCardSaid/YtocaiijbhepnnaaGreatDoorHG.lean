/- FoldTitles, walked: Title, the document's Title, the law itself; the book in the machine's heap. -/
import Derived.Test.YtocaiijbhepnnaaGreatDoorHI
import Derived.Test.YtocaiijbhepnnaaGreatDoorHF
set_option maxRecDepth 100000
set_option maxHeartbeats 8000000
namespace Go.Proofs.YtocaiijbhepnnaaGreatDoor.foldTitles
open Go.Shelf Go.RowKit Go.Lib Go.Proofs.YtocaiijbhepnnaaGreatDoor.Am
section
open Folds (dec bn bL)
def AL (B:List Int) (s:List UInt8×Bool) (p:Pc):List UInt8×Bool:=
 if((s.2||decide ((p.1:Int)∈B))&&Cases.cased p.2.1)=true then(s.1++mX (formV p.2.1 2),false)else(s.1++p.2.2,s.2||decide ((p.1:Int)∈B))
def nu (B:List Int) (l:List Pc):List UInt8×Bool:=l.foldl (AL B) ([],true)
theorem R4 (B:List Int) (l:List Pc) (p:Pc):nu B (l++[p])=AL B (nu B l) p:=by unfold nu;rw[List.foldl_append];rfl
theorem GZ (B:List Int) (l:List Pc) {k:Nat} (h:k<l.length):nu B (l.take (k+1))=AL B (nu B (l.take k)) (l.getD k Pn):=by rw[List.take_add_one,aS h,aG,aS h];exact R4 B _ _
theorem LG {B:List Int} {s:List UInt8×Bool} {p:Pc} (h1:(s.2||decide ((p.1:Int)∈B))=true) (h2:Cases.cased p.2.1=true):AL B s p=(s.1++mX (formV p.2.1 2),false):=by unfold AL;rw[h1,h2];rfl
theorem CZ {B:List Int} {s:List UInt8×Bool} {p:Pc} {o:Bool} (h1:(s.2||decide ((p.1:Int)∈B))=o) (h2:(o&&Cases.cased p.2.1)=false):AL B s p=(s.1++p.2.2,o):=by unfold AL;rw[h1,h2];rfl
def titleT (t:List UInt8):List UInt8:=(nu (fC t) (Bn 0 (finalF (dD t)) t)).1
def Wx (rs:List Int) (t:List UInt8):List Mk->Nat->List Pc
 |[],_=>[]
 |m::l,i=>(m.1,m.2.2.1,Xg rs t i m)::Wx rs t l (i+1)
theorem P5 (rs:List Int) (t:List UInt8):∀l i,(Wx rs t l i).length=l.length
 |[],_=>rfl
 |_::l,i=>by show(Wx rs t l (i+1)).length+1=l.length+1;rw[P5 rs t l]
theorem P6 (rs:List Int) (t:List UInt8):∀(l:List Mk) (i j:Nat),j<l.length->(Wx rs t l i).getD j Pn=((l.getD j Bq).1,(l.getD j Bq).2.2.1,Xg rs t (i+j) (l.getD j Bq))
 |[],_,j,h=>absurd h (ko j)
 |_::_,_,0,_=>rfl
 |_::l,i,j+1,h=>by rw[show i+(j+1)=i+1+j by omega];exact P6 rs t l (i+1) j (Nat.lt_of_succ_lt_succ h)
theorem Zg (rs:List Int) (t:List UInt8) (e i:Nat) (h0:rs.getD i 0=((dec (t.drop e)).1:Int)):Folds.one (uw 0 (finalF rs) i) (t.drop e)=Xg rs t i (e,(dec (t.drop e)).2,(dec (t.drop e)).1,((dec (t.drop e)).2:Int)==1&&((dec (t.drop e)).1:Int)==65533):=by
 unfold Xg Folds.one uw kS;dsimp only;rw[h0];by_cases b:(dec (t.drop e)).1=65533/\(dec (t.drop e)).2=1;·rw[au b,au (by rw[b.1,b.2];rfl),b.2]
 ·have hb:(((dec (t.drop e)).2:Int)==1&&((dec (t.drop e)).1:Int)==65533)=false:=by rw[rO];intro hb;rw[aQ,cZ,cZ]at hb;exact b ⟨by omega,by omega⟩
  rw[aj b,hb,aj oN];by_cases d:(dec (t.drop e)).1=931/\finalF rs i=true;·rw[au ⟨⟨rfl,d.1⟩,d.2⟩,au ⟨by omega,d.2⟩,ace]
  ·rw[aj (λh=>d ⟨h.1.2,h.2⟩),aj (λh=>d ⟨by omega,h.2⟩)]
theorem Wy (rs:List Int) (t:List UInt8):∀n e i,(∀j,j<(mk4 t n e).length->rs.getD (i+j) 0=(((mk4 t n e).getD j Bq).2.2.1:Int))->Yl (uw 0 (finalF rs)) t n i e=Wx rs t (mk4 t n e) i
 |0,_,_,_=>rfl
 |n+1,e,i,h=>by
  show(if e<t.length then _ else _:List Pc)=Wx rs t (if e<t.length then _ else _:List Mk) i;by_cases c:e<t.length
  ·unfold mk4 at h;rw[au c]at h;rw[au c,au c];have h0:rs.getD i 0=((dec (t.drop e)).1:Int):=by have:=h 0 (by rw[bT];exact ru _);rwa [dG]at this
   have ih:=Wy rs t n (e+(dec (t.drop e)).2) (i+1) (λj hj=>by
    have:=h (j+1) (by rw[bT];exact Nat.succ_lt_succ hj);rw[show i+1+j=i+(j+1)by omega,this];rfl)
   rw[Zg rs t e i h0,ih];rfl
  ·rw[aj c,aj c];rfl
theorem G5 (t:List UInt8):Bn 0 (finalF (dD t)) t=Wx (dD t) t (iw t) 0:=by have hm:(iw t).map (λm=>(m.2.2.1:Int))=dD t:=zB t t.length 0;unfold Bn;refine Wy (dD t) t t.length 0 0 λj _=> ?_;rw[<-hm,Wz,bI];rfl
theorem G6 (A:List Pc) (p:Pc):kW (A++[p])=kW A++p.2.2:=by unfold kW;rw[List.flatMap_append];simp
theorem Jm (B:List Int):∀(l:List Pc) (s:List UInt8×Bool),(∀p∈l,p.2.2.length<=12)->(l.foldl (AL B) s).1.length<=s.1.length+12*l.length
 |[],_,_=>ay _
 |p::l,s,h=>by
  have h1:=Jm B l (AL B s p) (λq hq=>h q (rH _ hq));have h2:=h p oK;have h3:(AL B s p).1.length<=s.1.length+12:=by
   unfold AL;split;·rw[bV];have:=lU (formV p.2.1 2);have:=formV_len p.2.1 2;omega
   ·rw[bV];omega
  rw[pE,bT];omega
theorem Jo (rs:List Int) (t:List UInt8):∀(l:List Mk) (i:Nat),(∀m∈l,m.2.1<=4)->∀p∈Wx rs t l i,p.2.2.length<=12
 |[],_,_,p,hp=>by cases hp
 |m::l,i,h,p,hp=>by
  rcases aR.1 hp with rfl|hp;·exact Zh rs t i m (h m oK)
  ·exact Jo rs t l (i+1) (λm hm=>h m (rH _ hm)) p hp
theorem Zi (t:List UInt8):∀p∈Bn 0 (finalF (dD t)) t,p.2.2.length<=12:=by rw[G5];exact Jo _ _ _ _ (Ji t t.length 0)
theorem LH (t:List UInt8):∀n e,∀m∈mk4 t n e,m.2.2.2=true->m.2.1=1/\m.2.2.1=65533
 |0,_,m,h,_=>by cases h
 |n+1,e,m,h,hb=>by
  unfold mk4 at h;by_cases c:e<t.length
  ·rw[au c]at h;rcases aR.1 h with rfl|h
   ·dsimp only at hb⊢;rw[aQ,cZ,cZ]at hb;omega
   ·exact LH t n _ m h hb
  ·rw[aj c]at h;cases h
theorem C8 (t:List UInt8):∀n e,(mk4 t n e).map (·.1)=(aJ t n e).map (·.1)
 |0,_=>rfl
 |n+1,e=>by
  unfold mk4 aJ;split;·rw[jD,jD,C8 t n]
  ·rfl
theorem acf (t:List UInt8):((iw t).map (·.1)).Pairwise (·<·):=by unfold iw;rw[C8];exact List.pairwise_map.2 (sG t _ _)
theorem R5 {t:List UInt8} {x:Int} (h:x∈fC t):(∃a:Nat,a∈(iw t).map (·.1)/\(a:Int)=x)\/x=t.length:=by
 have he:x∈jJ t:=by
  by_cases hs:t=[]
  ·subst hs;unfold fC at h;rw[aj (by decide),ji]at h;have:BK (K5 []) (jR []) (marks []).length 0=[]:=by decide
   rw[this]at h;cases h
  ·rw[<-zA t hs,zy]at h;obtain⟨i,hi,rfl⟩:=bX.1 h;have hi:=List.mem_range'_1.1 (kg.1 hi).1;unfold jJ;by_cases c:i<(marks t).length
   ·rw[au c];refine iF _ ?_;rw[aG,aS (by rw[sj];exact c)];exact iN _
   ·rw[aj c];exact iM _ (eG.2 rfl)
 unfold jJ at he;rcases iE.1 he with h1|h1;·unfold jR marks at h1;obtain⟨y,hy,rfl⟩:=bX.1 h1;refine .inl ⟨y.1,?_,rfl⟩;unfold iw;rw[C8];exact bX.2 ⟨y,hy,rfl⟩
 ·exact .inr (eG.1 h1)
def R6 (B:List Int) (M:List Mk) (i p:Nat):Prop:=p<=B.length/\(i=0->p=0)/\∀k,i=k+1->∀j,j<B.length->(j<p↔B.getD j 0<=((M.getD k Bq).1:Int))
theorem acg (B:List Int) (M:List Mk):R6 B M 0 0:=⟨aL _,λ_=>rfl,λk hk=>by cases hk⟩
theorem P7 (M:List Mk) {j:Nat} (h:j<M.length):(M.map (·.1))[j]? =some (M.getD j Bq).1:=by rw[fq,aG,aS h];rfl
theorem P8 {t:List UInt8} {i j:Nat} (hij:i<j) (hj:j<(iw t).length):((iw t).getD i Bq).1<((iw t).getD j Bq).1:=by have:=List.pairwise_iff_getElem.1 (acf t) i j (by rw[bM];omega) (by rw[bM];exact hj) hij;have e1:=P7 (iw t) (j:=i) (by omega);have e2:=P7 (iw t) hj;rw[aS (by rw[bM];omega)]at e1 e2;have e1:=bW e1;have e2:=bW e2;omega
theorem afk (t:List UInt8) {i:Nat} (hi:i<(iw t).length):((iw t).getD i Bq).1<t.length:=by
 have hm:=P7 (iw t) hi;unfold iw at hm;rw[C8,fq]at hm;cases hx:(aJ t t.length 0)[i]? with
 |none=>rw[hx]at hm;cases hm
 |some y=>rw[hx]at hm;have hm:y.1=_:=bW hm;have:=nk t _ _ y (pI hx);show((mk4 t t.length 0).getD i Bq).1<_;omega
theorem Zj {t:List UInt8} {i p q:Nat} (hi:i<(iw t).length) (h:R6 (fC t) (iw t) i p) (hpq:p<=q) (hq:q<=(fC t).length)
 (hlo:∀j,p<=j->j<q->(fC t).getD j 0<=(((iw t).getD i Bq).1:Int)) (hhi:q=(fC t).length\/(((iw t).getD i Bq).1:Int)<(fC t).getD q 0):
 R6 (fC t) (iw t) (i+1) q/\(i≠0->(p<q↔(((iw t).getD i Bq).1:Int)∈fC t)):=by
 obtain⟨h0,h1,h2⟩:=h;have hup:=PZ t;have hat:=afk t hi;have key:∀j,j<(fC t).length->(j<q↔(fC t).getD j 0<=(((iw t).getD i Bq).1:Int)):=λj hj=>by
  refine⟨λc=> ?_,λc=> ?_⟩
  ·by_cases d:p<=j
   ·exact hlo j d c
   ·cases i with
    |zero=>have:=h1 rfl;omega
    |succ k=>have hk:=(h2 k rfl j hj).1 (by omega);have:=P8 (Nat.lt_add_one k) hi;omega
  ·rcases hhi with d|d
   ·omega
   ·rcases aF j q with e|e
    ·exact e
    ·rcases Nat.eq_or_lt_of_le e with e|e
     ·subst e;omega
     ·have:=up_at hup e hj;omega
 refine⟨⟨hq,(λc=>by cases c),λk hk j hj=> ?_⟩,λhi0=> ?_⟩
 ·obtain rfl:i=k:=by omega
  exact key j hj
 ·obtain⟨k,rfl⟩:∃k,i=k+1:=⟨i-1,by omega⟩
  have hlt:=P8 (Nat.lt_add_one k) hi;refine⟨λc=> ?_,λc=> ?_⟩
  ·have hpl:p<(fC t).length:=by omega
   have g1:=(key p hpl).1 c;have g2:¬(fC t).getD p 0<=(((iw t).getD k Bq).1:Int):=λd=>absurd ((h2 k rfl p hpl).2 d) (dA p);have hm:(fC t).getD p 0∈fC t:=by rw[aG,aS hpl];exact iN _
   rcases R5 hm with⟨x,hx,e⟩|e
   ·obtain⟨n,hn,en⟩:=mD.1 hx;rw[bM]at hn;have e3:=P7 (iw t) hn;rw[aS (by rw[bM];exact hn),en]at e3;have e3:=bW e3;have hnk:n=k+1:=by
     rcases kZ n (k+1)with d|d|d
     ·exfalso;rcases Nat.eq_or_lt_of_le (Nat.le_of_lt_succ d)with d|d
      ·subst d;omega
      ·have:=P8 d (show k<(iw t).length by omega);omega
     ·exact d
     ·exfalso;have:=P8 d hn;omega
    subst hnk;rw[<-e3,e];exact hm
   ·omega
  ·obtain⟨j,hj,e⟩:=mD.1 c;have e:(fC t).getD j 0=(((iw t).getD (k+1) Bq).1:Int):=by rw[aG,aS hj];exact e
   have g1:=(key j hj).2 (by omega);have g2:¬j<p:=λd=>by have:=(h2 k rfl j hj).1 d;omega
   omega
end
theorem dx.fr {w w':World} {A:Option Addr} {n b:Nat} {zs:List Int} (h:dx w A n zs) (hA:∀a,A=some a->b<=a.block) (hf:Fr (λk=>k<b) w w'):dx w' A n zs:=by refine⟨h.len,h.small,λh0=> ?_⟩;obtain⟨g,o,rfl,hg,hc⟩:=h.at_ h0;have hb:=hA _ rfl;exact⟨g,o,rfl,bJ hg hf.size,λj hj=>by rw[hf.cell (p:=⟨g,o+j,none⟩) hg (Nat.not_lt.2 hb)];exact hc j hj⟩
structure TS (w1 w2 w3:World) (n c:Nat) (A2:Option Addr) (L:List Pc) (w:World):Prop where
 aN:Below w1.heap.size w1 w
 fr:Fr (λk=>k<w2.heap.size) w3 w
 own:w.ownsRow w1.heap.size 83 3 (.slice A2 n c) n (bR L)
 lt:∀a,A2=some a->a.block<w2.heap.size
section
variable {w1 w2 w3 w w':World} {n c:Nat} {A2:Option Addr} {L:List Pc}
theorem TS.below (h:TS w1 w2 w3 n c A2 L w) (hb:Below w.heap.size w w'):TS w1 w2 w3 n c A2 L w':=
 ⟨h.aN.trans (hb.mono h.aN.size),h.fr.trans (Fr.of_below hb (ay _)),own_below hb h.own,h.lt⟩
theorem TS.alloc (h:TS w1 w2 w3 n c A2 L w) (o:Obj):TS w1 w2 w3 n c A2 L (w.alloc o):=h.below ((aK _ w).alloc (ay _) o)
theorem TS.set {g k:Nat} {A B:List Pc} {p:Pc} (h:TS w1 w2 w3 n c (some ⟨g,0,none⟩) (A++p::B) w) (hA:A.length=k) (X:List UInt8):TS w1 w2 w3 n c (some ⟨g,0,none⟩) ((A++[(p.1,p.2.1,X)])++B) (w.setCell ⟨g,k*3+2,none⟩ (.string ⟨X.toArray⟩)):=
 have hb:w1.heap.size<=g:=(dO h.own (g:=g) rfl).1
 have hl:g<w2.heap.size:=h.lt ⟨g,0,none⟩ rfl
 ⟨h.aN.setCell (p:=⟨g,k*3+2,none⟩) hb _,h.fr.trans (Fr.set w ⟨g,k*3+2,none⟩ _ (λ_=>hl)),(RowK.mk h.own hA).set X,h.lt⟩
end
def Oa (t:List UInt8) (W:World) (e:Ending) (w':World):Prop:=e= .returned (.string ⟨(titleT t).toArray⟩)/\Below W.heap.size W w'
theorem R7 (t:List UInt8) (W:World) (ho:EF W) (hT:Lib.Utf8Tabs 2 3 W) (hn:t.length<=10000) (hbd:∀w,Below W.heap.size W w->Calls Tryz.prog 52 #[.string ⟨t.toArray⟩] w (o7 t w)):Calls Tryz.prog 11 #[.string ⟨t.toArray⟩] W (Oa t W):=by
 have HT:=ah hT;have HO:=ah ho;have HN:=ah hn;have YN:=ah hbd;clear hT ho hn hbd;have HL:=ah (Po (uw 0 (finalF (dD t))) (Vg 0 _) t t.length 0 0);obtain⟨l,hl⟩:∃l,Bn 0 (finalF (dD t)) t=l:=⟨_,rfl⟩
 have GK:=ah (show l.length<=10000 by rw[<-hl];exact bF HL.out.2 HN.out);have aal:=ah (show(nu (fC t) l).1=titleT t by rw[<-hl];rfl);have HTX:=ah (show ∀p∈l,p.2.2.length<=12 by rw[<-hl];exact Zi t);have HLE:=ah hl;clear hl HL;have ach:=ah (λx=>Zd (PZ t) x);obtain⟨zs,hzs⟩:∃zs,fC t=zs:=⟨_,rfl⟩
 unfold o7 at YN;rw[hzs]at aal ach YN;clear hzs;obtain⟨n,hn⟩:∃n,l.length=n:=⟨_,rfl⟩
 have Si:=ah hn;clear hn;go_enter Tryz.func11,Tryz.ntmps11;go_wp2_with (first
  |(go_at_call 50;refine HO.out.mono ?_;rintro e w1 ⟨v,rfl,h1,h2⟩;obtain⟨B,o,rfl,_⟩:=id h1;have H1:=ah h1;have B1:=ah h2;clear h1 h2)
  |(go_at_call 51;refine(Nr t (finalF (dD t)) _ _ (zf H1.out) (jH B1.out HT.out) (bF HN.out (by decide)) (finals_ok _ (bF (KX t) (bF HN.out (by decide))) _ _ H1.out)).mono ?_;rintro e w2 ⟨v2,rfl,hown,h2⟩;rw[HLE.out,Si.out]at hown;have B2:=ah h2;clear h2;obtain⟨A2,c2,rfl,_⟩:=bA hown;have OW:=ah hown;clear hown)
  |(go_at_call 52;refine(YN.out _ (B1.out.trans (B2.out.mono B1.out.size))).mono ?_;rintro e w3 ⟨A5,n5,c5,rfl,hz,hge,h3⟩;have HZ:=ah (λ(w:World) (hf:Fr (λk=>k<w2.heap.size) w3 w)=>hz.fr hge hf);have HTS:=ah (TS.mk (w1:=w1) (w2:=w2) (w3:=w3) (n:=n) (c:=c2) (A2:=A2) (L:=l) (w:=w3) (B2.out.trans (h3.mono B2.out.size)) (Fr.refl _ _) (own_below h3 OW.out) (λa ha=>by subst ha;exact(dO OW.out rfl).2.1));clear hz hge h3))
 have HNL:=ah (show n<=10000 by rw[<-Si.out];exact GK.out);have WZ:=ah (λ(w:World) (hb:Below w1.heap.size w1 w)=>zf (eT H1.out hb));clear GK H1;go_loopw [19,6] (λvi vb wr=>∃(k:Nat) (bg:Bool) (A:List Pc),k<=n/\vi= .int .i64 k/\vb= .bool bg/\(A.length=k/\nu zs (l.take k)=(kW A, !bg))/\TS w1 w2 w3 n c2 A2 (A++l.drop k) wr) (λvi _ _=>n-(RowKit.intOf vi).toNat);case atStart=>exact⟨0,false,[],aL _,rfl,rfl,⟨rfl,rfl⟩,HTS.out⟩
 case round=>
  obtain⟨k,bg,A,hk,rfl,rfl,htl,hts⟩:=hrel;have HTL:=ah htl;have HS:=ah hts;clear htl hts HTS;by_cases hlt:k<n
  ·have hlt2:k<l.length:=by rw[Si.out];exact hlt
   obtain⟨g,rfl⟩:=uz HS.out.own (by omega);obtain⟨p,hp⟩:∃p,l.getD k Pn=p:=⟨_,rfl⟩
   have HSN:=ah (show nu zs (l.take (k+1))=AL zs (kW A, !bg) p by rw[GZ zs l hlt2,HTL.out.2,hp]);have hd:=Vp l k hlt2;rw[hp]at hd;rw[hd]at HS;clear hd hp hlt2;obtain⟨Bl,hBl⟩:∃Bl,l.drop (k+1)=Bl:=⟨_,rfl⟩
   rw[hBl]at HS;have HAL:=ah HTL.out.1;obtain⟨k0,k1,k2,hfz,hg1,hg2⟩:=(RowK.mk HS.out.own HAL.out).cells hlt;obtain⟨pa,pr,px⟩:=p;dsimp only at k0 k1 k2;obtain⟨k',hk'⟩:∃k',k+1=k':=⟨_,rfl⟩
   have Fg:=ah (show wrap64 ((k:Int)+1)=(k':Int)by have:=HNL.out;unfold wrap64;omega);rw[hk']at HSN hBl;have HKL:=ah (show k'<=n/\k<k' by omega);have HKK:=ah hk';have KEY:=ah (λ(bg':Bool) (A':List Pc) (w':World) (h1:A'.length=k'/\nu zs (l.take k')=(kW A', !bg')) (h:TS w1 w2 w3 n c2 (some ⟨g,0,none⟩) (A'++Bl) w')=>
    show(∃(k:Nat) (bg:Bool) (A:List Pc),k<=n/\Value.int .i64 (k':Int)= .int .i64 k/\Value.bool bg'= .bool bg/\(A.length=k/\nu zs (l.take k)=(kW A, !bg))/\TS w1 w2 w3 n c2 (some ⟨g,0,none⟩) (A++l.drop k) w')/\n-(RowKit.intOf (.int .i64 (k':Int))).toNat<n-(RowKit.intOf (.int .i64 (k:Int))).toNat from
     ⟨⟨k',bg',A',HKL.out.1,rfl,rfl,h1,by rw[hBl];exact h⟩,by have:=HKL.out;simp[RowKit.intOf];omega⟩)
   have HBl:=ah hBl;clear hBl hk' hk;obtain⟨oB,hoB⟩:∃oB:Obj, .cells #[.int .i64 pa, .int .i32 pr, .string ⟨px.toArray⟩] 83=oB:=⟨_,rfl⟩
   have HS0:=ah (HS.out.alloc (.cells #[.int .i64 pa, .int .i32 pr, .string ⟨px.toArray⟩] 83));have HPC:=ah (λ(w:World) (hb:Below (wr.alloc (.cells #[.int .i64 pa, .int .i32 pr, .string ⟨px.toArray⟩] 83)).heap.size (wr.alloc (.cells #[.int .i64 pa, .int .i32 pr, .string ⟨px.toArray⟩] 83)) w)=>show w.cell? ⟨wr.heap.size,1,none⟩=some (.int .i32 pr)by
    rw[hb.cell (by simp),fu _ _ _ _ _ _ (jl wr _)];rfl)
   clear hoB oB;have aiq:=ah (λ(h1:(!bg||Yr zs pa)=true) (h2:Cases.cased pr=true)=>show(A++[(pa,pr,mX (formV pr 2))]).length=k'/\nu zs (l.take k')=(kW (A++[(pa,pr,mX (formV pr 2))]),false)from
    ⟨by rw[bV,HAL.out];exact HKK.out,by rw[HSN.out,G6];exact LG (by rw[<-h1,ach.out]) h2⟩)
   have HNO:=ah (λ(o:Bool) (h1:(!bg||Yr zs pa)=o) (h2:(o&&Cases.cased pr)=false)=>show(A++[(pa,pr,px)]).length=k'/\nu zs (l.take k')=(kW (A++[(pa,pr,px)]),o)from
    ⟨by rw[bV,HAL.out];exact HKK.out,by rw[HSN.out,G6];exact CZ (by rw[<-h1,ach.out]) h2⟩)
   cases hcs:Cases.cased pr<;>cases bg<;>cases hfb:Yr zs pa;all_goals
    have vZ:=ah hcs;have HFB:=ah hfb;clear hcs hfb;go_wp2_with (first
     |(go_at_call 53;refine(abJ zs _ A5 n5 c5 _ (HZ.out _ HS0.out.fr)).mono ?_;rintro e w4 ⟨mm,rfl,hb⟩;rw[HFB.out];have HS4:=ah (HS0.out.below hb);have c4:=HPC.out _ hb;have B4:=ah hb;clear hb)
     |(go_at_call 54;refine(Gn pr _ _ (Et (WZ.out _ HS4.out.aN))).mono ?_;rintro e w5 ⟨rfl,hb⟩;have HS5:=ah (HS4.out.below hb);have c5':=HPC.out _ (B4.out.trans (hb.mono B4.out.size));clear hb;rw[vZ.out])
     |(go_at_call 56;refine(form_ok pr 2 (by decide) _ _ (WZ.out _ HS5.out.aN)).mono ?_;rintro e w6 ⟨sf,rfl,hsf,hb⟩;have HS6:=ah (HS5.out.below hb);have HSF:=ah hsf;clear hb hsf)
     |(go_at_call 55;refine(vU (formV pr 2) _ _ HSF.out (Nat.le_trans (formV_len pr 2) (by decide))).mono ?_;rintro e w7 ⟨rfl,hb⟩;have HS7:=Lib.hid (HS6.out.below hb);clear hb;obtain⟨_,_,k27,hf7,_,hg7⟩:=(RowK.mk HS7.out.own HAL.out).cells hlt;dsimp only at k27))
   all_goals
    rw[Fg.out];first
     |exact KEY.out true _ _ (aiq.out (by rw[HFB.out];rfl) vZ.out) (HS7.out.set HAL.out _)
     |exact KEY.out true _ _ (HNO.out _ (by rw[HFB.out];rfl) (by rw[vZ.out];rfl)) (by rw[iL];first|exact HS5.out|exact HS4.out)
     |exact KEY.out false _ _ (HNO.out _ (by rw[HFB.out];rfl) (by rw[vZ.out];rfl)) (by rw[iL];first|exact HS5.out|exact HS4.out)
  ·obtain rfl:k=n:=by omega
   have hdr:A++l.drop k=A:=by rw[<-Si.out,List.drop_length,ji]
   rw[hdr]at HS;have hlen:A.length=k:=HTL.out.1;have htl:=HTL.out.2;rw[<-Si.out,List.take_length]at htl;have Fy:(kW A).length<=1000000000:=by have h1:=Jm zs l ([],true) HTX.out;have h2:(l.foldl (AL zs) ([],true)).1=kW A:=fJ Prod.fst htl;rw[h2]at h1;have:=HNL.out;have:=Si.out;have h3:(([],true):List UInt8×Bool).1.length=0:=rfl;omega
   have HJ:=ah (Q7 A (.slice A2 k c2) w1.heap.size wr (by rw[hlen];exact HS.out.own) (by rw[hlen];have:=HNL.out;omega) Fy);have HCH:=ah (show kW A=titleT t by rw[<-aal.out,htl]);clear hdr hlen htl Fy;go_wp2_with (go_at_call 57;refine HJ.out.mono ?_;rintro e w9 ⟨rfl,h9⟩;have B9:=ah (HS.out.aN.trans (h9.mono HS.out.aN.size));clear h9);go_ret;exact⟨by first|(rw[<-HCH.out];rfl)|rw[<-HCH.out],B1.out.trans (B9.out.mono B1.out.size)⟩
section
open Folds (dec bn bL)
def P9 (w:World) (v:Value):Prop:=Bj w v/\∃B o x,v= .pointer (some ⟨B,o,none⟩)/\w.cell? ⟨B,o+3,none⟩=some x/\GU w x gF 19 lG true
theorem LJ {w w':World} {v:Value} {R:List fI} {N:Nat} {rs:List PR} {rest:Bool} (h:GU w v R N rs rest) (hb:Below w.heap.size w w'):GU w' v R N rs rest:=by obtain⟨g,o,d,gr,og,cr,e,hg,c0,c1,c2,hD,hR⟩:=h.at_;exact⟨g,o,d,gr,og,cr,e,bJ hg hb.size,(hb.cell (p:=⟨g,o,none⟩) hg).trans c0,(hb.cell (p:=⟨g,o+1,none⟩) hg).trans c1,(hb.cell (p:=⟨g,o+2,none⟩) hg).trans c2,mW hD hb,hR.below hb⟩
theorem Ob (v:Value) (W:World):Calls Tryz.prog 64 #[v, .string ⟨#[]⟩] W (jO [] W):=by go_enter Tryz.func64,Tryz.ntmps64;go_wp2_with fail;go_ret;exact⟨none,0,0,rfl,Vx _,aK _ _⟩
theorem R8 (t:List UInt8) (v:Value) (W:World) (h:GU W v gF 19 lG true) (hn:t.length<=48):Calls Tryz.prog 64 #[v, .string ⟨t.toArray⟩] W (jO (fC t) W):=by
 by_cases h0:t=[]
 ·subst h0;exact Ob v W
 ·have hml:=EI t;have:=LB gF 19 afj t v lG true W h (by omega) (EH (K5 t)) (by omega) h0 (R3 h0) (LD afj λ{n} h1 h2 h3 {b} h4=>Wu h1 h2 h3 h4);rwa [PY,zA t h0]at this
theorem WA (t:List UInt8):(fC t).length<=t.length+1:=by
 by_cases hs:t=[]
 ·subst hs;decide
 ·rw[<-zA t hs,zy,bM];refine bF (List.length_filter_le _ _) ?_;rw[List.length_range'];have:=EI t;omega
theorem zC {B:Nat} {W w:World} (h:Below B W w) (q:Nat):Below B W (w.drewN q):=⟨h.os,h.tape,h.output,h.size,h.block⟩
theorem aam {op:Bool} {i q q':Nat} {P:Prop} [Decidable P] (h0:i=0->op=true) (h:i≠0->(q<q'↔P)):(op||decide (q<q'))=(op||decide P):=by
 by_cases c:i=0;·rw[h0 c,Bool.true_or,Bool.true_or]
 ·rw[decide_eq_decide.2 (h c)]
def Oc (t:List UInt8) (W:World) (e:Ending) (w':World):Prop:=e= .returned (.string ⟨(titleT t).toArray⟩)/\Below W.heap.size W w'
theorem R9 (t:List UInt8) (v:Value) (W:World) (h:P9 W v) (hn:t.length<=48):Calls Tryz.prog 13 #[v, .string ⟨t.toArray⟩] W (Oc t W):=by
 obtain⟨hg,B,o,x,rfl,c3,hW⟩:=h;have HMK:=ah (Lf t W (by omega));have HWB:=ah (λw (hb:Below W.heap.size W w)=>R8 t x w (LJ hW hb) hn);have HC3:=ah (λw (hb:Below W.heap.size W w)=>show w.cell? ⟨B,o+3,none⟩=some x from(hb.cell (p:=⟨B,o+3,none⟩) (aW c3)).trans c3);have HB:=ah hg;obtain⟨s,hs⟩:∃s:ByteArray,(⟨t.toArray⟩:ByteArray)=s:=⟨_,rfl⟩
 have hss:s.size=t.length:=size_mk t s hs;rw[hs]at HMK HWB⊢;have HS:=ah hs;have BI:=ah hss;have HN:=ah hn;have HPC:=ah (λ(i p q:Nat)=>Zj (t:=t) (i:=i) (p:=p) (q:=q));have HWL:=ah (WA t);have HTI:=ah (show(nu (fC t) (Wx (dD t) t (iw t) 0)).1=titleT t by rw[<-G5];rfl);have HTX:=ah (show ∀p∈Wx (dD t) t (iw t) 0,p.2.2.length<=12 from Jo _ _ _ _ (Ji t t.length 0));have YN:=ah (show ∀m∈iw t,m.2.2.2=true->m.2.1=1/\m.2.2.1=65533 from LH t t.length 0);obtain⟨zs,hzs⟩:∃zs,fC t=zs:=⟨_,rfl⟩
 obtain⟨rs,hrs⟩:∃rs,dD t=rs:=⟨_,rfl⟩
 obtain⟨M,hM⟩:∃M,iw t=M:=⟨_,rfl⟩
 have Rl:=ah (show M.length<=48 by rw[<-hM];exact bF (PG t t.length 0) hn);have HMM:=ah (show ∀m∈M,m.1+m.2.1<=t.length/\1<=m.2.1/\rZ (m.2.2.1:Int)=true by rw[<-hM];exact PI t t.length 0);have HRG:=ah (show ∀j,rs.getD j 0=((M.getD j Bq).2.2.1:Int)by intro j;rw[<-hM,<-hrs,<-Wz];congr 1;exact(zB t t.length 0).symm);have HRL:=ah (show rs.length=M.length by rw[<-hM,<-hrs];have:=fJ List.length (zB t t.length 0);rw[bM]at this;exact this.symm);unfold GD at HMK;rw[hzs]at HWB HPC HWL HTI;rw[hrs]at HTI HTX;rw[hM]at HMK HPC HTI HTX YN;obtain⟨L,hL⟩:∃L,Wx rs t M 0=L:=⟨_,rfl⟩
 have HLG:=ah (λj (hj:j<M.length)=>show L.getD j Pn=((M.getD j Bq).1,(M.getD j Bq).2.2.1,Xg rs t j (M.getD j Bq))by rw[<-hL,P6 rs t M 0 j hj,bI]);have GK:=ah (show L.length=M.length by rw[<-hL];exact P5 rs t M 0);rw[hL]at HTI HTX;have HP0:=ah (acg zs M);clear hs hss hg c3 hW hn hzs hrs hM hL;go_enter Tryz.func13,Tryz.ntmps13;go_wp2_with (first
  |(go_at_call 63;refine HMK.out.mono ?_;rintro e w1 ⟨vm,rfl,hown,hb⟩;obtain⟨Am,cm,rfl,_⟩:=bA hown;have HOM:=ah hown;have HB1:=ah hb;have d3:=HC3.out _ hb;clear hown hb)
  |(go_at_call 64;refine(HWB.out _ HB1.out).mono ?_;rintro e w2 ⟨A2,n2,c2,rfl,hI,hb⟩;have HI2:=ah hI;have HB2:=ah hb;clear hI hb d3))
 obtain⟨N,hN⟩:∃N,M.length=N:=⟨_,rfl⟩
 rw[hN]at HOM Rl HRL HLG GK⊢;have Si:=ah hN;clear hN;have HZL:=ah (show zs.length=n2 from HI2.out.len);have HN2:=ah (show n2<=49 by have:=HWL.out;have:=HN.out;have:=HZL.out;omega);go_loopw [7,8,9,10] (λvo vp vq vi wr=>∃(i q:Nat),i<=N/\vi= .int .i64 i/\vq= .int .i64 q/\R6 zs M i q/\vo= .string ⟨(nu zs (L.take i)).1.toArray⟩/\vp= .bool (nu zs (L.take i)).2/\Below w2.heap.size w2 wr) (λ_ _ _ vi _=>N-(RowKit.intOf vi).toNat);case atStart=>exact⟨0,0,aL _,rfl,rfl,HP0.out,rfl,rfl,aK _ _⟩
 case round=>
  obtain⟨i,q,hi,rfl,rfl,hpc,rfl,rfl,hbw⟩:=hrel;have HW:=ah hbw;have HPA:=ah hpc;clear hbw hpc;by_cases hlt:i<N
  ·obtain⟨g,rfl⟩:=uz HOM.out (by omega);have hg1:=(dO HOM.out (g:=g) rfl).2.1;have hc:=yZ (g:=g) HOM.out rfl;have HMR:=ah (show uP w1 g N rs from⟨HRL.out,bF Rl.out (by decide),λj hj=>by
    rw[HRG.out];refine(HMM.out _ ?_).2.2;rw[aG,aS (by rw[Si.out];exact hj)];exact iN _,λ_=>hg1,λj hj=>by
    have c2:=hc _ _ (xO M j (by rw[Si.out];exact hj)).2.2.1;rw[iQ,bI]at c2;rw[HRG.out];exact c2⟩)
   have hget:=xO M i (by rw[Si.out];exact hlt);obtain⟨x,hx⟩:∃x,M.getD i Bq=x:=⟨_,rfl⟩
   have afp:=ah (show rs.getD i 0=(x.2.2.1:Int)by rw[HRG.out,hx]);have HPI:=HPC.out i q;rw[hx]at hget HPI;have hxm:x∈M:=by rw[<-hx,aG,aS (by rw[Si.out];exact hlt)];exact iN _
   have HX1:=HMM.out x hxm;have hbd:=YN.out x hxm;have HST:=ah (GZ zs L (k:=i) (by rw[GK.out];exact hlt));rw[HLG.out i hlt,hx]at HST;obtain⟨g0,g1,g2,g3⟩:=hget;have c0:=hc _ _ g0;have c1:=hc _ _ g1;have c2:=hc _ _ g2;have c3:=hc _ _ g3;rw[iQ,bI]at c0 c1 c2 c3;clear hc g0 g1 g2 g3 hx hxm;have key:∀w,Below w1.heap.size w1 w->w.cell? ⟨g,i*4,none⟩=some (.int .i64 x.1)/\w.cell? ⟨g,i*4+1,none⟩=some (.int .i64 x.2.1)/\w.cell? ⟨g,i*4+2,none⟩=some (.int .i32 x.2.2.1)/\w.cell? ⟨g,i*4+3,none⟩=some (.bool x.2.2.2):=λw hb=>⟨by rw[hb.cell (p:=⟨g,i*4,none⟩) hg1];exact c0,by rw[hb.cell (p:=⟨g,i*4+1,none⟩) hg1];exact c1,by rw[hb.cell (p:=⟨g,i*4+2,none⟩) hg1];exact c2,by rw[hb.cell (p:=⟨g,i*4+3,none⟩) hg1];exact c3⟩
   have KC:=ah (λw (hb:Below w2.heap.size w2 w)=>key w (HB2.out.trans (hb.mono HB2.out.size)));clear key c0 c1 c2 c3 hg1;obtain⟨a,wd,r,bd⟩:=x;dsimp only at HX1 KC afp hbd HST HPI;obtain⟨hx1,hx2,hx3⟩:=HX1;have HX3:=ah hx3;have aci:=ah (λ(q':Nat)=>HPI q' (by rw[Si.out];exact hlt) HPA.out);clear hx3 HPI;obtain⟨X,hX⟩:∃X,Xg rs t i (a,wd,r,bd)=X:=⟨_,rfl⟩
   rw[hX]at HST;have hlen:=Jm zs (L.take i) ([],true) (λp hp=>HTX.out p (List.mem_of_mem_take hp));have Qa:(nu zs (L.take i)).1.length<=12*i:=by unfold nu;rw[jh]at hlen;have h0:(([],true):List UInt8×Bool).1.length=0:=rfl;have h1:min i L.length<=i:=Nat.min_le_left _ _;omega
   obtain⟨ol,op,hol⟩:∃ol op,nu zs (L.take i)=(ol,op):=⟨_,_,rfl⟩
   rw[hol]at Qa HST;rw[hol];have afq:i=0->op=true:=λh=>by subst h;have:nu zs (L.take 0)=([],true):=rfl;rw[this]at hol;injection hol with _ h;exact h.symm
   have HOP:=ah afq;clear hlen afq hol;dsimp only at Qa⊢;obtain⟨d0,d1,d2,d3⟩:=KC.out wr HW.out;have HOL:=ah Qa;have HXX:=ah hX;have HBB:=ah hbd;have HXA:=ah (And.intro hx1 hx2);clear Qa hX hbd hx1 hx2;have HQN:=ah (show q<=n2 by have:=HPA.out.1;rw[HZL.out]at this;exact this);clear HPA;go_upto_block 2 with fail;go_cut [8,9] (λvp vq wx=>∃q':Nat,R6 zs M (i+1) q'/\vq= .int .i64 q'/\vp= .bool (op||decide ((a:Int)∈zs))/\Below w2.heap.size w2 wx);case first=>
    go_wp2_with fail;go_loopw [8,9] (λvp vq wq=>∃q':Nat,q<=q'/\q'<=n2/\vq= .int .i64 q'/\vp= .bool (op||decide (q<q'))/\(∀j,q<=j->j<q'->zs.getD j 0<=(a:Int))/\Below w2.heap.size w2 wq) (λ_ vq _=>n2-(RowKit.intOf vq).toNat);case atStart=>exact⟨q,ay _,HQN.out,rfl,by rw[aP (dA q),Bool.or_false],λj h1 h2=>absurd h2 (Nat.not_lt.2 h1),HW.out⟩
    case round=>
     obtain⟨q',hq1,hq2,rfl,rfl,hlo,hbw⟩:=hrel;have HQ:=ah hbw;have mY:=ah hlo;have HQ1:=ah (And.intro hq1 hq2);obtain⟨d0,d1,d2,d3⟩:=KC.out wr hbw;have hq0:(0:Int)<=q':=rQ q';clear hlo hq1;by_cases hlt2:q'<n2
     ·obtain⟨g2,o2,rfl,hg2,hcl⟩:=(ig HI2.out hbw).at_ (by omega);have e0:=hcl q' hlt2;obtain⟨z,hz⟩:∃z,zs.getD q' 0=z:=⟨_,rfl⟩
      rw[hz]at e0;have HZ:=ah hz;have hqi:(q':Int)<n2:=by omega
      have HWQ:=ah (show wrap64 ((q':Int)+1)=((q'+1:Nat):Int)by unfold wrap64;have:=HN2.out;omega);clear hcl hg2 hz hbw;by_cases hle:z<=(a:Int)
      ·have dle:=aO hle;have HLE:=ah hle;clear hle;go_wp2_with fail;go_quiet (fail);go_wp2_with fail;rw[HWQ.out];exact⟨⟨q'+1,Nat.le_succ_of_le HQ1.out.1,hlt2,rfl,by rw[aO (Nat.lt_succ_of_le HQ1.out.1),Bool.or_true],λj h1 h2=>by
        rcases aF j q' with c|c;·exact mY.out j h1 c
        ·obtain rfl:j=q':=by omega
         rw[HZ.out];exact HLE.out,zC HQ.out _⟩,by simp[RowKit.intOf];omega⟩
      ·have dle:=aP hle;have HLE:=ah hle;clear hle;go_wp2_with fail;go_quiet (fail);go_wp2_with fail;go_meet;obtain⟨k1,k2⟩:=aci.out q' HQ1.out.1 (by rw[HZL.out];exact HQ1.out.2) mY.out (.inr (by rw[HZ.out];have:=HLE.out;omega));exact⟨q',k1,rfl,by rw[aam HOP.out k2],zC HQ.out _⟩
     ·obtain rfl:q'=n2:=by omega
      clear hbw;go_wp2_with fail;go_quiet (fail);go_wp2_with fail;go_meet;obtain⟨k1,k2⟩:=aci.out q' HQ1.out.1 (by rw[HZL.out];exact HQ1.out.2) mY.out (.inl HZL.out.symm);exact⟨q',k1,rfl,by rw[aam HOP.out k2],zC HQ.out _⟩
   case rest=>
    obtain⟨q',hpc,rfl,rfl,hbw⟩:=hcut;have HQ:=ah hbw;have HPA:=ah hpc;clear hpc aci HOP HQN HW d0 d1 d2 d3;obtain⟨o1,ho1⟩:∃o1,(op||decide ((a:Int)∈zs))=o1:=⟨_,rfl⟩
    rw[ho1];obtain⟨d0,d1,d2,d3⟩:=KC.out wc hbw;clear hbw;have hov:∀Y:ByteArray,Y.size<=12->¬0x7fffffffffffffff<ol.length+Y.size:=λY hY=>by have:=HOL.out;have:=Rl.out;omega
    have HOV:=ah hov;have wI:=ah (show wrap64 ((i:Int)+1)=((i+1:Nat):Int)by unfold wrap64;have:=Rl.out;omega);have KEY:=ah (λ(Y:List UInt8) (YB:ByteArray) (o':Bool) (w':World) (h:nu zs (L.take (i+1))=(ol++Y,o')) (hY:(⟨Y.toArray⟩:ByteArray)=YB) (hb:Below w2.heap.size w2 w')=>
     show(∃(i2 q:Nat),i2<=N/\Value.int .i64 ((i+1:Nat):Int)= .int .i64 i2/\Value.int .i64 (q':Int)= .int .i64 q/\R6 zs M i2 q/\Value.string ((⟨ol.toArray⟩:ByteArray)++YB)= .string ⟨(nu zs (L.take i2)).1.toArray⟩/\Value.bool o'= .bool (nu zs (L.take i2)).2/\Below w2.heap.size w2 w')/\N-(RowKit.intOf (.int .i64 ((i+1:Nat):Int))).toNat<N-(RowKit.intOf (.int .i64 (i:Int))).toNat from
      ⟨⟨i+1,q',hlt,rfl,rfl,HPA.out,by rw[h,<-hY,abT],by rw[h],hb⟩,by simp[RowKit.intOf];omega⟩)
    clear hov HPA;cases bd;case true=>
     obtain⟨rfl,rfl⟩:=HBB.out rfl;have HY:=ah (show nu zs (L.take (i+1))=(ol++(t.drop a).take 1,o1)by
      rw[HST.out,<-HXX.out];refine(CZ ho1 ?_).trans ?_;·rw[show Cases.cased ((65533:Nat):Int)=false by decide+kernel,Bool.and_false]
      ·unfold Xg;rw[au rfl])
     obtain⟨YB,hYB⟩:∃YB:ByteArray,(⟨((t.drop a).take 1).toArray⟩:ByteArray)=YB:=⟨_,rfl⟩
     have hys:YB.size<=12:=by rw[size_mk _ YB hYB,jh];omega
     have hov:=HOV.out YB hys;have ha0:(0:Int)<=a:=rQ a;have hxa:=HXA.out;have hsl:∀W,(Instr.slice 9 (.string s) (some (.int .i64 (a:Int))) (some (.int .i64 (wrap64 ((a:Int)+1)))) none).run Tryz.prog W= .ok (.string YB) W:=λW=>by rw[show wrap64 ((a:Int)+1)=(a:Int)+1 by have:=HN.out;unfold wrap64;omega,run_slice_string _ _ _ _ _ _ _ Tryz.underlying9 ha0 (by omega) (by have:=BI.out;omega),mg,show((a:Int)+1).toNat=a+1 by omega,<-HS.out,ByteArray.extract_mk,<-hYB];rw[show a+1-a=1 by omega]
     have HYB:=ah hYB;clear hYB hys hxa;go_wp2_with fail;go_quiet (fail);go_wp2_with fail;rw[wI.out];exact KEY.out _ _ _ _ HY.out HYB.out (zC HQ.out _)
    case false=>
     have hri:=(jc _).1 HX3.out;have HRI:=ah (show-2147483648<=(r:Int)/\(r:Int)<=2147483647 by omega);have HIR:=ah (show rZ (rs.getD i 0)=true by rw[afp.out];exact HX3.out);have HXS:=ah (show X=mX (kS rs i)by rw[<-HXX.out];unfold Xg;rw[aj oN]);have HO1:=ah ho1;obtain⟨F0,hF0⟩:∃F:ByteArray,(⟨(mX (kS rs i)).toArray⟩:ByteArray)=F:=⟨_,rfl⟩
     obtain⟨F2,hF2⟩:∃F:ByteArray,(⟨(mX (formV r 2)).toArray⟩:ByteArray)=F:=⟨_,rfl⟩
     have hv0:=HOV.out F0 (by rw[size_mk _ F0 hF0];exact bF (lU _) (by have:=xR rs i;omega));have hv2:=HOV.out F2 (by rw[size_mk _ F2 hF2];exact bF (lU _) (by have:=formV_len r 2;omega));have HF0:=ah hF0;have HF2:=ah hF2;clear hri ho1 hF0 hF2;cases hcs:Cases.cased r<;>cases o1;all_goals
      have vZ:=ah hcs;clear hcs;go_wp2_with (first
       |(go_at_call 65;refine(wD r HRI.out _ _ (bH HB.out (HB1.out.trans ((HB2.out.trans (HQ.out.mono HB2.out.size)).mono HB1.out.size)))).mono ?_;rintro e w5 ⟨rfl,hb⟩;rw[vZ.out];have HQ5:=ah (HQ.out.trans (hb.mono HQ.out.size));obtain⟨f0,f1,f2,f3⟩:=KC.out _ HQ5.out;clear hb)
       |(go_at_call 67;refine(form2_ok r HRI.out 2 (by decide) _ _ (uK HB.out.1 (HB1.out.trans ((HB2.out.trans (HQ5.out.mono HB2.out.size)).mono HB1.out.size)))).mono ?_;rintro e w6 ⟨sf,rfl,hsf,hb⟩;have HSF:=ah hsf;have HQ6:=ah (HQ5.out.trans (hb.mono HQ5.out.size));clear hb hsf)
       |(go_at_call 68;refine(G7 rs _ g N _ i hlt _ (bH HB.out (HB1.out.trans ((HB2.out.trans (HQ5.out.mono HB2.out.size)).mono HB1.out.size))) (HMR.out.below (HB2.out.trans (HQ5.out.mono HB2.out.size)))).mono ?_;rintro e w7 ⟨sg,rfl,hsf,hb⟩;have HSG:=ah hsf;have HQ7:=ah (HQ5.out.trans (hb.mono HQ5.out.size));clear hb hsf)
       |(go_at_call 68;refine(G7 rs _ g N _ i hlt _ (bH HB.out (HB1.out.trans ((HB2.out.trans (HQ.out.mono HB2.out.size)).mono HB1.out.size))) (HMR.out.below (HB2.out.trans (HQ.out.mono HB2.out.size)))).mono ?_;rintro e w7 ⟨sg,rfl,hsf,hb⟩;have HSG:=ah hsf;have HQ7:=ah (HQ.out.trans (hb.mono HQ.out.size));clear hb hsf)
       |(go_at_call 66;refine(Lc (kS rs i) _ _ HSG.out (bF (xR rs i) (by decide)) (Od rs i HIR.out)).mono ?_;rintro e w8 ⟨rfl,hb⟩;rw[HF0.out];have HQ8:=ah (HQ7.out.trans (hb.mono HQ7.out.size));clear hb)
       |(go_at_call 66;refine(Lc (formV r 2) _ _ HSF.out (bF (formV_len r 2) (by decide)) (form_facts r HX3.out 2 (by decide)).2.1).mono ?_;rintro e w8 ⟨rfl,hb⟩;rw[HF2.out];have HQ8:=ah (HQ6.out.trans (hb.mono HQ6.out.size));clear hb))
     all_goals
      rw[wI.out];first
       |exact KEY.out _ _ true _ (by rw[HST.out,HXS.out];exact CZ HO1.out (by rw[vZ.out];rfl)) HF0.out HQ8.out
       |exact KEY.out _ _ false _ (by rw[HST.out,HXS.out];exact CZ HO1.out (by rw[vZ.out];rfl)) HF0.out HQ8.out
       |exact KEY.out _ _ false _ (by rw[HST.out];exact LG HO1.out vZ.out) HF2.out HQ8.out
  ·obtain rfl:i=N:=by omega
   have htk:L.take i=L:=xG (by rw[GK.out];exact ay _);rw[htk,HTI.out];clear htk;go_wp2_with fail;go_ret;exact⟨rfl,HB1.out.trans ((HB2.out.trans (HW.out.mono HB2.out.size)).mono HB1.out.size)⟩
end
def Qb (w:World):Prop:=Calls Tryz.prog 10 #[] w λe w'=>e= .returned (.bool true)/\Below w.heap.size w w'
def acj (w:World):Prop:=Calls Tryz.prog 12 #[] w λe w'=>∃v,e= .returned v/\P9 w' v/\Below w.heap.size w w'
def C9 (W:World) (e:Ending) (w':World):Prop:=e= .returned (.bool true)/\Below W.heap.size W w'
theorem LM (S:ByteArray) (h:40<S.size) (W:World) (hlive:Qb W):Calls Tryz.prog 3 #[.string S] W (C9 W):=by
 have HL:=ah hlive;clear hlive;have h1:(40:Int)<S.size:=by omega
 go_enter Tryz.func3,Tryz.ntmps3;go_wp2_with (go_at_call 10;refine HL.out.mono ?_;rintro e w1 ⟨rfl,hb⟩;have HB:=ah hb;clear hb);all_goals go_ret
 all_goals exact⟨rfl,HB.out⟩
theorem Jp (S:ByteArray) (h:S.size<=40) (W:World) (hO:∀w,Below W.heap.size W w->EF w) (hT:Lib.Utf8Tabs 2 3 W) (hW:∀w,Below W.heap.size W w->Vs w) (hN:∀w,Below W.heap.size W w->acj w) (hlive:∀w,Below W.heap.size W w->Qb w):
 Calls Tryz.prog 3 #[.string S] W (C9 W):=by
 obtain⟨t,ht⟩:∃t:List UInt8,(⟨t.toArray⟩:ByteArray)=S:=⟨S.data.toList,by cases S;simp⟩
 have hl:t.length<=40:=by rw[<-size_mk t S ht];exact h
 obtain⟨X,hX⟩:∃X:ByteArray,(⟨(titleT t).toArray⟩:ByteArray)=X:=⟨_,rfl⟩
 have DT:=ah (λv w (hv:P9 w v)=>show Calls Tryz.prog 13 #[v, .string S] w λe w'=>e= .returned (.string X)/\Below w.heap.size w w' from by
  rw[<-ht,<-hX];exact R9 t v w hv (by omega))
 have PT:=ah (λw (hb:Below W.heap.size W w)=>show Calls Tryz.prog 11 #[.string S] w λe w'=>e= .returned (.string X)/\Below w.heap.size w w' from by
  rw[<-ht,<-hX];exact R7 t w (hO w hb) (jH hb hT) (by omega) (λw' hb'=>Nu t w' (λw2 hb2=>hW w2 ((hb.trans (hb'.mono hb.size)).trans (hb2.mono (hb.trans (hb'.mono hb.size)).size))) (by omega)))
 have HNW:=ah hN;have HLV:=ah hlive;have h1:¬(40:Int)<S.size:=by omega
 clear ht hX hl hO hT hW hN hlive h;go_enter Tryz.func3,Tryz.ntmps3;go_wp2_with (first
  |(go_at_call 11;refine(PT.out _ (aK _ _)).mono ?_;rintro e w1 ⟨rfl,hb⟩;have HB1:=ah hb;clear hb)
  |(go_at_call 12;refine(HNW.out _ HB1.out).mono ?_;rintro e w2 ⟨v,rfl,hv,hb⟩;have HV:=ah hv;have HB2:=ah (HB1.out.trans (hb.mono HB1.out.size));clear hv hb)
  |(go_at_call 13;refine(DT.out _ _ HV.out).mono ?_;rintro e w3 ⟨rfl,hb⟩;have HB3:=ah (HB2.out.trans (hb.mono HB2.out.size));clear hb)
  |(go_at_call 10;refine(HLV.out _ HB3.out).mono ?_;rintro e w4 ⟨rfl,hb⟩;have YW:=ah (HB3.out.trans (hb.mono HB3.out.size));clear hb))
 go_ret;exact⟨rfl,YW.out⟩
theorem FC (s:ByteArray) (W:World) (hO:∀w,Below W.heap.size W w->EF w) (hT:Lib.Utf8Tabs 2 3 W) (hW:∀w,Below W.heap.size W w->Vs w) (hN:∀w,Below W.heap.size W w->acj w) (hlive:∀w,Below W.heap.size W w->Qb w):
 Calls Tryz.prog 3 #[.string s] W (C9 W):=by
 rcases aF 40 s.size with h|h;·exact LM s h W (hlive W (aK _ _))
 ·exact Jp s h W hO hT hW hN hlive
section
open Je (PT)
noncomputable section
def isB (x:AV) (b:Bool):Bool:=match x with
 | .bool c=>Fh c b
 |_=>false
theorem Jq {x:AV} {b:Bool} (h:isB x b=true) {ι:aV} {v:Value} (hv:VR ι x v):v= .bool b:=by
 unfold isB at h;split at h;·have hv:v=_:=hv;rw[hv,vI h]
 ·cases h
def WB (d:Nat) (t:E AV d):Nat->List Int->Bool
 |_,[]=>true
 |i,x::r=>aA (isInt .i64 (E.get d (path d i) t) x) (WB d t (Nat.succ i) r)
theorem LP {d:Nat} {t:E AV d}:∀{l:List Int} {i:Nat},WB d t i l=true->∀j,j<l.length->isInt .i64 (E.get d (path d (i+j)) t) (l.getD j 0)=true
 |[],_,_,j,hj=>by simp at hj
 |x::r,i,e,j,hj=>by
  obtain⟨h1,h2⟩:=ak e;cases j with
  |zero=>exact h1
  |succ j=>have:=LP h2 j (by simpa using hj);rw[show i+(j+1)=Nat.succ i+j by omega];simpa using this
def WC (h:H) (x:AV) (n s:Nat) (f:(d:Nat)->E AV d->Nat->Bool):Bool:=match x with
 | .jm=>Nat.beq n (nat_lit 0)
 | .slice b off len es _=>aA (Nat.beq len n) (Bool.rec (match h.get b with
   |some (.cells _ _ m d t)=>aA (Nat.beq es s) (aA (Nat.ble (Nat.add off (Nat.mul len es)) m) (f d t off))
   |_=>false) true (Nat.beq n (nat_lit 0)))
 |_=>false
theorem Jr {h:H} {x:AV} {n s:Nat} {f:(d:Nat)->E AV d->Nat->Bool} (e:WC h x n s f=true) {ι:aV} {w:World} {v:Value} (k:WR ι h w) (hv:VR ι x v):
 ∃A c,v= .slice A n c/\(0<n->∃g o d,∃t:E AV d,∃off,A=some ⟨g,o,none⟩/\g<w.heap.size/\f d t off=true/\∀i,i<n*s->∃y,w.cell? ⟨g,o+i,none⟩=some y/\VR ι (E.get d (path d (off+i)) t) y):=by
 unfold WC at e;split at e;·have e:=aI e;subst e;have hv:v= .slice none 0 0:=hv;exact⟨none,0,hv,λc=>absurd c (dA _)⟩
 ·rename_i b off len es z;obtain⟨e1,e2⟩:=ak e;have e1:=aI e1;subst e1;rcases jG len with h0|h0
  ·subst h0;obtain⟨m,y,cap,_,rfl,_⟩:=hv;exact⟨y,cap,rfl,λc=>absurd c (dA _)⟩
  ·have hz:Nat.beq len (nat_lit 0)=false:=by
    cases hq:Nat.beq len (nat_lit 0);·rfl
    ·have:=aI hq;exact absurd h0 (by rw[this];exact dA _)
   rw[hz]at e2;simp only at e2;split at e2
   ·rename_i el ro m d t hb;obtain⟨q1,q2⟩:=ak e2;obtain⟨q3,q4⟩:=ak q2;have q1:=aI q1;subst q1;obtain⟨B,o,cap,rfl,hc,hcell⟩:=eO k hv h0 hb (dh q3);refine⟨_,cap,rfl,λ_=>⟨B,o,d,t,off,rfl,?_,q4,hcell⟩⟩;rcases jG es with c|c
    ·obtain⟨m0,y0,cap0,hm0,e0,_,_,hy0⟩:=hv;obtain⟨arr,iV,lo,hi,hw,_⟩:=k.cells trivial hm0 hb;have hB:m0.B=B:=by
      injection e0 with e0 _ _;rcases hy0 with hy|⟨hy,_⟩
      ·omega
      ·rw[hy]at e0;injection e0 with e0;injection e0 with e0 _ _;exact e0.symm
     rw[<-hB];exact(dM.1 hw).1
    ·obtain⟨y,hy,_⟩:=hcell 0 (Nat.mul_pos h0 c);exact aW hy
   ·cases e2
 ·cases e
def aap (h:H) (x:AV) (l:List Int):Bool:=aA (Nat.ble l.length (nat_lit 100000)) (WC h x l.length (nat_lit 1) λd t off=>WB d t off l)
theorem WE {h:H} {x:AV} {l:List Int} (e:aap h x l=true) {ι:aV} {w:World} {v:Value} (k:WR ι h w) (hv:VR ι x v):∃A n c,v= .slice A n c/\dx w A n l:=by obtain⟨e1,e2⟩:=ak e;obtain⟨A,c,rfl,h1⟩:=Jr e2 k hv;refine⟨A,_,c,rfl,rfl,dh e1,λh0=> ?_⟩;obtain⟨g,o,d,t,off,rfl,hg,q,hc⟩:=h1 h0;refine⟨g,o,rfl,hg,λj hj=> ?_⟩;obtain⟨y,hy,ry⟩:=hc j (by show j<l.length*1;omega);rw[hy,lT (LP q j hj) ry]
mutual
def WG (h:H):PT->AV->AV->AV->Bool
 | .node op cls kids,a,b,k=>aA (isInt .i64 a (Int.ofNat op)) (aA (aap h b (cls.map λ(x:Nat)=>(x:Int))) (WC h k kids.length (nat_lit 3) λd t off=>Qc h kids d t off))
def Qc (h:H):List PT->(d:Nat)->E AV d->Nat->Bool
 |[],_,_,_=>true
 |p::r,d,t,i=>aA (WG h p (E.get d (path d i) t) (E.get d (path d (Nat.add i (nat_lit 1))) t) (E.get d (path d (Nat.add i (nat_lit 2))) t)) (Qc h r d t (Nat.add i (nat_lit 3)))
end
mutual
theorem Js {h:H} {ι:aV} {w:World} (k:WR ι h w):∀(p:PT) {x y z:AV} {a b c:Value},WG h p x y z=true->VR ι x a->VR ι y b->VR ι z c->dR w a b c p
 | .node op cls kids,x,y,z,a,b,c,e,ha,hb,hc=>by
   unfold WG at e;obtain⟨e1,e2⟩:=ak e;obtain⟨e3,e4⟩:=ak e2;unfold dR;obtain⟨A,n,c1,rfl,hI⟩:=WE e3 k hb;obtain⟨A2,c2,rfl,h1⟩:=Jr e4 k hc;refine⟨lT e1 ha,⟨A,n,c1,rfl,hI⟩,A2,c2,rfl,?_⟩;rcases jG kids.length with h0|h0;·rw[tN h0];exact trivial
   ·obtain⟨g,o,d,t,off,rfl,hg,q,hcl⟩:=h1 h0;exact LQ k kids 0 kids.length (by omega) hg (by rw[jU,dG];exact q) hcl
theorem LQ {h:H} {ι:aV} {w:World} (k:WR ι h w):∀(l:List PT) (i n:Nat) {d:Nat} {t:E AV d} {off g o:Nat},i+l.length<=n->g<w.heap.size->Qc h l d t (off+i*3)=true->
 (∀i,i<n*3->∃y,w.cell? ⟨g,o+i,none⟩=some y/\VR ι (E.get d (path d (off+i)) t) y)->lF w (some ⟨g,o,none⟩) i l
 |[],_,_,_,_,_,_,_,_,_,_,_=>trivial
 |p::r,i,n,d,t,off,g,o,hn,hg,e,hc=>by unfold Qc at e;obtain⟨e1,e2⟩:=ak e;rw[bT]at hn;unfold lF;obtain⟨y0,z0,s0⟩:=hc (i*3) (by omega);obtain⟨y1,z1,s1⟩:=hc (i*3+1) (by omega);obtain⟨y2,z2,s2⟩:=hc (i*3+2) (by omega);exact⟨⟨g,o,y0,y1,y2,rfl,hg,z0,z1,z2,Js k p e1 s0 s1 s2⟩,LQ k r (i+1) n (by omega) hg (by rw[fD,<-l8];exact e2) hc⟩
end
def fineP (p:PT):Bool:=aA (p9 p) (aA (NT p) (Nat.ble (kL p) 2000))
theorem fineP_ok {p:PT} (h:fineP p=true):NZ p:=by obtain⟨h1,h2⟩:=ak h;obtain⟨h3,h4⟩:=ak h2;exact⟨h1,h3,dh h4⟩
def wT (d:Nat) (t:E AV d) (i k:Nat):AV:=E.get d (path d (Nat.add i k)) t
def aaq (h:H) (d:Nat) (t:E AV d) (i:Nat) (r:PR):Bool:=
 aA (aA (isB (wT d t i 0) r.brk) (aA (isB (wT d t i 1) r.fst) (aA (isB (wT d t i 2) r.Y7) (Fh r.Y7 false)))) (aA (aA (WG h r.left (wT d t i 3) (wT d t i 4) (wT d t i 5)) (WG h r.right (wT d t i 6) (wT d t i 7) (wT d t i 8))) (aA (fineP r.left) (fineP r.right)))
def Oe (h:H) (d:Nat) (t:E AV d):Nat->List PR->Bool
 |_,[]=>true
 |i,r::l=>aA (aaq h d t i r) (Oe h d t (Nat.add i (nat_lit 9)) l)
theorem G8 {h:H} {d:Nat} {t:E AV d}:∀{l:List PR} {i:Nat},Oe h d t i l=true->∀j r,l[j]? =some r->aaq h d t (i+j*9) r=true
 |[],_,_,j,r,hj=>by simp at hj
 |x::l,i,e,j,r,hj=>by
  obtain⟨h1,h2⟩:=ak e;cases j with
  |zero=>
   obtain rfl:x=r:=by simpa using hj
   rw[jU,dG];exact h1
  |succ j=>have:=G8 h2 j r (by simpa using hj);rw[show i+(j+1)*9=Nat.add i (nat_lit 9)+j*9 by rw[fD];show _=i+9+_;omega];exact this
def LU (h:H) (x:AV) (l:List PR):Bool:=aA (aA (Nat.ble (nat_lit 1) l.length) (Nat.ble l.length (nat_lit 64))) (WC h x l.length (nat_lit 9) λd t off=>Oe h d t off l)
theorem WH {w:World} {a b c:Value} {p:PT} (h:dR w a b c p):(∃op:Nat,a= .int .i64 op)/\(∃A n d,b= .slice A n d)/\∃A n d,c= .slice A n d:=by cases p;unfold dR at h;obtain⟨h1,⟨A,n,c,h2,_⟩,A2,c2,h3,_⟩:=h;exact⟨⟨_,h1⟩,⟨A,n,c,h2⟩,A2,_,c2,h3⟩
theorem LV {h:H} {x:AV} {l:List PR} (e:LU h x l=true) {ι:aV} {w:World} {v:Value} (k:WR ι h w) (hv:VR ι x v):∃g o c,v= .slice (some ⟨g,o,none⟩) l.length c/\o9 w g o l:=by
 obtain⟨e1,e2⟩:=ak e;obtain⟨e3,e4⟩:=ak e1;obtain⟨A,c,rfl,h1⟩:=Jr e2 k hv;obtain⟨g,o,d,t,off,rfl,hg,q,hc⟩:=h1 (dh e3);refine⟨g,o,c,rfl,hg,dh e4,λi r hr=> ?_⟩;have hi:i<l.length:=(pJ.1 hr).1;obtain⟨q1,q2⟩:=ak (G8 q i r hr);obtain⟨b0,q1⟩:=ak q1;obtain⟨b1,q1⟩:=ak q1;obtain⟨b2,b3⟩:=ak q1;obtain⟨q3,q4⟩:=ak q2;obtain⟨pl,pr⟩:=ak q3;obtain⟨fl,fr⟩:=ak q4;have cell:∀j,j<9->∃y,w.cell? ⟨g,o+i*9+j,none⟩=some y/\VR ι (wT d t (off+i*9) j) y:=λj hj=>by obtain⟨y,hy,ry⟩:=hc (i*9+j) (by show i*9+j<l.length*9;omega);rw[<-l8]at hy ry;exact⟨y,hy,ry⟩
 obtain⟨y0,z0,s0⟩:=cell 0 (by omega);obtain⟨y1,z1,s1⟩:=cell 1 (by omega);obtain⟨y2,z2,s2⟩:=cell 2 (by omega);obtain⟨y3,z3,s3⟩:=cell 3 (by omega);obtain⟨y4,z4,s4⟩:=cell 4 (by omega);obtain⟨y5,z5,s5⟩:=cell 5 (by omega);obtain⟨y6,z6,s6⟩:=cell 6 (by omega);obtain⟨y7,z7,s7⟩:=cell 7 (by omega);obtain⟨y8,z8,s8⟩:=cell 8 (by omega);have hl:=Js k r.left pl s3 s4 s5;have hr:=Js k r.right pr s6 s7 s8;obtain⟨⟨o1,rfl⟩,⟨A4,n4,d4,rfl⟩,A5,n5,d5,rfl⟩:=WH hl;obtain⟨⟨o2,rfl⟩,⟨A7,n7,d7,rfl⟩,A8,n8,d8,rfl⟩:=WH hr;obtain rfl:=Jq b0 s0;obtain rfl:=Jq b1 s1;obtain rfl:=Jq b2 s2;refine⟨vI b3,⟨o1,A4,n4,d4,A5,n5,d5,o2,A7,n7,d7,A8,n8,d8⟩,⟨hl,hr,fineP_ok fl,fineP_ok fr⟩,λj x hx=> ?_⟩;match j,hx with
 |0,hx=>cases hx;exact z0
 |1,hx=>cases hx;exact z1
 |2,hx=>cases hx;exact z2
 |3,hx=>cases hx;exact z3
 |4,hx=>cases hx;exact z4
 |5,hx=>cases hx;exact z5
 |6,hx=>cases hx;exact z6
 |7,hx=>cases hx;exact z7
 |8,hx=>cases hx;exact z8
 |j+9,hx=>simp[zw.cells]at hx
end
end
noncomputable section
def Og (v:AV) (h:H):Bool:=match v with
 | .ptr b off=>match h.get b with
   |some (.cells _ _ n d t)=>aA (Nat.ble (Nat.add off (nat_lit 3)) n) (aA (Cy h (E.get d (path d (Nat.add off (nat_lit 0))) t) (uN gF 19)) (aA (LU h (E.get d (path d (Nat.add off (nat_lit 1))) t) lG) (isB (E.get d (path d (Nat.add off (nat_lit 2))) t) true)))
   |_=>false
 |_=>false
theorem Sb {ι:aV} {h:H} {w:World} {x:AV} {v:Value} (e:Og x h=true) (k:WR ι h w) (hv:VR ι x v):GU w v gF 19 lG true:=by
 unfold Og at e;split at e
 ·rename_i b off;split at e
  ·rename_i el ro n d t hb;obtain⟨e0,e⟩:=ak e;obtain⟨e1,e⟩:=ak e;obtain⟨e2,e3⟩:=ak e;obtain⟨B,o,rfl,hc⟩:=iB (c:=3) k hv hb (dh e0);obtain⟨y0,z0,s0⟩:=hc 0 (by omega);obtain⟨y1,z1,s1⟩:=hc 1 (by omega);obtain⟨y2,z2,s2⟩:=hc 2 (by omega);obtain⟨g,og,c,rfl,hR⟩:=LV e2 k s1;obtain rfl:=Jq e3 s2;exact⟨B,o,y0,g,og,c,rfl,aW z0,z0,z1,z2,En e1 k s0,hR⟩
  ·cases e
 ·cases e
def Qd (v:AV) (h:H):Bool:=aA (I6 v h) (match v with
 | .ptr b off=>match h.get b with
   |some (.cells _ _ n d t)=>aA (Nat.ble (Nat.add off (nat_lit 4)) n) (Og (E.get d (path d (Nat.add off (nat_lit 3))) t) h)
   |_=>false
 |_=>false)
theorem WI {ι:aV} {h:H} {w:World} {x:AV} {v:Value} (e:Qd x h=true) (k:WR ι h w) (hv:VR ι x v):P9 w v:=by
 obtain⟨e1,e2⟩:=ak e;refine⟨U2 e1 k hv,?_⟩;split at e2
 ·rename_i b off;split at e2
  ·rename_i el ro n d t hb;obtain⟨f0,f1⟩:=ak e2;obtain⟨B,o,rfl,hc⟩:=iB (c:=4) k hv hb (dh f0);obtain⟨y,z,s⟩:=hc 3 (by omega);exact⟨B,o,y,rfl,z,Sb f1 k s⟩
  ·cases e2
 ·cases e2
