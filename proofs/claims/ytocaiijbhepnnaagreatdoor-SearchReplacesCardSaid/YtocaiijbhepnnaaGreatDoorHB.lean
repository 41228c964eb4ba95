/- SearchReplaces, walked: the document's runes, edges, places, Every, All. -/
import Derived.Test.YtocaiijbhepnnaaGreatDoorGC
set_option maxRecDepth 100000
set_option maxHeartbeats 8000000
namespace Go.Proofs.YtocaiijbhepnnaaGreatDoor.searchReplaces
open Go.Shelf Go.RowKit Go.Lib Go.Proofs.YtocaiijbhepnnaaGreatDoor.Am
section
variable {α:Type} (enc:α->List Value)
def uL (l:List α):List Value:=l.flatMap enc
theorem BH (l x:List α):uL enc (l++x)=uL enc l++uL enc x:=by simp[uL]
theorem BI (a:α):uL enc [a]=enc a:=by simp[uL]
theorem wF {s:Nat} (h:∀a,(enc a).length=s):∀l:List α,(uL enc l).length=l.length*s
 |[]=>by simp[uL]
 |a::l=>by have ih:=wF h l;show(enc a++uL enc l).length=_;rw[bG,ih,h,bK,fP,Nat.one_mul,Nat.add_comm]
theorem OD {s:Nat} (h:∀a,(enc a).length=s) (d:α):∀(l:List α) (k i:Nat),k<l.length->i<s->(uL enc l)[k*s+i]? =(enc (l.getD k d))[i]?
 |[],k,_,hk,_=>absurd hk (jh k)
 |a::l,0,i,_,hi=>by show(enc a++uL enc l)[0*s+i]? =_;rw[kL,bL,pI (by rw[h];exact hi)];rfl
 |a::l,k+1,i,hk,hi=>by have ih:=OD h d l k i (by simpa using hk) hi;show(enc a++uL enc l)[(k+1)*s+i]? =_;rw[fP,Nat.one_mul,rH (by rw[h];omega),h,show k*s+s+i-s=k*s+i by omega,ih];rfl
end
structure JO {α:Type} (enc:α->List Value) (s:Nat) (d:α) (w:World) (A:Option Addr) (n:Nat) (l:List α):Prop where
 len:l.length=n
 small:n<=100000
 at_:0<n->∃g,A=some ⟨g,0,none⟩/\g<w.heap.size/\∀j,j<n->∀i u,i<s->(enc (l.getD j d))[i]? =some u->w.cell? ⟨g,j*s+i,none⟩=some u
theorem JO.below {α:Type} {enc:α->List Value} {s:Nat} {d:α} {w w':World} {A:Option Addr} {n:Nat} {l:List α} (h:JO enc s d w A n l) (hb:Below w.heap.size w w'):JO enc s d w' A n l:=
 ⟨h.len,h.small,λh0=>by
  obtain⟨g,e,hg,hc⟩:=h.at_ h0;exact⟨g,e,bH hg hb.size,λj hj i u hi hu=>by rw[hb.cell (p:=⟨g,j*s+i,none⟩) hg];exact hc j hj i u hi hu⟩⟩
theorem JQ {α:Type} {enc:α->List Value} {s:Nat} (hs:∀a,(enc a).length=s) (d:α) {w:World} {base n c:Nat} {A:Option Addr} {T:TypeId} {l:List α} (hn:l.length=n) (h:w.ownsRow base T s (.slice A n c) n (uL enc l)) (hm:n<=100000):JO enc s d w A n l:=by refine⟨hn,hm,λh0=> ?_⟩;obtain⟨g,rfl⟩:=sO h h0;refine⟨g,rfl,(bB h (g:=g) rfl).2.1,λj hj i u hi hu=> ?_⟩;have c:=qX (g:=g) h rfl (j*s+i) u (by rw[OD enc hs d l j i (by omega) hi];exact hu);rw[iA,bL]at c;exact c
section
variable {α:Type} {enc:α->List Value} {s:Nat} {T:TypeId} {W w w':World} {v v':Value} {acc:List α}
end
section
open Folds (dec bf bW)
abbrev RN:=Nat×Nat×Nat
def IB (x:RN):List Value:=[.int .i32 x.1, .int .i64 x.2.1, .int .i64 x.2.2]
def ZV:RN:=(0,0,0)
theorem BJ (x:RN):(IB x).length=3:=rfl
def Rs (L:Nat):List (Nat×Nat)->List RN
 |[]=>[]
 |[x]=>[(x.2,x.1,L)]
 |x::y::r=>(x.2,x.1,y.1)::Rs L (y::r)
theorem OE (L:Nat):∀(p:List (Nat×Nat)) (z x:Nat×Nat),∃a,Rs L (p++[z])=a++[(z.2,z.1,L)]/\Rs L (p++[z]++[x])=a++[(z.2,z.1,x.1)]++[(x.2,x.1,L)]/\a.length=p.length
 |[],_,_=>⟨[],rfl,rfl,rfl⟩
 |[u],z,x=>⟨[(u.2,u.1,z.1)],rfl,rfl,rfl⟩
 |u::v::r,z,x=>by
  obtain⟨a,h1,h2,h3⟩:=OE L (v::r) z x;refine⟨(u.2,u.1,v.1)::a,?_,?_,by simpa using h3⟩;·show(u.2,u.1,v.1)::Rs L (v::r++[z])=_;rw[h1];rfl
  ·show(u.2,u.1,v.1)::Rs L (v::r++[z]++[x])=_;rw[h2];rfl
theorem TW (L:Nat):∀l:List (Nat×Nat),(Rs L l).length=l.length
 |[]=>rfl
 |[_]=>rfl
 |x::y::r=>by show(Rs L (y::r)).length+1=_;rw[TW L (y::r)];rfl
theorem ac8:(Tryz.prog.info? 145).map (λi=>(i.zero,i.size,i.bytes))=some (some (.agg #[.int .i32 0, .int .i64 0, .int .i64 0]),3,24):=by kernel_rfl
theorem OG (w:World) (m:RN) (ty:TypeId):∀j u,(IB m)[j]? =some u->(w.alloc (.cells (IB m).toArray ty)).cell? ((⟨w.heap.size,0,none⟩:Addr).add j)=some u:=by intro j u hu;rw[iA,bL,bA _ _ _ _ _ _ (cO w _),<-hu];simp
theorem VZ (w:World) (m:RN) (ty:TypeId) (k:Nat) (hk:w.heap.size=k):∀j u,(IB m)[j]? =some u->(w.alloc (.cells (IB m).toArray ty)).cell? ((⟨k,0,none⟩:Addr).add j)=some u:=by subst hk;exact OG w m ty
theorem OH (m:RN):∀u∈IB m,u.oneCell'=true:=by intro u hu;simp[IB]at hu;rcases hu with rfl|rfl|rfl<;>rfl
structure Ru (W:World) (s:ByteArray) (e m:Nat) (v:Value) (acc:List RN) (w:World):Prop where
 aB:Below W.heap.size W w
 it:w.heap[W.heap.size]? =some (.stringIter s e)
 own:w.ownsRow W.heap.size 145 3 v m (uL IB acc)
section
variable {W w w':World} {s:ByteArray} {e m:Nat} {v:Value} {acc:List RN}
theorem Ru.below (h:Ru W s e m v acc w) (hb:Below w.heap.size w w'):Ru W s e m v acc w':=
 ⟨h.aB.trans (hb.mono h.aB.size),bM hb h.it,own_below hb h.own⟩
theorem Ru.iter (h:Ru W s e m v acc w) (e':Nat):Ru W s e' m v acc (w.iterAt W.heap.size s e'):=
 ⟨below_iterAt h.aB (ay _) s e',iterAt_heap w _ s e e' h.it,own_iterAt h.it h.own⟩
theorem Ru.grow (h:Ru W s e m v acc w) {o:Obj} {v':Value} {x:RN} (ho:w'.ownsRow W.heap.size 145 3 v' (m+1) (uL IB acc++IB x)) (hg:(w.alloc o).grownBy w' v.ownBlock):Ru W s e (m+1) v' (acc++[x]) w':=by have h':=h.below ((aF _ w).alloc (ay _) o);refine⟨h'.aB.grown hg h'.aB.size (λk hk=>(bB h'.own hk).1),?_,by rw[BH,BI];exact ho⟩;rw[hg.block _ (bU h'.it) (λc=>by obtain⟨_,_,cur,hc⟩:=bB h'.own (g:=W.heap.size) (by first|exact c|exact c.symm);rw[h'.it]at hc;cases hc)];exact h'.it
theorem ZW (a:List RN) (r f t u:Nat):(uL IB (a++[(r,f,t)])).set (a.length*3+2) (.int .i64 (u:Int))=uL IB (a++[(r,f,u)]):=by rw[BH,BH,BI,BI,List.set_append_right _ _ (by rw[wF IB BJ];omega),wF IB BJ,pJ];rfl
theorem Ru.last {g c:Nat} {a:List RN} {r f t:Nat} (h:Ru W s e m (.slice (some ⟨g,0,none⟩) m c) (a++[(r,f,t)]) w) (u:Nat) (hgs:g≠W.heap.size):Ru W s e m (.slice (some ⟨g,0,none⟩) m c) (a++[(r,f,u)]) (w.setCell ⟨g,a.length*3+2,none⟩ (.int .i64 (u:Int))):=by
 have hl:=bB h.own (g:=g) rfl;refine⟨Below.setCell h.aB hl.1 _,?_,?_⟩;·rw[xY _ _ _ _ (λc=>hgs c.symm)];exact h.it
 ·have:=(h.own.stored (a.length*3+2) (.int .i64 (u:Int))).1;rwa [ZW]at this
end
def BK (t:List UInt8):List RN:=Rs t.length (marks t)
theorem yD (t:List UInt8):(BK t).length=(marks t).length:=TW _ _
def ZX (t:List UInt8) (W:World) (e:Ending) (w':World):Prop:=∃A n c,e= .returned (.slice A n c)/\JO IB 3 ZV w' A n (BK t)/\Below W.heap.size W w'
theorem Dn (t:List UInt8) (W:World) (hn:t.length<=10000):Calls Tryz.prog 89 #[.string ⟨t.toArray⟩] W (ZX t W):=by
 obtain⟨s,hs⟩:∃s:ByteArray,(⟨t.toArray⟩:ByteArray)=s:=⟨_,rfl⟩
 have hss:s.size=t.length:=size_mk t s hs;rw[hs];have HS:=ah hs;have lI:=ah hss;have TF:=ah hn;clear hs hss hn;obtain⟨i0,hI0,hz0,hz1,hz2⟩:=eD ac8;go_enter Tryz.func89,Tryz.ntmps89;go_wp2_with fail;go_loopw [3] (λvo wr=>∃(e f m:Nat) (A:Option Addr) (c:Nat) (p:List (Nat×Nat)),vo= .slice A m c/\Ru W s e m (.slice A m c) (Rs t.length p) wr/\e<=s.size/\s.size<f+e+1/\m<=e/\p.length=m/\p++aD t f e=marks t) (λ_ wr=>s.size-wr.iterPos W.heap.size);case atStart=>exact⟨0,t.length,0,none,0,[],rfl,⟨(aF _ W).alloc (ay _) _,cO W _,⟨rfl, .inl ⟨rfl,rfl⟩⟩⟩,aH _,by have:=lI.out;omega,ay _,rfl,rfl⟩
 case round=>
  obtain⟨e,f,m,A,c,p,rfl,ZG,he,hf,hm,hpl,hl⟩:=hrel;have hit:=ZG.it;have HOL:=ah ZG;clear ZG;by_cases hlt:e<s.size
  ·obtain⟨f',rfl⟩:∃f',f=f'+1:=⟨f-1,by omega⟩
   have hlt2:e<t.length:=by have:=lI.out;omega
   unfold aD at hl;rw[ak hlt2]at hl;have hnx:=λty=>run_next_any_at (P:=Tryz.prog) wr _ s e ty hit hlt;rw[iB t e s HS.out]at hnx;have hne2:t.drop e≠[]:=by intro c;rw[jy]at c;have:=lI.out;omega
   have hd1:=bf (t.drop e);have hd2:=bW (t.drop e) hne2;rw[bZ,<-lI.out]at hd2;obtain⟨r,hr⟩:∃r,(dec (t.drop e)).1=r:=⟨_,rfl⟩
   obtain⟨wd,hwd⟩:∃wd,(dec (t.drop e)).2=wd:=⟨_,rfl⟩
   rw[hwd]at hd1 hd2;rw[hr,hwd]at hnx hl;obtain⟨ew,Db⟩:∃ew,e+wd=ew:=⟨_,rfl⟩
   rw[Db]at hnx hl;have HL:=ah hl;clear hr hwd hl hlt2 hne2;have HLEN:=ah (show m+1<=maxLen/\(m+1)*24<=0x800000000000 by have:=TF.out;have:=lI.out;exact⟨by simp only[maxLen];omega,by omega⟩);have tF:=ah (HOL.out.iter ew);have hq2:wr.iterPos W.heap.size=e:=by unfold World.iterPos;rw[hit]
   have KEY:=ah (λ(B1:Option Addr) (d1:Nat) (w':World) (h:Ru W s ew (m+1) (.slice B1 (m+1) d1) (Rs t.length (p++[(e,r)])) w')=>
    show(∃(e' f m':Nat) (A:Option Addr) (c:Nat) (p:List (Nat×Nat)),Value.slice B1 (m+1) d1= .slice A m' c/\Ru W s e' m' (.slice A m' c) (Rs t.length p) w'/\e'<=s.size/\s.size<f+e'+1/\m'<=e'/\p.length=m'/\p++aD t f e'=marks t)/\s.size-w'.iterPos W.heap.size<s.size-wr.iterPos W.heap.size from by
     refine⟨⟨ew,f',m+1,B1,d1,_,rfl,h,by omega,by omega,by omega,by rw[bG,hpl];rfl,by rw[dR];exact HL.out⟩,?_⟩;have q1:w'.iterPos W.heap.size=ew:=by unfold World.iterPos;rw[h.it]
     rw[q1,hq2];omega)
   have PN:=ah hpl;clear Db hd1 hd2 hf hm he hq2 hlt hpl;have hsz:(s.size:Int)=(t.length:Nat):=by rw[lI.out]
   rcases List.eq_nil_or_concat p with rfl|⟨p0,z,hp0⟩
   ·have hm0:m=0:=PN.out.symm;subst hm0;go_wp2_with (at_builtin;(refine qW _ rfl (.tmp 22) (.tmp 28) 142 rfl W.heap.size 145 i0 _ 3 24 Tryz.underlying142 hI0 hz0 hz1 hz2 rfl (by decide) (.slice A 0 c) 0 (uL IB []) rfl (dZ tF.out.own) ⟨_,0,none⟩ 1 1 (IB (r,e,t.length)) rfl rfl (OG _ _ _) (OH _) (by decide) HLEN.out.1 HLEN.out.2 (jG tF.out.aB.size) _ rfl ?_);intro g cap wq ho hg hl hs);exact KEY.out _ _ _ (tF.out.grow (x:=(r,e,t.length)) ho hg)
   ·obtain⟨a,ha1,ha2,ha3⟩:=OE t.length p0 z (e,r);rw[List.concat_eq_append]at hp0;rw[<-hp0]at ha1 ha2;have hm1:m=a.length+1:=by rw[<-PN.out,hp0,bG,ha3];rfl
    rw[ha1]at tF;rw[ha2]at KEY;have HOW:=tF.out.own;obtain⟨g,rfl⟩:=sO HOW (by omega);have hgs:g≠W.heap.size:=λc=>by obtain⟨_,_,cur,hc⟩:=bB HOW (g:=g) rfl;rw[c,tF.out.it]at hc;cases hc
    have HSL:=ah (tF.out.last (u:=e) hgs);have hcell:=qX (g:=g) HOW rfl (a.length*3+2) (.int .i64 (t.length:Nat)) (by rw[BH,BI,rH (by rw[wF IB BJ];omega),wF IB BJ,pJ];rfl);rw[iA,bL]at hcell;have hfz:(wr.iterAt W.heap.size s ew).frozen? ⟨g,a.length*3+2,none⟩=false:=HOW.frozenAt _;obtain⟨q,hq⟩:∃q,a.length=q:=⟨_,rfl⟩
    rw[hq]at hm1 hcell HSL hfz;subst hm1;have hwq:wrap64 (q:Int)=q:=by have:=HLEN.out.2;unfold wrap64;omega
    have hq0:(0:Int)<(q:Int)+1:=by omega
    clear HOW hgs ha1 ha2 ha3 hp0;go_wp2_with (at_builtin;(refine wpList_append_lies _ rfl (.tmp 22) (.tmp 28) 142 rfl W.heap.size 145 i0 _ 3 24 Tryz.underlying142 hI0 hz0 hz1 hz2 rfl (by decide) (.slice (some ⟨g,0,none⟩) (q+1) c) (q+1) (uL IB (a++[(z.2,z.1,e)])) rfl (dZ HSL.out.own) ⟨_,0,none⟩ 1 1 (IB (r,e,t.length)) rfl rfl (VZ _ _ _ _ (by simp[World.setCell])) (OH _) (by decide) HLEN.out.1 HLEN.out.2 (jG HSL.out.aB.size) _ rfl ?_);intro g3 cap wq ho hg hl hs);exact KEY.out _ _ _ (HSL.out.grow (x:=(r,e,t.length)) ho hg)
  ·obtain rfl:e=s.size:=by omega
   have hz:aD t f s.size=[]:=by
    cases f with
    |zero=>rfl
    |succ f=>unfold aD;rw[aj (by have:=lI.out;omega)]
   rw[hz,fq]at hl;subst hl;clear hz;have hnx:=λty=>run_next_end_at (P:=Tryz.prog) wr _ s s.size ty hit hlt;have hmm:m<=100000:=by have:=lI.out;have:=TF.out;omega
   have HM:=ah hmm;have PN:=ah hpl;clear hf he hm hmm hlt hpl;go_wp2_with fail;go_ret;exact⟨A,m,c,rfl,JQ BJ ZV (by rw[yD];exact PN.out) HOL.out.own HM.out,HOL.out.aB⟩
end
theorem LP {zs:List Int} {k:Nat} (h:k<zs.length):zs.getD k 0∈zs:=by rw[aM,aX h];exact l6 h
theorem uM {zs:List Int} {x:Int} (h:∀j,j<zs.length->¬zs.getD j 0=x):¬x∈zs:=λhm=>by obtain⟨j,hj,he⟩:=uw.1 hm;exact h j hj (by rw[aM,aX hj];exact he)
theorem OJ (zs:List Int) (x:Int) (A:Option Addr) (n c:Nat) (W:World) (hR:bQ W A n zs):
 Calls Tryz.prog 170 #[.slice A n c, .int .i64 x] W λe w'=>e= .returned (.bool (decide (x∈zs)))/\w'=W:=by
 have hsm:=hR.small;have HR:=ah hR;clear hR;go_enter Tryz.func170,Tryz.ntmps170;go_wp2;go_loopw [5] (λi wr=>∃k:Nat,k<=n/\i= .int .i64 k/\(∀j,j<k->¬zs.getD j 0=x)/\wr=W) (λi _=>n-(RowKit.intOf i).toNat);case atStart=>exact⟨0,aH _,rfl,(λj hj=>absurd hj (jh j)),rfl⟩
 case round=>
  obtain⟨k,hk,rfl,hlo,rfl⟩:=hrel;have zO:=ah hlo;clear hlo;by_cases hlt:k<n
  ·obtain⟨g,o,rfl,hg,hc⟩:=HR.out.at_ (by omega);have hck:=hc k hlt;have HM:=ah (LP (zs:=zs) (k:=k) (by rw[HR.out.len];exact hlt));obtain⟨y,hy⟩:∃y,zs.getD k 0=y:=⟨_,rfl⟩
   rw[hy]at hck HM;have HY:=ah hy;have hk0:(0:Int)<=k:=by omega
   have hk1:(k:Int)<n:=by omega
   clear hc hy hg;have hwk:wrap64 ((k:Int)+1)=((k+1:Nat):Int):=by unfold wrap64;omega
   have jX:=ah hwk;clear hwk;by_cases hyx:y=x;·subst hyx;go_wp2;go_ret;exact⟨by rw[bE HM.out];rfl,rfl⟩
   ·have HNX:=ah (show ∀j,j<k+1->¬zs.getD j 0=x from λj hj=>by
     rcases aK j k with c|c;·exact zO.out j c
     ·obtain rfl:j=k:=by omega
      rw[HY.out];exact hyx)
    have hyb:(y==x)=false:=dB.2 hyx;go_wp2;exact⟨⟨k+1,hlt,by first|rw[jX.out]|rfl,HNX.out,by first|rfl|trivial⟩,by first|(rw[jX.out];simp[RowKit.intOf];omega)|(simp[RowKit.intOf];omega)⟩
  ·obtain rfl:k=n:=by omega
   have HN:=ah (uM (zs:=zs) (x:=x) (λj hj=>zO.out j (by rw[<-HR.out.len];exact hj)));go_wp2;go_ret;exact⟨by rw[aZ HN.out];rfl,rfl⟩
theorem ac9 (zs:List Int) (x:Int) (A:Option Addr) (n c:Nat) (W:World) (hR:bQ W A n zs):
 Calls Tryz.prog 183 #[.slice A n c, .int .i64 x] W λe w'=>e= .returned (.bool (decide (x∈zs)))/\w'=W:=by
 have hsm:=hR.small;have HR:=ah hR;clear hR;go_enter Tryz.func183,Tryz.ntmps183;go_wp2;go_loopw [5] (λi wr=>∃k:Nat,k<=n/\i= .int .i64 k/\(∀j,j<k->¬zs.getD j 0=x)/\wr=W) (λi _=>n-(RowKit.intOf i).toNat);case atStart=>exact⟨0,aH _,rfl,(λj hj=>absurd hj (jh j)),rfl⟩
 case round=>
  obtain⟨k,hk,rfl,hlo,rfl⟩:=hrel;have zO:=ah hlo;clear hlo;by_cases hlt:k<n
  ·obtain⟨g,o,rfl,hg,hc⟩:=HR.out.at_ (by omega);have hck:=hc k hlt;have HM:=ah (LP (zs:=zs) (k:=k) (by rw[HR.out.len];exact hlt));obtain⟨y,hy⟩:∃y,zs.getD k 0=y:=⟨_,rfl⟩
   rw[hy]at hck HM;have HY:=ah hy;have hk0:(0:Int)<=k:=by omega
   have hk1:(k:Int)<n:=by omega
   clear hc hy hg;have hwk:wrap64 ((k:Int)+1)=((k+1:Nat):Int):=by unfold wrap64;omega
   have jX:=ah hwk;clear hwk;by_cases hyx:y=x;·subst hyx;go_wp2;go_ret;exact⟨by rw[bE HM.out];rfl,rfl⟩
   ·have HNX:=ah (show ∀j,j<k+1->¬zs.getD j 0=x from λj hj=>by
     rcases aK j k with c|c;·exact zO.out j c
     ·obtain rfl:j=k:=by omega
      rw[HY.out];exact hyx)
    have hyb:(y==x)=false:=dB.2 hyx;go_wp2;exact⟨⟨k+1,hlt,by first|rw[jX.out]|rfl,HNX.out,by first|rfl|trivial⟩,by first|(rw[jX.out];simp[RowKit.intOf];omega)|(simp[RowKit.intOf];omega)⟩
  ·obtain rfl:k=n:=by omega
   have HN:=ah (uM (zs:=zs) (x:=x) (λj hj=>zO.out j (by rw[<-HR.out.len];exact hj)));go_wp2;go_ret;exact⟨by rw[aZ HN.out];rfl,rfl⟩
theorem ada (zs:List Int) (x:Int) (A:Option Addr) (n c:Nat) (W:World) (hR:bQ W A n zs):
 Calls Tryz.prog 281 #[.slice A n c, .int .i64 x] W λe w'=>e= .returned (.bool (decide (x∈zs)))/\w'=W:=by
 have hsm:=hR.small;have HR:=ah hR;clear hR;go_enter Tryz.func281,Tryz.ntmps281;go_wp2;go_loopw [5] (λi wr=>∃k:Nat,k<=n/\i= .int .i64 k/\(∀j,j<k->¬zs.getD j 0=x)/\wr=W) (λi _=>n-(RowKit.intOf i).toNat);case atStart=>exact⟨0,aH _,rfl,(λj hj=>absurd hj (jh j)),rfl⟩
 case round=>
  obtain⟨k,hk,rfl,hlo,rfl⟩:=hrel;have zO:=ah hlo;clear hlo;by_cases hlt:k<n
  ·obtain⟨g,o,rfl,hg,hc⟩:=HR.out.at_ (by omega);have hck:=hc k hlt;have HM:=ah (LP (zs:=zs) (k:=k) (by rw[HR.out.len];exact hlt));obtain⟨y,hy⟩:∃y,zs.getD k 0=y:=⟨_,rfl⟩
   rw[hy]at hck HM;have HY:=ah hy;have hk0:(0:Int)<=k:=by omega
   have hk1:(k:Int)<n:=by omega
   clear hc hy hg;have hwk:wrap64 ((k:Int)+1)=((k+1:Nat):Int):=by unfold wrap64;omega
   have jX:=ah hwk;clear hwk;by_cases hyx:y=x;·subst hyx;go_wp2;go_ret;exact⟨by rw[bE HM.out];rfl,rfl⟩
   ·have HNX:=ah (show ∀j,j<k+1->¬zs.getD j 0=x from λj hj=>by
     rcases aK j k with c|c;·exact zO.out j c
     ·obtain rfl:j=k:=by omega
      rw[HY.out];exact hyx)
    have hyb:(y==x)=false:=dB.2 hyx;go_wp2;exact⟨⟨k+1,hlt,by first|rw[jX.out]|rfl,HNX.out,by first|rfl|trivial⟩,by first|(rw[jX.out];simp[RowKit.intOf];omega)|(simp[RowKit.intOf];omega)⟩
  ·obtain rfl:k=n:=by omega
   have HN:=ah (uM (zs:=zs) (x:=x) (λj hj=>zO.out j (by rw[<-HR.out.len];exact hj)));go_wp2;go_ret;exact⟨by rw[aZ HN.out];rfl,rfl⟩
theorem OM (zs:List Int) (x:Int) (A:Option Addr) (n c:Nat) (W:World) (hR:bQ W A n zs):
 Calls Tryz.prog 179 #[.slice A n c, .int .i64 x] W λe w'=>e= .returned (.bool (decide (x∈zs)))/\w'=W:=by
 have hsm:=hR.small;have HR:=ah hR;clear hR;go_enter Tryz.func179,Tryz.ntmps179;go_wp2;go_loopw [5] (λi wr=>∃k:Nat,k<=n/\i= .int .i64 k/\(∀j,j<k->¬zs.getD j 0=x)/\wr=W) (λi _=>n-(RowKit.intOf i).toNat);case atStart=>exact⟨0,aH _,rfl,(λj hj=>absurd hj (jh j)),rfl⟩
 case round=>
  obtain⟨k,hk,rfl,hlo,rfl⟩:=hrel;have zO:=ah hlo;clear hlo;by_cases hlt:k<n
  ·obtain⟨g,o,rfl,hg,hc⟩:=HR.out.at_ (by omega);have hck:=hc k hlt;have HM:=ah (LP (zs:=zs) (k:=k) (by rw[HR.out.len];exact hlt));obtain⟨y,hy⟩:∃y,zs.getD k 0=y:=⟨_,rfl⟩
   rw[hy]at hck HM;have HY:=ah hy;have hk0:(0:Int)<=k:=by omega
   have hk1:(k:Int)<n:=by omega
   clear hc hy hg;have hwk:wrap64 ((k:Int)+1)=((k+1:Nat):Int):=by unfold wrap64;omega
   have jX:=ah hwk;clear hwk;by_cases hyx:y=x;·subst hyx;go_wp2;go_ret;exact⟨by rw[bE HM.out];rfl,rfl⟩
   ·have HNX:=ah (show ∀j,j<k+1->¬zs.getD j 0=x from λj hj=>by
     rcases aK j k with c|c;·exact zO.out j c
     ·obtain rfl:j=k:=by omega
      rw[HY.out];exact hyx)
    have hyb:(y==x)=false:=dB.2 hyx;go_wp2;exact⟨⟨k+1,hlt,by first|rw[jX.out]|rfl,HNX.out,by first|rfl|trivial⟩,by first|(rw[jX.out];simp[RowKit.intOf];omega)|(simp[RowKit.intOf];omega)⟩
  ·obtain rfl:k=n:=by omega
   have HN:=ah (uM (zs:=zs) (x:=x) (λj hj=>zO.out j (by rw[<-HR.out.len];exact hj)));go_wp2;go_ret;exact⟨by rw[aZ HN.out];rfl,rfl⟩
structure IA (W:World) (v:Value) (m:Nat) (zs:List Int) (w:World):Prop where
 aB:Below W.heap.size W w
 own:w.ownsRow W.heap.size 3 1 v m (bD zs)
section
variable {W w w':World} {m:Nat} {v:Value} {zs:List Int}
theorem IA.nil (W:World):IA W (.slice none 0 0) 0 [] W:=⟨aF _ _,⟨rfl, .inl ⟨rfl,rfl⟩⟩⟩
theorem IA.below (h:IA W v m zs w) (hb:Below w.heap.size w w'):IA W v m zs w':=⟨h.aB.trans (hb.mono h.aB.size),own_below hb h.own⟩
theorem IA.eF (h:IA W v m zs w) {o:Obj}:(w.alloc o).ownsRow W.heap.size 3 1 v m (bD zs):=dZ h.own
theorem IA.grow (h:IA W v m zs w) {o:Obj} {v':Value} {x:Int} (ho:w'.ownsRow W.heap.size 3 1 v' (m+1) (bD zs++[.int .i64 x])) (hg:(w.alloc o).grownBy w' v.ownBlock):IA W v' (m+1) (zs++[x]) w':=by have h':=h.below ((aF _ w).alloc (ay _) o);exact⟨h'.aB.grown hg h'.aB.size (λk hk=>(bB h'.own hk).1),by rw[kZ];exact ho⟩
end
theorem fO {w w':World} {A:Option Addr} {n:Nat} {zs:List Int} (h:bQ w A n zs) (hb:Below w.heap.size w w'):bQ w' A n zs:=eu h hb
theorem TY (L:Nat):∀(l:List (Nat×Nat)) (k:Nat),k<l.length->((Rs L l).getD k ZV).2.1=(l.getD k (0,0)).1
 |[],_,h=>absurd h (jh _)
 |[_],0,_=>rfl
 |[_],_+1,h=>by simp at h
 |_::_::_,0,_=>rfl
 |x::y::r,k+1,h=>by have:=TY L (y::r) k (by simpa using h);show((Rs L (y::r)).getD k ZV).2.1=((y::r).getD k (0,0)).1;exact this
theorem LQ (t:List UInt8) {k:Nat} (h:k<(marks t).length):(((BK t).getD k ZV).2.1:Int)=(eG t).getD k 0:=by unfold BK;rw[TY _ _ _ h];unfold eG;rw[aM,aM,fQ,aX h];rfl
theorem OO (t:List UInt8) {k:Nat} (h:k<(marks t).length):(eG t).take k++[(eG t).getD k 0]=(eG t).take (k+1):=by
 have h':k<(eG t).length:=by unfold eG;rw[dG];exact h
 rw[Bg,aX h',aM,aX h'];rfl
theorem rD (t:List UInt8):(eG t).length=(marks t).length:=by unfold eG;rw[dG]
def gV (t:List UInt8):List Int:=eG t++[(t.length:Int)]
def dL (zs:List Int) (W:World) (e:Ending) (w':World):Prop:=∃A n c,e= .returned (.slice A n c)/\bQ w' A n zs/\Below W.heap.size W w'
theorem Ev {m:Nat} (h:m<=100000):m+1<=maxLen/\(m+1)*8<=0x800000000000:=⟨by simp only[maxLen];omega,by omega⟩
theorem V3 (t:List UInt8) (W:World) (hn:t.length<=10000):Calls Tryz.prog 119 #[.string ⟨t.toArray⟩] W (dL (gV t) W):=by
 obtain⟨s,hs⟩:∃s:ByteArray,(⟨t.toArray⟩:ByteArray)=s:=⟨_,rfl⟩
 have hss:s.size=t.length:=size_mk t s hs;have LM:=ah (Dn t W hn);rw[hs]at LM⊢;have hml:(marks t).length<=10000:=aS (ql t) hn;have WS:=ah hml;clear hml hn hs;obtain⟨i0,hI0,hz0,hz1,hz2⟩:=eD gK;go_enter Tryz.func119,Tryz.ntmps119;go_wp2_with (go_at_call 89;refine LM.out.mono ?_;rintro e w1 ⟨A,n,c,rfl,hR,hb⟩;have HR:=ah hR;have HB:=ah hb;have HN:=ah (hR.len.symm.trans (yD t));clear hR hb);have hn2:n<=10000:=by have:=WS.out;have:=HN.out;omega
 go_loopw [3,5] (λvl vi wr=>∃(k:Nat) (A2:Option Addr) (c2:Nat),k<=n/\vi= .int .i64 k/\vl= .slice A2 k c2/\IA w1 (.slice A2 k c2) k ((eG t).take k) wr) (λ_ vi _=>n-(RowKit.intOf vi).toNat);case atStart=>exact⟨0,none,0,aH _,rfl,rfl,IA.nil w1⟩
 case round=>
  obtain⟨k,A2,c2,hk,rfl,rfl,hA⟩:=hrel;have HA:=ah hA;clear hA;by_cases hlt:k<n
  ·have HLEN:=ah (Ev (show k<=100000 by omega));obtain⟨g,rfl,hg,hc⟩:=HR.out.at_ (by omega);have hkm:k<(marks t).length:=by rw[<-HN.out];exact hlt
   have d1:=hc k hlt 1 _ (by decide) rfl;rw[LQ t hkm]at d1;have Er:=ah (OO t hkm);obtain⟨x,hx⟩:∃x,(eG t).getD k 0=x:=⟨_,rfl⟩
   rw[hx]at d1 Er;have d2:=(HA.out.aB.cell (p:=⟨g,k*3+1,none⟩) hg).trans d1;have hk0:(0:Int)<=k:=by omega
   have hk1:(k:Int)<n:=by omega
   have hwk:wrap64 ((k:Int)+1)=((k+1:Nat):Int):=by unfold wrap64;omega
   have jX:=ah hwk;clear hwk hx hc hg d1 hkm;go_wp2_with (at_builtin;refine aY _ rfl (.tmp 14) (.tmp 20) 41 rfl w1.heap.size 3 i0 _ 8 Tryz.underlying41 hI0 hz0 hz1 hz2 rfl (.slice A2 k c2) k (bD ((eG t).take k)) rfl HA.out.eF _ 1 1 [.int .i64 x] rfl (bY _ _ _) (by simp[Value.oneCell']) HLEN.out.1 HLEN.out.2 (by rw[World.size_alloc];have:=HA.out.aB.size;omega) ?_;intro v' wp ho hg hn;obtain⟨B1,d1,rfl,_⟩:=aL ho;have nT:=Lib.hid (HA.out.grow ho hg);clear ho hg hn);(try rw[jX.out]);exact⟨⟨k+1,_,_,hlt,rfl,rfl,by rw[<-Er.out];exact nT.out⟩,by simp[RowKit.intOf];omega⟩
  ·obtain rfl:k=n:=by omega
   have htk:(eG t).take k=eG t:=nC (by rw[rD,HN.out];exact ay _);rw[htk]at HA;have HLEN:=ah (Ev (show k<=100000 by omega));have ajK:(s.size:Int)=(t.length:Nat):=by rw[hss]
   have HK:=ah (show k+1<=100000 by omega);clear htk hk;go_wp2_with (at_builtin;refine aY _ rfl (.tmp 22) (.tmp 25) 41 rfl w1.heap.size 3 i0 _ 8 Tryz.underlying41 hI0 hz0 hz1 hz2 rfl (.slice A2 k c2) k (bD (eG t)) rfl HA.out.eF _ 1 1 [.int .i64 (t.length:Nat)] rfl (bY _ _ _) (by simp[Value.oneCell']) HLEN.out.1 HLEN.out.2 (by rw[World.size_alloc];have:=HA.out.aB.size;omega) ?_;intro v' wp ho hg hn;obtain⟨B1,d1,rfl,_⟩:=aL ho;have nT:=Lib.hid (HA.out.grow ho hg);clear ho hg hn);go_ret;refine⟨_,_,_,rfl,?_,HB.out.trans (nT.out.aB.mono HB.out.size)⟩;exact gM nT.out.own HK.out
def JR (a b:List Int):List Int:=a.filter λx=>decide (x∈b)
theorem V4 (a b:List Int) {k:Nat} (h:k<a.length):(a.take (k+1)).filter (λx=>decide (x∈b))=(a.take k).filter (λx=>decide (x∈b))++if a.getD k 0∈b then[a.getD k 0]else[]:=by
 rw[Bg,aX h,List.filter_append,aM,aX h];congr 1;show List.filter _ [a[k]]=_;by_cases c:a[k]∈b;·simp[c]
 ·simp[c]
theorem BM (a b:List Int) (A1 A2:Option Addr) (n1 n2 c1 c2:Nat) (W:World) (h1:bQ W A1 n1 a) (h2:bQ W A2 n2 b) (hs:n1<=10000):Calls Tryz.prog 120 #[.slice A1 n1 c1, .slice A2 n2 c2] W (dL (JR a b) W):=by
 have H1:=ah h1;have H2:=ah h2;clear h1 h2;obtain⟨i0,hI0,hz0,hz1,hz2⟩:=eD gK;go_enter Tryz.func120,Tryz.ntmps120;go_wp2;go_loopw [5,6] (λvl vi wr=>∃(k m:Nat) (A:Option Addr) (c:Nat),k<=n1/\m<=k/\vi= .int .i64 k/\vl= .slice A m c/\IA W (.slice A m c) m ((a.take k).filter λx=>decide (x∈b)) wr) (λ_ vi _=>n1-(RowKit.intOf vi).toNat);case atStart=>exact⟨0,0,none,0,aH _,ay _,rfl,rfl,IA.nil W⟩
 case round=>
  obtain⟨k,m,A,c,hk,hmk,rfl,rfl,hA⟩:=hrel;have HA:=ah hA;clear hA;by_cases hlt:k<n1
  ·have HLEN:=ah (Ev (show m<=100000 by omega));have hka:k<a.length:=by rw[H1.out.len];exact hlt
   obtain⟨g,o,rfl,hg,hc⟩:=H1.out.at_ (by omega);have d1:=hc k hlt;have Er:=ah (V4 a b hka);obtain⟨x,hx⟩:∃x,a.getD k 0=x:=⟨_,rfl⟩
   rw[hx]at d1 Er;have d2:=(HA.out.aB.cell (p:=⟨g,o+k,none⟩) hg).trans d1;have hk0:(0:Int)<=k:=by omega
   have hk1:(k:Int)<n1:=by omega
   have hwk:wrap64 ((k:Int)+1)=((k+1:Nat):Int):=by unfold wrap64;omega
   have jX:=ah hwk;have HMK:=ah hmk;have HI2:=ah (fO H2.out HA.out.aB);clear hwk hx hc hg d1 hka hmk;by_cases hb:x∈b
   ·have hdb:decide (x∈b)=true:=bE hb;have htk:=Er.out;rw[ak hb]at htk;have HT2:=ah htk;have HDB:=ah hdb;clear htk Er hb hdb;go_wp2_with (first
     |(go_at_call 170;refine(OJ b x _ _ _ _ HI2.out).mono ?_;rintro e w2 ⟨rfl,rfl⟩;rw[HDB.out])
     |(at_builtin;refine aY _ rfl (.tmp 19) (.tmp 24) 41 rfl W.heap.size 3 i0 _ 8 Tryz.underlying41 hI0 hz0 hz1 hz2 rfl (.slice A m c) m (bD ((a.take k).filter λx=>decide (x∈b))) rfl HA.out.eF _ 1 1 [.int .i64 x] rfl (bY _ _ _) (by simp[Value.oneCell']) HLEN.out.1 HLEN.out.2 (by rw[World.size_alloc];have:=HA.out.aB.size;omega) ?_;intro v' wp ho hg hn;obtain⟨B1,d1,rfl,_⟩:=aL ho;have nT:=Lib.hid (HA.out.grow ho hg);clear ho hg hn))
    (try rw[jX.out]);exact⟨⟨k+1,m+1,_,_,hlt,Nat.succ_le_succ HMK.out,rfl,rfl,by rw[HT2.out];exact nT.out⟩,by simp[RowKit.intOf];omega⟩
   ·have hdb:decide (x∈b)=false:=aZ hb;have htk:=Er.out;rw[aj hb,fq]at htk;have HT2:=ah htk;have HDB:=ah hdb;clear htk Er hb hdb;go_wp2_with (go_at_call 170;refine(OJ b x _ _ _ _ HI2.out).mono ?_;rintro e w2 ⟨rfl,rfl⟩;rw[HDB.out]);(try rw[jX.out]);exact⟨⟨k+1,m,_,_,hlt,Nat.le_succ_of_le HMK.out,rfl,rfl,by rw[HT2.out];exact HA.out⟩,by simp[RowKit.intOf];omega⟩
  ·obtain rfl:k=n1:=by omega
   have htk:a.take k=a:=nC (by rw[H1.out.len];exact ay _);rw[htk]at HA;have HM:=ah (show m<=100000 by omega);clear htk hk hmk;go_wp2;go_ret;exact⟨A,m,c,rfl,gM HA.out.own HM.out,HA.out.aB⟩
def Fj (le wo:Bool) (gs ws:List Int) (t:List UInt8):List Int:=
 let l:=if le=true then JR (gV t) gs else gV t
 if wo=true then JR l ws else l
theorem V5 (t:List UInt8):(gV t).length<=t.length+1:=by unfold gV;rw[bG,rD];have:=ql t;simp only[bK,gQ];omega
theorem ZY (a b:List Int):(JR a b).length<=a.length:=EZ _ _
def ajL (s:ByteArray) (gs:List Int) (w:World):Prop:=Calls Tryz.prog 58 #[] w λe w'=>∃v,e= .returned v/\Below w.heap.size w w'/\Calls Tryz.prog 64 #[v, .string s] w' (dL gs w')
def agA (s:ByteArray) (ws:List Int) (w:World):Prop:=Calls Tryz.prog 21 #[.string s] w (dL ws w)
structure FB (W:World) (fo le wo:Bool) (w:World):Prop where
 aB:Below W.heap.size W w
 o:w.heap[W.heap.size]? =some (.cells #[.bool fo, .bool le, .bool wo] 28 (0,0))
theorem FB.go {W w w':World} {fo le wo:Bool} (h:FB W fo le wo w) (hb:Below w.heap.size w w'):FB W fo le wo w':=⟨h.aB.trans (hb.mono h.aB.size),bM hb h.o⟩
theorem FB.start (W:World) (fo le wo:Bool):FB W fo le wo (W.alloc (.cells #[.bool fo, .bool le, .bool wo] 28)):=⟨(aF _ W).alloc (ay _) _,cO W _⟩
theorem FB.c0 {W w:World} {fo le wo:Bool} (h:FB W fo le wo w):w.cell? ⟨W.heap.size,0,none⟩=some (.bool fo):=(bA w W.heap.size 0 _ _ _ h.o).trans rfl
theorem FB.c1 {W w:World} {fo le wo:Bool} (h:FB W fo le wo w):w.cell? ⟨W.heap.size,1,none⟩=some (.bool le):=(bA w W.heap.size 1 _ _ _ h.o).trans rfl
theorem FB.c2 {W w:World} {fo le wo:Bool} (h:FB W fo le wo w):w.cell? ⟨W.heap.size,2,none⟩=some (.bool wo):=(bA w W.heap.size 2 _ _ _ h.o).trans rfl
theorem Rv (t:List UInt8) (s:ByteArray) (hs:(⟨t.toArray⟩:ByteArray)=s) (fo le wo:Bool) (gs ws:List Int) (W:World) (hn:t.length<=5000)
 (hG:le=true->∀w,Below W.heap.size W w->ajL s gs w) (hW:wo=true->∀w,Below W.heap.size W w->agA s ws w):
 Calls Tryz.prog 72 #[.string s, .agg #[.bool fo, .bool le, .bool wo]] W (dL (Fj le wo gs ws t) W):=by
 have HE:=ah (λw=>V3 t w (by omega));rw[hs]at HE;have Rw:=ah (show(gV t).length<=10000 from aS (V5 t) (by omega));have HLB:=ah (λb=>aS (ZY (gV t) b) Rw.out);have HG:=ah hG;have HW:=ah hW;have PO:=ah (FB.start W fo le wo);clear hG hW hn hs;unfold Fj;generalize gV t=E at*
 cases le<;>cases wo;·go_enter Tryz.func72,Tryz.ntmps72;go_wp2_with (go_at_call 119;refine(HE.out _).mono ?_;rintro e w1 ⟨A,n,c,rfl,hR,hb⟩;have yC:=ah (PO.out.go hb);have HR:=ah hR;have y1:=yC.out.c1;have y2:=yC.out.c2;clear hb hR);go_ret;exact⟨A,n,c,rfl,HR.out,yC.out.aB⟩
 ·go_enter Tryz.func72,Tryz.ntmps72;go_wp2_with (first|(go_at_call 119;refine(HE.out _).mono ?_;rintro e w1 ⟨A,n,c,rfl,hR,hb⟩;have yC:=ah (PO.out.go hb);have HR:=ah hR;have y1:=yC.out.c1;have y2:=yC.out.c2;clear hb hR)|(go_at_call 21;refine(HW.out (by trivial) _ yC.out.aB).mono ?_;rintro e w5 ⟨A5,n5,c5,rfl,hI,hb⟩;have HF5:=ah (yC.out.go hb);have HR5:=ah (fO HR.out hb);have HI5:=ah hI;clear hb hI)|(go_at_call 120;refine(BM E ws _ _ _ _ _ _ _ HR5.out HI5.out (by rw[<-HR5.out.len];exact Rw.out)).mono ?_;rintro e w6 ⟨A6,n6,c6,rfl,hI,hb⟩;have HF6:=ah (HF5.out.go hb);have HI6:=ah hI;clear hb hI));go_ret;exact⟨A6,n6,c6,rfl,HI6.out,HF6.out.aB⟩
 ·go_enter Tryz.func72,Tryz.ntmps72;go_wp2_with (first|(go_at_call 119;refine(HE.out _).mono ?_;rintro e w1 ⟨A,n,c,rfl,hR,hb⟩;have yC:=ah (PO.out.go hb);have HR:=ah hR;have y1:=yC.out.c1;have y2:=yC.out.c2;clear hb hR)|(go_at_call 58;refine(HG.out (by trivial) _ yC.out.aB).mono ?_;rintro e w2 ⟨v,rfl,hb,hcall⟩;have WX:=ah (yC.out.go hb);have HR2:=ah (fO HR.out hb);have TD:=ah hcall;clear hb hcall y1 y2)|(go_at_call 64;refine TD.out.mono ?_;rintro e w3 ⟨A3,n3,c3,rfl,hI,hb⟩;have HF3:=ah (WX.out.go hb);have HR3:=ah (fO HR2.out hb);have HI3:=ah hI;clear hb hI)|(go_at_call 120;refine(BM E gs _ _ _ _ _ _ _ HR3.out HI3.out (by rw[<-HR3.out.len];exact Rw.out)).mono ?_;rintro e w4 ⟨A4,n4,c4,rfl,hI,hb⟩;have HF4:=ah (HF3.out.go hb);have HI4:=ah hI;have y2:=HF4.out.c2;clear hb hI));go_ret;exact⟨A4,n4,c4,rfl,HI4.out,HF4.out.aB⟩
 ·go_enter Tryz.func72,Tryz.ntmps72;go_upto_region 4 with(first|(go_at_call 119;refine(HE.out _).mono ?_;rintro e w1 ⟨A,n,c,rfl,hR,hb⟩;have yC:=ah (PO.out.go hb);have HR:=ah hR;have y1:=yC.out.c1;have y2:=yC.out.c2;clear hb hR)|(go_at_call 58;refine(HG.out (by trivial) _ yC.out.aB).mono ?_;rintro e w2 ⟨v,rfl,hb,hcall⟩;have WX:=ah (yC.out.go hb);have HR2:=ah (fO HR.out hb);have TD:=ah hcall;clear hb hcall y1 y2)|(go_at_call 64;refine TD.out.mono ?_;rintro e w3 ⟨A3,n3,c3,rfl,hI,hb⟩;have HF3:=ah (WX.out.go hb);have HR3:=ah (fO HR2.out hb);have HI3:=ah hI;clear hb hI)|(go_at_call 120;refine(BM E gs _ _ _ _ _ _ _ HR3.out HI3.out (by rw[<-HR3.out.len];exact Rw.out)).mono ?_;rintro e w4 ⟨A4,n4,c4,rfl,hI,hb⟩;have HF4:=ah (HF3.out.go hb);have HI4:=ah hI;have y2:=HF4.out.c2;clear hb hI))
  go_wp2_with (first|(go_at_call 21;refine(HW.out (by trivial) _ HF4.out.aB).mono ?_;rintro e w5 ⟨A5,n5,c5,rfl,hI,hb⟩;have HF5:=ah (HF4.out.go hb);have HR5:=ah (fO HI4.out hb);have HI5:=ah hI;clear hb hI)|(go_at_call 120;refine(BM (JR E gs) ws _ _ _ _ _ _ _ HR5.out HI5.out (by rw[<-HR5.out.len];exact HLB.out gs)).mono ?_;rintro e w6 ⟨A6,n6,c6,rfl,hI,hb⟩;have HF6:=ah (HF5.out.go hb);have HI6:=ah hI;clear hb hI));go_ret;exact⟨A6,n6,c6,rfl,HI6.out,HF6.out.aB⟩
section
open Folds (dec bf bW)
def eY (fo:Bool) (t:List UInt8) (a b:Nat):List UInt8:=sZ fo ((t.drop a).take (b-a))
inductive Reach (t:List UInt8):Nat->Nat->Prop
 |nil (a:Nat):Reach t a a
 |cons {a b:Nat}:a<t.length->Reach t (a+(dec (t.drop a)).2) b->Reach t a b
theorem Reach.le {t:List UInt8} {a b:Nat} (h:Reach t a b):a<=b:=by
 induction h with
 |nil a=>exact ay a
 |cons _ _ ih=>omega
theorem Reach.snoc {t:List UInt8} {a b:Nat} (h:Reach t a b) (hb:b<t.length):Reach t a (b+(dec (t.drop b)).2):=by
 induction h with
 |nil a=>exact .cons hb (.nil _)
 |cons h1 _ ih=>exact .cons h1 (ih hb)
theorem adb (k:Nat) (l:List UInt8) (h:l≠[]):wr k l=Folds.one (λr=>qh (formV r k)) l++wr k (l.drop (dec l).2):=Folds.Oa _ l h
theorem Z0 (l:List UInt8) {m:Nat} (h:l≠[]) (hm:(dec l).2<=m):dec (l.take m)=dec l/\Folds.one (λr=>qh (formV r 3)) (l.take m)=Folds.one (λr=>qh (formV r 3)) l:=by
 have hp:=bf l;have hn:=bW l h;have hne:l.take m≠[]:=by intro c;have:=eO List.length c;rw[eU,gQ]at this;omega
 have e:dec (l.take m)=dec l:=by have:=Folds.acG (l.take m) (l.drop m) hne (by rw[lN,eU];omega);rw[lN]at this;exact this.symm
 refine⟨e,?_⟩;unfold Folds.one;rw[e,List.take_take,qH (by omega)]
theorem agB (k:Nat):wr k []=[]:=rfl
theorem ade (t:List UInt8) {a e:Nat} (h:Reach t a e) (he:e<t.length):wr 3 ((t.drop a).take (e+(dec (t.drop e)).2-a))=wr 3 ((t.drop a).take (e-a))++wr 3 ((t.drop e).take (dec (t.drop e)).2):=by
 induction h with
 |nil a=>rw[wM,List.take_zero,agB,l9,pJ]
 |cons h1 h2 ih=>
  rename_i a b;have hle:=h2.le;have hne:t.drop a≠[]:=by intro c;rw[jy]at c;omega
  have hp:=bf (t.drop a);have hn:=bW (t.drop a) hne;have key:∀m,(dec (t.drop a)).2<=m->wr 3 ((t.drop a).take m)=Folds.one (λr=>qh (formV r 3)) (t.drop a)++wr 3 ((t.drop (a+(dec (t.drop a)).2)).take (m-(dec (t.drop a)).2)):=λm hm=>by
   obtain⟨d1,d2⟩:=Z0 (t.drop a) hne hm;rw[adb 3 _ (by
    intro c;have:=eO List.length c;rw[eU,gQ]at this;omega),d1,d2,List.drop_take,List.drop_drop]
  rw[key _ (by omega),key _ (by omega),show b+(dec (t.drop b)).2-a-(dec (t.drop a)).2=b+(dec (t.drop b)).2-(a+(dec (t.drop a)).2)by omega,ih he,show b-a-(dec (t.drop a)).2=b-(a+(dec (t.drop a)).2)by omega,dR]
theorem V6 (t:List UInt8) {a e n:Nat} (h:a<=e):(t.drop a).take (e+n-a)=(t.drop a).take (e-a)++(t.drop e).take n:=by rw[show e+n-a=(e-a)+n by omega,List.take_add,List.drop_drop,show a+(e-a)=e by omega]
theorem adf (fo:Bool) (t:List UInt8) {a e:Nat} (h:Reach t a e) (he:e<t.length):eY fo t a (e+(dec (t.drop e)).2)=eY fo t a e++sZ fo ((t.drop e).take (dec (t.drop e)).2):=by
 unfold eY sZ;cases fo;·exact V6 t h.le
 ·exact ade t h he
section
variable (fo:Bool) (may:Int->Bool) (t:List UInt8)
theorem OQ (a:Nat):∀n e,Reach t a e->e<=t.length->EvL.Parts (eY fo t) a (eY fo t a e) (zG (sZ fo) may t n e)
 |0,_,_,_=>trivial
 |n+1,e,h,he=>by
  unfold zG;by_cases c:e<t.length;·rw[ak c];refine⟨rfl,?_⟩;show EvL.Parts _ _ (eY fo t a e++sZ fo ((t.drop e).take (dec (t.drop e)).2)) _;rw[<-adf fo t h c];exact OQ a n _ (h.snoc c) (BA c).1
  ·rw[aj c];obtain rfl:e=t.length:=by omega
   exact⟨rfl,trivial⟩
theorem D8:∀n e,e<=t.length->EvL.Hg (eY fo t) (zG (sZ fo) may t n e)
 |0,_,_=>trivial
 |n+1,e,he=>by
  unfold zG;by_cases c:e<t.length
  ·rw[ak c];obtain⟨d1,d2⟩:=BA c;refine⟨?_,D8 n _ d1⟩;have e1:sZ fo ((t.drop e).take (dec (t.drop e)).2)=eY fo t e (e+(dec (t.drop e)).2):=by unfold eY;rw[pJ]
   show EvL.Parts _ _ (sZ fo ((t.drop e).take (dec (t.drop e)).2)) _;rw[e1];exact OQ fo may t e n _ (.cons c (.nil _)) d1
  ·rw[aj c];exact⟨trivial,trivial⟩
theorem OT:∀n e,e<=t.length->EvL.Shows (zG (sZ fo) may t n e)
 |0,_,_=>trivial
 |n+1,e,he=>by
  unfold zG;by_cases c:e<t.length
  ·rw[ak c];obtain⟨d1,d2⟩:=BA c;refine⟨λ_=> ?_,OT n _ d1⟩;have hne:(t.drop e).take (dec (t.drop e)).2≠[]:=by intro q;have:=eO List.length q;rw[eU,bZ,gQ]at this;omega
   show sZ fo ((t.drop e).take (dec (t.drop e)).2)≠[];unfold sZ;split;·exact ZC hne
   ·exact hne
  ·rw[aj c];exact⟨λh=>absurd rfl h,trivial⟩
end
theorem OU (fo le wo:Bool) (s want:List UInt8) (gs ws:List Int) (hw:want≠[]):
 EvL.outer want (eY fo s) (EvL.places (zG (sZ fo) (qE le wo gs ws) s (s.length+1) 0))=Left.every want (zG (sZ fo) (qE le wo gs ws) s (s.length+1) 0):=
 EvL.DY want _ hw _ (OT fo _ s _ _ (aH _)) (D8 fo _ s _ _ (aH _))
end
def agC (fo:Bool) (w:World):Prop:=Calls Tryz.prog 12 #[] w λe w'=>∃v,e= .returned v/\Below w.heap.size w w'/\
 (fo=true->∀(x:List UInt8) (w2:World),Below w'.heap.size w' w2->x.length<=80->Calls Tryz.prog 73 #[v, .string ⟨x.toArray⟩] w2 λe w3=>e= .returned (.string ⟨(wr 3 x).toArray⟩)/\Below w2.heap.size w2 w3)
structure DE (W1:World) (vo:Value) (acc:List (Nat×Nat)) (w:World):Prop where
 aB:Below W1.heap.size W1 w
 out:w.ownsRow W1.heap.size 33 2 vo acc.length (bR acc)
theorem DE.nil (W1:World):DE W1 (.slice none 0 0) [] W1:=⟨aF _ _,⟨rfl, .inl ⟨rfl,rfl⟩⟩⟩
section
variable {W1 w w':World} {vo v':Value} {acc:List (Nat×Nat)}
theorem DE.below (h:DE W1 vo acc w) (hb:Below w.heap.size w w'):DE W1 vo acc w':=⟨h.aB.trans (hb.mono h.aB.size),own_below hb h.out⟩
theorem DE.drewN (h:DE W1 vo acc w) (q:Nat):DE W1 vo acc (w.drewN q):=⟨⟨h.aB.os,h.aB.tape,h.aB.output,h.aB.size,h.aB.block⟩,h.out⟩
theorem DE.hit {o:Obj} {a b:Nat} (h:DE W1 vo acc w) (hg:(w.drew.alloc o).grownBy w' vo.ownBlock) (ho:w'.ownsRow W1.heap.size 33 2 v' (acc.length+1) (bR acc++[.int .i64 a, .int .i64 b])):DE W1 v' (acc++[(a,b)]) w':=by
 have hf:=Zz hg;refine⟨⟨h.aB.os▸hf.os,h.aB.tape▸hf.tape,h.aB.output▸hf.output,aS h.aB.size hf.size,λj hj=> ?_⟩,?_⟩;·rw[hf.block j (bH hj h.aB.size) (λc=>by have:=(bB h.out c).1;omega)];exact h.aB.block j hj
 ·rw[uJ,bG];exact ho
end
theorem T9 {L:List Nat} {k:Nat} (h:k<L.length):L.drop k=L.getD k 0::L.drop (k+1):=by rw[ny h,aM,aX h];rfl
theorem adg {L:List Nat} {k:Nat} (h:k<L.length):(L.map λ(x:Nat)=>(x:Int)).getD k 0=((L.getD k 0:Nat):Int):=by rw[aM,aM,fQ,aX h];rfl
theorem OV {L:List Nat} {k:Nat} (h:k<L.length):L.getD k 0∈L:=by rw[aM,aX h];exact l6 h
theorem aeJ {L:List Nat} (hp:L.Pairwise (·<·)) {i j:Nat} (h:i<j) (hj:j<L.length):L.getD i 0<L.getD j 0:=by rw[aM,aM,aX hj,aX (by omega)];exact List.pairwise_iff_getElem.1 hp i j (by omega) hj h
theorem OX (want:List UInt8) (part:Nat->Nat->List UInt8) (a b:Nat) (r:List Nat):EvL.inner want part a (b::r)=if want.length<(part a b).length then(if part a b=want then[(a,b)]else[])else(if part a b=want then[(a,b)]else[])++EvL.inner want part a r:=rfl
theorem OY (want:List UInt8) (part:Nat->Nat->List UInt8) (a:Nat) (r:List Nat):EvL.outer want part (a::r)=EvL.inner want part a r++EvL.outer want part r:=rfl
theorem OZ (s:List UInt8) (a b:Nat):((s.drop a).take (b-a)).length<=b-a:=List.length_take_le _ _
theorem Rx (s:ByteArray) (fo le wo:Bool) (W:World):Calls Tryz.prog 19 #[.string s, .string ⟨#[]⟩, .agg #[.bool fo, .bool le, .bool wo]] W (jQ [] W):=by go_enter Tryz.func19,Tryz.ntmps19;go_wp2_with fail;go_ret;exact⟨_,rfl,(aF _ W).alloc (ay _) _,⟨rfl, .inl ⟨rfl,rfl⟩⟩⟩
theorem Z4 (s t want:List UInt8) (S:ByteArray) (hS:(⟨s.toArray⟩:ByteArray)=S) (le wo:Bool) (L:List Nat) (W:World) (ht:t≠[]) (hn:s.length<=60) (hn2:t.length<=60) (hw:t=want)
 (hP:∀w,Below W.heap.size W w->Calls Tryz.prog 72 #[.string S, .agg #[.bool false, .bool le, .bool wo]] w (dL (L.map λ(x:Nat)=>(x:Int)) w))
 (hK:∀w,Below W.heap.size W w->agC false w) (hL:∀x∈L,x<=s.length) (hA:L.Pairwise (·<·)) (hLN:L.length<=100):
 Calls Tryz.prog 19 #[.string S, .string ⟨t.toArray⟩, .agg #[.bool false, .bool le, .bool wo]] W (jQ (EvL.outer want (eY false s) L) W):=by
 have hte:t.isEmpty=false:=by cases t with|nil=>exact absurd rfl ht|cons a b=>rfl
 have hSZ:S.size=s.length:=size_mk s S hS;have PN:=ah hP;have HKA:=ah hK;have V7:=ah hL;have HAS:=ah hA;have lI:=ah hS;have HWW:=ah hw;have HN:=ah hn;have HN2:=ah hn2;have sV:=ah hSZ;have PO:=ah (FB.start W false le wo);obtain⟨N,hN⟩:∃N,L.length=N:=⟨_,rfl⟩
 rw[hN]at hLN;have V8:=ah hN;clear hP hK hL hA ht hS hw hn hn2 hSZ hN;obtain⟨i0,hI0,hz0,hz1,hz2⟩:=eD qw;have z0:=PO.out.c0;have z1:=PO.out.c1;have z2:=PO.out.c2;go_enter Tryz.func19,Tryz.ntmps19;go_upto_region 8 with(first
  |(go_at_call 72;refine(PN.out _ PO.out.aB).mono ?_;rintro e w1 ⟨A,n,c,rfl,hR,hb⟩;have yC:=ah (PO.out.go hb);have HR1:=ah hR;clear hb hR z0 z1 z2)
  |(go_at_call 12;refine(HKA.out _ yC.out.aB).mono ?_;rintro e w2 ⟨kv,rfl,hb,hfk⟩;have WX:=ah (yC.out.go hb);have HR2:=ah (fO HR1.out hb);have HFK:=ah hfk;clear hb hfk;have z0:=WX.out.c0))
 have hnN:n=N:=by rw[<-HR1.out.len,dG];exact V8.out
 subst hnN;obtain rfl:t=want:=HWW.out;have HDX:=ah (λ(wx:World) (hd:Below w2.heap.size w2 wx)=>WX.out.go hd);have HRX:=ah (λ(wx:World) (hd:Below w2.heap.size w2 wx)=>fO HR2.out hd);go_wp2_with fail;go_loopw [10,11,12,13] (λvo vi _ _ wr=>∃(i:Nat) (acc:List (Nat×Nat)),i<=n/\vi= .int .i64 i/\DE w2 vo acc wr/\acc.length<=200*i/\acc++EvL.outer t (eY false s) (L.drop i)=EvL.outer t (eY false s) L) (λ_ vi _ _ _=>n - (RowKit.intOf vi).toNat);case atStart=>exact⟨0,[],aH _,rfl,DE.nil _,ay _,rfl⟩
 case round=>
  obtain⟨i,acc,hi,rfl,hD,hal,hl⟩:=hrel;have HD:=ah hD;clear hD;by_cases hlt:i<n
  ·have hiL:i<L.length:=by rw[V8.out];exact hlt
   rw[T9 hiL,OY,<-dR]at hl;obtain⟨a,ha⟩:∃a,L.getD i 0=a:=⟨_,rfl⟩
   rw[ha]at hl;have HL0:=ah hl;have HA:=ah ha;have yM:=ah hal;have hwi:wrap64 ((i:Int)+1)=((i+1:Nat):Int):=by unfold wrap64;omega
   have rU:=ah hwi;have hii:(i:Int)<n:=by omega
   clear hl ha hal hwi;go_wp2_with fail;(try rw[rU.out]);go_hide hQ;go_loopw [10,12,13] (λvo vj _ wr=>∃(j:Nat) (acc:List (Nat×Nat)),i+1<=j/\j<=n/\vj= .int .i64 j/\DE w2 vo acc wr/\acc.length<=200*i+j/\acc++EvL.inner t (eY false s) a (L.drop j)++EvL.outer t (eY false s) (L.drop (i+1))=EvL.outer t (eY false s) L) (λ_ vj _ _=>n - (RowKit.intOf vj).toNat);case atStart=>exact⟨i+1,acc,ay _,hlt,rfl,HD.out,by have:=yM.out;omega,HL0.out⟩
   case round=>
    obtain⟨j,acc,hij,hj,rfl,hD,hal,hl⟩:=hrel;have HD:=ah hD;clear hD HL0 yM;by_cases hjl:j<n
    ·have Z5:j<L.length:=by rw[V8.out];exact hjl
     rw[T9 Z5,OX]at hl;obtain⟨b,hb⟩:∃b,L.getD j 0=b:=⟨_,rfl⟩
     have hab:a<b:=by rw[<-HA.out,<-hb];exact aeJ HAS.out (by omega) Z5
     have hbs:b<=s.length:=by rw[<-hb];exact V7.out _ (OV Z5)
     obtain⟨g,o,rfl,hg,hc⟩:=(HRX.out _ (aF _ _)).at_ (by omega);have c1:=hc i hlt;have c2:=hc j hjl;rw[adg (by rw[V8.out];exact hlt),HA.out]at c1;rw[adg Z5,hb]at c2;have HC:=ah (λ(wx:World) (hd:Below w2.heap.size w2 wx)=>And.intro ((hd.cell (p:=⟨g,o+i,none⟩) hg).trans c1) ((hd.cell (p:=⟨g,o+j,none⟩) hg).trans c2));clear c1 c2;obtain⟨c1,c2⟩:=HC.out _ HD.out.aB;have z0:=(HDX.out _ HD.out.aB).c0;rw[hb]at hl;have ha0:(0:Int)<=a:=xQ a;have ha1:(a:Int)<=b:=by omega
     have ha2:(b:Int)<=S.size:=by rw[sV.out];omega
     obtain⟨x,hx⟩:∃x,(s.drop a).take (b - a)=x:=⟨_,rfl⟩
     have hxl:x.length<=80:=by rw[<-hx];have:=OZ s a b;have:=HN.out;omega
     have hsl:∀W,(Instr.slice 9 (.string S) (some (.int .i64 (a:Int))) (some (.int .i64 (b:Int))) none).run Tryz.prog W= .ok (.string ⟨x.toArray⟩) W:=λW=>by rw[run_slice_string _ _ _ _ _ _ _ Tryz.underlying9 ha0 ha1 ha2,jV,jV,<-lI.out,oZ,hx]
     have HXL:=ah hxl;obtain⟨y,hy⟩:∃y,eY false s a b=y:=⟨_,rfl⟩
     have HXY:=ah (show x=y by rw[<-hy,<-hx];rfl);rw[hy]at hl;have hj0:(0:Int)<=j:=by omega
     have hj1:(j:Int)<n:=by omega
     have hi0:(0:Int)<=i:=by omega
     have Qr:wrap64 ((j:Int)+1)=((j+1:Nat):Int):=by unfold wrap64;omega
     have HWJ:=ah Qr;have yM:=ah hal;have HIJ:=ah hij;clear hc hg hb hx hy Z5 hxl hal hij Qr hbs;obtain rfl:x=y:=HXY.out;by_cases LU:x=t
     ·have hb:(x==t)=true:=by rw[LU];exact beq_self_eq_true _
      have hlen:¬t.length<x.length:=by rw[LU];exact dI _
      rw[aj hlen,ak LU]at hl;have HL2:=ah (show(acc++[(a,b)])++EvL.inner t (eY false s) a (L.drop (j+1))++EvL.outer t (eY false s) (L.drop (i+1))=EvL.outer t (eY false s) L by rw[<-hl,dR acc]);clear hl LU;go_wp2_with fail;go_quiet (fail);have D9:=ah (HD.out.drewN nq);obtain⟨wq,hwq⟩:∃wq,wr.drewN nq=wq:=⟨_,rfl⟩
      rw[hwq]at D9⊢;clear z0;have z0:=(HDX.out _ D9.out.aB).c0;have O1:=D9;go_upto_region 19 with fail;obtain⟨d1,d2⟩:=HC.out _ O1.out.aB;have Oo:acc.length+1<=maxLen:=by have:=yM.out;simp only[maxLen];omega
      have Z6:(acc.length+1)*16<=0x800000000000:=by have:=yM.out;omega
      have LD:=ah Oo;have Ra:=ah Z6;clear Oo Z6;have Oq:=ah (show w2.heap.size<=wq.heap.size from O1.out.aB.size);have HFR:=ah (show(wq.drew.alloc (.cells #[.int .i64 a, .int .i64 b] 33)).ownsRow w2.heap.size 33 2 _ acc.length (bR acc)from(Fr.alloc (λ_=>False) wq.drew _).own O1.out.out (λ_ _=>id));subst hQ;go_region_law (refine step_append_lies _ (by rfl) (.tmp 58) (.tmp 68) 29 (by rfl) w2.heap.size 33 i0 _ 2 16 Tryz.underlying29 hI0 hz0 hz1 hz2 rfl (by omega) _ acc.length (bR acc) (by rfl) HFR.out ⟨wq.heap.size,0,none⟩ 1 1 [.int .i64 a, .int .i64 b] (by rfl) (by rfl) (xW (cO wq.drew _)) (Zy _ _ rfl rfl) (by omega) LD.out Ra.out (aS Oq.out (dD (by simp))) _ rfl ?_;intro g3 IV w7 hown3 hgrow3 _ _);all_goals (
       have HD7:=ah (O1.out.hit hgrow3 hown3);clear hown3 hgrow3)
      all_goals go_wp2_with fail
      all_goals (try rw[HWJ.out])
      all_goals exact⟨⟨j+1,acc++[(a,b)],by have:=HIJ.out;omega,by omega,rfl,HD7.out,by have:=yM.out;rw[List.length_append,List.length_singleton];omega,HL2.out⟩,by simp[RowKit.intOf];omega⟩
     ·have hb:(x==t)=false:=dB.2 LU;by_cases hlen:t.length<x.length
      ·rw[ak hlen,aj LU,fq]at hl;have HL2:=ah hl;have agE:=ah (show acc.length<=200*(i+1)by have:=yM.out;omega);clear hl LU;go_wp2_with fail;go_quiet (fail);have D9:=ah (HD.out.drewN nq);obtain⟨wq,hwq⟩:∃wq,wr.drewN nq=wq:=⟨_,rfl⟩
       rw[hwq]at D9⊢;clear z0;have z0:=(HDX.out _ D9.out.aB).c0;have O1:=D9;go_wp2_with fail;subst hQ;go_wp2_with fail;(try rw[rU.out]);exact⟨⟨i+1,acc,hlt,rfl,O1.out,agE.out,HL2.out⟩,by simp[RowKit.intOf];omega⟩
      ·rw[aj hlen,aj LU,l9]at hl;have HL2:=ah hl;clear hl LU;go_wp2_with fail;go_quiet (fail);have D9:=ah (HD.out.drewN nq);obtain⟨wq,hwq⟩:∃wq,wr.drewN nq=wq:=⟨_,rfl⟩
       rw[hwq]at D9⊢;clear z0;have z0:=(HDX.out _ D9.out.aB).c0;have O1:=D9;go_wp2_with fail;(try rw[HWJ.out]);exact⟨⟨j+1,acc,by have:=HIJ.out;omega,by omega,rfl,O1.out,by have:=yM.out;omega,HL2.out⟩,by simp[RowKit.intOf];omega⟩
    ·obtain rfl:j=n:=by omega
     rw[kP (by rw[V8.out];exact ay _)]at hl;have Q9:=Lib.hid (show acc++EvL.outer t (eY false s) (L.drop (i+1))=EvL.outer t (eY false s) L by rw[<-hl];simp[EvL.inner]);have yM:=ah (show acc.length<=200*(i+1)by omega);clear hl hal hij;go_wp2_with fail;subst hQ;go_wp2_with fail;(try rw[rU.out]);exact⟨⟨i+1,acc,hlt,rfl,HD.out,yM.out,Q9.out⟩,by simp[RowKit.intOf];omega⟩
  ·obtain rfl:i=n:=by omega
   rw[kP (by rw[V8.out];exact ay _)]at hl;have Q9:=Lib.hid (show acc=EvL.outer t (eY false s) L by rw[<-hl];simp[EvL.outer]);clear hl hal;go_wp2_with fail;go_ret;refine⟨_,rfl,WX.out.aB.trans (HD.out.aB.mono WX.out.aB.size),?_⟩;rw[<-Q9.out];exact sK HD.out.out (λk hk=>aS WX.out.aB.size (bB HD.out.out hk).1)
theorem Z7 (s t want:List UInt8) (S:ByteArray) (hS:(⟨s.toArray⟩:ByteArray)=S) (le wo:Bool) (L:List Nat) (W:World) (ht:t≠[]) (hn:s.length<=60) (hn2:t.length<=60) (hw:wr 3 t=want)
 (hP:∀w,Below W.heap.size W w->Calls Tryz.prog 72 #[.string S, .agg #[.bool true, .bool le, .bool wo]] w (dL (L.map λ(x:Nat)=>(x:Int)) w))
 (hK:∀w,Below W.heap.size W w->agC true w) (hL:∀x∈L,x<=s.length) (hA:L.Pairwise (·<·)) (hLN:L.length<=100):
 Calls Tryz.prog 19 #[.string S, .string ⟨t.toArray⟩, .agg #[.bool true, .bool le, .bool wo]] W (jQ (EvL.outer want (eY true s) L) W):=by
 have hte:t.isEmpty=false:=by cases t with|nil=>exact absurd rfl ht|cons a b=>rfl
 have hSZ:S.size=s.length:=size_mk s S hS;have PN:=ah hP;have HKA:=ah hK;have V7:=ah hL;have HAS:=ah hA;have lI:=ah hS;have HWW:=ah hw;have HN:=ah hn;have HN2:=ah hn2;have sV:=ah hSZ;have PO:=ah (FB.start W true le wo);obtain⟨N,hN⟩:∃N,L.length=N:=⟨_,rfl⟩
 rw[hN]at hLN;have V8:=ah hN;clear hP hK hL hA ht hS hw hn hn2 hSZ hN;obtain⟨i0,hI0,hz0,hz1,hz2⟩:=eD qw;have z0:=PO.out.c0;have z1:=PO.out.c1;have z2:=PO.out.c2;go_enter Tryz.func19,Tryz.ntmps19;go_upto_region 8 with(first
  |(go_at_call 72;refine(PN.out _ PO.out.aB).mono ?_;rintro e w1 ⟨A,n,c,rfl,hR,hb⟩;have yC:=ah (PO.out.go hb);have HR1:=ah hR;clear hb hR z0 z1 z2)
  |(go_at_call 12;refine(HKA.out _ yC.out.aB).mono ?_;rintro e w2 ⟨kv,rfl,hb,hfk⟩;have WX:=ah (yC.out.go hb);have HR2:=ah (fO HR1.out hb);have HFK:=ah hfk;clear hb hfk;have z0:=WX.out.c0)
  |(go_at_call 73;refine(HFK.out (by trivial) t _ (aF _ _) (aS HN2.out (by decide))).mono ?_;rintro e w3 ⟨rfl,hb⟩;rw[HWW.out];have HF3:=ah (WX.out.go hb);have HR3:=ah (fO HR2.out hb);have ajT:=ah hb;clear hb z0))
 have hnN:n=N:=by rw[<-HR1.out.len,dG];exact V8.out
 subst hnN;have HDX:=ah (λ(wx:World) (hd:Below w3.heap.size w3 wx)=>HF3.out.go hd);have HRX:=ah (λ(wx:World) (hd:Below w3.heap.size w3 wx)=>fO HR3.out hd);have HKX:=ah (λ(x:List UInt8) (wx:World) (hd:Below w3.heap.size w3 wx) (hx:x.length<=80)=>HFK.out (by trivial) x wx (ajT.out.trans (hd.mono ajT.out.size)) hx);go_wp2_with fail;go_loopw [10,11,12,13] (λvo vi _ _ wr=>∃(i:Nat) (acc:List (Nat×Nat)),i<=n/\vi= .int .i64 i/\DE w3 vo acc wr/\acc.length<=200*i/\acc++EvL.outer want (eY true s) (L.drop i)=EvL.outer want (eY true s) L) (λ_ vi _ _ _=>n - (RowKit.intOf vi).toNat);case atStart=>exact⟨0,[],aH _,rfl,DE.nil _,ay _,rfl⟩
 case round=>
  obtain⟨i,acc,hi,rfl,hD,hal,hl⟩:=hrel;have HD:=ah hD;clear hD;by_cases hlt:i<n
  ·have hiL:i<L.length:=by rw[V8.out];exact hlt
   rw[T9 hiL,OY,<-dR]at hl;obtain⟨a,ha⟩:∃a,L.getD i 0=a:=⟨_,rfl⟩
   rw[ha]at hl;have HL0:=ah hl;have HA:=ah ha;have yM:=ah hal;have hwi:wrap64 ((i:Int)+1)=((i+1:Nat):Int):=by unfold wrap64;omega
   have rU:=ah hwi;have hii:(i:Int)<n:=by omega
   clear hl ha hal hwi;go_wp2_with fail;(try rw[rU.out]);go_hide hQ;go_loopw [10,12,13] (λvo vj _ wr=>∃(j:Nat) (acc:List (Nat×Nat)),i+1<=j/\j<=n/\vj= .int .i64 j/\DE w3 vo acc wr/\acc.length<=200*i+j/\acc++EvL.inner want (eY true s) a (L.drop j)++EvL.outer want (eY true s) (L.drop (i+1))=EvL.outer want (eY true s) L) (λ_ vj _ _=>n - (RowKit.intOf vj).toNat);case atStart=>exact⟨i+1,acc,ay _,hlt,rfl,HD.out,by have:=yM.out;omega,HL0.out⟩
   case round=>
    obtain⟨j,acc,hij,hj,rfl,hD,hal,hl⟩:=hrel;have HD:=ah hD;clear hD HL0 yM;by_cases hjl:j<n
    ·have Z5:j<L.length:=by rw[V8.out];exact hjl
     rw[T9 Z5,OX]at hl;obtain⟨b,hb⟩:∃b,L.getD j 0=b:=⟨_,rfl⟩
     have hab:a<b:=by rw[<-HA.out,<-hb];exact aeJ HAS.out (by omega) Z5
     have hbs:b<=s.length:=by rw[<-hb];exact V7.out _ (OV Z5)
     obtain⟨g,o,rfl,hg,hc⟩:=(HRX.out _ (aF _ _)).at_ (by omega);have c1:=hc i hlt;have c2:=hc j hjl;rw[adg (by rw[V8.out];exact hlt),HA.out]at c1;rw[adg Z5,hb]at c2;have HC:=ah (λ(wx:World) (hd:Below w3.heap.size w3 wx)=>And.intro ((hd.cell (p:=⟨g,o+i,none⟩) hg).trans c1) ((hd.cell (p:=⟨g,o+j,none⟩) hg).trans c2));clear c1 c2;obtain⟨c1,c2⟩:=HC.out _ HD.out.aB;have z0:=(HDX.out _ HD.out.aB).c0;rw[hb]at hl;have ha0:(0:Int)<=a:=xQ a;have ha1:(a:Int)<=b:=by omega
     have ha2:(b:Int)<=S.size:=by rw[sV.out];omega
     obtain⟨x,hx⟩:∃x,(s.drop a).take (b - a)=x:=⟨_,rfl⟩
     have hxl:x.length<=80:=by rw[<-hx];have:=OZ s a b;have:=HN.out;omega
     have hsl:∀W,(Instr.slice 9 (.string S) (some (.int .i64 (a:Int))) (some (.int .i64 (b:Int))) none).run Tryz.prog W= .ok (.string ⟨x.toArray⟩) W:=λW=>by rw[run_slice_string _ _ _ _ _ _ _ Tryz.underlying9 ha0 ha1 ha2,jV,jV,<-lI.out,oZ,hx]
     have HXL:=ah hxl;obtain⟨y,hy⟩:∃y,eY true s a b=y:=⟨_,rfl⟩
     have HXY:=ah (show Go.Proofs.YtocaiijbhepnnaaGreatDoor.searchReplaces.wr 3 x=y by rw[<-hy,<-hx];rfl);rw[hy]at hl;have hj0:(0:Int)<=j:=by omega
     have hj1:(j:Int)<n:=by omega
     have hi0:(0:Int)<=i:=by omega
     have Qr:wrap64 ((j:Int)+1)=((j+1:Nat):Int):=by unfold wrap64;omega
     have HWJ:=ah Qr;have yM:=ah hal;have HIJ:=ah hij;clear hc hg hb hx hy Z5 hxl hal hij Qr hbs;by_cases LU:y=want
     ·have hb:(y==want)=true:=by rw[LU];exact beq_self_eq_true _
      have hlen:¬want.length<y.length:=by rw[LU];exact dI _
      rw[aj hlen,ak LU]at hl;have HL2:=ah (show(acc++[(a,b)])++EvL.inner want (eY true s) a (L.drop (j+1))++EvL.outer want (eY true s) (L.drop (i+1))=EvL.outer want (eY true s) L by rw[<-hl,dR acc]);clear hl LU;go_wp2_with fail;go_quiet (fail);have D9:=ah (HD.out.drewN nq);obtain⟨wq,hwq⟩:∃wq,wr.drewN nq=wq:=⟨_,rfl⟩
      rw[hwq]at D9⊢;clear z0;have z0:=(HDX.out _ D9.out.aB).c0;go_upto_region 18 with(go_at_call 73;refine(HKX.out x _ D9.out.aB HXL.out).mono ?_;rintro e w5 ⟨rfl,hb5⟩;rw[HXY.out];have O1:=ah (D9.out.below hb5);clear hb5)
      go_upto_region 19 with fail;obtain⟨d1,d2⟩:=HC.out _ O1.out.aB;have Oo:acc.length+1<=maxLen:=by have:=yM.out;simp only[maxLen];omega
      have Z6:(acc.length+1)*16<=0x800000000000:=by have:=yM.out;omega
      have LD:=ah Oo;have Ra:=ah Z6;clear Oo Z6;have Oq:=ah (show w3.heap.size<=w5.heap.size from O1.out.aB.size);have HFR:=ah (show(w5.drew.alloc (.cells #[.int .i64 a, .int .i64 b] 33)).ownsRow w3.heap.size 33 2 _ acc.length (bR acc)from(Fr.alloc (λ_=>False) w5.drew _).own O1.out.out (λ_ _=>id));subst hQ;go_region_law (refine step_append_lies _ (by rfl) (.tmp 58) (.tmp 68) 29 (by rfl) w3.heap.size 33 i0 _ 2 16 Tryz.underlying29 hI0 hz0 hz1 hz2 rfl (by omega) _ acc.length (bR acc) (by rfl) HFR.out ⟨w5.heap.size,0,none⟩ 1 1 [.int .i64 a, .int .i64 b] (by rfl) (by rfl) (xW (cO w5.drew _)) (Zy _ _ rfl rfl) (by omega) LD.out Ra.out (aS Oq.out (dD (by simp))) _ rfl ?_;intro g3 IV w7 hown3 hgrow3 _ _);all_goals (
       have HD7:=ah (O1.out.hit hgrow3 hown3);clear hown3 hgrow3)
      all_goals go_wp2_with fail
      all_goals (try rw[HWJ.out])
      all_goals exact⟨⟨j+1,acc++[(a,b)],by have:=HIJ.out;omega,by omega,rfl,HD7.out,by have:=yM.out;rw[List.length_append,List.length_singleton];omega,HL2.out⟩,by simp[RowKit.intOf];omega⟩
     ·have hb:(y==want)=false:=dB.2 LU;by_cases hlen:want.length<y.length
      ·rw[ak hlen,aj LU,fq]at hl;have HL2:=ah hl;have agE:=ah (show acc.length<=200*(i+1)by have:=yM.out;omega);clear hl LU;go_wp2_with fail;go_quiet (fail);have D9:=ah (HD.out.drewN nq);obtain⟨wq,hwq⟩:∃wq,wr.drewN nq=wq:=⟨_,rfl⟩
       rw[hwq]at D9⊢;clear z0;have z0:=(HDX.out _ D9.out.aB).c0;go_upto_region 18 with(go_at_call 73;refine(HKX.out x _ D9.out.aB HXL.out).mono ?_;rintro e w5 ⟨rfl,hb5⟩;rw[HXY.out];have O1:=ah (D9.out.below hb5);clear hb5)
       go_wp2_with fail;subst hQ;go_wp2_with fail;(try rw[rU.out]);exact⟨⟨i+1,acc,hlt,rfl,O1.out,agE.out,HL2.out⟩,by simp[RowKit.intOf];omega⟩
      ·rw[aj hlen,aj LU,l9]at hl;have HL2:=ah hl;clear hl LU;go_wp2_with fail;go_quiet (fail);have D9:=ah (HD.out.drewN nq);obtain⟨wq,hwq⟩:∃wq,wr.drewN nq=wq:=⟨_,rfl⟩
       rw[hwq]at D9⊢;clear z0;have z0:=(HDX.out _ D9.out.aB).c0;go_upto_region 18 with(go_at_call 73;refine(HKX.out x _ D9.out.aB HXL.out).mono ?_;rintro e w5 ⟨rfl,hb5⟩;rw[HXY.out];have O1:=ah (D9.out.below hb5);clear hb5)
       go_wp2_with fail;(try rw[HWJ.out]);exact⟨⟨j+1,acc,by have:=HIJ.out;omega,by omega,rfl,O1.out,by have:=yM.out;omega,HL2.out⟩,by simp[RowKit.intOf];omega⟩
    ·obtain rfl:j=n:=by omega
     rw[kP (by rw[V8.out];exact ay _)]at hl;have Q9:=Lib.hid (show acc++EvL.outer want (eY true s) (L.drop (i+1))=EvL.outer want (eY true s) L by rw[<-hl];simp[EvL.inner]);have yM:=ah (show acc.length<=200*(i+1)by omega);clear hl hal hij;go_wp2_with fail;subst hQ;go_wp2_with fail;(try rw[rU.out]);exact⟨⟨i+1,acc,hlt,rfl,HD.out,yM.out,Q9.out⟩,by simp[RowKit.intOf];omega⟩
  ·obtain rfl:i=n:=by omega
   rw[kP (by rw[V8.out];exact ay _)]at hl;have Q9:=Lib.hid (show acc=EvL.outer want (eY true s) L by rw[<-hl];simp[EvL.outer]);clear hl hal;go_wp2_with fail;go_ret;refine⟨_,rfl,HF3.out.aB.trans (HD.out.aB.mono HF3.out.aB.size),?_⟩;rw[<-Q9.out];exact sK HD.out.out (λk hk=>aS HF3.out.aB.size (bB HD.out.out hk).1)
theorem adi (s t:ByteArray) (L:List (Nat×Nat)) (fo le wo:Bool) (W:World) (hL:L.length<=1000)
 (hE:∀w,Below W.heap.size W w->Calls Tryz.prog 19 #[.string s, .string t, .agg #[.bool fo, .bool le, .bool wo]] w (jQ L w)):
 Calls Tryz.prog 18 #[.string s, .string t, .agg #[.bool fo, .bool le, .bool wo]] W (qx (Left.kT 0 L) W):=by
 have HE:=ah hE;clear hE;obtain⟨N,hN⟩:∃N,L.length=N:=⟨_,rfl⟩
 rw[hN]at hL;have HN:=ah hN;clear hN;obtain⟨i0,hi0,hz0,hz1,hz2⟩:=eD qw;go_enter Tryz.func18,Tryz.ntmps18;go_wp2_with (go_at_call 19;refine(HE.out _ ((aF _ W).alloc (ay _) _)).mono ?_;rintro e w1 ⟨v,rfl,hb1,hown1⟩;rw[HN.out]at hown1;obtain⟨A,c,rfl,_⟩:=jo hown1;have HB1:=ah (((aF _ W).alloc (ay _) _).trans (hb1.mono (dD (by simp))));have HR:=ah (Bw HN.out hown1 (by omega));clear hb1 hown1);go_loopw [10,8,9] (λi vo ve wr=>∃(k:Nat) (acc:List (Nat×Nat)) (en:Nat) (Ao:Option Addr) (m co:Nat),k<=N/\i= .int .i64 k/\vo= .slice Ao m co/\m=acc.length/\ve= .int .i64 en/\AL w1 (.slice Ao m co) acc wr/\m<=k/\acc++Left.kT en (L.drop k)=Left.kT 0 L) (λi _ _ _=>N-(RowKit.intOf i).toNat);case atStart=>exact⟨0,[],0,none,0,0,aH _,rfl,rfl,rfl,rfl,⟨aF _ _,⟨rfl, .inl ⟨rfl,rfl⟩⟩⟩,ay _,rfl⟩
 case round=>
  obtain⟨k,acc,en,Ao,m,co,hk,rfl,rfl,hm,rfl,hA,hmk,hl⟩:=hrel;have HA:=ah hA;clear hA;have HM:=ah hm;clear hm;by_cases hlt:k<N
  ·obtain⟨g,rfl,hg,hc⟩:=HR.out.at_ (by omega);obtain⟨c0,c1⟩:=hc k hlt;have hp:L[k]? =some (L.getD k Left.m0):=by rw[aM,aX (by rw[HN.out];exact hlt)];rfl
   obtain⟨⟨a,b⟩,hab⟩:∃p,L.getD k Left.m0=p:=⟨_,rfl⟩
   rw[hab]at c0 c1 hp;rw[drop_at hp]at hl;have hu:∀e (x:Nat×Nat) r,Left.kT e (x::r)=if e<=x.1 then x::Left.kT x.2 r else Left.kT e r:=λ_ _ _=>rfl
   rw[hu]at hl;dsimp only at hl;clear hu;have d0:=(HA.out.aB.cell (p:=⟨g,k*2,none⟩) hg).trans c0;have d1:=(HA.out.aB.cell (p:=⟨g,k*2+1,none⟩) hg).trans c1;have HD1:=ah (λ(w:World) (hb:Below w1.heap.size w1 w)=>(hb.cell (p:=⟨g,k*2+1,none⟩) hg).trans c1);clear c0 c1 hc hab hp hg;have hwk:wrap64 ((k:Int)+1)=((k+1:Nat):Int):=by unfold wrap64;omega
   have jX:=ah hwk;clear hwk;have hk0:(0:Int)<=k:=by omega
   have hk1:(k:Int)<N:=by omega
   have HL:=ah hl;clear hl;by_cases hae:en<=a
   ·have hai:(en:Int)<=a:=by omega
    have hl:=HL.out;rw[ak hae]at hl;have Q9:=ah (show(acc++[(a,b)])++Left.kT b (L.drop (k+1))=Left.kT 0 L by rw[dR];exact hl);clear hl HL hae;have LD:=ah (show m+1<=maxLen by simp only[maxLen];omega);have Ra:=ah (show(m+1)*16<=0x800000000000 by omega);have WV:=ah (HA.out.below ((aF _ wr).alloc (ay _) (.cells #[.int .i64 a, .int .i64 b] 33)));have HOF:=ah (λ(v':Value) (w':World) (h1:w'.ownsRow w1.heap.size 33 2 v' (m+1) (bR acc++[.int .i64 a, .int .i64 b])) (h2:(wr.alloc (.cells #[.int .i64 a, .int .i64 b] 33)).grownBy w' (Value.slice Ao m co).ownBlock)=>show AL w1 v' (acc++[(a,b)]) w' from WV.out.grow (HM.out▸h1) h2);have HOW:Hid ((wr.alloc (.cells #[.int .i64 a, .int .i64 b] 33)).ownsRow w1.heap.size 33 2 (.slice Ao m co) m (bR acc)):=ah (HM.out.symm▸WV.out.own);have Mi:=ah WV.out.aB.size;go_wp2_with (at_builtin;refine qW _ rfl (.tmp 28) (.tmp 33) 29 rfl w1.heap.size 33 i0 _ 2 16 Tryz.underlying29 hi0 hz0 hz1 hz2 rfl (by omega) _ m (bR acc) rfl HOW.out ⟨wr.heap.size,0,none⟩ 1 1 [.int .i64 a, .int .i64 b] rfl rfl (xW (cO _ _)) (Zy _ _ rfl rfl) (by omega) LD.out Ra.out Mi.out _ rfl ?_;intro g3 IV w3 hown3 hgrow3 _ _;have Ml:=ah (HOF.out _ _ hown3 hgrow3);have d1:=HD1.out _ Ml.out.aB;clear hown3 hgrow3);exact⟨⟨k+1,acc++[(a,b)],b,_,_,_,hlt,by first|rw[jX.out]|rfl,rfl,by rw[List.length_append,HM.out];rfl,rfl,Ml.out,Nat.succ_le_succ hmk,Q9.out⟩,by first|(rw[jX.out];simp[RowKit.intOf];omega)|(simp[RowKit.intOf];omega)⟩
   ·have hai:¬(en:Int)<=a:=by omega
    have hl:=HL.out;rw[aj hae]at hl;have Q9:=ah hl;clear hl HL hae;go_wp2;exact⟨⟨k+1,acc,en,Ao,m,co,hlt,by first|rw[jX.out]|rfl,rfl,HM.out,rfl,HA.out,Nat.le_succ_of_le hmk,Q9.out⟩,by first|(rw[jX.out];simp[RowKit.intOf];omega)|(simp[RowKit.intOf];omega)⟩
  ·have hkn:k=N:=by omega
   rw[kP (by rw[HN.out,hkn];exact ay _)]at hl;have HL:=Lib.hid (show acc=Left.kT 0 L by rw[<-hl];simp[Left.kT]);have HMS:=ah (show m<=100000 by omega);clear hl hkn hmk;go_wp2;go_ret;exact⟨Ao,m,co,rfl,by rw[<-HL.out];exact Bw HM.out.symm (show wr.ownsRow w1.heap.size _ 2 (.slice Ao m co) m (bR acc)from HM.out.symm▸HA.out.own) HMS.out,HB1.out.trans (HA.out.aB.mono HB1.out.size)⟩
