/- SearchWide, walked: the document's runes, edges, places, Every, All. -/
import Derived.Test.YtocaiijbhepnnaaGreatDoorGC
set_option maxRecDepth 100000
set_option maxHeartbeats 8000000
namespace Go.Proofs.YtocaiijbhepnnaaGreatDoor.searchWide
open Go.Shelf Go.RowKit Go.Lib Go.Proofs.YtocaiijbhepnnaaGreatDoor.Am
section
variable {α:Type} (enc:α->List Value)
def mh (l:List α):List Value:=l.flatMap enc
theorem uE (l x:List α):mh enc (l++x)=mh enc l++mh enc x:=by simp[mh]
theorem uF (a:α):mh enc [a]=enc a:=by simp[mh]
theorem uG {s:Nat} (h:∀a,(enc a).length=s):∀l:List α,(mh enc l).length=l.length*s
 |[]=>by simp[mh]
 |a::l=>by have ih:=uG h l;show(enc a++mh enc l).length=_;rw[bT,ih,h,dx,eY,Nat.one_mul,Nat.add_comm]
theorem Mq {s:Nat} (h:∀a,(enc a).length=s) (d:α):∀(l:List α) (k i:Nat),k<l.length->i<s->(mh enc l)[k*s+i]? =(enc (l.getD k d))[i]?
 |[],k,_,hk,_=>absurd hk (iM k)
 |a::l,0,i,_,hi=>by show(enc a++mh enc l)[0*s+i]? =_;rw[jl,bL,nL (by rw[h];exact hi)];rfl
 |a::l,k+1,i,hk,hi=>by have ih:=Mq h d l k i (by simpa using hk) hi;show(enc a++mh enc l)[(k+1)*s+i]? =_;rw[eY,Nat.one_mul,pK (by rw[h];omega),h,show k*s+s+i-s=k*s+i by omega,ih];rfl
end
structure wT {α:Type} (enc:α->List Value) (s:Nat) (d:α) (w:World) (A:Option Addr) (n:Nat) (l:List α):Prop where
 len:l.length=n
 small:n<=100000
 at_:0<n->∃g,A=some ⟨g,0,none⟩/\g<w.heap.size/\∀j,j<n->∀i u,i<s->(enc (l.getD j d))[i]? =some u->w.cell? ⟨g,j*s+i,none⟩=some u
theorem wT.below {α:Type} {enc:α->List Value} {s:Nat} {d:α} {w w':World} {A:Option Addr} {n:Nat} {l:List α} (h:wT enc s d w A n l) (hb:Below w.heap.size w w'):wT enc s d w' A n l:=
 ⟨h.len,h.small,λh0=>by
  obtain⟨g,e,hg,hc⟩:=h.at_ h0;exact⟨g,e,bC hg hb.size,λj hj i u hi hu=>by rw[hb.cell (p:=⟨g,j*s+i,none⟩) hg];exact hc j hj i u hi hu⟩⟩
theorem Bc {α:Type} {enc:α->List Value} {s:Nat} (hs:∀a,(enc a).length=s) (d:α) {w:World} {base n c:Nat} {A:Option Addr} {T:TypeId} {l:List α} (hn:l.length=n) (h:w.ownsRow base T s (.slice A n c) n (mh enc l)) (hm:n<=100000):wT enc s d w A n l:=by refine⟨hn,hm,λh0=> ?_⟩;obtain⟨g,rfl⟩:=um h h0;refine⟨g,rfl,(bZ h (g:=g) rfl).2.1,λj hj i u hi hu=> ?_⟩;have c:=rQ (g:=g) h rfl (j*s+i) u (by rw[Mq enc hs d l j i (by omega) hi];exact hu);rw[iE,bL]at c;exact c
structure Acc {α:Type} (enc:α->List Value) (s:Nat) (T:TypeId) (W:World) (v:Value) (acc:List α) (w:World):Prop where
 aD:Below W.heap.size W w
 own:w.ownsRow W.heap.size T s v acc.length (mh enc acc)
section
variable {α:Type} {enc:α->List Value} {s:Nat} {T:TypeId} {W w w':World} {v v':Value} {acc:List α}
theorem Acc.nil (enc:α->List Value) (s:Nat) (T:TypeId) (W:World):Acc enc s T W (.slice none 0 0) [] W:=⟨Below.refl _ _,⟨by simp[mh], .inl ⟨rfl,rfl⟩⟩⟩
theorem Acc.below (h:Acc enc s T W v acc w) (hb:Below w.heap.size w w'):Acc enc s T W v acc w':=⟨h.aD.trans (hb.mono h.aD.size),own_below hb h.own⟩
theorem Acc.alloc (h:Acc enc s T W v acc w) (o:Obj):Acc enc s T W v acc (w.alloc o):=h.below ((aM _ w).alloc (ay _) o)
theorem Acc.drewN (h:Acc enc s T W v acc w) (q:Nat):Acc enc s T W v acc (w.drewN q):=⟨⟨h.aD.os,h.aD.tape,h.aD.output,h.aD.size,h.aD.block⟩,h.own⟩
theorem Acc.grown {x:α} {m:Nat} (hm:m=acc.length+1) (h:Acc enc s T W v acc w) (ho:w'.ownsRow W.heap.size T s v' m (mh enc acc++enc x)) (hg:w.grownBy w' v.ownBlock):Acc enc s T W v' (acc++[x]) w':=by refine⟨h.aD.grown hg h.aD.size (λk hk=>(bZ h.own hk).1),?_⟩;rw[uE,uF,bT];subst hm;exact ho
end
section
open Folds (dec aZ bQ)
abbrev RN:=Nat×Nat×Nat
def Fg (x:RN):List Value:=[.int .i32 x.1, .int .i64 x.2.1, .int .i64 x.2.2]
def Sw:RN:=(0,0,0)
theorem zx (x:RN):(Fg x).length=3:=rfl
def Oz (L:Nat):List (Nat×Nat)->List RN
 |[]=>[]
 |[x]=>[(x.2,x.1,L)]
 |x::y::r=>(x.2,x.1,y.1)::Oz L (y::r)
theorem Mr (L:Nat):∀(p:List (Nat×Nat)) (z x:Nat×Nat),∃a,Oz L (p++[z])=a++[(z.2,z.1,L)]/\Oz L (p++[z]++[x])=a++[(z.2,z.1,x.1)]++[(x.2,x.1,L)]/\a.length=p.length
 |[],_,_=>⟨[],rfl,rfl,rfl⟩
 |[u],z,x=>⟨[(u.2,u.1,z.1)],rfl,rfl,rfl⟩
 |u::v::r,z,x=>by
  obtain⟨a,h1,h2,h3⟩:=Mr L (v::r) z x;refine⟨(u.2,u.1,v.1)::a,?_,?_,by simpa using h3⟩;·show(u.2,u.1,v.1)::Oz L (v::r++[z])=_;rw[h1];rfl
  ·show(u.2,u.1,v.1)::Oz L (v::r++[z]++[x])=_;rw[h2];rfl
theorem QA (L:Nat):∀l:List (Nat×Nat),(Oz L l).length=l.length
 |[]=>rfl
 |[_]=>rfl
 |x::y::r=>by show(Oz L (y::r)).length+1=_;rw[QA L (y::r)];rfl
theorem Zw:(Tryz.prog.info? 145).map (λi=>(i.zero,i.size,i.bytes))=some (some (.agg #[.int .i32 0, .int .i64 0, .int .i64 0]),3,24):=by kernel_rfl
theorem Ms (w:World) (m:RN) (ty:TypeId):∀j u,(Fg m)[j]? =some u->(w.alloc (.cells (Fg m).toArray ty)).cell? ((⟨w.heap.size,0,none⟩:Addr).add j)=some u:=by intro j u hu;rw[iE,bL,bE _ _ _ _ _ _ (dH w _),<-hu];simp
theorem Sy (w:World) (m:RN) (ty:TypeId) (k:Nat) (hk:w.heap.size=k):∀j u,(Fg m)[j]? =some u->(w.alloc (.cells (Fg m).toArray ty)).cell? ((⟨k,0,none⟩:Addr).add j)=some u:=by subst hk;exact Ms w m ty
theorem Mt (m:RN):∀u∈Fg m,u.oneCell'=true:=by intro u hu;simp[Fg]at hu;rcases hu with rfl|rfl|rfl<;>rfl
structure OC (W:World) (s:ByteArray) (e m:Nat) (v:Value) (acc:List RN) (w:World):Prop where
 aD:Below W.heap.size W w
 it:w.heap[W.heap.size]? =some (.stringIter s e)
 own:w.ownsRow W.heap.size 145 3 v m (mh Fg acc)
section
variable {W w w':World} {s:ByteArray} {e m:Nat} {v:Value} {acc:List RN}
theorem OC.below (h:OC W s e m v acc w) (hb:Below w.heap.size w w'):OC W s e m v acc w':=
 ⟨h.aD.trans (hb.mono h.aD.size),bM hb h.it,own_below hb h.own⟩
theorem OC.iter (h:OC W s e m v acc w) (e':Nat):OC W s e' m v acc (w.iterAt W.heap.size s e'):=
 ⟨below_iterAt h.aD (ay _) s e',iterAt_heap w _ s e e' h.it,own_iterAt h.it h.own⟩
theorem OC.grow (h:OC W s e m v acc w) {o:Obj} {v':Value} {x:RN} (ho:w'.ownsRow W.heap.size 145 3 v' (m+1) (mh Fg acc++Fg x)) (hg:(w.alloc o).grownBy w' v.ownBlock):OC W s e (m+1) v' (acc++[x]) w':=by have h':=h.below ((aM _ w).alloc (ay _) o);refine⟨h'.aD.grown hg h'.aD.size (λk hk=>(bZ h'.own hk).1),?_,by rw[uE,uF];exact ho⟩;rw[hg.block _ (bU h'.it) (λc=>by obtain⟨_,_,cur,hc⟩:=bZ h'.own (g:=W.heap.size) (by first|exact c|exact c.symm);rw[h'.it]at hc;cases hc)];exact h'.it
theorem WE (a:List RN) (r f t u:Nat):(mh Fg (a++[(r,f,t)])).set (a.length*3+2) (.int .i64 (u:Int))=mh Fg (a++[(r,f,u)]):=by rw[uE,uE,uF,uF,List.set_append_right _ _ (by rw[uG Fg zx];omega),uG Fg zx,pJ];rfl
theorem OC.last {g c:Nat} {a:List RN} {r f t:Nat} (h:OC W s e m (.slice (some ⟨g,0,none⟩) m c) (a++[(r,f,t)]) w) (u:Nat) (hgs:g≠W.heap.size):OC W s e m (.slice (some ⟨g,0,none⟩) m c) (a++[(r,f,u)]) (w.setCell ⟨g,a.length*3+2,none⟩ (.int .i64 (u:Int))):=by
 have hl:=bZ h.own (g:=g) rfl;refine⟨Below.setCell h.aD hl.1 _,?_,?_⟩;·rw[vT _ _ _ _ (λc=>hgs c.symm)];exact h.it
 ·have:=(h.own.stored (a.length*3+2) (.int .i64 (u:Int))).1;rwa [WE]at this
end
def wU (t:List UInt8):List RN:=Oz t.length (marks t)
theorem wC (t:List UInt8):(wU t).length=(marks t).length:=QA _ _
def Mv (t:List UInt8) (W:World) (e:Ending) (w':World):Prop:=∃A n c,e= .returned (.slice A n c)/\wT Fg 3 Sw w' A n (wU t)/\Below W.heap.size W w'
theorem Bd (t:List UInt8) (W:World) (hn:t.length<=10000):Calls Tryz.prog 89 #[.string ⟨t.toArray⟩] W (Mv t W):=by
 obtain⟨s,hs⟩:∃s:ByteArray,(⟨t.toArray⟩:ByteArray)=s:=⟨_,rfl⟩
 have hss:s.size=t.length:=size_mk t s hs;rw[hs];have HS:=ah hs;have oI:=ah hss;have LY:=ah hn;clear hs hss hn;obtain⟨i0,hI0,hz0,hz1,hz2⟩:=iA Zw;go_enter Tryz.func89,Tryz.ntmps89;go_wp2_with fail;go_loopw [3] (λvo wr=>∃(e f m:Nat) (A:Option Addr) (c:Nat) (p:List (Nat×Nat)),vo= .slice A m c/\OC W s e m (.slice A m c) (Oz t.length p) wr/\e<=s.size/\s.size<f+e+1/\m<=e/\p.length=m/\p++aG t f e=marks t) (λ_ wr=>s.size-wr.iterPos W.heap.size);case atStart=>exact⟨0,t.length,0,none,0,[],rfl,⟨(aM _ W).alloc (ay _) _,dH W _,⟨rfl, .inl ⟨rfl,rfl⟩⟩⟩,aL _,by have:=oI.out;omega,ay _,rfl,rfl⟩
 case round=>
  obtain⟨e,f,m,A,c,p,rfl,hOL,he,hf,hm,hpl,hl⟩:=hrel;have hit:=hOL.it;have HOL:=ah hOL;clear hOL;by_cases hlt:e<s.size
  ·obtain⟨f',rfl⟩:∃f',f=f'+1:=⟨f-1,by omega⟩
   have hlt2:e<t.length:=by have:=oI.out;omega
   unfold aG at hl;rw[au hlt2]at hl;have hnx:=λty=>run_next_any_at (P:=Tryz.prog) wr _ s e ty hit hlt;rw[ig t e s HS.out]at hnx;have hne2:t.drop e≠[]:=by intro c;rw[lI]at c;have:=oI.out;omega
   have hd1:=aZ (t.drop e);have hd2:=bQ (t.drop e) hne2;rw[dF,<-oI.out]at hd2;obtain⟨r,hr⟩:∃r,(dec (t.drop e)).1=r:=⟨_,rfl⟩
   obtain⟨wd,hwd⟩:∃wd,(dec (t.drop e)).2=wd:=⟨_,rfl⟩
   rw[hwd]at hd1 hd2;rw[hr,hwd]at hnx hl;obtain⟨ew,F5⟩:∃ew,e+wd=ew:=⟨_,rfl⟩
   rw[F5]at hnx hl;have HL:=ah hl;clear hr hwd hl hlt2 hne2;have HLEN:=ah (show m+1<=maxLen/\(m+1)*24<=0x800000000000 by have:=LY.out;have:=oI.out;exact⟨by simp only[maxLen];omega,by omega⟩);have tq:=ah (HOL.out.iter ew);have hq2:wr.iterPos W.heap.size=e:=by unfold World.iterPos;rw[hit]
   have KEY:=ah (λ(B1:Option Addr) (d1:Nat) (w':World) (h:OC W s ew (m+1) (.slice B1 (m+1) d1) (Oz t.length (p++[(e,r)])) w')=>
    show(∃(e' f m':Nat) (A:Option Addr) (c:Nat) (p:List (Nat×Nat)),Value.slice B1 (m+1) d1= .slice A m' c/\OC W s e' m' (.slice A m' c) (Oz t.length p) w'/\e'<=s.size/\s.size<f+e'+1/\m'<=e'/\p.length=m'/\p++aG t f e'=marks t)/\s.size-w'.iterPos W.heap.size<s.size-wr.iterPos W.heap.size from by
     refine⟨⟨ew,f',m+1,B1,d1,_,rfl,h,by omega,by omega,by omega,by rw[bT,hpl];rfl,by rw[iJ];exact HL.out⟩,?_⟩;have q1:w'.iterPos W.heap.size=ew:=by unfold World.iterPos;rw[h.it]
     rw[q1,hq2];omega)
   have TA:=ah hpl;clear F5 hd1 hd2 hf hm he hq2 hlt hpl;have hsz:(s.size:Int)=(t.length:Nat):=by rw[oI.out]
   rcases List.eq_nil_or_concat p with rfl|⟨p0,z,hp0⟩
   ·have hm0:m=0:=TA.out.symm;subst hm0;go_wp2_with (at_builtin;(refine zi _ rfl (.tmp 22) (.tmp 28) 142 rfl W.heap.size 145 i0 _ 3 24 Tryz.underlying142 hI0 hz0 hz1 hz2 rfl (by decide) (.slice A 0 c) 0 (mh Fg []) rfl (iG tq.out.own) ⟨_,0,none⟩ 1 1 (Fg (r,e,t.length)) rfl rfl (Ms _ _ _) (Mt _) (by decide) HLEN.out.1 HLEN.out.2 (lJ tq.out.aD.size) _ rfl ?_);intro g cap wq ho hg hl hs);exact KEY.out _ _ _ (tq.out.grow (x:=(r,e,t.length)) ho hg)
   ·obtain⟨a,ha1,ha2,ha3⟩:=Mr t.length p0 z (e,r);rw[List.concat_eq_append]at hp0;rw[<-hp0]at ha1 ha2;have hm1:m=a.length+1:=by rw[<-TA.out,hp0,bT,ha3];rfl
    rw[ha1]at tq;rw[ha2]at KEY;have HOW:=tq.out.own;obtain⟨g,rfl⟩:=um HOW (by omega);have hgs:g≠W.heap.size:=λc=>by obtain⟨_,_,cur,hc⟩:=bZ HOW (g:=g) rfl;rw[c,tq.out.it]at hc;cases hc
    have HSL:=ah (tq.out.last (u:=e) hgs);have hcell:=rQ (g:=g) HOW rfl (a.length*3+2) (.int .i64 (t.length:Nat)) (by rw[uE,uF,pK (by rw[uG Fg zx];omega),uG Fg zx,pJ];rfl);rw[iE,bL]at hcell;have hfz:(wr.iterAt W.heap.size s ew).frozen? ⟨g,a.length*3+2,none⟩=false:=HOW.frozenAt _;obtain⟨q,hq⟩:∃q,a.length=q:=⟨_,rfl⟩
    rw[hq]at hm1 hcell HSL hfz;subst hm1;have hwq:wrap64 (q:Int)=q:=by have:=HLEN.out.2;unfold wrap64;omega
    have hq0:(0:Int)<(q:Int)+1:=by omega
    clear HOW hgs ha1 ha2 ha3 hp0;go_wp2_with (at_builtin;(refine wpList_append_lies _ rfl (.tmp 22) (.tmp 28) 142 rfl W.heap.size 145 i0 _ 3 24 Tryz.underlying142 hI0 hz0 hz1 hz2 rfl (by decide) (.slice (some ⟨g,0,none⟩) (q+1) c) (q+1) (mh Fg (a++[(z.2,z.1,e)])) rfl (iG HSL.out.own) ⟨_,0,none⟩ 1 1 (Fg (r,e,t.length)) rfl rfl (Sy _ _ _ _ (by simp[World.setCell])) (Mt _) (by decide) HLEN.out.1 HLEN.out.2 (lJ HSL.out.aD.size) _ rfl ?_);intro g3 cap wq ho hg hl hs);exact KEY.out _ _ _ (HSL.out.grow (x:=(r,e,t.length)) ho hg)
  ·obtain rfl:e=s.size:=by omega
   have hz:aG t f s.size=[]:=by
    cases f with
    |zero=>rfl
    |succ f=>unfold aG;rw[ak (by have:=oI.out;omega)]
   rw[hz,iL]at hl;subst hl;clear hz;have hnx:=λty=>run_next_end_at (P:=Tryz.prog) wr _ s s.size ty hit hlt;have hmm:m<=100000:=by have:=oI.out;have:=LY.out;omega
   have HM:=ah hmm;have TA:=ah hpl;clear hf he hm hmm hlt hpl;go_wp2_with fail;go_ret;exact⟨A,m,c,rfl,Bc zx Sw (by rw[wC];exact TA.out) HOL.out.own HM.out,HOL.out.aD⟩
end
theorem Bf {zs:List Int} {k:Nat} (h:k<zs.length):zs.getD k 0∈zs:=by rw[aU,bJ h];exact mK h
theorem rY {zs:List Int} {x:Int} (h:∀j,j<zs.length->¬zs.getD j 0=x):¬x∈zs:=λhm=>by obtain⟨j,hj,he⟩:=rJ.1 hm;exact h j hj (by rw[aU,bJ hj];exact he)
theorem Mw (zs:List Int) (x:Int) (A:Option Addr) (n c:Nat) (W:World) (hR:cB W A n zs):
 Calls Tryz.prog 23 #[.slice A n c, .int .i64 x] W λe w'=>e= .returned (.bool (decide (x∈zs)))/\w'=W:=by
 have hsm:=hR.small;have HR:=ah hR;clear hR;go_enter Tryz.func23,Tryz.ntmps23;go_wp2;go_loopw [5] (λi wr=>∃k:Nat,k<=n/\i= .int .i64 k/\(∀j,j<k->¬zs.getD j 0=x)/\wr=W) (λi _=>n-(RowKit.intOf i).toNat);case atStart=>exact⟨0,aL _,rfl,(λj hj=>absurd hj (iM j)),rfl⟩
 case round=>
  obtain⟨k,hk,rfl,hlo,rfl⟩:=hrel;have sP:=ah hlo;clear hlo;by_cases hlt:k<n
  ·obtain⟨g,o,rfl,hg,hc⟩:=HR.out.at_ (by omega);have hck:=hc k hlt;have HM:=ah (Bf (zs:=zs) (k:=k) (by rw[HR.out.len];exact hlt));obtain⟨y,hy⟩:∃y,zs.getD k 0=y:=⟨_,rfl⟩
   rw[hy]at hck HM;have HY:=ah hy;have hk0:(0:Int)<=k:=by omega
   have hk1:(k:Int)<n:=by omega
   clear hc hy hg;have hwk:wrap64 ((k:Int)+1)=((k+1:Nat):Int):=by unfold wrap64;omega
   have iQ:=ah hwk;clear hwk;by_cases hyx:y=x;·subst hyx;go_wp2;go_ret;exact⟨by rw[bg HM.out];rfl,rfl⟩
   ·have XT:=ah (show ∀j,j<k+1->¬zs.getD j 0=x from λj hj=>by
     rcases aN j k with c|c;·exact sP.out j c
     ·obtain rfl:j=k:=by omega
      rw[HY.out];exact hyx)
    have hyb:(y==x)=false:=iw.2 hyx;go_wp2;exact⟨⟨k+1,hlt,by first|rw[iQ.out]|rfl,XT.out,by first|rfl|trivial⟩,by first|(rw[iQ.out];simp[RowKit.intOf];omega)|(simp[RowKit.intOf];omega)⟩
  ·obtain rfl:k=n:=by omega
   have HN:=ah (rY (zs:=zs) (x:=x) (λj hj=>sP.out j (by rw[<-HR.out.len];exact hj)));go_wp2;go_ret;exact⟨by rw[bK HN.out];rfl,rfl⟩
theorem Zx (zs:List Int) (x:Int) (A:Option Addr) (n c:Nat) (W:World) (hR:cB W A n zs):
 Calls Tryz.prog 183 #[.slice A n c, .int .i64 x] W λe w'=>e= .returned (.bool (decide (x∈zs)))/\w'=W:=by
 have hsm:=hR.small;have HR:=ah hR;clear hR;go_enter Tryz.func183,Tryz.ntmps183;go_wp2;go_loopw [5] (λi wr=>∃k:Nat,k<=n/\i= .int .i64 k/\(∀j,j<k->¬zs.getD j 0=x)/\wr=W) (λi _=>n-(RowKit.intOf i).toNat);case atStart=>exact⟨0,aL _,rfl,(λj hj=>absurd hj (iM j)),rfl⟩
 case round=>
  obtain⟨k,hk,rfl,hlo,rfl⟩:=hrel;have sP:=ah hlo;clear hlo;by_cases hlt:k<n
  ·obtain⟨g,o,rfl,hg,hc⟩:=HR.out.at_ (by omega);have hck:=hc k hlt;have HM:=ah (Bf (zs:=zs) (k:=k) (by rw[HR.out.len];exact hlt));obtain⟨y,hy⟩:∃y,zs.getD k 0=y:=⟨_,rfl⟩
   rw[hy]at hck HM;have HY:=ah hy;have hk0:(0:Int)<=k:=by omega
   have hk1:(k:Int)<n:=by omega
   clear hc hy hg;have hwk:wrap64 ((k:Int)+1)=((k+1:Nat):Int):=by unfold wrap64;omega
   have iQ:=ah hwk;clear hwk;by_cases hyx:y=x;·subst hyx;go_wp2;go_ret;exact⟨by rw[bg HM.out];rfl,rfl⟩
   ·have XT:=ah (show ∀j,j<k+1->¬zs.getD j 0=x from λj hj=>by
     rcases aN j k with c|c;·exact sP.out j c
     ·obtain rfl:j=k:=by omega
      rw[HY.out];exact hyx)
    have hyb:(y==x)=false:=iw.2 hyx;go_wp2;exact⟨⟨k+1,hlt,by first|rw[iQ.out]|rfl,XT.out,by first|rfl|trivial⟩,by first|(rw[iQ.out];simp[RowKit.intOf];omega)|(simp[RowKit.intOf];omega)⟩
  ·obtain rfl:k=n:=by omega
   have HN:=ah (rY (zs:=zs) (x:=x) (λj hj=>sP.out j (by rw[<-HR.out.len];exact hj)));go_wp2;go_ret;exact⟨by rw[bK HN.out];rfl,rfl⟩
theorem Zy (zs:List Int) (x:Int) (A:Option Addr) (n c:Nat) (W:World) (hR:cB W A n zs):
 Calls Tryz.prog 281 #[.slice A n c, .int .i64 x] W λe w'=>e= .returned (.bool (decide (x∈zs)))/\w'=W:=by
 have hsm:=hR.small;have HR:=ah hR;clear hR;go_enter Tryz.func281,Tryz.ntmps281;go_wp2;go_loopw [5] (λi wr=>∃k:Nat,k<=n/\i= .int .i64 k/\(∀j,j<k->¬zs.getD j 0=x)/\wr=W) (λi _=>n-(RowKit.intOf i).toNat);case atStart=>exact⟨0,aL _,rfl,(λj hj=>absurd hj (iM j)),rfl⟩
 case round=>
  obtain⟨k,hk,rfl,hlo,rfl⟩:=hrel;have sP:=ah hlo;clear hlo;by_cases hlt:k<n
  ·obtain⟨g,o,rfl,hg,hc⟩:=HR.out.at_ (by omega);have hck:=hc k hlt;have HM:=ah (Bf (zs:=zs) (k:=k) (by rw[HR.out.len];exact hlt));obtain⟨y,hy⟩:∃y,zs.getD k 0=y:=⟨_,rfl⟩
   rw[hy]at hck HM;have HY:=ah hy;have hk0:(0:Int)<=k:=by omega
   have hk1:(k:Int)<n:=by omega
   clear hc hy hg;have hwk:wrap64 ((k:Int)+1)=((k+1:Nat):Int):=by unfold wrap64;omega
   have iQ:=ah hwk;clear hwk;by_cases hyx:y=x;·subst hyx;go_wp2;go_ret;exact⟨by rw[bg HM.out];rfl,rfl⟩
   ·have XT:=ah (show ∀j,j<k+1->¬zs.getD j 0=x from λj hj=>by
     rcases aN j k with c|c;·exact sP.out j c
     ·obtain rfl:j=k:=by omega
      rw[HY.out];exact hyx)
    have hyb:(y==x)=false:=iw.2 hyx;go_wp2;exact⟨⟨k+1,hlt,by first|rw[iQ.out]|rfl,XT.out,by first|rfl|trivial⟩,by first|(rw[iQ.out];simp[RowKit.intOf];omega)|(simp[RowKit.intOf];omega)⟩
  ·obtain rfl:k=n:=by omega
   have HN:=ah (rY (zs:=zs) (x:=x) (λj hj=>sP.out j (by rw[<-HR.out.len];exact hj)));go_wp2;go_ret;exact⟨by rw[bK HN.out];rfl,rfl⟩
theorem Mx (zs:List Int) (x:Int) (A:Option Addr) (n c:Nat) (W:World) (hR:cB W A n zs):
 Calls Tryz.prog 179 #[.slice A n c, .int .i64 x] W λe w'=>e= .returned (.bool (decide (x∈zs)))/\w'=W:=by
 have hsm:=hR.small;have HR:=ah hR;clear hR;go_enter Tryz.func179,Tryz.ntmps179;go_wp2;go_loopw [5] (λi wr=>∃k:Nat,k<=n/\i= .int .i64 k/\(∀j,j<k->¬zs.getD j 0=x)/\wr=W) (λi _=>n-(RowKit.intOf i).toNat);case atStart=>exact⟨0,aL _,rfl,(λj hj=>absurd hj (iM j)),rfl⟩
 case round=>
  obtain⟨k,hk,rfl,hlo,rfl⟩:=hrel;have sP:=ah hlo;clear hlo;by_cases hlt:k<n
  ·obtain⟨g,o,rfl,hg,hc⟩:=HR.out.at_ (by omega);have hck:=hc k hlt;have HM:=ah (Bf (zs:=zs) (k:=k) (by rw[HR.out.len];exact hlt));obtain⟨y,hy⟩:∃y,zs.getD k 0=y:=⟨_,rfl⟩
   rw[hy]at hck HM;have HY:=ah hy;have hk0:(0:Int)<=k:=by omega
   have hk1:(k:Int)<n:=by omega
   clear hc hy hg;have hwk:wrap64 ((k:Int)+1)=((k+1:Nat):Int):=by unfold wrap64;omega
   have iQ:=ah hwk;clear hwk;by_cases hyx:y=x;·subst hyx;go_wp2;go_ret;exact⟨by rw[bg HM.out];rfl,rfl⟩
   ·have XT:=ah (show ∀j,j<k+1->¬zs.getD j 0=x from λj hj=>by
     rcases aN j k with c|c;·exact sP.out j c
     ·obtain rfl:j=k:=by omega
      rw[HY.out];exact hyx)
    have hyb:(y==x)=false:=iw.2 hyx;go_wp2;exact⟨⟨k+1,hlt,by first|rw[iQ.out]|rfl,XT.out,by first|rfl|trivial⟩,by first|(rw[iQ.out];simp[RowKit.intOf];omega)|(simp[RowKit.intOf];omega)⟩
  ·obtain rfl:k=n:=by omega
   have HN:=ah (rY (zs:=zs) (x:=x) (λj hj=>sP.out j (by rw[<-HR.out.len];exact hj)));go_wp2;go_ret;exact⟨by rw[bK HN.out];rfl,rfl⟩
structure IA (W:World) (v:Value) (m:Nat) (zs:List Int) (w:World):Prop where
 aD:Below W.heap.size W w
 own:w.ownsRow W.heap.size 3 1 v m (bX zs)
section
variable {W w w':World} {m:Nat} {v:Value} {zs:List Int}
theorem IA.nil (W:World):IA W (.slice none 0 0) 0 [] W:=⟨aM _ _,⟨rfl, .inl ⟨rfl,rfl⟩⟩⟩
theorem IA.below (h:IA W v m zs w) (hb:Below w.heap.size w w'):IA W v m zs w':=⟨h.aD.trans (hb.mono h.aD.size),own_below hb h.own⟩
theorem IA.gD (h:IA W v m zs w) {o:Obj}:(w.alloc o).ownsRow W.heap.size 3 1 v m (bX zs):=iG h.own
theorem IA.grow (h:IA W v m zs w) {o:Obj} {v':Value} {x:Int} (ho:w'.ownsRow W.heap.size 3 1 v' (m+1) (bX zs++[.int .i64 x])) (hg:(w.alloc o).grownBy w' v.ownBlock):IA W v' (m+1) (zs++[x]) w':=by have h':=h.below ((aM _ w).alloc (ay _) o);exact⟨h'.aD.grown hg h'.aD.size (λk hk=>(bZ h'.own hk).1),by rw[nJ];exact ho⟩
end
theorem QB (L:Nat):∀(l:List (Nat×Nat)) (k:Nat),k<l.length->((Oz L l).getD k Sw).2.1=(l.getD k (0,0)).1
 |[],_,h=>absurd h (iM _)
 |[_],0,_=>rfl
 |[_],_+1,h=>by simp at h
 |_::_::_,0,_=>rfl
 |x::y::r,k+1,h=>by have:=QB L (y::r) k (by simpa using h);show((Oz L (y::r)).getD k Sw).2.1=((y::r).getD k (0,0)).1;exact this
theorem QC (t:List UInt8) {k:Nat} (h:k<(marks t).length):(((wU t).getD k Sw).2.1:Int)=(gZ t).getD k 0:=by unfold wU;rw[QB _ _ _ h];unfold gZ;rw[aU,aU,iU,bJ h];rfl
theorem Dk (t:List UInt8):(gZ t).length=(marks t).length:=by unfold gZ;rw[dR]
def oC (t:List UInt8):List Int:=gZ t++[(t.length:Int)]
def lM (zs:List Int) (W:World) (e:Ending) (w':World):Prop:=∃A n c,e= .returned (.slice A n c)/\cB w' A n zs/\Below W.heap.size W w'
theorem Zz {m:Nat} (h:m<=100000):m+1<=maxLen/\(m+1)*8<=0x800000000000:=⟨by simp only[maxLen];omega,by omega⟩
def Sz (s:ByteArray) (ws:List Int) (w:World):Prop:=Calls Tryz.prog 21 #[.string s] w (lM ws w)
structure FB (W:World) (fo le wo:Bool) (w:World):Prop where
 aD:Below W.heap.size W w
 o:w.heap[W.heap.size]? =some (.cells #[.bool fo, .bool le, .bool wo] 28 (0,0))
section
open Folds (dec aZ bQ)
def sQ (fo:Bool) (t:List UInt8) (a b:Nat):List UInt8:=qL fo ((t.drop a).take (b-a))
inductive Reach (t:List UInt8):Nat->Nat->Prop
 |nil (a:Nat):Reach t a a
 |cons {a b:Nat}:a<t.length->Reach t (a+(dec (t.drop a)).2) b->Reach t a b
theorem Reach.le {t:List UInt8} {a b:Nat} (h:Reach t a b):a<=b:=by
 induction h with
 |nil a=>exact ay a
 |cons _ _ ih=>omega
theorem Reach.snoc {t:List UInt8} {a b:Nat} (h:Reach t a b) (hb:b<t.length):Reach t a (b+(dec (t.drop b)).2):=by
 induction h with
 |nil a=>exact .cons hb (.nil _)
 |cons h1 _ ih=>exact .cons h1 (ih hb)
theorem ZA (k:Nat) (l:List UInt8) (h:l≠[]):wr k l=Folds.one (λr=>qA (formV r k)) l++wr k (l.drop (dec l).2):=Folds.L6 _ l h
theorem WG (l:List UInt8) {m:Nat} (h:l≠[]) (hm:(dec l).2<=m):dec (l.take m)=dec l/\Folds.one (λr=>qA (formV r 3)) (l.take m)=Folds.one (λr=>qA (formV r 3)) l:=by
 have hp:=aZ l;have hn:=bQ l h;have hne:l.take m≠[]:=by intro c;have:=dX List.length c;rw[fF,j5]at this;omega
 have e:dec (l.take m)=dec l:=by have:=Folds.Zi (l.take m) (l.drop m) hne (by rw[qQ,fF];omega);rw[qQ]at this;exact this.symm
 refine⟨e,?_⟩;unfold Folds.one;rw[e,List.take_take,yx (by omega)]
theorem ac5 (k:Nat):wr k []=[]:=rfl
theorem ZB (t:List UInt8) {a e:Nat} (h:Reach t a e) (he:e<t.length):wr 3 ((t.drop a).take (e+(dec (t.drop e)).2-a))=wr 3 ((t.drop a).take (e-a))++wr 3 ((t.drop e).take (dec (t.drop e)).2):=by
 induction h with
 |nil a=>rw[uN,List.take_zero,ac5,xE,pJ]
 |cons h1 h2 ih=>
  rename_i a b;have hle:=h2.le;have hne:t.drop a≠[]:=by intro c;rw[lI]at c;omega
  have hp:=aZ (t.drop a);have hn:=bQ (t.drop a) hne;have key:∀m,(dec (t.drop a)).2<=m->wr 3 ((t.drop a).take m)=Folds.one (λr=>qA (formV r 3)) (t.drop a)++wr 3 ((t.drop (a+(dec (t.drop a)).2)).take (m-(dec (t.drop a)).2)):=λm hm=>by
   obtain⟨d1,d2⟩:=WG (t.drop a) hne hm;rw[ZA 3 _ (by
    intro c;have:=dX List.length c;rw[fF,j5]at this;omega),d1,d2,List.drop_take,List.drop_drop]
  rw[key _ (by omega),key _ (by omega),show b+(dec (t.drop b)).2-a-(dec (t.drop a)).2=b+(dec (t.drop b)).2-(a+(dec (t.drop a)).2)by omega,ih he,show b-a-(dec (t.drop a)).2=b-(a+(dec (t.drop a)).2)by omega,iJ]
theorem SA (t:List UInt8) {a e n:Nat} (h:a<=e):(t.drop a).take (e+n-a)=(t.drop a).take (e-a)++(t.drop e).take n:=by rw[show e+n-a=(e-a)+n by omega,List.take_add,List.drop_drop,show a+(e-a)=e by omega]
theorem ZC (fo:Bool) (t:List UInt8) {a e:Nat} (h:Reach t a e) (he:e<t.length):sQ fo t a (e+(dec (t.drop e)).2)=sQ fo t a e++qL fo ((t.drop e).take (dec (t.drop e)).2):=by
 unfold sQ qL;cases fo;·exact SA t h.le
 ·exact ZB t h he
section
variable (fo:Bool) (may:Int->Bool) (t:List UInt8)
theorem MB (a:Nat):∀n e,Reach t a e->e<=t.length->EvL.Parts (sQ fo t) a (sQ fo t a e) (xR (qL fo) may t n e)
 |0,_,_,_=>trivial
 |n+1,e,h,he=>by
  unfold xR;by_cases c:e<t.length;·rw[au c];refine⟨rfl,?_⟩;show EvL.Parts _ _ (sQ fo t a e++qL fo ((t.drop e).take (dec (t.drop e)).2)) _;rw[<-ZC fo t h c];exact MB a n _ (h.snoc c) (zq c).1
  ·rw[ak c];obtain rfl:e=t.length:=by omega
   exact⟨rfl,trivial⟩
theorem uH:∀n e,e<=t.length->EvL.zn (sQ fo t) (xR (qL fo) may t n e)
 |0,_,_=>trivial
 |n+1,e,he=>by
  unfold xR;by_cases c:e<t.length
  ·rw[au c];obtain⟨d1,d2⟩:=zq c;refine⟨?_,uH n _ d1⟩;have e1:qL fo ((t.drop e).take (dec (t.drop e)).2)=sQ fo t e (e+(dec (t.drop e)).2):=by unfold sQ;rw[pJ]
   show EvL.Parts _ _ (qL fo ((t.drop e).take (dec (t.drop e)).2)) _;rw[e1];exact MB fo may t e n _ (.cons c (.nil _)) d1
  ·rw[ak c];exact⟨trivial,trivial⟩
theorem MC:∀n e,e<=t.length->EvL.Shows (xR (qL fo) may t n e)
 |0,_,_=>trivial
 |n+1,e,he=>by
  unfold xR;by_cases c:e<t.length
  ·rw[au c];obtain⟨d1,d2⟩:=zq c;refine⟨λ_=> ?_,MC n _ d1⟩;have hne:(t.drop e).take (dec (t.drop e)).2≠[]:=by intro q;have:=dX List.length q;rw[fF,dF,j5]at this;omega
   show qL fo ((t.drop e).take (dec (t.drop e)).2)≠[];unfold qL;split;·exact Wz hne
   ·exact hne
  ·rw[ak c];exact⟨λh=>absurd rfl h,trivial⟩
end
theorem WH (fo le wo:Bool) (s want:List UInt8) (gs ws:List Int) (hw:want≠[]):
 EvL.outer want (sQ fo s) (EvL.places (xR (qL fo) (lK le wo gs ws) s (s.length+1) 0))=Left.every want (xR (qL fo) (lK le wo gs ws) s (s.length+1) 0):=
 EvL.BO want _ hw _ (MC fo _ s _ _ (aL _)) (uH fo _ s _ _ (aL _))
end
section
variable {W1 w w':World} {vo v':Value} {acc:List (Nat×Nat)}
