/- SearchAsks, walked: the document's runes, edges, places, Every, All. -/
import Derived.Test.YtocaiijbhepnnaaGreatDoorFC
import Derived.Test.YtocaiijbhepnnaaGreatDoorFI
import Derived.Test.YtocaiijbhepnnaaGreatDoorFJ
import Derived.Test.YtocaiijbhepnnaaGreatDoorGA
import Derived.Test.YtocaiijbhepnnaaGreatDoorGC
import Derived.Deep.AppendLies
import Derived.Test.YtocaiijbhepnnaaGreatDoorFP
import Derived.Test.YtocaiijbhepnnaaGreatDoorGB
set_option maxRecDepth 100000
set_option maxHeartbeats 8000000
namespace Go.Proofs.YtocaiijbhepnnaaGreatDoor.searchAsks
open Go.Shelf Go.RowKit Go.Lib Go.Proofs.YtocaiijbhepnnaaGreatDoor.Am
section
variable {α:Type} (enc:α→List Value)
def tQ (l:List α):List Value:=l.flatMap enc
theorem AO (l x:List α):tQ enc (l++x)=tQ enc l++tQ enc x:=by simp[tQ]
theorem AP (a:α):tQ enc [a]=enc a:=by simp[tQ]
theorem vO {s:Nat} (h:∀a,(enc a).length=s):∀l:List α,(tQ enc l).length=l.length*s
 |[]=>by simp[tQ]
 |a::l=>by have ih:=vO h l;show(enc a++tQ enc l).length=_;rw[bB,ih,h,bY,fF,Nat.one_mul,Nat.add_comm]
theorem NG {s:Nat} (h:∀a,(enc a).length=s) (d:α):∀(l:List α) (k i:Nat),k<l.length→i<s→(tQ enc l)[k*s+i]? =(enc (l.getD k d))[i]?
 |[],k,_,hk,_=>absurd hk (iW k)
 |a::l,0,i,_,hi=>by show(enc a++tQ enc l)[0*s+i]? =_;rw[kr,bQ,oH (by rw[h];exact hi)];rfl
 |a::l,k+1,i,hk,hi=>by have ih:=NG h d l k i (by simpa using hk) hi;show(enc a++tQ enc l)[(k+1)*s+i]? =_;rw[fF,Nat.one_mul,qE (by rw[h];omega),h,show k*s+s+i-s=k*s+i by omega,ih];rfl
end
structure Jh {α:Type} (enc:α→List Value) (s:Nat) (d:α) (w:World) (A:Option Addr) (n:Nat) (l:List α):Prop where
 len:l.length=n
 small:n≤100000
 at_:0<n→∃g,A=some ⟨g,0,none⟩∧g<w.heap.size∧∀j,j<n→∀i u,i<s→(enc (l.getD j d))[i]? =some u→w.cell? ⟨g,j*s+i,none⟩=some u
theorem Jh.below {α:Type} {enc:α→List Value} {s:Nat} {d:α} {w w':World} {A:Option Addr} {n:Nat} {l:List α} (h:Jh enc s d w A n l) (hb:Below w.heap.size w w'):Jh enc s d w' A n l:=
 ⟨h.len,h.small,fun h0=>by
  obtain⟨g,e,hg,hc⟩:=h.at_ h0;exact⟨g,e,bM hg hb.size,fun j hj i u hi hu=>by rw[hb.cell (p:=⟨g,j*s+i,none⟩) hg];exact hc j hj i u hi hu⟩⟩
theorem Ji {α:Type} {enc:α→List Value} {s:Nat} (hs:∀a,(enc a).length=s) (d:α) {w:World} {base n c:Nat} {A:Option Addr} {T:TypeId} {l:List α} (hn:l.length=n) (h:w.ownsRow base T s (.slice A n c) n (tQ enc l)) (hm:n≤100000):Jh enc s d w A n l:=by refine⟨hn,hm,fun h0=> ?_⟩;obtain⟨g,rfl⟩:=rG h h0;refine⟨g,rfl,(bL h (g:=g) rfl).2.1,fun j hj i u hi hu=> ?_⟩;have c:=qw (g:=g) h rfl (j*s+i) u (by rw[NG enc hs d l j i (by omega) hi];exact hu);rw[gX,bQ]at c;exact c
section
variable {α:Type} {enc:α→List Value} {s:Nat} {T:TypeId} {W w w':World} {v v':Value} {acc:List α}
end
section
open Folds (dec bn bV)
abbrev RN:=Nat×Nat×Nat
def Hf (x:RN):List Value:=[.int .i32 x.1, .int .i64 x.2.1, .int .i64 x.2.2]
def YX:RN:=(0,0,0)
theorem AQ (x:RN):(Hf x).length=3:=rfl
def Qw (L:Nat):List (Nat×Nat)→List RN
 |[]=>[]
 |[x]=>[(x.2,x.1,L)]
 |x::y::r=>(x.2,x.1,y.1)::Qw L (y::r)
theorem NH (L:Nat):∀(p:List (Nat×Nat)) (z x:Nat×Nat),∃a,Qw L (p++[z])=a++[(z.2,z.1,L)]∧Qw L (p++[z]++[x])=a++[(z.2,z.1,x.1)]++[(x.2,x.1,L)]∧a.length=p.length
 |[],_,_=>⟨[],rfl,rfl,rfl⟩
 |[u],z,x=>⟨[(u.2,u.1,z.1)],rfl,rfl,rfl⟩
 |u::v::r,z,x=>by
  obtain⟨a,h1,h2,h3⟩:=NH L (v::r) z x;refine⟨(u.2,u.1,v.1)::a,?_,?_,by simpa using h3⟩;·show(u.2,u.1,v.1)::Qw L (v::r++[z])=_;rw[h1];rfl
  ·show(u.2,u.1,v.1)::Qw L (v::r++[z]++[x])=_;rw[h2];rfl
theorem SC (L:Nat):∀l:List (Nat×Nat),(Qw L l).length=l.length
 |[]=>rfl
 |[_]=>rfl
 |x::y::r=>by show(Qw L (y::r)).length+1=_;rw[SC L (y::r)];rfl
theorem abZ:(Tryz.prog.info? 145).map (fun i=>(i.zero,i.size,i.bytes))=some (some (.agg #[.int .i32 0, .int .i64 0, .int .i64 0]),3,24):=by kernel_rfl
theorem NI (w:World) (m:RN) (ty:TypeId):∀j u,(Hf m)[j]? =some u→(w.alloc (.cells (Hf m).toArray ty)).cell? ((⟨w.heap.size,0,none⟩:Addr).add j)=some u:=by intro j u hu;rw[gX,bQ,bq _ _ _ _ _ _ (dw w _),←hu];simp
theorem U8 (w:World) (m:RN) (ty:TypeId) (k:Nat) (hk:w.heap.size=k):∀j u,(Hf m)[j]? =some u→(w.alloc (.cells (Hf m).toArray ty)).cell? ((⟨k,0,none⟩:Addr).add j)=some u:=by subst hk;exact NI w m ty
theorem NJ (m:RN):∀u∈Hf m,u.oneCell'=true:=by intro u hu;simp[Hf]at hu;rcases hu with rfl|rfl|rfl<;>rfl
structure Qx (W:World) (s:ByteArray) (e m:Nat) (v:Value) (acc:List RN) (w:World):Prop where
 aB:Below W.heap.size W w
 it:w.heap[W.heap.size]? =some (.stringIter s e)
 own:w.ownsRow W.heap.size 145 3 v m (tQ Hf acc)
section
variable {W w w':World} {s:ByteArray} {e m:Nat} {v:Value} {acc:List RN}
theorem Qx.below (h:Qx W s e m v acc w) (hb:Below w.heap.size w w'):Qx W s e m v acc w':=
 ⟨h.aB.trans (hb.mono h.aB.size),bI hb h.it,own_below hb h.own⟩
theorem Qx.iter (h:Qx W s e m v acc w) (e':Nat):Qx W s e' m v acc (w.iterAt W.heap.size s e'):=
 ⟨below_iterAt h.aB (ay _) s e',iterAt_heap w _ s e e' h.it,own_iterAt h.it h.own⟩
theorem Qx.grow (h:Qx W s e m v acc w) {o:Obj} {v':Value} {x:RN} (ho:w'.ownsRow W.heap.size 145 3 v' (m+1) (tQ Hf acc++Hf x)) (hg:(w.alloc o).grownBy w' v.ownBlock):Qx W s e (m+1) v' (acc++[x]) w':=by have h':=h.below ((aG _ w).alloc (ay _) o);refine⟨h'.aB.grown hg h'.aB.size (fun k hk=>(bL h'.own hk).1),?_,by rw[AO,AP];exact ho⟩;rw[hg.block _ (cu h'.it) (fun c=>by obtain⟨_,_,cur,hc⟩:=bL h'.own (g:=W.heap.size) (by first|exact c|exact c.symm);rw[h'.it]at hc;cases hc)];exact h'.it
theorem YZ (a:List RN) (r f t u:Nat):(tQ Hf (a++[(r,f,t)])).set (a.length*3+2) (.int .i64 (u:Int))=tQ Hf (a++[(r,f,u)]):=by rw[AO,AO,AP,AP,List.set_append_right _ _ (by rw[vO Hf AQ];omega),vO Hf AQ,oI];rfl
theorem Qx.last {g c:Nat} {a:List RN} {r f t:Nat} (h:Qx W s e m (.slice (some ⟨g,0,none⟩) m c) (a++[(r,f,t)]) w) (u:Nat) (hgs:g≠W.heap.size):Qx W s e m (.slice (some ⟨g,0,none⟩) m c) (a++[(r,f,u)]) (w.setCell ⟨g,a.length*3+2,none⟩ (.int .i64 (u:Int))):=by
 have hl:=bL h.own (g:=g) rfl;refine⟨Below.setCell h.aB hl.1 _,?_,?_⟩;·rw[Below.heap_setCell _ _ _ _ (fun c=>hgs c.symm)];exact h.it
 ·have:=(h.own.stored (a.length*3+2) (.int .i64 (u:Int))).1;rwa [YZ]at this
end
def AU (t:List UInt8):List RN:=Qw t.length (marks t)
theorem xK (t:List UInt8):(AU t).length=(marks t).length:=SC _ _
def Y0 (t:List UInt8) (W:World) (e:Ending) (w':World):Prop:=∃A n c,e= .returned (.slice A n c)∧Jh Hf 3 YX w' A n (AU t)∧Below W.heap.size W w'
theorem Cu (t:List UInt8) (W:World) (hn:t.length≤10000):Calls Tryz.prog 89 #[.string ⟨t.toArray⟩] W (Y0 t W):=by
 obtain⟨s,hs⟩:∃s:ByteArray,(⟨t.toArray⟩:ByteArray)=s:=⟨_,rfl⟩
 have hss:s.size=t.length:=size_mk t s hs;rw[hs];have HS:=ah hs;have kS:=ah hss;have Si:=ah hn;clear hs hss hn;obtain⟨i0,hI0,hz0,hz1,hz2⟩:=eG abZ;go_enter Tryz.func89,Tryz.ntmps89;go_wp2_with fail;go_loopw [3] (fun vo wr=>∃(e f m:Nat) (A:Option Addr) (c:Nat) (p:List (Nat×Nat)),vo= .slice A m c∧Qx W s e m (.slice A m c) (Qw t.length p) wr∧e≤s.size∧s.size<f+e+1∧m≤e∧p.length=m∧p++aD t f e=marks t) (fun _ wr=>s.size-wr.iterPos W.heap.size);case atStart=>exact⟨0,t.length,0,none,0,[],rfl,⟨(aG _ W).alloc (ay _) _,dw W _,⟨rfl, .inl ⟨rfl,rfl⟩⟩⟩,aH _,by have:=kS.out;omega,ay _,rfl,rfl⟩
 case round=>
  obtain⟨e,f,m,A,c,p,rfl,YJ,he,hf,hm,hpl,hl⟩:=hrel;have hit:=YJ.it;have HOL:=ah YJ;clear YJ;by_cases hlt:e<s.size
  ·obtain⟨f',rfl⟩:∃f',f=f'+1:=⟨f-1,by omega⟩
   have hlt2:e<t.length:=by have:=kS.out;omega
   unfold aD at hl;rw[ak hlt2]at hl;have hnx:=fun ty=>run_next_any_at (P:=Tryz.prog) wr _ s e ty hit hlt;rw[gY t e s HS.out]at hnx;have hne2:t.drop e≠[]:=by intro c;rw[jg]at c;have:=kS.out;omega
   have hd1:=bn (t.drop e);have hd2:=bV (t.drop e) hne2;rw[dN,←kS.out]at hd2;obtain⟨r,hr⟩:∃r,(dec (t.drop e)).1=r:=⟨_,rfl⟩
   obtain⟨wd,hwd⟩:∃wd,(dec (t.drop e)).2=wd:=⟨_,rfl⟩
   rw[hwd]at hd1 hd2;rw[hr,hwd]at hnx hl;obtain⟨ew,Cj⟩:∃ew,e+wd=ew:=⟨_,rfl⟩
   rw[Cj]at hnx hl;have HL:=ah hl;clear hr hwd hl hlt2 hne2;have HLEN:=ah (show m+1≤maxLen∧(m+1)*24≤140737488355328 by have:=Si.out;have:=kS.out;exact⟨by simp only[maxLen];omega,by omega⟩);have rW:=ah (HOL.out.iter ew);have hq2:wr.iterPos W.heap.size=e:=by unfold World.iterPos;rw[hit]
   have KEY:=ah (fun(B1:Option Addr) (d1:Nat) (w':World) (h:Qx W s ew (m+1) (.slice B1 (m+1) d1) (Qw t.length (p++[(e,r)])) w')=>
    show(∃(e' f m':Nat) (A:Option Addr) (c:Nat) (p:List (Nat×Nat)),Value.slice B1 (m+1) d1= .slice A m' c∧Qx W s e' m' (.slice A m' c) (Qw t.length p) w'∧e'≤s.size∧s.size<f+e'+1∧m'≤e'∧p.length=m'∧p++aD t f e'=marks t)∧s.size-w'.iterPos W.heap.size<s.size-wr.iterPos W.heap.size from by
     refine⟨⟨ew,f',m+1,B1,d1,_,rfl,h,by omega,by omega,by omega,by rw[bB,hpl];rfl,by rw[dW];exact HL.out⟩,?_⟩;have q1:w'.iterPos W.heap.size=ew:=by unfold World.iterPos;rw[h.it]
     rw[q1,hq2];omega)
   have OO:=ah hpl;clear Cj hd1 hd2 hf hm he hq2 hlt hpl;have hsz:(s.size:Int)=(t.length:Nat):=by rw[kS.out]
   rcases List.eq_nil_or_concat p with rfl|⟨p0,z,hp0⟩
   ·have hm0:m=0:=OO.out.symm;subst hm0;go_wp2_with (at_builtin;(refine xq _ rfl (.tmp 22) (.tmp 28) 142 rfl W.heap.size 145 i0 _ 3 24 Tryz.underlying142 hI0 hz0 hz1 hz2 rfl (by decide) (.slice A 0 c) 0 (tQ Hf []) rfl (dL rW.out.own) ⟨_,0,none⟩ 1 1 (Hf (r,e,t.length)) rfl rfl (NI _ _ _) (NJ _) (by decide) HLEN.out.1 HLEN.out.2 (jq rW.out.aB.size) _ rfl ?_);intro g cap wq ho hg hl hs);exact KEY.out _ _ _ (rW.out.grow (x:=(r,e,t.length)) ho hg)
   ·obtain⟨a,ha1,ha2,ha3⟩:=NH t.length p0 z (e,r);rw[List.concat_eq_append]at hp0;rw[←hp0]at ha1 ha2;have hm1:m=a.length+1:=by rw[←OO.out,hp0,bB,ha3];rfl
    rw[ha1]at rW;rw[ha2]at KEY;have HOW:=rW.out.own;obtain⟨g,rfl⟩:=rG HOW (by omega);have hgs:g≠W.heap.size:=fun c=>by obtain⟨_,_,cur,hc⟩:=bL HOW (g:=g) rfl;rw[c,rW.out.it]at hc;cases hc
    have HSL:=ah (rW.out.last (u:=e) hgs);have hcell:=qw (g:=g) HOW rfl (a.length*3+2) (.int .i64 (t.length:Nat)) (by rw[AO,AP,qE (by rw[vO Hf AQ];omega),vO Hf AQ,oI];rfl);rw[gX,bQ]at hcell;have hfz:(wr.iterAt W.heap.size s ew).frozen? ⟨g,a.length*3+2,none⟩=false:=HOW.frozenAt _;obtain⟨q,hq⟩:∃q,a.length=q:=⟨_,rfl⟩
    rw[hq]at hm1 hcell HSL hfz;subst hm1;have hwq:wrap64 (q:Int)=q:=by have:=HLEN.out.2;unfold wrap64;omega
    have hq0:(0:Int)<(q:Int)+1:=by omega
    clear HOW hgs ha1 ha2 ha3 hp0;go_wp2_with (at_builtin;(refine wpList_append_lies _ rfl (.tmp 22) (.tmp 28) 142 rfl W.heap.size 145 i0 _ 3 24 Tryz.underlying142 hI0 hz0 hz1 hz2 rfl (by decide) (.slice (some ⟨g,0,none⟩) (q+1) c) (q+1) (tQ Hf (a++[(z.2,z.1,e)])) rfl (dL HSL.out.own) ⟨_,0,none⟩ 1 1 (Hf (r,e,t.length)) rfl rfl (U8 _ _ _ _ (by simp[World.setCell])) (NJ _) (by decide) HLEN.out.1 HLEN.out.2 (jq HSL.out.aB.size) _ rfl ?_);intro g3 cap wq ho hg hl hs);exact KEY.out _ _ _ (HSL.out.grow (x:=(r,e,t.length)) ho hg)
  ·obtain rfl:e=s.size:=by omega
   have hz:aD t f s.size=[]:=by
    cases f with
    |zero=>rfl
    |succ f=>unfold aD;rw[aj (by have:=kS.out;omega)]
   rw[hz,eu]at hl;subst hl;clear hz;have hnx:=fun ty=>run_next_end_at (P:=Tryz.prog) wr _ s s.size ty hit hlt;have hmm:m≤100000:=by have:=kS.out;have:=Si.out;omega
   have HM:=ah hmm;have OO:=ah hpl;clear hf he hm hmm hlt hpl;go_wp2_with fail;go_ret;exact⟨A,m,c,rfl,Ji AQ YX (by rw[xK];exact OO.out) HOL.out.own HM.out,HOL.out.aB⟩
end
theorem KY {zs:List Int} {k:Nat} (h:k<zs.length):zs.getD k 0∈zs:=by rw[aN,bf h];exact mH h
theorem tT {zs:List Int} {x:Int} (h:∀j,j<zs.length→¬zs.getD j 0=x):¬x∈zs:=fun hm=>by obtain⟨j,hj,he⟩:=sW.1 hm;exact h j hj (by rw[aN,bf hj];exact he)
theorem NK (zs:List Int) (x:Int) (A:Option Addr) (n c:Nat) (W:World) (hR:bR W A n zs):
 Calls Tryz.prog 170 #[.slice A n c, .int .i64 x] W fun e w'=>e= .returned (.bool (decide (x∈zs)))∧w'=W:=by
 have hsm:=hR.small;have HR:=ah hR;clear hR;go_enter Tryz.func170,Tryz.ntmps170;go_wp2;go_loopw [5] (fun i wr=>∃k:Nat,k≤n∧i= .int .i64 k∧(∀j,j<k→¬zs.getD j 0=x)∧wr=W) (fun i _=>n-(RowKit.intOf i).toNat);case atStart=>exact⟨0,aH _,rfl,(fun j hj=>absurd hj (iW j)),rfl⟩
 case round=>
  obtain⟨k,hk,rfl,hlo,rfl⟩:=hrel;have uD:=ah hlo;clear hlo;by_cases hlt:k<n
  ·obtain⟨g,o,rfl,hg,hc⟩:=HR.out.at_ (by omega);have hck:=hc k hlt;have HM:=ah (KY (zs:=zs) (k:=k) (by rw[HR.out.len];exact hlt));obtain⟨y,hy⟩:∃y,zs.getD k 0=y:=⟨_,rfl⟩
   rw[hy]at hck HM;have HY:=ah hy;have hk0:(0:Int)≤k:=by omega
   have hk1:(k:Int)<n:=by omega
   clear hc hy hg;have hwk:wrap64 ((k:Int)+1)=((k+1:Nat):Int):=by unfold wrap64;omega
   have jr:=ah hwk;clear hwk;by_cases hyx:y=x;·subst hyx;go_wp2;go_ret;exact⟨by rw[bD HM.out];rfl,rfl⟩
   ·have HNX:=ah (show ∀j,j<k+1→¬zs.getD j 0=x from fun j hj=>by
     rcases aL j k with c|c;·exact uD.out j c
     ·obtain rfl:j=k:=by omega
      rw[HY.out];exact hyx)
    have hyb:(y==x)=false:=bW.2 hyx;go_wp2;exact⟨⟨k+1,hlt,by first|rw[jr.out]|rfl,HNX.out,by first|rfl|trivial⟩,by first|(rw[jr.out];simp[RowKit.intOf];omega)|(simp[RowKit.intOf];omega)⟩
  ·obtain rfl:k=n:=by omega
   have HN:=ah (tT (zs:=zs) (x:=x) (fun j hj=>uD.out j (by rw[←HR.out.len];exact hj)));go_wp2;go_ret;exact⟨by rw[bg HN.out];rfl,rfl⟩
theorem ab0 (zs:List Int) (x:Int) (A:Option Addr) (n c:Nat) (W:World) (hR:bR W A n zs):
 Calls Tryz.prog 183 #[.slice A n c, .int .i64 x] W fun e w'=>e= .returned (.bool (decide (x∈zs)))∧w'=W:=by
 have hsm:=hR.small;have HR:=ah hR;clear hR;go_enter Tryz.func183,Tryz.ntmps183;go_wp2;go_loopw [5] (fun i wr=>∃k:Nat,k≤n∧i= .int .i64 k∧(∀j,j<k→¬zs.getD j 0=x)∧wr=W) (fun i _=>n-(RowKit.intOf i).toNat);case atStart=>exact⟨0,aH _,rfl,(fun j hj=>absurd hj (iW j)),rfl⟩
 case round=>
  obtain⟨k,hk,rfl,hlo,rfl⟩:=hrel;have uD:=ah hlo;clear hlo;by_cases hlt:k<n
  ·obtain⟨g,o,rfl,hg,hc⟩:=HR.out.at_ (by omega);have hck:=hc k hlt;have HM:=ah (KY (zs:=zs) (k:=k) (by rw[HR.out.len];exact hlt));obtain⟨y,hy⟩:∃y,zs.getD k 0=y:=⟨_,rfl⟩
   rw[hy]at hck HM;have HY:=ah hy;have hk0:(0:Int)≤k:=by omega
   have hk1:(k:Int)<n:=by omega
   clear hc hy hg;have hwk:wrap64 ((k:Int)+1)=((k+1:Nat):Int):=by unfold wrap64;omega
   have jr:=ah hwk;clear hwk;by_cases hyx:y=x;·subst hyx;go_wp2;go_ret;exact⟨by rw[bD HM.out];rfl,rfl⟩
   ·have HNX:=ah (show ∀j,j<k+1→¬zs.getD j 0=x from fun j hj=>by
     rcases aL j k with c|c;·exact uD.out j c
     ·obtain rfl:j=k:=by omega
      rw[HY.out];exact hyx)
    have hyb:(y==x)=false:=bW.2 hyx;go_wp2;exact⟨⟨k+1,hlt,by first|rw[jr.out]|rfl,HNX.out,by first|rfl|trivial⟩,by first|(rw[jr.out];simp[RowKit.intOf];omega)|(simp[RowKit.intOf];omega)⟩
  ·obtain rfl:k=n:=by omega
   have HN:=ah (tT (zs:=zs) (x:=x) (fun j hj=>uD.out j (by rw[←HR.out.len];exact hj)));go_wp2;go_ret;exact⟨by rw[bg HN.out];rfl,rfl⟩
theorem ab1 (zs:List Int) (x:Int) (A:Option Addr) (n c:Nat) (W:World) (hR:bR W A n zs):
 Calls Tryz.prog 281 #[.slice A n c, .int .i64 x] W fun e w'=>e= .returned (.bool (decide (x∈zs)))∧w'=W:=by
 have hsm:=hR.small;have HR:=ah hR;clear hR;go_enter Tryz.func281,Tryz.ntmps281;go_wp2;go_loopw [5] (fun i wr=>∃k:Nat,k≤n∧i= .int .i64 k∧(∀j,j<k→¬zs.getD j 0=x)∧wr=W) (fun i _=>n-(RowKit.intOf i).toNat);case atStart=>exact⟨0,aH _,rfl,(fun j hj=>absurd hj (iW j)),rfl⟩
 case round=>
  obtain⟨k,hk,rfl,hlo,rfl⟩:=hrel;have uD:=ah hlo;clear hlo;by_cases hlt:k<n
  ·obtain⟨g,o,rfl,hg,hc⟩:=HR.out.at_ (by omega);have hck:=hc k hlt;have HM:=ah (KY (zs:=zs) (k:=k) (by rw[HR.out.len];exact hlt));obtain⟨y,hy⟩:∃y,zs.getD k 0=y:=⟨_,rfl⟩
   rw[hy]at hck HM;have HY:=ah hy;have hk0:(0:Int)≤k:=by omega
   have hk1:(k:Int)<n:=by omega
   clear hc hy hg;have hwk:wrap64 ((k:Int)+1)=((k+1:Nat):Int):=by unfold wrap64;omega
   have jr:=ah hwk;clear hwk;by_cases hyx:y=x;·subst hyx;go_wp2;go_ret;exact⟨by rw[bD HM.out];rfl,rfl⟩
   ·have HNX:=ah (show ∀j,j<k+1→¬zs.getD j 0=x from fun j hj=>by
     rcases aL j k with c|c;·exact uD.out j c
     ·obtain rfl:j=k:=by omega
      rw[HY.out];exact hyx)
    have hyb:(y==x)=false:=bW.2 hyx;go_wp2;exact⟨⟨k+1,hlt,by first|rw[jr.out]|rfl,HNX.out,by first|rfl|trivial⟩,by first|(rw[jr.out];simp[RowKit.intOf];omega)|(simp[RowKit.intOf];omega)⟩
  ·obtain rfl:k=n:=by omega
   have HN:=ah (tT (zs:=zs) (x:=x) (fun j hj=>uD.out j (by rw[←HR.out.len];exact hj)));go_wp2;go_ret;exact⟨by rw[bg HN.out];rfl,rfl⟩
theorem NM (zs:List Int) (x:Int) (A:Option Addr) (n c:Nat) (W:World) (hR:bR W A n zs):
 Calls Tryz.prog 179 #[.slice A n c, .int .i64 x] W fun e w'=>e= .returned (.bool (decide (x∈zs)))∧w'=W:=by
 have hsm:=hR.small;have HR:=ah hR;clear hR;go_enter Tryz.func179,Tryz.ntmps179;go_wp2;go_loopw [5] (fun i wr=>∃k:Nat,k≤n∧i= .int .i64 k∧(∀j,j<k→¬zs.getD j 0=x)∧wr=W) (fun i _=>n-(RowKit.intOf i).toNat);case atStart=>exact⟨0,aH _,rfl,(fun j hj=>absurd hj (iW j)),rfl⟩
 case round=>
  obtain⟨k,hk,rfl,hlo,rfl⟩:=hrel;have uD:=ah hlo;clear hlo;by_cases hlt:k<n
  ·obtain⟨g,o,rfl,hg,hc⟩:=HR.out.at_ (by omega);have hck:=hc k hlt;have HM:=ah (KY (zs:=zs) (k:=k) (by rw[HR.out.len];exact hlt));obtain⟨y,hy⟩:∃y,zs.getD k 0=y:=⟨_,rfl⟩
   rw[hy]at hck HM;have HY:=ah hy;have hk0:(0:Int)≤k:=by omega
   have hk1:(k:Int)<n:=by omega
   clear hc hy hg;have hwk:wrap64 ((k:Int)+1)=((k+1:Nat):Int):=by unfold wrap64;omega
   have jr:=ah hwk;clear hwk;by_cases hyx:y=x;·subst hyx;go_wp2;go_ret;exact⟨by rw[bD HM.out];rfl,rfl⟩
   ·have HNX:=ah (show ∀j,j<k+1→¬zs.getD j 0=x from fun j hj=>by
     rcases aL j k with c|c;·exact uD.out j c
     ·obtain rfl:j=k:=by omega
      rw[HY.out];exact hyx)
    have hyb:(y==x)=false:=bW.2 hyx;go_wp2;exact⟨⟨k+1,hlt,by first|rw[jr.out]|rfl,HNX.out,by first|rfl|trivial⟩,by first|(rw[jr.out];simp[RowKit.intOf];omega)|(simp[RowKit.intOf];omega)⟩
  ·obtain rfl:k=n:=by omega
   have HN:=ah (tT (zs:=zs) (x:=x) (fun j hj=>uD.out j (by rw[←HR.out.len];exact hj)));go_wp2;go_ret;exact⟨by rw[bg HN.out];rfl,rfl⟩
structure IA (W:World) (v:Value) (m:Nat) (zs:List Int) (w:World):Prop where
 aB:Below W.heap.size W w
 own:w.ownsRow W.heap.size 3 1 v m (bF zs)
section
variable {W w w':World} {m:Nat} {v:Value} {zs:List Int}
theorem IA.nil (W:World):IA W (.slice none 0 0) 0 [] W:=⟨aG _ _,⟨rfl, .inl ⟨rfl,rfl⟩⟩⟩
theorem IA.below (h:IA W v m zs w) (hb:Below w.heap.size w w'):IA W v m zs w':=⟨h.aB.trans (hb.mono h.aB.size),own_below hb h.own⟩
theorem IA.dQ (h:IA W v m zs w) {o:Obj}:(w.alloc o).ownsRow W.heap.size 3 1 v m (bF zs):=dL h.own
theorem IA.grow (h:IA W v m zs w) {o:Obj} {v':Value} {x:Int} (ho:w'.ownsRow W.heap.size 3 1 v' (m+1) (bF zs++[.int .i64 x])) (hg:(w.alloc o).grownBy w' v.ownBlock):IA W v' (m+1) (zs++[x]) w':=by have h':=h.below ((aG _ w).alloc (ay _) o);exact⟨h'.aB.grown hg h'.aB.size (fun k hk=>(bL h'.own hk).1),by rw[kJ];exact ho⟩
end
theorem fE {w w':World} {A:Option Addr} {n:Nat} {zs:List Int} (h:bR w A n zs) (hb:Below w.heap.size w w'):bR w' A n zs:=dM h hb
theorem SE (L:Nat):∀(l:List (Nat×Nat)) (k:Nat),k<l.length→((Qw L l).getD k YX).2.1=(l.getD k (0,0)).1
 |[],_,h=>absurd h (iW _)
 |[_],0,_=>rfl
 |[_],_+1,h=>by simp at h
 |_::_::_,0,_=>rfl
 |x::y::r,k+1,h=>by have:=SE L (y::r) k (by simpa using h);show((Qw L (y::r)).getD k YX).2.1=((y::r).getD k (0,0)).1;exact this
theorem KZ (t:List UInt8) {k:Nat} (h:k<(marks t).length):(((AU t).getD k YX).2.1:Int)=(dR t).getD k 0:=by unfold AU;rw[SE _ _ _ h];unfold dR;rw[aN,aN,fH,bf h];rfl
theorem NP (t:List UInt8) {k:Nat} (h:k<(marks t).length):(dR t).take k++[(dR t).getD k 0]=(dR t).take (k+1):=by
 have h':k<(dR t).length:=by unfold dR;rw[dz];exact h
 rw[Ae,bf h',aN,bf h'];rfl
theorem qC (t:List UInt8):(dR t).length=(marks t).length:=by unfold dR;rw[dz]
def gJ (t:List UInt8):List Int:=dR t++[(t.length:Int)]
def dG (zs:List Int) (W:World) (e:Ending) (w':World):Prop:=∃A n c,e= .returned (.slice A n c)∧bR w' A n zs∧Below W.heap.size W w'
theorem DU {m:Nat} (h:m≤100000):m+1≤maxLen∧(m+1)*8≤140737488355328:=⟨by simp only[maxLen];omega,by omega⟩
theorem U9 (t:List UInt8) (W:World) (hn:t.length≤10000):Calls Tryz.prog 119 #[.string ⟨t.toArray⟩] W (dG (gJ t) W):=by
 obtain⟨s,hs⟩:∃s:ByteArray,(⟨t.toArray⟩:ByteArray)=s:=⟨_,rfl⟩
 have hss:s.size=t.length:=size_mk t s hs;have U3:=ah (Cu t W hn);rw[hs]at U3⊢;have hml:(marks t).length≤10000:=aX (pE t) hn;have VF:=ah hml;clear hml hn hs;obtain⟨i0,hI0,hz0,hz1,hz2⟩:=eG gD;go_enter Tryz.func119,Tryz.ntmps119;go_wp2_with (go_at_call 89;refine U3.out.mono ?_;rintro e w1 ⟨A,n,c,rfl,hR,hb⟩;have HR:=ah hR;have HB:=ah hb;have HN:=ah (hR.len.symm.trans (xK t));clear hR hb);have hn2:n≤10000:=by have:=VF.out;have:=HN.out;omega
 go_loopw [3,5] (fun vl vi wr=>∃(k:Nat) (A2:Option Addr) (c2:Nat),k≤n∧vi= .int .i64 k∧vl= .slice A2 k c2∧IA w1 (.slice A2 k c2) k ((dR t).take k) wr) (fun _ vi _=>n-(RowKit.intOf vi).toNat);case atStart=>exact⟨0,none,0,aH _,rfl,rfl,IA.nil w1⟩
 case round=>
  obtain⟨k,A2,c2,hk,rfl,rfl,hA⟩:=hrel;have HA:=ah hA;clear hA;by_cases hlt:k<n
  ·have HLEN:=ah (DU (show k≤100000 by omega));obtain⟨g,rfl,hg,hc⟩:=HR.out.at_ (by omega);have hkm:k<(marks t).length:=by rw[←HN.out];exact hlt
   have d1:=hc k hlt 1 _ (by decide) rfl;rw[KZ t hkm]at d1;have DK:=ah (NP t hkm);obtain⟨x,hx⟩:∃x,(dR t).getD k 0=x:=⟨_,rfl⟩
   rw[hx]at d1 DK;have d2:=(HA.out.aB.cell (p:=⟨g,k*3+1,none⟩) hg).trans d1;have hk0:(0:Int)≤k:=by omega
   have hk1:(k:Int)<n:=by omega
   have hwk:wrap64 ((k:Int)+1)=((k+1:Nat):Int):=by unfold wrap64;omega
   have jr:=ah hwk;clear hwk hx hc hg d1 hkm;go_wp2_with (at_builtin;refine aY _ rfl (.tmp 14) (.tmp 20) 41 rfl w1.heap.size 3 i0 _ 8 Tryz.underlying41 hI0 hz0 hz1 hz2 rfl (.slice A2 k c2) k (bF ((dR t).take k)) rfl HA.out.dQ _ 1 1 [.int .i64 x] rfl (bX _ _ _) (by simp[Value.oneCell']) HLEN.out.1 HLEN.out.2 (by rw[World.size_alloc];have:=HA.out.aB.size;omega) ?_;intro v' wp ho hg hn;obtain⟨B1,d1,rfl,_⟩:=aM ho;have mZ:=Lib.hid (HA.out.grow ho hg);clear ho hg hn);(try rw[jr.out]);exact⟨⟨k+1,_,_,hlt,rfl,rfl,by rw[←DK.out];exact mZ.out⟩,by simp[RowKit.intOf];omega⟩
  ·obtain rfl:k=n:=by omega
   have htk:(dR t).take k=dR t:=nE (by rw[qC,HN.out];exact ay _);rw[htk]at HA;have HLEN:=ah (DU (show k≤100000 by omega));have aiM:(s.size:Int)=(t.length:Nat):=by rw[hss]
   have HK:=ah (show k+1≤100000 by omega);clear htk hk;go_wp2_with (at_builtin;refine aY _ rfl (.tmp 22) (.tmp 25) 41 rfl w1.heap.size 3 i0 _ 8 Tryz.underlying41 hI0 hz0 hz1 hz2 rfl (.slice A2 k c2) k (bF (dR t)) rfl HA.out.dQ _ 1 1 [.int .i64 (t.length:Nat)] rfl (bX _ _ _) (by simp[Value.oneCell']) HLEN.out.1 HLEN.out.2 (by rw[World.size_alloc];have:=HA.out.aB.size;omega) ?_;intro v' wp ho hg hn;obtain⟨B1,d1,rfl,_⟩:=aM ho;have mZ:=Lib.hid (HA.out.grow ho hg);clear ho hg hn);go_ret;refine⟨_,_,_,rfl,?_,HB.out.trans (mZ.out.aB.mono HB.out.size)⟩;exact gG mZ.out.own HK.out
def Jj (a b:List Int):List Int:=a.filter fun x=>decide (x∈b)
theorem Va (a b:List Int) {k:Nat} (h:k<a.length):(a.take (k+1)).filter (fun x=>decide (x∈b))=(a.take k).filter (fun x=>decide (x∈b))++if a.getD k 0∈b then[a.getD k 0]else[]:=by
 rw[Ae,bf h,List.filter_append,aN,bf h];congr 1;show List.filter _ [a[k]]=_;by_cases c:a[k]∈b;·simp[c]
 ·simp[c]
theorem AX (a b:List Int) (A1 A2:Option Addr) (n1 n2 c1 c2:Nat) (W:World) (h1:bR W A1 n1 a) (h2:bR W A2 n2 b) (hs:n1≤10000):Calls Tryz.prog 120 #[.slice A1 n1 c1, .slice A2 n2 c2] W (dG (Jj a b) W):=by
 have H1:=ah h1;have H2:=ah h2;clear h1 h2;obtain⟨i0,hI0,hz0,hz1,hz2⟩:=eG gD;go_enter Tryz.func120,Tryz.ntmps120;go_wp2;go_loopw [5,6] (fun vl vi wr=>∃(k m:Nat) (A:Option Addr) (c:Nat),k≤n1∧m≤k∧vi= .int .i64 k∧vl= .slice A m c∧IA W (.slice A m c) m ((a.take k).filter fun x=>decide (x∈b)) wr) (fun _ vi _=>n1-(RowKit.intOf vi).toNat);case atStart=>exact⟨0,0,none,0,aH _,ay _,rfl,rfl,IA.nil W⟩
 case round=>
  obtain⟨k,m,A,c,hk,hmk,rfl,rfl,hA⟩:=hrel;have HA:=ah hA;clear hA;by_cases hlt:k<n1
  ·have HLEN:=ah (DU (show m≤100000 by omega));have hka:k<a.length:=by rw[H1.out.len];exact hlt
   obtain⟨g,o,rfl,hg,hc⟩:=H1.out.at_ (by omega);have d1:=hc k hlt;have DK:=ah (Va a b hka);obtain⟨x,hx⟩:∃x,a.getD k 0=x:=⟨_,rfl⟩
   rw[hx]at d1 DK;have d2:=(HA.out.aB.cell (p:=⟨g,o+k,none⟩) hg).trans d1;have hk0:(0:Int)≤k:=by omega
   have hk1:(k:Int)<n1:=by omega
   have hwk:wrap64 ((k:Int)+1)=((k+1:Nat):Int):=by unfold wrap64;omega
   have jr:=ah hwk;have HMK:=ah hmk;have HI2:=ah (fE H2.out HA.out.aB);clear hwk hx hc hg d1 hka hmk;by_cases hb:x∈b
   ·have hdb:decide (x∈b)=true:=bD hb;have htk:=DK.out;rw[ak hb]at htk;have HT2:=ah htk;have HDB:=ah hdb;clear htk DK hb hdb;go_wp2_with (first
     |(go_at_call 170;refine(NK b x _ _ _ _ HI2.out).mono ?_;rintro e w2 ⟨rfl,rfl⟩;rw[HDB.out])
     |(at_builtin;refine aY _ rfl (.tmp 19) (.tmp 24) 41 rfl W.heap.size 3 i0 _ 8 Tryz.underlying41 hI0 hz0 hz1 hz2 rfl (.slice A m c) m (bF ((a.take k).filter fun x=>decide (x∈b))) rfl HA.out.dQ _ 1 1 [.int .i64 x] rfl (bX _ _ _) (by simp[Value.oneCell']) HLEN.out.1 HLEN.out.2 (by rw[World.size_alloc];have:=HA.out.aB.size;omega) ?_;intro v' wp ho hg hn;obtain⟨B1,d1,rfl,_⟩:=aM ho;have mZ:=Lib.hid (HA.out.grow ho hg);clear ho hg hn))
    (try rw[jr.out]);exact⟨⟨k+1,m+1,_,_,hlt,Nat.succ_le_succ HMK.out,rfl,rfl,by rw[HT2.out];exact mZ.out⟩,by simp[RowKit.intOf];omega⟩
   ·have hdb:decide (x∈b)=false:=bg hb;have htk:=DK.out;rw[aj hb,eu]at htk;have HT2:=ah htk;have HDB:=ah hdb;clear htk DK hb hdb;go_wp2_with (go_at_call 170;refine(NK b x _ _ _ _ HI2.out).mono ?_;rintro e w2 ⟨rfl,rfl⟩;rw[HDB.out]);(try rw[jr.out]);exact⟨⟨k+1,m,_,_,hlt,Nat.le_succ_of_le HMK.out,rfl,rfl,by rw[HT2.out];exact HA.out⟩,by simp[RowKit.intOf];omega⟩
  ·obtain rfl:k=n1:=by omega
   have htk:a.take k=a:=nE (by rw[H1.out.len];exact ay _);rw[htk]at HA;have HM:=ah (show m≤100000 by omega);clear htk hk hmk;go_wp2;go_ret;exact⟨A,m,c,rfl,gG HA.out.own HM.out,HA.out.aB⟩
def EA (le wo:Bool) (gs ws:List Int) (t:List UInt8):List Int:=
 let l:=if le=true then Jj (gJ t) gs else gJ t
 if wo=true then Jj l ws else l
theorem Vb (t:List UInt8):(gJ t).length≤t.length+1:=by unfold gJ;rw[bB,qC];have:=pE t;simp only[bY,jf];omega
theorem Y1 (a b:List Int):(Jj a b).length≤a.length:=Er _ _
def aiN (s:ByteArray) (gs:List Int) (w:World):Prop:=Calls Tryz.prog 58 #[] w fun e w'=>∃v,e= .returned v∧Below w.heap.size w w'∧Calls Tryz.prog 64 #[v, .string s] w' (dG gs w')
def afw (s:ByteArray) (ws:List Int) (w:World):Prop:=Calls Tryz.prog 21 #[.string s] w (dG ws w)
structure FB (W:World) (fo le wo:Bool) (w:World):Prop where
 aB:Below W.heap.size W w
 o:w.heap[W.heap.size]? =some (.cells #[.bool fo, .bool le, .bool wo] 28 (0,0))
theorem FB.go {W w w':World} {fo le wo:Bool} (h:FB W fo le wo w) (hb:Below w.heap.size w w'):FB W fo le wo w':=⟨h.aB.trans (hb.mono h.aB.size),bI hb h.o⟩
theorem FB.start (W:World) (fo le wo:Bool):FB W fo le wo (W.alloc (.cells #[.bool fo, .bool le, .bool wo] 28)):=⟨(aG _ W).alloc (ay _) _,dw W _⟩
theorem FB.c0 {W w:World} {fo le wo:Bool} (h:FB W fo le wo w):w.cell? ⟨W.heap.size,0,none⟩=some (.bool fo):=(bq w W.heap.size 0 _ _ _ h.o).trans rfl
theorem FB.c1 {W w:World} {fo le wo:Bool} (h:FB W fo le wo w):w.cell? ⟨W.heap.size,1,none⟩=some (.bool le):=(bq w W.heap.size 1 _ _ _ h.o).trans rfl
theorem FB.c2 {W w:World} {fo le wo:Bool} (h:FB W fo le wo w):w.cell? ⟨W.heap.size,2,none⟩=some (.bool wo):=(bq w W.heap.size 2 _ _ _ h.o).trans rfl
theorem Qy (t:List UInt8) (s:ByteArray) (hs:(⟨t.toArray⟩:ByteArray)=s) (fo le wo:Bool) (gs ws:List Int) (W:World) (hn:t.length≤5000)
 (hG:le=true→∀w,Below W.heap.size W w→aiN s gs w) (hW:wo=true→∀w,Below W.heap.size W w→afw s ws w):
 Calls Tryz.prog 72 #[.string s, .agg #[.bool fo, .bool le, .bool wo]] W (dG (EA le wo gs ws t) W):=by
 have HE:=ah (fun w=>U9 t w (by omega));rw[hs]at HE;have Vd:=ah (show(gJ t).length≤10000 from aX (Vb t) (by omega));have HLB:=ah (fun b=>aX (Y1 (gJ t) b) Vd.out);have HG:=ah hG;have HW:=ah hW;have OQ:=ah (FB.start W fo le wo);clear hG hW hn hs;unfold EA;generalize gJ t=E at*
 cases le<;>cases wo;·go_enter Tryz.func72,Tryz.ntmps72;go_wp2_with (go_at_call 119;refine(HE.out _).mono ?_;rintro e w1 ⟨A,n,c,rfl,hR,hb⟩;have xJ:=ah (OQ.out.go hb);have HR:=ah hR;have y1:=xJ.out.c1;have y2:=xJ.out.c2;clear hb hR);go_ret;exact⟨A,n,c,rfl,HR.out,xJ.out.aB⟩
 ·go_enter Tryz.func72,Tryz.ntmps72;go_wp2_with (first|(go_at_call 119;refine(HE.out _).mono ?_;rintro e w1 ⟨A,n,c,rfl,hR,hb⟩;have xJ:=ah (OQ.out.go hb);have HR:=ah hR;have y1:=xJ.out.c1;have y2:=xJ.out.c2;clear hb hR)|(go_at_call 21;refine(HW.out (by trivial) _ xJ.out.aB).mono ?_;rintro e w5 ⟨A5,n5,c5,rfl,hI,hb⟩;have HF5:=ah (xJ.out.go hb);have HR5:=ah (fE HR.out hb);have HI5:=ah hI;clear hb hI)|(go_at_call 120;refine(AX E ws _ _ _ _ _ _ _ HR5.out HI5.out (by rw[←HR5.out.len];exact Vd.out)).mono ?_;rintro e w6 ⟨A6,n6,c6,rfl,hI,hb⟩;have HF6:=ah (HF5.out.go hb);have HI6:=ah hI;clear hb hI));go_ret;exact⟨A6,n6,c6,rfl,HI6.out,HF6.out.aB⟩
 ·go_enter Tryz.func72,Tryz.ntmps72;go_wp2_with (first|(go_at_call 119;refine(HE.out _).mono ?_;rintro e w1 ⟨A,n,c,rfl,hR,hb⟩;have xJ:=ah (OQ.out.go hb);have HR:=ah hR;have y1:=xJ.out.c1;have y2:=xJ.out.c2;clear hb hR)|(go_at_call 58;refine(HG.out (by trivial) _ xJ.out.aB).mono ?_;rintro e w2 ⟨v,rfl,hb,hcall⟩;have VJ:=ah (xJ.out.go hb);have HR2:=ah (fE HR.out hb);have Sg:=ah hcall;clear hb hcall y1 y2)|(go_at_call 64;refine Sg.out.mono ?_;rintro e w3 ⟨A3,n3,c3,rfl,hI,hb⟩;have HF3:=ah (VJ.out.go hb);have HR3:=ah (fE HR2.out hb);have HI3:=ah hI;clear hb hI)|(go_at_call 120;refine(AX E gs _ _ _ _ _ _ _ HR3.out HI3.out (by rw[←HR3.out.len];exact Vd.out)).mono ?_;rintro e w4 ⟨A4,n4,c4,rfl,hI,hb⟩;have HF4:=ah (HF3.out.go hb);have HI4:=ah hI;have y2:=HF4.out.c2;clear hb hI));go_ret;exact⟨A4,n4,c4,rfl,HI4.out,HF4.out.aB⟩
 ·go_enter Tryz.func72,Tryz.ntmps72;go_upto_region 4 with(first|(go_at_call 119;refine(HE.out _).mono ?_;rintro e w1 ⟨A,n,c,rfl,hR,hb⟩;have xJ:=ah (OQ.out.go hb);have HR:=ah hR;have y1:=xJ.out.c1;have y2:=xJ.out.c2;clear hb hR)|(go_at_call 58;refine(HG.out (by trivial) _ xJ.out.aB).mono ?_;rintro e w2 ⟨v,rfl,hb,hcall⟩;have VJ:=ah (xJ.out.go hb);have HR2:=ah (fE HR.out hb);have Sg:=ah hcall;clear hb hcall y1 y2)|(go_at_call 64;refine Sg.out.mono ?_;rintro e w3 ⟨A3,n3,c3,rfl,hI,hb⟩;have HF3:=ah (VJ.out.go hb);have HR3:=ah (fE HR2.out hb);have HI3:=ah hI;clear hb hI)|(go_at_call 120;refine(AX E gs _ _ _ _ _ _ _ HR3.out HI3.out (by rw[←HR3.out.len];exact Vd.out)).mono ?_;rintro e w4 ⟨A4,n4,c4,rfl,hI,hb⟩;have HF4:=ah (HF3.out.go hb);have HI4:=ah hI;have y2:=HF4.out.c2;clear hb hI))
  go_wp2_with (first|(go_at_call 21;refine(HW.out (by trivial) _ HF4.out.aB).mono ?_;rintro e w5 ⟨A5,n5,c5,rfl,hI,hb⟩;have HF5:=ah (HF4.out.go hb);have HR5:=ah (fE HI4.out hb);have HI5:=ah hI;clear hb hI)|(go_at_call 120;refine(AX (Jj E gs) ws _ _ _ _ _ _ _ HR5.out HI5.out (by rw[←HR5.out.len];exact HLB.out gs)).mono ?_;rintro e w6 ⟨A6,n6,c6,rfl,hI,hb⟩;have HF6:=ah (HF5.out.go hb);have HI6:=ah hI;clear hb hI));go_ret;exact⟨A6,n6,c6,rfl,HI6.out,HF6.out.aB⟩
section
open Folds (dec bn bV)
def eF (fo:Bool) (t:List UInt8) (a b:Nat):List UInt8:=uz fo ((t.drop a).take (b-a))
inductive Reach (t:List UInt8):Nat→Nat→Prop
 |nil (a:Nat):Reach t a a
 |cons {a b:Nat}:a<t.length→Reach t (a+(dec (t.drop a)).2) b→Reach t a b
theorem Reach.le {t:List UInt8} {a b:Nat} (h:Reach t a b):a≤b:=by
 induction h with
 |nil a=>exact ay a
 |cons _ _ ih=>omega
theorem Reach.snoc {t:List UInt8} {a b:Nat} (h:Reach t a b) (hb:b<t.length):Reach t a (b+(dec (t.drop b)).2):=by
 induction h with
 |nil a=>exact .cons hb (.nil _)
 |cons h1 _ ih=>exact .cons h1 (ih hb)
theorem ab2 (k:Nat) (l:List UInt8) (h:l≠[]):wr k l=Folds.one (fun r=>pq (formV r k)) l++wr k (l.drop (dec l).2):=Folds.Ng _ l h
theorem Y2 (l:List UInt8) {m:Nat} (h:l≠[]) (hm:(dec l).2≤m):dec (l.take m)=dec l∧Folds.one (fun r=>pq (formV r 3)) (l.take m)=Folds.one (fun r=>pq (formV r 3)) l:=by
 have hp:=bn l;have hn:=bV l h;have hne:l.take m≠[]:=by intro c;have:=eT List.length c;rw[iw,jf]at this;omega
 have e:dec (l.take m)=dec l:=by have:=Folds.aby (l.take m) (l.drop m) hne (by rw[mq,iw];omega);rw[mq]at this;exact this.symm
 refine⟨e,?_⟩;unfold Folds.one;rw[e,List.take_take,zn (by omega)]
theorem afx (k:Nat):wr k []=[]:=rfl
theorem ab3 (t:List UInt8) {a e:Nat} (h:Reach t a e) (he:e<t.length):wr 3 ((t.drop a).take (e+(dec (t.drop e)).2-a))=wr 3 ((t.drop a).take (e-a))++wr 3 ((t.drop e).take (dec (t.drop e)).2):=by
 induction h with
 |nil a=>rw[vV,List.take_zero,afx,oW,oI]
 |cons h1 h2 ih=>
  rename_i a b;have hle:=h2.le;have hne:t.drop a≠[]:=by intro c;rw[jg]at c;omega
  have hp:=bn (t.drop a);have hn:=bV (t.drop a) hne;have key:∀m,(dec (t.drop a)).2≤m→wr 3 ((t.drop a).take m)=Folds.one (fun r=>pq (formV r 3)) (t.drop a)++wr 3 ((t.drop (a+(dec (t.drop a)).2)).take (m-(dec (t.drop a)).2)):=fun m hm=>by
   obtain⟨d1,d2⟩:=Y2 (t.drop a) hne hm;rw[ab2 3 _ (by
    intro c;have:=eT List.length c;rw[iw,jf]at this;omega),d1,d2,List.drop_take,List.drop_drop]
  rw[key _ (by omega),key _ (by omega),show b+(dec (t.drop b)).2-a-(dec (t.drop a)).2=b+(dec (t.drop b)).2-(a+(dec (t.drop a)).2)by omega,ih he,show b-a-(dec (t.drop a)).2=b-(a+(dec (t.drop a)).2)by omega,dW]
theorem Ve (t:List UInt8) {a e n:Nat} (h:a≤e):(t.drop a).take (e+n-a)=(t.drop a).take (e-a)++(t.drop e).take n:=by rw[show e+n-a=(e-a)+n by omega,List.take_add,List.drop_drop,show a+(e-a)=e by omega]
theorem ab4 (fo:Bool) (t:List UInt8) {a e:Nat} (h:Reach t a e) (he:e<t.length):eF fo t a (e+(dec (t.drop e)).2)=eF fo t a e++uz fo ((t.drop e).take (dec (t.drop e)).2):=by
 unfold eF uz;cases fo;·exact Ve t h.le
 ·exact ab3 t h he
section
variable (fo:Bool) (may:Int→Bool) (t:List UInt8)
theorem NQ (a:Nat):∀n e,Reach t a e→e≤t.length→EvL.Parts (eF fo t) a (eF fo t a e) (Cr (uz fo) may t n e)
 |0,_,_,_=>trivial
 |n+1,e,h,he=>by
  unfold Cr;by_cases c:e<t.length;·rw[ak c];refine⟨rfl,?_⟩;show EvL.Parts _ _ (eF fo t a e++uz fo ((t.drop e).take (dec (t.drop e)).2)) _;rw[←ab4 fo t h c];exact NQ a n _ (h.snoc c) (KT c).1
  ·rw[aj c];obtain rfl:e=t.length:=by omega
   exact⟨rfl,trivial⟩
theorem Dm:∀n e,e≤t.length→EvL.Gn (eF fo t) (Cr (uz fo) may t n e)
 |0,_,_=>trivial
 |n+1,e,he=>by
  unfold Cr;by_cases c:e<t.length
  ·rw[ak c];obtain⟨d1,d2⟩:=KT c;refine⟨?_,Dm n _ d1⟩;have e1:uz fo ((t.drop e).take (dec (t.drop e)).2)=eF fo t e (e+(dec (t.drop e)).2):=by unfold eF;rw[oI]
   show EvL.Parts _ _ (uz fo ((t.drop e).take (dec (t.drop e)).2)) _;rw[e1];exact NQ fo may t e n _ (.cons c (.nil _)) d1
  ·rw[aj c];exact⟨trivial,trivial⟩
theorem NR:∀n e,e≤t.length→EvL.Shows (Cr (uz fo) may t n e)
 |0,_,_=>trivial
 |n+1,e,he=>by
  unfold Cr;by_cases c:e<t.length
  ·rw[ak c];obtain⟨d1,d2⟩:=KT c;refine⟨fun _=> ?_,NR n _ d1⟩;have hne:(t.drop e).take (dec (t.drop e)).2≠[]:=by intro q;have:=eT List.length q;rw[iw,dN,jf]at this;omega
   show uz fo ((t.drop e).take (dec (t.drop e)).2)≠[];unfold uz;split;·exact adz hne
   ·exact hne
  ·rw[aj c];exact⟨fun h=>absurd rfl h,trivial⟩
end
theorem Y3 (fo le wo:Bool) (s want:List UInt8) (gs ws:List Int) (hw:want≠[]):
 EvL.outer want (eF fo s) (EvL.places (Cr (uz fo) (pW le wo gs ws) s (s.length+1) 0))=Left.every want (Cr (uz fo) (pW le wo gs ws) s (s.length+1) 0):=
 EvL.Dh want _ hw _ (NR fo _ s _ _ (aH _)) (Dm fo _ s _ _ (aH _))
end
def afy (fo:Bool) (w:World):Prop:=Calls Tryz.prog 12 #[] w fun e w'=>∃v,e= .returned v∧Below w.heap.size w w'∧
 (fo=true→∀(x:List UInt8) (w2:World),Below w'.heap.size w' w2→x.length≤80→Calls Tryz.prog 73 #[v, .string ⟨x.toArray⟩] w2 fun e w3=>e= .returned (.string ⟨(wr 3 x).toArray⟩)∧Below w2.heap.size w2 w3)
structure DE (W1:World) (vo:Value) (acc:List (Nat×Nat)) (w:World):Prop where
 aB:Below W1.heap.size W1 w
 out:w.ownsRow W1.heap.size 33 2 vo acc.length (eX acc)
theorem DE.nil (W1:World):DE W1 (.slice none 0 0) [] W1:=⟨aG _ _,⟨rfl, .inl ⟨rfl,rfl⟩⟩⟩
section
variable {W1 w w':World} {vo v':Value} {acc:List (Nat×Nat)}
theorem DE.below (h:DE W1 vo acc w) (hb:Below w.heap.size w w'):DE W1 vo acc w':=⟨h.aB.trans (hb.mono h.aB.size),own_below hb h.out⟩
theorem DE.drewN (h:DE W1 vo acc w) (q:Nat):DE W1 vo acc (w.drewN q):=⟨⟨h.aB.os,h.aB.tape,h.aB.output,h.aB.size,h.aB.block⟩,h.out⟩
theorem DE.hit {o:Obj} {a b:Nat} (h:DE W1 vo acc w) (hg:(w.drew.alloc o).grownBy w' vo.ownBlock) (ho:w'.ownsRow W1.heap.size 33 2 v' (acc.length+1) (eX acc++[.int .i64 a, .int .i64 b])):DE W1 v' (acc++[(a,b)]) w':=by
 have hf:=YE hg;refine⟨⟨h.aB.os▸hf.os,h.aB.tape▸hf.tape,h.aB.output▸hf.output,aX h.aB.size hf.size,fun j hj=> ?_⟩,?_⟩;·rw[hf.block j (bM hj h.aB.size) (fun c=>by have:=(bL h.out c).1;omega)];exact h.aB.block j hj
 ·rw[Av,bB];exact ho
end
theorem SG {L:List Nat} {k:Nat} (h:k<L.length):L.drop k=L.getD k 0::L.drop (k+1):=by rw[nA h,aN,bf h];rfl
theorem ab5 {L:List Nat} {k:Nat} (h:k<L.length):(L.map fun(x:Nat)=>(x:Int)).getD k 0=((L.getD k 0:Nat):Int):=by rw[aN,aN,fH,bf h];rfl
theorem NT {L:List Nat} {k:Nat} (h:k<L.length):L.getD k 0∈L:=by rw[aN,bf h];exact mH h
theorem adG {L:List Nat} (hp:L.Pairwise (·<·)) {i j:Nat} (h:i<j) (hj:j<L.length):L.getD i 0<L.getD j 0:=by rw[aN,aN,bf hj,bf (by omega)];exact List.pairwise_iff_getElem.1 hp i j (by omega) hj h
theorem NU (want:List UInt8) (part:Nat→Nat→List UInt8) (a b:Nat) (r:List Nat):EvL.inner want part a (b::r)=if want.length<(part a b).length then(if part a b=want then[(a,b)]else[])else(if part a b=want then[(a,b)]else[])++EvL.inner want part a r:=rfl
theorem NV (want:List UInt8) (part:Nat→Nat→List UInt8) (a:Nat) (r:List Nat):EvL.outer want part (a::r)=EvL.inner want part a r++EvL.outer want part r:=rfl
theorem NW (s:List UInt8) (a b:Nat):((s.drop a).take (b-a)).length≤b-a:=List.length_take_le _ _
theorem Qz (s:ByteArray) (fo le wo:Bool) (W:World):Calls Tryz.prog 19 #[.string s, .string ⟨#[]⟩, .agg #[.bool fo, .bool le, .bool wo]] W (fQ [] W):=by go_enter Tryz.func19,Tryz.ntmps19;go_wp2_with fail;go_ret;exact⟨_,rfl,(aG _ W).alloc (ay _) _,⟨rfl, .inl ⟨rfl,rfl⟩⟩⟩
theorem Y4 (s t want:List UInt8) (S:ByteArray) (hS:(⟨s.toArray⟩:ByteArray)=S) (le wo:Bool) (L:List Nat) (W:World) (ht:t≠[]) (hn:s.length≤60) (hn2:t.length≤60) (hw:t=want)
 (hP:∀w,Below W.heap.size W w→Calls Tryz.prog 72 #[.string S, .agg #[.bool false, .bool le, .bool wo]] w (dG (L.map fun(x:Nat)=>(x:Int)) w))
 (hK:∀w,Below W.heap.size W w→afy false w) (hL:∀x∈L,x≤s.length) (hA:L.Pairwise (·<·)) (hLN:L.length≤100):
 Calls Tryz.prog 19 #[.string S, .string ⟨t.toArray⟩, .agg #[.bool false, .bool le, .bool wo]] W (fQ (EvL.outer want (eF false s) L) W):=by
 have hte:t.isEmpty=false:=by cases t with|nil=>exact absurd rfl ht|cons a b=>rfl
 have hSZ:S.size=s.length:=size_mk s S hS;have OO:=ah hP;have HKA:=ah hK;have HLL:=ah hL;have HAS:=ah hA;have kS:=ah hS;have HWW:=ah hw;have HN:=ah hn;have HN2:=ah hn2;have vJ:=ah hSZ;have OQ:=ah (FB.start W false le wo);obtain⟨N,hN⟩:∃N,L.length=N:=⟨_,rfl⟩
 rw[hN]at hLN;have Vf:=ah hN;clear hP hK hL hA ht hS hw hn hn2 hSZ hN;obtain⟨i0,hI0,hz0,hz1,hz2⟩:=eG yU;have z0:=OQ.out.c0;have z1:=OQ.out.c1;have z2:=OQ.out.c2;go_enter Tryz.func19,Tryz.ntmps19;go_upto_region 8 with(first
  |(go_at_call 72;refine(OO.out _ OQ.out.aB).mono ?_;rintro e w1 ⟨A,n,c,rfl,hR,hb⟩;have xJ:=ah (OQ.out.go hb);have HR1:=ah hR;clear hb hR z0 z1 z2)
  |(go_at_call 12;refine(HKA.out _ xJ.out.aB).mono ?_;rintro e w2 ⟨kv,rfl,hb,hfk⟩;have VJ:=ah (xJ.out.go hb);have HR2:=ah (fE HR1.out hb);have HFK:=ah hfk;clear hb hfk;have z0:=VJ.out.c0))
 have hnN:n=N:=by rw[←HR1.out.len,dz];exact Vf.out
 subst hnN;obtain rfl:t=want:=HWW.out;have HDX:=ah (fun(wx:World) (hd:Below w2.heap.size w2 wx)=>VJ.out.go hd);have HRX:=ah (fun(wx:World) (hd:Below w2.heap.size w2 wx)=>fE HR2.out hd);go_wp2_with fail;go_loopw [10,11,12,13] (fun vo vi _ _ wr=>∃(i:Nat) (acc:List (Nat×Nat)),i≤n∧vi= .int .i64 i∧DE w2 vo acc wr∧acc.length≤200*i∧acc++EvL.outer t (eF false s) (L.drop i)=EvL.outer t (eF false s) L) (fun _ vi _ _ _=>n - (RowKit.intOf vi).toNat);case atStart=>exact⟨0,[],aH _,rfl,DE.nil _,ay _,rfl⟩
 case round=>
  obtain⟨i,acc,hi,rfl,hD,hal,hl⟩:=hrel;have HD:=ah hD;clear hD;by_cases hlt:i<n
  ·have hiL:i<L.length:=by rw[Vf.out];exact hlt
   rw[SG hiL,NV,←dW]at hl;obtain⟨a,ha⟩:∃a,L.getD i 0=a:=⟨_,rfl⟩
   rw[ha]at hl;have HL0:=ah hl;have HA:=ah ha;have Bq:=ah hal;have hwi:wrap64 ((i:Int)+1)=((i+1:Nat):Int):=by unfold wrap64;omega
   have qM:=ah hwi;have hii:(i:Int)<n:=by omega
   clear hl ha hal hwi;go_wp2_with fail;(try rw[qM.out]);go_hide hQ;go_loopw [10,12,13] (fun vo vj _ wr=>∃(j:Nat) (acc:List (Nat×Nat)),i+1≤j∧j≤n∧vj= .int .i64 j∧DE w2 vo acc wr∧acc.length≤200*i+j∧acc++EvL.inner t (eF false s) a (L.drop j)++EvL.outer t (eF false s) (L.drop (i+1))=EvL.outer t (eF false s) L) (fun _ vj _ _=>n - (RowKit.intOf vj).toNat);case atStart=>exact⟨i+1,acc,ay _,hlt,rfl,HD.out,by have:=Bq.out;omega,HL0.out⟩
   case round=>
    obtain⟨j,acc,hij,hj,rfl,hD,hal,hl⟩:=hrel;have HD:=ah hD;clear hD HL0 Bq;by_cases hjl:j<n
    ·have Y5:j<L.length:=by rw[Vf.out];exact hjl
     rw[SG Y5,NU]at hl;obtain⟨b,hb⟩:∃b,L.getD j 0=b:=⟨_,rfl⟩
     have hab:a<b:=by rw[←HA.out,←hb];exact adG HAS.out (by omega) Y5
     have hbs:b≤s.length:=by rw[←hb];exact HLL.out _ (NT Y5)
     obtain⟨g,o,rfl,hg,hc⟩:=(HRX.out _ (aG _ _)).at_ (by omega);have c1:=hc i hlt;have c2:=hc j hjl;rw[ab5 (by rw[Vf.out];exact hlt),HA.out]at c1;rw[ab5 Y5,hb]at c2;have HC:=ah (fun(wx:World) (hd:Below w2.heap.size w2 wx)=>And.intro ((hd.cell (p:=⟨g,o+i,none⟩) hg).trans c1) ((hd.cell (p:=⟨g,o+j,none⟩) hg).trans c2));clear c1 c2;obtain⟨c1,c2⟩:=HC.out _ HD.out.aB;have z0:=(HDX.out _ HD.out.aB).c0;rw[hb]at hl;have ha0:(0:Int)≤a:=tC a;have ha1:(a:Int)≤b:=by omega
     have ha2:(b:Int)≤S.size:=by rw[vJ.out];omega
     obtain⟨x,hx⟩:∃x,(s.drop a).take (b - a)=x:=⟨_,rfl⟩
     have hxl:x.length≤80:=by rw[←hx];have:=NW s a b;have:=HN.out;omega
     have hsl:∀W,(Instr.slice 9 (.string S) (some (.int .i64 (a:Int))) (some (.int .i64 (b:Int))) none).run Tryz.prog W= .ok (.string ⟨x.toArray⟩) W:=fun W=>by rw[run_slice_string _ _ _ _ _ _ _ Tryz.underlying9 ha0 ha1 ha2,jL,jL,←kS.out,tK,hx]
     have HXL:=ah hxl;obtain⟨y,hy⟩:∃y,eF false s a b=y:=⟨_,rfl⟩
     have HXY:=ah (show x=y by rw[←hy,←hx];rfl);rw[hy]at hl;have hj0:(0:Int)≤j:=by omega
     have hj1:(j:Int)<n:=by omega
     have hi0:(0:Int)≤i:=by omega
     have Pw:wrap64 ((j:Int)+1)=((j+1:Nat):Int):=by unfold wrap64;omega
     have HWJ:=ah Pw;have Bq:=ah hal;have HIJ:=ah hij;clear hc hg hb hx hy Y5 hxl hal hij Pw hbs;obtain rfl:x=y:=HXY.out;by_cases K4:x=t
     ·have hb:(x==t)=true:=by rw[K4];exact beq_self_eq_true _
      have hlen:¬t.length<x.length:=by rw[K4];exact dB _
      rw[aj hlen,ak K4]at hl;have HL2:=ah (show(acc++[(a,b)])++EvL.inner t (eF false s) a (L.drop (j+1))++EvL.outer t (eF false s) (L.drop (i+1))=EvL.outer t (eF false s) L by rw[←hl,dW acc]);clear hl K4;go_wp2_with fail;go_quiet (fail);have Dn:=ah (HD.out.drewN nq);obtain⟨wq,hwq⟩:∃wq,wr.drewN nq=wq:=⟨_,rfl⟩
      rw[hwq]at Dn⊢;clear z0;have z0:=(HDX.out _ Dn.out.aB).c0;have NY:=Dn;go_upto_region 19 with fail;obtain⟨d1,d2⟩:=HC.out _ NY.out.aB;have Nt:acc.length+1≤maxLen:=by have:=Bq.out;simp only[maxLen];omega
      have Y6:(acc.length+1)*16≤140737488355328:=by have:=Bq.out;omega
      have YH:=ah Nt;have afz:=ah Y6;clear Nt Y6;have Nu:=ah (show w2.heap.size≤wq.heap.size from NY.out.aB.size);have HFR:=ah (show(wq.drew.alloc (.cells #[.int .i64 a, .int .i64 b] 33)).ownsRow w2.heap.size 33 2 _ acc.length (eX acc)from(Fr.alloc (fun _=>False) wq.drew _).own NY.out.out (fun _ _=>id));subst hQ;go_region_law (refine step_append_lies _ (by rfl) (.tmp 58) (.tmp 68) 29 (by rfl) w2.heap.size 33 i0 _ 2 16 Tryz.underlying29 hI0 hz0 hz1 hz2 rfl (by omega) _ acc.length (eX acc) (by rfl) HFR.out ⟨wq.heap.size,0,none⟩ 1 1 [.int .i64 a, .int .i64 b] (by rfl) (by rfl) (Eu (dw wq.drew _)) (afh _ _ rfl rfl) (by omega) YH.out afz.out (aX Nu.out (dX (by simp))) _ rfl ?_;intro g3 Ns w7 hown3 hgrow3 _ _);all_goals (
       have HD7:=ah (NY.out.hit hgrow3 hown3);clear hown3 hgrow3)
      all_goals go_wp2_with fail
      all_goals (try rw[HWJ.out])
      all_goals exact⟨⟨j+1,acc++[(a,b)],by have:=HIJ.out;omega,by omega,rfl,HD7.out,by have:=Bq.out;rw[List.length_append,List.length_singleton];omega,HL2.out⟩,by simp[RowKit.intOf];omega⟩
     ·have hb:(x==t)=false:=bW.2 K4;by_cases hlen:t.length<x.length
      ·rw[ak hlen,aj K4,eu]at hl;have HL2:=ah hl;have afA:=ah (show acc.length≤200*(i+1)by have:=Bq.out;omega);clear hl K4;go_wp2_with fail;go_quiet (fail);have Dn:=ah (HD.out.drewN nq);obtain⟨wq,hwq⟩:∃wq,wr.drewN nq=wq:=⟨_,rfl⟩
       rw[hwq]at Dn⊢;clear z0;have z0:=(HDX.out _ Dn.out.aB).c0;have NY:=Dn;go_wp2_with fail;subst hQ;go_wp2_with fail;(try rw[qM.out]);exact⟨⟨i+1,acc,hlt,rfl,NY.out,afA.out,HL2.out⟩,by simp[RowKit.intOf];omega⟩
      ·rw[aj hlen,aj K4,oW]at hl;have HL2:=ah hl;clear hl K4;go_wp2_with fail;go_quiet (fail);have Dn:=ah (HD.out.drewN nq);obtain⟨wq,hwq⟩:∃wq,wr.drewN nq=wq:=⟨_,rfl⟩
       rw[hwq]at Dn⊢;clear z0;have z0:=(HDX.out _ Dn.out.aB).c0;have NY:=Dn;go_wp2_with fail;(try rw[HWJ.out]);exact⟨⟨j+1,acc,by have:=HIJ.out;omega,by omega,rfl,NY.out,by have:=Bq.out;omega,HL2.out⟩,by simp[RowKit.intOf];omega⟩
    ·obtain rfl:j=n:=by omega
     rw[jM (by rw[Vf.out];exact ay _)]at hl;have HL1:=Lib.hid (show acc++EvL.outer t (eF false s) (L.drop (i+1))=EvL.outer t (eF false s) L by rw[←hl];simp[EvL.inner]);have Bq:=ah (show acc.length≤200*(i+1)by omega);clear hl hal hij;go_wp2_with fail;subst hQ;go_wp2_with fail;(try rw[qM.out]);exact⟨⟨i+1,acc,hlt,rfl,HD.out,Bq.out,HL1.out⟩,by simp[RowKit.intOf];omega⟩
  ·obtain rfl:i=n:=by omega
   rw[jM (by rw[Vf.out];exact ay _)]at hl;have HL1:=Lib.hid (show acc=EvL.outer t (eF false s) L by rw[←hl];simp[EvL.outer]);clear hl hal;go_wp2_with fail;go_ret;refine⟨_,rfl,VJ.out.aB.trans (HD.out.aB.mono VJ.out.aB.size),?_⟩;rw[←HL1.out];exact rD HD.out.out (fun k hk=>aX VJ.out.aB.size (bL HD.out.out hk).1)
theorem Y7 (s t want:List UInt8) (S:ByteArray) (hS:(⟨s.toArray⟩:ByteArray)=S) (le wo:Bool) (L:List Nat) (W:World) (ht:t≠[]) (hn:s.length≤60) (hn2:t.length≤60) (hw:wr 3 t=want)
 (hP:∀w,Below W.heap.size W w→Calls Tryz.prog 72 #[.string S, .agg #[.bool true, .bool le, .bool wo]] w (dG (L.map fun(x:Nat)=>(x:Int)) w))
 (hK:∀w,Below W.heap.size W w→afy true w) (hL:∀x∈L,x≤s.length) (hA:L.Pairwise (·<·)) (hLN:L.length≤100):
 Calls Tryz.prog 19 #[.string S, .string ⟨t.toArray⟩, .agg #[.bool true, .bool le, .bool wo]] W (fQ (EvL.outer want (eF true s) L) W):=by
 have hte:t.isEmpty=false:=by cases t with|nil=>exact absurd rfl ht|cons a b=>rfl
 have hSZ:S.size=s.length:=size_mk s S hS;have OO:=ah hP;have HKA:=ah hK;have HLL:=ah hL;have HAS:=ah hA;have kS:=ah hS;have HWW:=ah hw;have HN:=ah hn;have HN2:=ah hn2;have vJ:=ah hSZ;have OQ:=ah (FB.start W true le wo);obtain⟨N,hN⟩:∃N,L.length=N:=⟨_,rfl⟩
 rw[hN]at hLN;have Vf:=ah hN;clear hP hK hL hA ht hS hw hn hn2 hSZ hN;obtain⟨i0,hI0,hz0,hz1,hz2⟩:=eG yU;have z0:=OQ.out.c0;have z1:=OQ.out.c1;have z2:=OQ.out.c2;go_enter Tryz.func19,Tryz.ntmps19;go_upto_region 8 with(first
  |(go_at_call 72;refine(OO.out _ OQ.out.aB).mono ?_;rintro e w1 ⟨A,n,c,rfl,hR,hb⟩;have xJ:=ah (OQ.out.go hb);have HR1:=ah hR;clear hb hR z0 z1 z2)
  |(go_at_call 12;refine(HKA.out _ xJ.out.aB).mono ?_;rintro e w2 ⟨kv,rfl,hb,hfk⟩;have VJ:=ah (xJ.out.go hb);have HR2:=ah (fE HR1.out hb);have HFK:=ah hfk;clear hb hfk;have z0:=VJ.out.c0)
  |(go_at_call 73;refine(HFK.out (by trivial) t _ (aG _ _) (aX HN2.out (by decide))).mono ?_;rintro e w3 ⟨rfl,hb⟩;rw[HWW.out];have HF3:=ah (VJ.out.go hb);have HR3:=ah (fE HR2.out hb);have aiV:=ah hb;clear hb z0))
 have hnN:n=N:=by rw[←HR1.out.len,dz];exact Vf.out
 subst hnN;have HDX:=ah (fun(wx:World) (hd:Below w3.heap.size w3 wx)=>HF3.out.go hd);have HRX:=ah (fun(wx:World) (hd:Below w3.heap.size w3 wx)=>fE HR3.out hd);have HKX:=ah (fun(x:List UInt8) (wx:World) (hd:Below w3.heap.size w3 wx) (hx:x.length≤80)=>HFK.out (by trivial) x wx (aiV.out.trans (hd.mono aiV.out.size)) hx);go_wp2_with fail;go_loopw [10,11,12,13] (fun vo vi _ _ wr=>∃(i:Nat) (acc:List (Nat×Nat)),i≤n∧vi= .int .i64 i∧DE w3 vo acc wr∧acc.length≤200*i∧acc++EvL.outer want (eF true s) (L.drop i)=EvL.outer want (eF true s) L) (fun _ vi _ _ _=>n - (RowKit.intOf vi).toNat);case atStart=>exact⟨0,[],aH _,rfl,DE.nil _,ay _,rfl⟩
 case round=>
  obtain⟨i,acc,hi,rfl,hD,hal,hl⟩:=hrel;have HD:=ah hD;clear hD;by_cases hlt:i<n
  ·have hiL:i<L.length:=by rw[Vf.out];exact hlt
   rw[SG hiL,NV,←dW]at hl;obtain⟨a,ha⟩:∃a,L.getD i 0=a:=⟨_,rfl⟩
   rw[ha]at hl;have HL0:=ah hl;have HA:=ah ha;have Bq:=ah hal;have hwi:wrap64 ((i:Int)+1)=((i+1:Nat):Int):=by unfold wrap64;omega
   have qM:=ah hwi;have hii:(i:Int)<n:=by omega
   clear hl ha hal hwi;go_wp2_with fail;(try rw[qM.out]);go_hide hQ;go_loopw [10,12,13] (fun vo vj _ wr=>∃(j:Nat) (acc:List (Nat×Nat)),i+1≤j∧j≤n∧vj= .int .i64 j∧DE w3 vo acc wr∧acc.length≤200*i+j∧acc++EvL.inner want (eF true s) a (L.drop j)++EvL.outer want (eF true s) (L.drop (i+1))=EvL.outer want (eF true s) L) (fun _ vj _ _=>n - (RowKit.intOf vj).toNat);case atStart=>exact⟨i+1,acc,ay _,hlt,rfl,HD.out,by have:=Bq.out;omega,HL0.out⟩
   case round=>
    obtain⟨j,acc,hij,hj,rfl,hD,hal,hl⟩:=hrel;have HD:=ah hD;clear hD HL0 Bq;by_cases hjl:j<n
    ·have Y5:j<L.length:=by rw[Vf.out];exact hjl
     rw[SG Y5,NU]at hl;obtain⟨b,hb⟩:∃b,L.getD j 0=b:=⟨_,rfl⟩
     have hab:a<b:=by rw[←HA.out,←hb];exact adG HAS.out (by omega) Y5
     have hbs:b≤s.length:=by rw[←hb];exact HLL.out _ (NT Y5)
     obtain⟨g,o,rfl,hg,hc⟩:=(HRX.out _ (aG _ _)).at_ (by omega);have c1:=hc i hlt;have c2:=hc j hjl;rw[ab5 (by rw[Vf.out];exact hlt),HA.out]at c1;rw[ab5 Y5,hb]at c2;have HC:=ah (fun(wx:World) (hd:Below w3.heap.size w3 wx)=>And.intro ((hd.cell (p:=⟨g,o+i,none⟩) hg).trans c1) ((hd.cell (p:=⟨g,o+j,none⟩) hg).trans c2));clear c1 c2;obtain⟨c1,c2⟩:=HC.out _ HD.out.aB;have z0:=(HDX.out _ HD.out.aB).c0;rw[hb]at hl;have ha0:(0:Int)≤a:=tC a;have ha1:(a:Int)≤b:=by omega
     have ha2:(b:Int)≤S.size:=by rw[vJ.out];omega
     obtain⟨x,hx⟩:∃x,(s.drop a).take (b - a)=x:=⟨_,rfl⟩
     have hxl:x.length≤80:=by rw[←hx];have:=NW s a b;have:=HN.out;omega
     have hsl:∀W,(Instr.slice 9 (.string S) (some (.int .i64 (a:Int))) (some (.int .i64 (b:Int))) none).run Tryz.prog W= .ok (.string ⟨x.toArray⟩) W:=fun W=>by rw[run_slice_string _ _ _ _ _ _ _ Tryz.underlying9 ha0 ha1 ha2,jL,jL,←kS.out,tK,hx]
     have HXL:=ah hxl;obtain⟨y,hy⟩:∃y,eF true s a b=y:=⟨_,rfl⟩
     have HXY:=ah (show Go.Proofs.YtocaiijbhepnnaaGreatDoor.searchAsks.wr 3 x=y by rw[←hy,←hx];rfl);rw[hy]at hl;have hj0:(0:Int)≤j:=by omega
     have hj1:(j:Int)<n:=by omega
     have hi0:(0:Int)≤i:=by omega
     have Pw:wrap64 ((j:Int)+1)=((j+1:Nat):Int):=by unfold wrap64;omega
     have HWJ:=ah Pw;have Bq:=ah hal;have HIJ:=ah hij;clear hc hg hb hx hy Y5 hxl hal hij Pw hbs;by_cases K4:y=want
     ·have hb:(y==want)=true:=by rw[K4];exact beq_self_eq_true _
      have hlen:¬want.length<y.length:=by rw[K4];exact dB _
      rw[aj hlen,ak K4]at hl;have HL2:=ah (show(acc++[(a,b)])++EvL.inner want (eF true s) a (L.drop (j+1))++EvL.outer want (eF true s) (L.drop (i+1))=EvL.outer want (eF true s) L by rw[←hl,dW acc]);clear hl K4;go_wp2_with fail;go_quiet (fail);have Dn:=ah (HD.out.drewN nq);obtain⟨wq,hwq⟩:∃wq,wr.drewN nq=wq:=⟨_,rfl⟩
      rw[hwq]at Dn⊢;clear z0;have z0:=(HDX.out _ Dn.out.aB).c0;go_upto_region 18 with(go_at_call 73;refine(HKX.out x _ Dn.out.aB HXL.out).mono ?_;rintro e w5 ⟨rfl,hb5⟩;rw[HXY.out];have NY:=ah (Dn.out.below hb5);clear hb5)
      go_upto_region 19 with fail;obtain⟨d1,d2⟩:=HC.out _ NY.out.aB;have Nt:acc.length+1≤maxLen:=by have:=Bq.out;simp only[maxLen];omega
      have Y6:(acc.length+1)*16≤140737488355328:=by have:=Bq.out;omega
      have YH:=ah Nt;have afz:=ah Y6;clear Nt Y6;have Nu:=ah (show w3.heap.size≤w5.heap.size from NY.out.aB.size);have HFR:=ah (show(w5.drew.alloc (.cells #[.int .i64 a, .int .i64 b] 33)).ownsRow w3.heap.size 33 2 _ acc.length (eX acc)from(Fr.alloc (fun _=>False) w5.drew _).own NY.out.out (fun _ _=>id));subst hQ;go_region_law (refine step_append_lies _ (by rfl) (.tmp 58) (.tmp 68) 29 (by rfl) w3.heap.size 33 i0 _ 2 16 Tryz.underlying29 hI0 hz0 hz1 hz2 rfl (by omega) _ acc.length (eX acc) (by rfl) HFR.out ⟨w5.heap.size,0,none⟩ 1 1 [.int .i64 a, .int .i64 b] (by rfl) (by rfl) (Eu (dw w5.drew _)) (afh _ _ rfl rfl) (by omega) YH.out afz.out (aX Nu.out (dX (by simp))) _ rfl ?_;intro g3 Ns w7 hown3 hgrow3 _ _);all_goals (
       have HD7:=ah (NY.out.hit hgrow3 hown3);clear hown3 hgrow3)
      all_goals go_wp2_with fail
      all_goals (try rw[HWJ.out])
      all_goals exact⟨⟨j+1,acc++[(a,b)],by have:=HIJ.out;omega,by omega,rfl,HD7.out,by have:=Bq.out;rw[List.length_append,List.length_singleton];omega,HL2.out⟩,by simp[RowKit.intOf];omega⟩
     ·have hb:(y==want)=false:=bW.2 K4;by_cases hlen:want.length<y.length
      ·rw[ak hlen,aj K4,eu]at hl;have HL2:=ah hl;have afA:=ah (show acc.length≤200*(i+1)by have:=Bq.out;omega);clear hl K4;go_wp2_with fail;go_quiet (fail);have Dn:=ah (HD.out.drewN nq);obtain⟨wq,hwq⟩:∃wq,wr.drewN nq=wq:=⟨_,rfl⟩
       rw[hwq]at Dn⊢;clear z0;have z0:=(HDX.out _ Dn.out.aB).c0;go_upto_region 18 with(go_at_call 73;refine(HKX.out x _ Dn.out.aB HXL.out).mono ?_;rintro e w5 ⟨rfl,hb5⟩;rw[HXY.out];have NY:=ah (Dn.out.below hb5);clear hb5)
       go_wp2_with fail;subst hQ;go_wp2_with fail;(try rw[qM.out]);exact⟨⟨i+1,acc,hlt,rfl,NY.out,afA.out,HL2.out⟩,by simp[RowKit.intOf];omega⟩
      ·rw[aj hlen,aj K4,oW]at hl;have HL2:=ah hl;clear hl K4;go_wp2_with fail;go_quiet (fail);have Dn:=ah (HD.out.drewN nq);obtain⟨wq,hwq⟩:∃wq,wr.drewN nq=wq:=⟨_,rfl⟩
       rw[hwq]at Dn⊢;clear z0;have z0:=(HDX.out _ Dn.out.aB).c0;go_upto_region 18 with(go_at_call 73;refine(HKX.out x _ Dn.out.aB HXL.out).mono ?_;rintro e w5 ⟨rfl,hb5⟩;rw[HXY.out];have NY:=ah (Dn.out.below hb5);clear hb5)
       go_wp2_with fail;(try rw[HWJ.out]);exact⟨⟨j+1,acc,by have:=HIJ.out;omega,by omega,rfl,NY.out,by have:=Bq.out;omega,HL2.out⟩,by simp[RowKit.intOf];omega⟩
    ·obtain rfl:j=n:=by omega
     rw[jM (by rw[Vf.out];exact ay _)]at hl;have HL1:=Lib.hid (show acc++EvL.outer want (eF true s) (L.drop (i+1))=EvL.outer want (eF true s) L by rw[←hl];simp[EvL.inner]);have Bq:=ah (show acc.length≤200*(i+1)by omega);clear hl hal hij;go_wp2_with fail;subst hQ;go_wp2_with fail;(try rw[qM.out]);exact⟨⟨i+1,acc,hlt,rfl,HD.out,Bq.out,HL1.out⟩,by simp[RowKit.intOf];omega⟩
  ·obtain rfl:i=n:=by omega
   rw[jM (by rw[Vf.out];exact ay _)]at hl;have HL1:=Lib.hid (show acc=EvL.outer want (eF true s) L by rw[←hl];simp[EvL.outer]);clear hl hal;go_wp2_with fail;go_ret;refine⟨_,rfl,HF3.out.aB.trans (HD.out.aB.mono HF3.out.aB.size),?_⟩;rw[←HL1.out];exact rD HD.out.out (fun k hk=>aX HF3.out.aB.size (bL HD.out.out hk).1)
end Go.Proofs.YtocaiijbhepnnaaGreatDoor.searchAsks
