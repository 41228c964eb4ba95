/- SearchEach, walked: the document's runes, edges, places, Every, All. -/
import Derived.Test.YtocaiijbhepnnaaGreatDoorFC
import Derived.Test.YtocaiijbhepnnaaGreatDoorFI
import Derived.Test.YtocaiijbhepnnaaGreatDoorFJ
import Derived.Test.YtocaiijbhepnnaaGreatDoorGA
import Derived.Test.YtocaiijbhepnnaaGreatDoorGC
import Derived.Deep.AppendLies
import Derived.Test.YtocaiijbhepnnaaGreatDoorFP
import Derived.Test.YtocaiijbhepnnaaGreatDoorGB
set_option maxRecDepth 100000
set_option maxHeartbeats 8000000
namespace Go.Proofs.YtocaiijbhepnnaaGreatDoor.searchEach
open Go.Shelf Go.RowKit Go.Lib Go.Proofs.YtocaiijbhepnnaaGreatDoor.Am
section
variable {α:Type} (enc:α→List Value)
def ug (l:List α):List Value:=l.flatMap enc
theorem Bc (l x:List α):ug enc (l++x)=ug enc l++ug enc x:=by simp[ug]
theorem Bd (a:α):ug enc [a]=enc a:=by simp[ug]
theorem vR {s:Nat} (h:∀a,(enc a).length=s):∀l:List α,(ug enc l).length=l.length*s
 |[]=>by simp[ug]
 |a::l=>by have ih:=vR h l;show(enc a++ug enc l).length=_;rw[bf,ih,h,bJ,fD,Nat.one_mul,Nat.add_comm]
theorem NY {s:Nat} (h:∀a,(enc a).length=s) (d:α):∀(l:List α) (k i:Nat),k<l.length→i<s→(ug enc l)[k*s+i]? =(enc (l.getD k d))[i]?
 |[],k,_,hk,_=>absurd hk (iN k)
 |a::l,0,i,_,hi=>by show(enc a++ug enc l)[0*s+i]? =_;rw[ko,bK,oL (by rw[h];exact hi)];rfl
 |a::l,k+1,i,hk,hi=>by have ih:=NY h d l k i (by simpa using hk) hi;show(enc a++ug enc l)[(k+1)*s+i]? =_;rw[fD,Nat.one_mul,nG (by rw[h];omega),h,show k*s+s+i-s=k*s+i by omega,ih];rfl
end
structure Jr {α:Type} (enc:α→List Value) (s:Nat) (d:α) (w:World) (A:Option Addr) (n:Nat) (l:List α):Prop where
 len:l.length=n
 small:n≤100000
 at_:0<n→∃g,A=some ⟨g,0,none⟩∧g<w.heap.size∧∀j,j<n→∀i u,i<s→(enc (l.getD j d))[i]? =some u→w.cell? ⟨g,j*s+i,none⟩=some u
theorem Jr.below {α:Type} {enc:α→List Value} {s:Nat} {d:α} {w w':World} {A:Option Addr} {n:Nat} {l:List α} (h:Jr enc s d w A n l) (hb:Below w.heap.size w w'):Jr enc s d w' A n l:=
 ⟨h.len,h.small,fun h0=>by
  obtain⟨g,e,hg,hc⟩:=h.at_ h0;exact⟨g,e,bH hg hb.size,fun j hj i u hi hu=>by rw[hb.cell (p:=⟨g,j*s+i,none⟩) hg];exact hc j hj i u hi hu⟩⟩
theorem Js {α:Type} {enc:α→List Value} {s:Nat} (hs:∀a,(enc a).length=s) (d:α) {w:World} {base n c:Nat} {A:Option Addr} {T:TypeId} {l:List α} (hn:l.length=n) (h:w.ownsRow base T s (.slice A n c) n (ug enc l)) (hm:n≤100000):Jr enc s d w A n l:=by refine⟨hn,hm,fun h0=> ?_⟩;obtain⟨g,rfl⟩:=rQ h h0;refine⟨g,rfl,(bD h (g:=g) rfl).2.1,fun j hj i u hi hu=> ?_⟩;have c:=qD (g:=g) h rfl (j*s+i) u (by rw[NY enc hs d l j i (by omega) hi];exact hu);rw[gX,bK]at c;exact c
section
variable {α:Type} {enc:α→List Value} {s:Nat} {T:TypeId} {W w w':World} {v v':Value} {acc:List α}
end
section
open Folds (dec aZ bV)
abbrev RN:=Nat×Nat×Nat
def Hz (x:RN):List Value:=[.int .i32 x.1, .int .i64 x.2.1, .int .i64 x.2.2]
def Zf:RN:=(0,0,0)
theorem Bf (x:RN):(Hz x).length=3:=rfl
def QN (L:Nat):List (Nat×Nat)→List RN
 |[]=>[]
 |[x]=>[(x.2,x.1,L)]
 |x::y::r=>(x.2,x.1,y.1)::QN L (y::r)
theorem NZ (L:Nat):∀(p:List (Nat×Nat)) (z x:Nat×Nat),∃a,QN L (p++[z])=a++[(z.2,z.1,L)]∧QN L (p++[z]++[x])=a++[(z.2,z.1,x.1)]++[(x.2,x.1,L)]∧a.length=p.length
 |[],_,_=>⟨[],rfl,rfl,rfl⟩
 |[u],z,x=>⟨[(u.2,u.1,z.1)],rfl,rfl,rfl⟩
 |u::v::r,z,x=>by
  obtain⟨a,h1,h2,h3⟩:=NZ L (v::r) z x;refine⟨(u.2,u.1,v.1)::a,?_,?_,by simpa using h3⟩;·show(u.2,u.1,v.1)::QN L (v::r++[z])=_;rw[h1];rfl
  ·show(u.2,u.1,v.1)::QN L (v::r++[z]++[x])=_;rw[h2];rfl
theorem Td (L:Nat):∀l:List (Nat×Nat),(QN L l).length=l.length
 |[]=>rfl
 |[_]=>rfl
 |x::y::r=>by show(QN L (y::r)).length+1=_;rw[Td L (y::r)];rfl
theorem acu:(Tryz.prog.info? 145).map (fun i=>(i.zero,i.size,i.bytes))=some (some (.agg #[.int .i32 0, .int .i64 0, .int .i64 0]),3,24):=by kernel_rfl
theorem N7 (w:World) (m:RN) (ty:TypeId):∀j u,(Hz m)[j]? =some u→(w.alloc (.cells (Hz m).toArray ty)).cell? ((⟨w.heap.size,0,none⟩:Addr).add j)=some u:=by intro j u hu;rw[gX,bK,bC _ _ _ _ _ _ (dh w _),←hu];simp
theorem Vn (w:World) (m:RN) (ty:TypeId) (k:Nat) (hk:w.heap.size=k):∀j u,(Hz m)[j]? =some u→(w.alloc (.cells (Hz m).toArray ty)).cell? ((⟨k,0,none⟩:Addr).add j)=some u:=by subst hk;exact N7 w m ty
theorem N8 (m:RN):∀u∈Hz m,u.oneCell'=true:=by intro u hu;simp[Hz]at hu;rcases hu with rfl|rfl|rfl<;>rfl
structure QO (W:World) (s:ByteArray) (e m:Nat) (v:Value) (acc:List RN) (w:World):Prop where
 aB:Below W.heap.size W w
 it:w.heap[W.heap.size]? =some (.stringIter s e)
 own:w.ownsRow W.heap.size 145 3 v m (ug Hz acc)
section
variable {W w w':World} {s:ByteArray} {e m:Nat} {v:Value} {acc:List RN}
theorem QO.below (h:QO W s e m v acc w) (hb:Below w.heap.size w w'):QO W s e m v acc w':=
 ⟨h.aB.trans (hb.mono h.aB.size),bM hb h.it,own_below hb h.own⟩
theorem QO.iter (h:QO W s e m v acc w) (e':Nat):QO W s e' m v acc (w.iterAt W.heap.size s e'):=
 ⟨below_iterAt h.aB (ay _) s e',iterAt_heap w _ s e e' h.it,own_iterAt h.it h.own⟩
theorem QO.grow (h:QO W s e m v acc w) {o:Obj} {v':Value} {x:RN} (ho:w'.ownsRow W.heap.size 145 3 v' (m+1) (ug Hz acc++Hz x)) (hg:(w.alloc o).grownBy w' v.ownBlock):QO W s e (m+1) v' (acc++[x]) w':=by have h':=h.below ((aF _ w).alloc (ay _) o);refine⟨h'.aB.grown hg h'.aB.size (fun k hk=>(bD h'.own hk).1),?_,by rw[Bc,Bd];exact ho⟩;rw[hg.block _ (bZ h'.it) (fun c=>by obtain⟨_,_,cur,hc⟩:=bD h'.own (g:=W.heap.size) (by first|exact c|exact c.symm);rw[h'.it]at hc;cases hc)];exact h'.it
theorem Zg (a:List RN) (r f t u:Nat):(ug Hz (a++[(r,f,t)])).set (a.length*3+2) (.int .i64 (u:Int))=ug Hz (a++[(r,f,u)]):=by rw[Bc,Bc,Bd,Bd,List.set_append_right _ _ (by rw[vR Hz Bf];omega),vR Hz Bf,oN];rfl
theorem QO.last {g c:Nat} {a:List RN} {r f t:Nat} (h:QO W s e m (.slice (some ⟨g,0,none⟩) m c) (a++[(r,f,t)]) w) (u:Nat) (hgs:g≠W.heap.size):QO W s e m (.slice (some ⟨g,0,none⟩) m c) (a++[(r,f,u)]) (w.setCell ⟨g,a.length*3+2,none⟩ (.int .i64 (u:Int))):=by
 have hl:=bD h.own (g:=g) rfl;refine⟨Below.setCell h.aB hl.1 _,?_,?_⟩;·rw[Below.heap_setCell _ _ _ _ (fun c=>hgs c.symm)];exact h.it
 ·have:=(h.own.stored (a.length*3+2) (.int .i64 (u:Int))).1;rwa [Zg]at this
end
def Bg (t:List UInt8):List RN:=QN t.length (marks t)
theorem xS (t:List UInt8):(Bg t).length=(marks t).length:=Td _ _
def Zh (t:List UInt8) (W:World) (e:Ending) (w':World):Prop:=∃A n c,e= .returned (.slice A n c)∧Jr Hz 3 Zf w' A n (Bg t)∧Below W.heap.size W w'
theorem CO (t:List UInt8) (W:World) (hn:t.length≤10000):Calls Tryz.prog 89 #[.string ⟨t.toArray⟩] W (Zh t W):=by
 obtain⟨s,hs⟩:∃s:ByteArray,(⟨t.toArray⟩:ByteArray)=s:=⟨_,rfl⟩
 have hss:s.size=t.length:=size_mk t s hs;rw[hs];have HS:=ah hs;have kS:=ah hss;have O9:=ah hn;clear hs hss hn;obtain⟨i0,hI0,hz0,hz1,hz2⟩:=dY acu;go_enter Tryz.func89,Tryz.ntmps89;go_wp2_with fail;go_loopw [3] (fun vo wr=>∃(e f m:Nat) (A:Option Addr) (c:Nat) (p:List (Nat×Nat)),vo= .slice A m c∧QO W s e m (.slice A m c) (QN t.length p) wr∧e≤s.size∧s.size<f+e+1∧m≤e∧p.length=m∧p++aD t f e=marks t) (fun _ wr=>s.size-wr.iterPos W.heap.size);case atStart=>exact⟨0,t.length,0,none,0,[],rfl,⟨(aF _ W).alloc (ay _) _,dh W _,⟨rfl, .inl ⟨rfl,rfl⟩⟩⟩,aH _,by have:=kS.out;omega,ay _,rfl,rfl⟩
 case round=>
  obtain⟨e,f,m,A,c,p,rfl,Y1,he,hf,hm,hpl,hl⟩:=hrel;have hit:=Y1.it;have HOL:=ah Y1;clear Y1;by_cases hlt:e<s.size
  ·obtain⟨f',rfl⟩:∃f',f=f'+1:=⟨f-1,by omega⟩
   have hlt2:e<t.length:=by have:=kS.out;omega
   unfold aD at hl;rw[ak hlt2]at hl;have hnx:=fun ty=>run_next_any_at (P:=Tryz.prog) wr _ s e ty hit hlt;rw[gY t e s HS.out]at hnx;have hne2:t.drop e≠[]:=by intro c;rw[je]at c;have:=kS.out;omega
   have hd1:=aZ (t.drop e);have hd2:=bV (t.drop e) hne2;rw[dQ,←kS.out]at hd2;obtain⟨r,hr⟩:∃r,(dec (t.drop e)).1=r:=⟨_,rfl⟩
   obtain⟨wd,hwd⟩:∃wd,(dec (t.drop e)).2=wd:=⟨_,rfl⟩
   rw[hwd]at hd1 hd2;rw[hr,hwd]at hnx hl;obtain⟨ew,Cv⟩:∃ew,e+wd=ew:=⟨_,rfl⟩
   rw[Cv]at hnx hl;have HL:=ah hl;clear hr hwd hl hlt2 hne2;have HLEN:=ah (show m+1≤maxLen∧(m+1)*24≤140737488355328 by have:=O9.out;have:=kS.out;exact⟨by simp only[maxLen];omega,by omega⟩);have sw:=ah (HOL.out.iter ew);have hq2:wr.iterPos W.heap.size=e:=by unfold World.iterPos;rw[hit]
   have KEY:=ah (fun(B1:Option Addr) (d1:Nat) (w':World) (h:QO W s ew (m+1) (.slice B1 (m+1) d1) (QN t.length (p++[(e,r)])) w')=>
    show(∃(e' f m':Nat) (A:Option Addr) (c:Nat) (p:List (Nat×Nat)),Value.slice B1 (m+1) d1= .slice A m' c∧QO W s e' m' (.slice A m' c) (QN t.length p) w'∧e'≤s.size∧s.size<f+e'+1∧m'≤e'∧p.length=m'∧p++aD t f e'=marks t)∧s.size-w'.iterPos W.heap.size<s.size-wr.iterPos W.heap.size from by
     refine⟨⟨ew,f',m+1,B1,d1,_,rfl,h,by omega,by omega,by omega,by rw[bf,hpl];rfl,by rw[dI];exact HL.out⟩,?_⟩;have q1:w'.iterPos W.heap.size=ew:=by unfold World.iterPos;rw[h.it]
     rw[q1,hq2];omega)
   have O8:=ah hpl;clear Cv hd1 hd2 hf hm he hq2 hlt hpl;have hsz:(s.size:Int)=(t.length:Nat):=by rw[kS.out]
   rcases List.eq_nil_or_concat p with rfl|⟨p0,z,hp0⟩
   ·have hm0:m=0:=O8.out.symm;subst hm0;go_wp2_with (at_builtin;(refine qC _ rfl (.tmp 22) (.tmp 28) 142 rfl W.heap.size 145 i0 _ 3 24 Tryz.underlying142 hI0 hz0 hz1 hz2 rfl (by decide) (.slice A 0 c) 0 (ug Hz []) rfl (dN sw.out.own) ⟨_,0,none⟩ 1 1 (Hz (r,e,t.length)) rfl rfl (N7 _ _ _) (N8 _) (by decide) HLEN.out.1 HLEN.out.2 (jm sw.out.aB.size) _ rfl ?_);intro g cap wq ho hg hl hs);exact KEY.out _ _ _ (sw.out.grow (x:=(r,e,t.length)) ho hg)
   ·obtain⟨a,ha1,ha2,ha3⟩:=NZ t.length p0 z (e,r);rw[List.concat_eq_append]at hp0;rw[←hp0]at ha1 ha2;have hm1:m=a.length+1:=by rw[←O8.out,hp0,bf,ha3];rfl
    rw[ha1]at sw;rw[ha2]at KEY;have HOW:=sw.out.own;obtain⟨g,rfl⟩:=rQ HOW (by omega);have hgs:g≠W.heap.size:=fun c=>by obtain⟨_,_,cur,hc⟩:=bD HOW (g:=g) rfl;rw[c,sw.out.it]at hc;cases hc
    have HSL:=ah (sw.out.last (u:=e) hgs);have hcell:=qD (g:=g) HOW rfl (a.length*3+2) (.int .i64 (t.length:Nat)) (by rw[Bc,Bd,nG (by rw[vR Hz Bf];omega),vR Hz Bf,oN];rfl);rw[gX,bK]at hcell;have hfz:(wr.iterAt W.heap.size s ew).frozen? ⟨g,a.length*3+2,none⟩=false:=HOW.frozenAt _;obtain⟨q,hq⟩:∃q,a.length=q:=⟨_,rfl⟩
    rw[hq]at hm1 hcell HSL hfz;subst hm1;have hwq:wrap64 (q:Int)=q:=by have:=HLEN.out.2;unfold wrap64;omega
    have hq0:(0:Int)<(q:Int)+1:=by omega
    clear HOW hgs ha1 ha2 ha3 hp0;go_wp2_with (at_builtin;(refine wpList_append_lies _ rfl (.tmp 22) (.tmp 28) 142 rfl W.heap.size 145 i0 _ 3 24 Tryz.underlying142 hI0 hz0 hz1 hz2 rfl (by decide) (.slice (some ⟨g,0,none⟩) (q+1) c) (q+1) (ug Hz (a++[(z.2,z.1,e)])) rfl (dN HSL.out.own) ⟨_,0,none⟩ 1 1 (Hz (r,e,t.length)) rfl rfl (Vn _ _ _ _ (by simp[World.setCell])) (N8 _) (by decide) HLEN.out.1 HLEN.out.2 (jm HSL.out.aB.size) _ rfl ?_);intro g3 cap wq ho hg hl hs);exact KEY.out _ _ _ (HSL.out.grow (x:=(r,e,t.length)) ho hg)
  ·obtain rfl:e=s.size:=by omega
   have hz:aD t f s.size=[]:=by
    cases f with
    |zero=>rfl
    |succ f=>unfold aD;rw[aj (by have:=kS.out;omega)]
   rw[hz,eD]at hl;subst hl;clear hz;have hnx:=fun ty=>run_next_end_at (P:=Tryz.prog) wr _ s s.size ty hit hlt;have hmm:m≤100000:=by have:=kS.out;have:=O9.out;omega
   have HM:=ah hmm;have O8:=ah hpl;clear hf he hm hmm hlt hpl;go_wp2_with fail;go_ret;exact⟨A,m,c,rfl,Js Bf Zf (by rw[xS];exact O8.out) HOL.out.own HM.out,HOL.out.aB⟩
end
theorem Ld {zs:List Int} {k:Nat} (h:k<zs.length):zs.getD k 0∈zs:=by rw[aM,aY h];exact mG h
theorem uh {zs:List Int} {x:Int} (h:∀j,j<zs.length→¬zs.getD j 0=x):¬x∈zs:=fun hm=>by obtain⟨j,hj,he⟩:=tH.1 hm;exact h j hj (by rw[aM,aY hj];exact he)
theorem N9 (zs:List Int) (x:Int) (A:Option Addr) (n c:Nat) (W:World) (hR:bQ W A n zs):
 Calls Tryz.prog 170 #[.slice A n c, .int .i64 x] W fun e w'=>e= .returned (.bool (decide (x∈zs)))∧w'=W:=by
 have hsm:=hR.small;have HR:=ah hR;clear hR;go_enter Tryz.func170,Tryz.ntmps170;go_wp2;go_loopw [5] (fun i wr=>∃k:Nat,k≤n∧i= .int .i64 k∧(∀j,j<k→¬zs.getD j 0=x)∧wr=W) (fun i _=>n-(RowKit.intOf i).toNat);case atStart=>exact⟨0,aH _,rfl,(fun j hj=>absurd hj (iN j)),rfl⟩
 case round=>
  obtain⟨k,hk,rfl,hlo,rfl⟩:=hrel;have zo:=ah hlo;clear hlo;by_cases hlt:k<n
  ·obtain⟨g,o,rfl,hg,hc⟩:=HR.out.at_ (by omega);have hck:=hc k hlt;have HM:=ah (Ld (zs:=zs) (k:=k) (by rw[HR.out.len];exact hlt));obtain⟨y,hy⟩:∃y,zs.getD k 0=y:=⟨_,rfl⟩
   rw[hy]at hck HM;have HY:=ah hy;have hk0:(0:Int)≤k:=by omega
   have hk1:(k:Int)<n:=by omega
   clear hc hy hg;have hwk:wrap64 ((k:Int)+1)=((k+1:Nat):Int):=by unfold wrap64;omega
   have j5:=ah hwk;clear hwk;by_cases hyx:y=x;·subst hyx;go_wp2;go_ret;exact⟨by rw[bB HM.out];rfl,rfl⟩
   ·have HNX:=ah (show ∀j,j<k+1→¬zs.getD j 0=x from fun j hj=>by
     rcases aK j k with c|c;·exact zo.out j c
     ·obtain rfl:j=k:=by omega
      rw[HY.out];exact hyx)
    have hyb:(y==x)=false:=bW.2 hyx;go_wp2;exact⟨⟨k+1,hlt,by first|rw[j5.out]|rfl,HNX.out,by first|rfl|trivial⟩,by first|(rw[j5.out];simp[RowKit.intOf];omega)|(simp[RowKit.intOf];omega)⟩
  ·obtain rfl:k=n:=by omega
   have HN:=ah (uh (zs:=zs) (x:=x) (fun j hj=>zo.out j (by rw[←HR.out.len];exact hj)));go_wp2;go_ret;exact⟨by rw[aX HN.out];rfl,rfl⟩
theorem acv (zs:List Int) (x:Int) (A:Option Addr) (n c:Nat) (W:World) (hR:bQ W A n zs):
 Calls Tryz.prog 183 #[.slice A n c, .int .i64 x] W fun e w'=>e= .returned (.bool (decide (x∈zs)))∧w'=W:=by
 have hsm:=hR.small;have HR:=ah hR;clear hR;go_enter Tryz.func183,Tryz.ntmps183;go_wp2;go_loopw [5] (fun i wr=>∃k:Nat,k≤n∧i= .int .i64 k∧(∀j,j<k→¬zs.getD j 0=x)∧wr=W) (fun i _=>n-(RowKit.intOf i).toNat);case atStart=>exact⟨0,aH _,rfl,(fun j hj=>absurd hj (iN j)),rfl⟩
 case round=>
  obtain⟨k,hk,rfl,hlo,rfl⟩:=hrel;have zo:=ah hlo;clear hlo;by_cases hlt:k<n
  ·obtain⟨g,o,rfl,hg,hc⟩:=HR.out.at_ (by omega);have hck:=hc k hlt;have HM:=ah (Ld (zs:=zs) (k:=k) (by rw[HR.out.len];exact hlt));obtain⟨y,hy⟩:∃y,zs.getD k 0=y:=⟨_,rfl⟩
   rw[hy]at hck HM;have HY:=ah hy;have hk0:(0:Int)≤k:=by omega
   have hk1:(k:Int)<n:=by omega
   clear hc hy hg;have hwk:wrap64 ((k:Int)+1)=((k+1:Nat):Int):=by unfold wrap64;omega
   have j5:=ah hwk;clear hwk;by_cases hyx:y=x;·subst hyx;go_wp2;go_ret;exact⟨by rw[bB HM.out];rfl,rfl⟩
   ·have HNX:=ah (show ∀j,j<k+1→¬zs.getD j 0=x from fun j hj=>by
     rcases aK j k with c|c;·exact zo.out j c
     ·obtain rfl:j=k:=by omega
      rw[HY.out];exact hyx)
    have hyb:(y==x)=false:=bW.2 hyx;go_wp2;exact⟨⟨k+1,hlt,by first|rw[j5.out]|rfl,HNX.out,by first|rfl|trivial⟩,by first|(rw[j5.out];simp[RowKit.intOf];omega)|(simp[RowKit.intOf];omega)⟩
  ·obtain rfl:k=n:=by omega
   have HN:=ah (uh (zs:=zs) (x:=x) (fun j hj=>zo.out j (by rw[←HR.out.len];exact hj)));go_wp2;go_ret;exact⟨by rw[aX HN.out];rfl,rfl⟩
theorem acw (zs:List Int) (x:Int) (A:Option Addr) (n c:Nat) (W:World) (hR:bQ W A n zs):
 Calls Tryz.prog 281 #[.slice A n c, .int .i64 x] W fun e w'=>e= .returned (.bool (decide (x∈zs)))∧w'=W:=by
 have hsm:=hR.small;have HR:=ah hR;clear hR;go_enter Tryz.func281,Tryz.ntmps281;go_wp2;go_loopw [5] (fun i wr=>∃k:Nat,k≤n∧i= .int .i64 k∧(∀j,j<k→¬zs.getD j 0=x)∧wr=W) (fun i _=>n-(RowKit.intOf i).toNat);case atStart=>exact⟨0,aH _,rfl,(fun j hj=>absurd hj (iN j)),rfl⟩
 case round=>
  obtain⟨k,hk,rfl,hlo,rfl⟩:=hrel;have zo:=ah hlo;clear hlo;by_cases hlt:k<n
  ·obtain⟨g,o,rfl,hg,hc⟩:=HR.out.at_ (by omega);have hck:=hc k hlt;have HM:=ah (Ld (zs:=zs) (k:=k) (by rw[HR.out.len];exact hlt));obtain⟨y,hy⟩:∃y,zs.getD k 0=y:=⟨_,rfl⟩
   rw[hy]at hck HM;have HY:=ah hy;have hk0:(0:Int)≤k:=by omega
   have hk1:(k:Int)<n:=by omega
   clear hc hy hg;have hwk:wrap64 ((k:Int)+1)=((k+1:Nat):Int):=by unfold wrap64;omega
   have j5:=ah hwk;clear hwk;by_cases hyx:y=x;·subst hyx;go_wp2;go_ret;exact⟨by rw[bB HM.out];rfl,rfl⟩
   ·have HNX:=ah (show ∀j,j<k+1→¬zs.getD j 0=x from fun j hj=>by
     rcases aK j k with c|c;·exact zo.out j c
     ·obtain rfl:j=k:=by omega
      rw[HY.out];exact hyx)
    have hyb:(y==x)=false:=bW.2 hyx;go_wp2;exact⟨⟨k+1,hlt,by first|rw[j5.out]|rfl,HNX.out,by first|rfl|trivial⟩,by first|(rw[j5.out];simp[RowKit.intOf];omega)|(simp[RowKit.intOf];omega)⟩
  ·obtain rfl:k=n:=by omega
   have HN:=ah (uh (zs:=zs) (x:=x) (fun j hj=>zo.out j (by rw[←HR.out.len];exact hj)));go_wp2;go_ret;exact⟨by rw[aX HN.out];rfl,rfl⟩
theorem Oa (zs:List Int) (x:Int) (A:Option Addr) (n c:Nat) (W:World) (hR:bQ W A n zs):
 Calls Tryz.prog 179 #[.slice A n c, .int .i64 x] W fun e w'=>e= .returned (.bool (decide (x∈zs)))∧w'=W:=by
 have hsm:=hR.small;have HR:=ah hR;clear hR;go_enter Tryz.func179,Tryz.ntmps179;go_wp2;go_loopw [5] (fun i wr=>∃k:Nat,k≤n∧i= .int .i64 k∧(∀j,j<k→¬zs.getD j 0=x)∧wr=W) (fun i _=>n-(RowKit.intOf i).toNat);case atStart=>exact⟨0,aH _,rfl,(fun j hj=>absurd hj (iN j)),rfl⟩
 case round=>
  obtain⟨k,hk,rfl,hlo,rfl⟩:=hrel;have zo:=ah hlo;clear hlo;by_cases hlt:k<n
  ·obtain⟨g,o,rfl,hg,hc⟩:=HR.out.at_ (by omega);have hck:=hc k hlt;have HM:=ah (Ld (zs:=zs) (k:=k) (by rw[HR.out.len];exact hlt));obtain⟨y,hy⟩:∃y,zs.getD k 0=y:=⟨_,rfl⟩
   rw[hy]at hck HM;have HY:=ah hy;have hk0:(0:Int)≤k:=by omega
   have hk1:(k:Int)<n:=by omega
   clear hc hy hg;have hwk:wrap64 ((k:Int)+1)=((k+1:Nat):Int):=by unfold wrap64;omega
   have j5:=ah hwk;clear hwk;by_cases hyx:y=x;·subst hyx;go_wp2;go_ret;exact⟨by rw[bB HM.out];rfl,rfl⟩
   ·have HNX:=ah (show ∀j,j<k+1→¬zs.getD j 0=x from fun j hj=>by
     rcases aK j k with c|c;·exact zo.out j c
     ·obtain rfl:j=k:=by omega
      rw[HY.out];exact hyx)
    have hyb:(y==x)=false:=bW.2 hyx;go_wp2;exact⟨⟨k+1,hlt,by first|rw[j5.out]|rfl,HNX.out,by first|rfl|trivial⟩,by first|(rw[j5.out];simp[RowKit.intOf];omega)|(simp[RowKit.intOf];omega)⟩
  ·obtain rfl:k=n:=by omega
   have HN:=ah (uh (zs:=zs) (x:=x) (fun j hj=>zo.out j (by rw[←HR.out.len];exact hj)));go_wp2;go_ret;exact⟨by rw[aX HN.out];rfl,rfl⟩
structure IA (W:World) (v:Value) (m:Nat) (zs:List Int) (w:World):Prop where
 aB:Below W.heap.size W w
 own:w.ownsRow W.heap.size 3 1 v m (bA zs)
section
variable {W w w':World} {m:Nat} {v:Value} {zs:List Int}
theorem IA.nil (W:World):IA W (.slice none 0 0) 0 [] W:=⟨aF _ _,⟨rfl, .inl ⟨rfl,rfl⟩⟩⟩
theorem IA.below (h:IA W v m zs w) (hb:Below w.heap.size w w'):IA W v m zs w':=⟨h.aB.trans (hb.mono h.aB.size),own_below hb h.own⟩
theorem IA.dU (h:IA W v m zs w) {o:Obj}:(w.alloc o).ownsRow W.heap.size 3 1 v m (bA zs):=dN h.own
theorem IA.grow (h:IA W v m zs w) {o:Obj} {v':Value} {x:Int} (ho:w'.ownsRow W.heap.size 3 1 v' (m+1) (bA zs++[.int .i64 x])) (hg:(w.alloc o).grownBy w' v.ownBlock):IA W v' (m+1) (zs++[x]) w':=by have h':=h.below ((aF _ w).alloc (ay _) o);exact⟨h'.aB.grown hg h'.aB.size (fun k hk=>(bD h'.own hk).1),by rw[kJ];exact ho⟩
end
theorem fC {w w':World} {A:Option Addr} {n:Nat} {zs:List Int} (h:bQ w A n zs) (hb:Below w.heap.size w w'):bQ w' A n zs:=dO h hb
theorem Te (L:Nat):∀(l:List (Nat×Nat)) (k:Nat),k<l.length→((QN L l).getD k Zf).2.1=(l.getD k (0,0)).1
 |[],_,h=>absurd h (iN _)
 |[_],0,_=>rfl
 |[_],_+1,h=>by simp at h
 |_::_::_,0,_=>rfl
 |x::y::r,k+1,h=>by have:=Te L (y::r) k (by simpa using h);show((QN L (y::r)).getD k Zf).2.1=((y::r).getD k (0,0)).1;exact this
theorem Le (t:List UInt8) {k:Nat} (h:k<(marks t).length):(((Bg t).getD k Zf).2.1:Int)=(dV t).getD k 0:=by unfold Bg;rw[Te _ _ _ h];unfold dV;rw[aM,aM,fF,aY h];rfl
theorem Ob (t:List UInt8) {k:Nat} (h:k<(marks t).length):(dV t).take k++[(dV t).getD k 0]=(dV t).take (k+1):=by
 have h':k<(dV t).length:=by unfold dV;rw[dx];exact h
 rw[xw,aY h',aM,aY h'];rfl
theorem qJ (t:List UInt8):(dV t).length=(marks t).length:=by unfold dV;rw[dx]
def gJ (t:List UInt8):List Int:=dV t++[(t.length:Int)]
def dF (zs:List Int) (W:World) (e:Ending) (w':World):Prop:=∃A n c,e= .returned (.slice A n c)∧bQ w' A n zs∧Below W.heap.size W w'
theorem D9 {m:Nat} (h:m≤100000):m+1≤maxLen∧(m+1)*8≤140737488355328:=⟨by simp only[maxLen];omega,by omega⟩
theorem Vo (t:List UInt8) (W:World) (hn:t.length≤10000):Calls Tryz.prog 119 #[.string ⟨t.toArray⟩] W (dF (gJ t) W):=by
 obtain⟨s,hs⟩:∃s:ByteArray,(⟨t.toArray⟩:ByteArray)=s:=⟨_,rfl⟩
 have hss:s.size=t.length:=size_mk t s hs;have Vi:=ah (CO t W hn);rw[hs]at Vi⊢;have hml:(marks t).length≤10000:=aQ (pJ t) hn;have VZ:=ah hml;clear hml hn hs;obtain⟨i0,hI0,hz0,hz1,hz2⟩:=dY gB;go_enter Tryz.func119,Tryz.ntmps119;go_wp2_with (go_at_call 89;refine Vi.out.mono ?_;rintro e w1 ⟨A,n,c,rfl,hR,hb⟩;have HR:=ah hR;have HB:=ah hb;have HN:=ah (hR.len.symm.trans (xS t));clear hR hb);have hn2:n≤10000:=by have:=VZ.out;have:=HN.out;omega
 go_loopw [3,5] (fun vl vi wr=>∃(k:Nat) (A2:Option Addr) (c2:Nat),k≤n∧vi= .int .i64 k∧vl= .slice A2 k c2∧IA w1 (.slice A2 k c2) k ((dV t).take k) wr) (fun _ vi _=>n-(RowKit.intOf vi).toNat);case atStart=>exact⟨0,none,0,aH _,rfl,rfl,IA.nil w1⟩
 case round=>
  obtain⟨k,A2,c2,hk,rfl,rfl,hA⟩:=hrel;have HA:=ah hA;clear hA;by_cases hlt:k<n
  ·have HLEN:=ah (D9 (show k≤100000 by omega));obtain⟨g,rfl,hg,hc⟩:=HR.out.at_ (by omega);have hkm:k<(marks t).length:=by rw[←HN.out];exact hlt
   have d1:=hc k hlt 1 _ (by decide) rfl;rw[Le t hkm]at d1;have BG:=ah (Ob t hkm);obtain⟨x,hx⟩:∃x,(dV t).getD k 0=x:=⟨_,rfl⟩
   rw[hx]at d1 BG;have d2:=(HA.out.aB.cell (p:=⟨g,k*3+1,none⟩) hg).trans d1;have hk0:(0:Int)≤k:=by omega
   have hk1:(k:Int)<n:=by omega
   have hwk:wrap64 ((k:Int)+1)=((k+1:Nat):Int):=by unfold wrap64;omega
   have j5:=ah hwk;clear hwk hx hc hg d1 hkm;go_wp2_with (at_builtin;refine aT _ rfl (.tmp 14) (.tmp 20) 41 rfl w1.heap.size 3 i0 _ 8 Tryz.underlying41 hI0 hz0 hz1 hz2 rfl (.slice A2 k c2) k (bA ((dV t).take k)) rfl HA.out.dU _ 1 1 [.int .i64 x] rfl (bX _ _ _) (by simp[Value.oneCell']) HLEN.out.1 HLEN.out.2 (by rw[World.size_alloc];have:=HA.out.aB.size;omega) ?_;intro v' wp ho hg hn;obtain⟨B1,d1,rfl,_⟩:=aL ho;have ny:=Lib.hid (HA.out.grow ho hg);clear ho hg hn);(try rw[j5.out]);exact⟨⟨k+1,_,_,hlt,rfl,rfl,by rw[←BG.out];exact ny.out⟩,by simp[RowKit.intOf];omega⟩
  ·obtain rfl:k=n:=by omega
   have htk:(dV t).take k=dV t:=mH (by rw[qJ,HN.out];exact ay _);rw[htk]at HA;have HLEN:=ah (D9 (show k≤100000 by omega));have ai2:(s.size:Int)=(t.length:Nat):=by rw[hss]
   have HK:=ah (show k+1≤100000 by omega);clear htk hk;go_wp2_with (at_builtin;refine aT _ rfl (.tmp 22) (.tmp 25) 41 rfl w1.heap.size 3 i0 _ 8 Tryz.underlying41 hI0 hz0 hz1 hz2 rfl (.slice A2 k c2) k (bA (dV t)) rfl HA.out.dU _ 1 1 [.int .i64 (t.length:Nat)] rfl (bX _ _ _) (by simp[Value.oneCell']) HLEN.out.1 HLEN.out.2 (by rw[World.size_alloc];have:=HA.out.aB.size;omega) ?_;intro v' wp ho hg hn;obtain⟨B1,d1,rfl,_⟩:=aL ho;have ny:=Lib.hid (HA.out.grow ho hg);clear ho hg hn);go_ret;refine⟨_,_,_,rfl,?_,HB.out.trans (ny.out.aB.mono HB.out.size)⟩;exact gD ny.out.own HK.out
def Jt (a b:List Int):List Int:=a.filter fun x=>decide (x∈b)
theorem Vp (a b:List Int) {k:Nat} (h:k<a.length):(a.take (k+1)).filter (fun x=>decide (x∈b))=(a.take k).filter (fun x=>decide (x∈b))++if a.getD k 0∈b then[a.getD k 0]else[]:=by
 rw[xw,aY h,List.filter_append,aM,aY h];congr 1;show List.filter _ [a[k]]=_;by_cases c:a[k]∈b;·simp[c]
 ·simp[c]
theorem Bh (a b:List Int) (A1 A2:Option Addr) (n1 n2 c1 c2:Nat) (W:World) (h1:bQ W A1 n1 a) (h2:bQ W A2 n2 b) (hs:n1≤10000):Calls Tryz.prog 120 #[.slice A1 n1 c1, .slice A2 n2 c2] W (dF (Jt a b) W):=by
 have H1:=ah h1;have H2:=ah h2;clear h1 h2;obtain⟨i0,hI0,hz0,hz1,hz2⟩:=dY gB;go_enter Tryz.func120,Tryz.ntmps120;go_wp2;go_loopw [5,6] (fun vl vi wr=>∃(k m:Nat) (A:Option Addr) (c:Nat),k≤n1∧m≤k∧vi= .int .i64 k∧vl= .slice A m c∧IA W (.slice A m c) m ((a.take k).filter fun x=>decide (x∈b)) wr) (fun _ vi _=>n1-(RowKit.intOf vi).toNat);case atStart=>exact⟨0,0,none,0,aH _,ay _,rfl,rfl,IA.nil W⟩
 case round=>
  obtain⟨k,m,A,c,hk,hmk,rfl,rfl,hA⟩:=hrel;have HA:=ah hA;clear hA;by_cases hlt:k<n1
  ·have HLEN:=ah (D9 (show m≤100000 by omega));have hka:k<a.length:=by rw[H1.out.len];exact hlt
   obtain⟨g,o,rfl,hg,hc⟩:=H1.out.at_ (by omega);have d1:=hc k hlt;have BG:=ah (Vp a b hka);obtain⟨x,hx⟩:∃x,a.getD k 0=x:=⟨_,rfl⟩
   rw[hx]at d1 BG;have d2:=(HA.out.aB.cell (p:=⟨g,o+k,none⟩) hg).trans d1;have hk0:(0:Int)≤k:=by omega
   have hk1:(k:Int)<n1:=by omega
   have hwk:wrap64 ((k:Int)+1)=((k+1:Nat):Int):=by unfold wrap64;omega
   have j5:=ah hwk;have HMK:=ah hmk;have HI2:=ah (fC H2.out HA.out.aB);clear hwk hx hc hg d1 hka hmk;by_cases hb:x∈b
   ·have hdb:decide (x∈b)=true:=bB hb;have htk:=BG.out;rw[ak hb]at htk;have HT2:=ah htk;have HDB:=ah hdb;clear htk BG hb hdb;go_wp2_with (first
     |(go_at_call 170;refine(N9 b x _ _ _ _ HI2.out).mono ?_;rintro e w2 ⟨rfl,rfl⟩;rw[HDB.out])
     |(at_builtin;refine aT _ rfl (.tmp 19) (.tmp 24) 41 rfl W.heap.size 3 i0 _ 8 Tryz.underlying41 hI0 hz0 hz1 hz2 rfl (.slice A m c) m (bA ((a.take k).filter fun x=>decide (x∈b))) rfl HA.out.dU _ 1 1 [.int .i64 x] rfl (bX _ _ _) (by simp[Value.oneCell']) HLEN.out.1 HLEN.out.2 (by rw[World.size_alloc];have:=HA.out.aB.size;omega) ?_;intro v' wp ho hg hn;obtain⟨B1,d1,rfl,_⟩:=aL ho;have ny:=Lib.hid (HA.out.grow ho hg);clear ho hg hn))
    (try rw[j5.out]);exact⟨⟨k+1,m+1,_,_,hlt,Nat.succ_le_succ HMK.out,rfl,rfl,by rw[HT2.out];exact ny.out⟩,by simp[RowKit.intOf];omega⟩
   ·have hdb:decide (x∈b)=false:=aX hb;have htk:=BG.out;rw[aj hb,eD]at htk;have HT2:=ah htk;have HDB:=ah hdb;clear htk BG hb hdb;go_wp2_with (go_at_call 170;refine(N9 b x _ _ _ _ HI2.out).mono ?_;rintro e w2 ⟨rfl,rfl⟩;rw[HDB.out]);(try rw[j5.out]);exact⟨⟨k+1,m,_,_,hlt,Nat.le_succ_of_le HMK.out,rfl,rfl,by rw[HT2.out];exact HA.out⟩,by simp[RowKit.intOf];omega⟩
  ·obtain rfl:k=n1:=by omega
   have htk:a.take k=a:=mH (by rw[H1.out.len];exact ay _);rw[htk]at HA;have HM:=ah (show m≤100000 by omega);clear htk hk hmk;go_wp2;go_ret;exact⟨A,m,c,rfl,gD HA.out.own HM.out,HA.out.aB⟩
def EL (le wo:Bool) (gs ws:List Int) (t:List UInt8):List Int:=
 let l:=if le=true then Jt (gJ t) gs else gJ t
 if wo=true then Jt l ws else l
theorem Vq (t:List UInt8):(gJ t).length≤t.length+1:=by unfold gJ;rw[bf,qJ];have:=pJ t;simp only[bJ,iw];omega
theorem Zi (a b:List Int):(Jt a b).length≤a.length:=EC _ _
def ai3 (s:ByteArray) (gs:List Int) (w:World):Prop:=Calls Tryz.prog 58 #[] w fun e w'=>∃v,e= .returned v∧Below w.heap.size w w'∧Calls Tryz.prog 64 #[v, .string s] w' (dF gs w')
def afT (s:ByteArray) (ws:List Int) (w:World):Prop:=Calls Tryz.prog 21 #[.string s] w (dF ws w)
structure FB (W:World) (fo le wo:Bool) (w:World):Prop where
 aB:Below W.heap.size W w
 o:w.heap[W.heap.size]? =some (.cells #[.bool fo, .bool le, .bool wo] 28 (0,0))
theorem FB.go {W w w':World} {fo le wo:Bool} (h:FB W fo le wo w) (hb:Below w.heap.size w w'):FB W fo le wo w':=⟨h.aB.trans (hb.mono h.aB.size),bM hb h.o⟩
theorem FB.start (W:World) (fo le wo:Bool):FB W fo le wo (W.alloc (.cells #[.bool fo, .bool le, .bool wo] 28)):=⟨(aF _ W).alloc (ay _) _,dh W _⟩
theorem FB.c0 {W w:World} {fo le wo:Bool} (h:FB W fo le wo w):w.cell? ⟨W.heap.size,0,none⟩=some (.bool fo):=(bC w W.heap.size 0 _ _ _ h.o).trans rfl
theorem FB.c1 {W w:World} {fo le wo:Bool} (h:FB W fo le wo w):w.cell? ⟨W.heap.size,1,none⟩=some (.bool le):=(bC w W.heap.size 1 _ _ _ h.o).trans rfl
theorem FB.c2 {W w:World} {fo le wo:Bool} (h:FB W fo le wo w):w.cell? ⟨W.heap.size,2,none⟩=some (.bool wo):=(bC w W.heap.size 2 _ _ _ h.o).trans rfl
theorem QS (t:List UInt8) (s:ByteArray) (hs:(⟨t.toArray⟩:ByteArray)=s) (fo le wo:Bool) (gs ws:List Int) (W:World) (hn:t.length≤5000)
 (hG:le=true→∀w,Below W.heap.size W w→ai3 s gs w) (hW:wo=true→∀w,Below W.heap.size W w→afT s ws w):
 Calls Tryz.prog 72 #[.string s, .agg #[.bool fo, .bool le, .bool wo]] W (dF (EL le wo gs ws t) W):=by
 have HE:=ah (fun w=>Vo t w (by omega));rw[hs]at HE;have Vr:=ah (show(gJ t).length≤10000 from aQ (Vq t) (by omega));have HLB:=ah (fun b=>aQ (Zi (gJ t) b) Vr.out);have HG:=ah hG;have HW:=ah hW;have Pb:=ah (FB.start W fo le wo);clear hG hW hn hs;unfold EL;generalize gJ t=E at*
 cases le<;>cases wo;·go_enter Tryz.func72,Tryz.ntmps72;go_wp2_with (go_at_call 119;refine(HE.out _).mono ?_;rintro e w1 ⟨A,n,c,rfl,hR,hb⟩;have xR:=ah (Pb.out.go hb);have HR:=ah hR;have y1:=xR.out.c1;have y2:=xR.out.c2;clear hb hR);go_ret;exact⟨A,n,c,rfl,HR.out,xR.out.aB⟩
 ·go_enter Tryz.func72,Tryz.ntmps72;go_wp2_with (first|(go_at_call 119;refine(HE.out _).mono ?_;rintro e w1 ⟨A,n,c,rfl,hR,hb⟩;have xR:=ah (Pb.out.go hb);have HR:=ah hR;have y1:=xR.out.c1;have y2:=xR.out.c2;clear hb hR)|(go_at_call 21;refine(HW.out (by trivial) _ xR.out.aB).mono ?_;rintro e w5 ⟨A5,n5,c5,rfl,hI,hb⟩;have HF5:=ah (xR.out.go hb);have HR5:=ah (fC HR.out hb);have HI5:=ah hI;clear hb hI)|(go_at_call 120;refine(Bh E ws _ _ _ _ _ _ _ HR5.out HI5.out (by rw[←HR5.out.len];exact Vr.out)).mono ?_;rintro e w6 ⟨A6,n6,c6,rfl,hI,hb⟩;have HF6:=ah (HF5.out.go hb);have HI6:=ah hI;clear hb hI));go_ret;exact⟨A6,n6,c6,rfl,HI6.out,HF6.out.aB⟩
 ·go_enter Tryz.func72,Tryz.ntmps72;go_wp2_with (first|(go_at_call 119;refine(HE.out _).mono ?_;rintro e w1 ⟨A,n,c,rfl,hR,hb⟩;have xR:=ah (Pb.out.go hb);have HR:=ah hR;have y1:=xR.out.c1;have y2:=xR.out.c2;clear hb hR)|(go_at_call 58;refine(HG.out (by trivial) _ xR.out.aB).mono ?_;rintro e w2 ⟨v,rfl,hb,hcall⟩;have V7:=ah (xR.out.go hb);have HR2:=ah (fC HR.out hb);have SC:=ah hcall;clear hb hcall y1 y2)|(go_at_call 64;refine SC.out.mono ?_;rintro e w3 ⟨A3,n3,c3,rfl,hI,hb⟩;have HF3:=ah (V7.out.go hb);have HR3:=ah (fC HR2.out hb);have HI3:=ah hI;clear hb hI)|(go_at_call 120;refine(Bh E gs _ _ _ _ _ _ _ HR3.out HI3.out (by rw[←HR3.out.len];exact Vr.out)).mono ?_;rintro e w4 ⟨A4,n4,c4,rfl,hI,hb⟩;have HF4:=ah (HF3.out.go hb);have HI4:=ah hI;have y2:=HF4.out.c2;clear hb hI));go_ret;exact⟨A4,n4,c4,rfl,HI4.out,HF4.out.aB⟩
 ·go_enter Tryz.func72,Tryz.ntmps72;go_upto_region 4 with(first|(go_at_call 119;refine(HE.out _).mono ?_;rintro e w1 ⟨A,n,c,rfl,hR,hb⟩;have xR:=ah (Pb.out.go hb);have HR:=ah hR;have y1:=xR.out.c1;have y2:=xR.out.c2;clear hb hR)|(go_at_call 58;refine(HG.out (by trivial) _ xR.out.aB).mono ?_;rintro e w2 ⟨v,rfl,hb,hcall⟩;have V7:=ah (xR.out.go hb);have HR2:=ah (fC HR.out hb);have SC:=ah hcall;clear hb hcall y1 y2)|(go_at_call 64;refine SC.out.mono ?_;rintro e w3 ⟨A3,n3,c3,rfl,hI,hb⟩;have HF3:=ah (V7.out.go hb);have HR3:=ah (fC HR2.out hb);have HI3:=ah hI;clear hb hI)|(go_at_call 120;refine(Bh E gs _ _ _ _ _ _ _ HR3.out HI3.out (by rw[←HR3.out.len];exact Vr.out)).mono ?_;rintro e w4 ⟨A4,n4,c4,rfl,hI,hb⟩;have HF4:=ah (HF3.out.go hb);have HI4:=ah hI;have y2:=HF4.out.c2;clear hb hI))
  go_wp2_with (first|(go_at_call 21;refine(HW.out (by trivial) _ HF4.out.aB).mono ?_;rintro e w5 ⟨A5,n5,c5,rfl,hI,hb⟩;have HF5:=ah (HF4.out.go hb);have HR5:=ah (fC HI4.out hb);have HI5:=ah hI;clear hb hI)|(go_at_call 120;refine(Bh (Jt E gs) ws _ _ _ _ _ _ _ HR5.out HI5.out (by rw[←HR5.out.len];exact HLB.out gs)).mono ?_;rintro e w6 ⟨A6,n6,c6,rfl,hI,hb⟩;have HF6:=ah (HF5.out.go hb);have HI6:=ah hI;clear hb hI));go_ret;exact⟨A6,n6,c6,rfl,HI6.out,HF6.out.aB⟩
section
open Folds (dec aZ bV)
def eG (fo:Bool) (t:List UInt8) (a b:Nat):List UInt8:=uI fo ((t.drop a).take (b-a))
inductive Reach (t:List UInt8):Nat→Nat→Prop
 |nil (a:Nat):Reach t a a
 |cons {a b:Nat}:a<t.length→Reach t (a+(dec (t.drop a)).2) b→Reach t a b
theorem Reach.le {t:List UInt8} {a b:Nat} (h:Reach t a b):a≤b:=by
 induction h with
 |nil a=>exact ay a
 |cons _ _ ih=>omega
theorem Reach.snoc {t:List UInt8} {a b:Nat} (h:Reach t a b) (hb:b<t.length):Reach t a (b+(dec (t.drop b)).2):=by
 induction h with
 |nil a=>exact .cons hb (.nil _)
 |cons h1 _ ih=>exact .cons h1 (ih hb)
theorem acy (k:Nat) (l:List UInt8) (h:l≠[]):wr k l=Folds.one (fun r=>pG (formV r k)) l++wr k (l.drop (dec l).2):=Folds.Nw _ l h
theorem Zj (l:List UInt8) {m:Nat} (h:l≠[]) (hm:(dec l).2≤m):dec (l.take m)=dec l∧Folds.one (fun r=>pG (formV r 3)) (l.take m)=Folds.one (fun r=>pG (formV r 3)) l:=by
 have hp:=aZ l;have hn:=bV l h;have hne:l.take m≠[]:=by intro c;have:=eT List.length c;rw[gH,iw]at this;omega
 have e:dec (l.take m)=dec l:=by have:=Folds.abU (l.take m) (l.drop m) hne (by rw[nE,gH];omega);rw[nE]at this;exact this.symm
 refine⟨e,?_⟩;unfold Folds.one;rw[e,List.take_take,zD (by omega)]
theorem afU (k:Nat):wr k []=[]:=rfl
theorem acz (t:List UInt8) {a e:Nat} (h:Reach t a e) (he:e<t.length):wr 3 ((t.drop a).take (e+(dec (t.drop e)).2-a))=wr 3 ((t.drop a).take (e-a))++wr 3 ((t.drop e).take (dec (t.drop e)).2):=by
 induction h with
 |nil a=>rw[qd,List.take_zero,afU,lC,oN]
 |cons h1 h2 ih=>
  rename_i a b;have hle:=h2.le;have hne:t.drop a≠[]:=by intro c;rw[je]at c;omega
  have hp:=aZ (t.drop a);have hn:=bV (t.drop a) hne;have key:∀m,(dec (t.drop a)).2≤m→wr 3 ((t.drop a).take m)=Folds.one (fun r=>pG (formV r 3)) (t.drop a)++wr 3 ((t.drop (a+(dec (t.drop a)).2)).take (m-(dec (t.drop a)).2)):=fun m hm=>by
   obtain⟨d1,d2⟩:=Zj (t.drop a) hne hm;rw[acy 3 _ (by
    intro c;have:=eT List.length c;rw[gH,iw]at this;omega),d1,d2,List.drop_take,List.drop_drop]
  rw[key _ (by omega),key _ (by omega),show b+(dec (t.drop b)).2-a-(dec (t.drop a)).2=b+(dec (t.drop b)).2-(a+(dec (t.drop a)).2)by omega,ih he,show b-a-(dec (t.drop a)).2=b-(a+(dec (t.drop a)).2)by omega,dI]
theorem Vs (t:List UInt8) {a e n:Nat} (h:a≤e):(t.drop a).take (e+n-a)=(t.drop a).take (e-a)++(t.drop e).take n:=by rw[show e+n-a=(e-a)+n by omega,List.take_add,List.drop_drop,show a+(e-a)=e by omega]
theorem acA (fo:Bool) (t:List UInt8) {a e:Nat} (h:Reach t a e) (he:e<t.length):eG fo t a (e+(dec (t.drop e)).2)=eG fo t a e++uI fo ((t.drop e).take (dec (t.drop e)).2):=by
 unfold eG uI;cases fo;·exact Vs t h.le
 ·exact acz t h he
section
variable (fo:Bool) (may:Int→Bool) (t:List UInt8)
theorem Oc (a:Nat):∀n e,Reach t a e→e≤t.length→EvL.Parts (eG fo t) a (eG fo t a e) (CJ (uI fo) may t n e)
 |0,_,_,_=>trivial
 |n+1,e,h,he=>by
  unfold CJ;by_cases c:e<t.length;·rw[ak c];refine⟨rfl,?_⟩;show EvL.Parts _ _ (eG fo t a e++uI fo ((t.drop e).take (dec (t.drop e)).2)) _;rw[←acA fo t h c];exact Oc a n _ (h.snoc c) (K6 c).1
  ·rw[aj c];obtain rfl:e=t.length:=by omega
   exact⟨rfl,trivial⟩
theorem Dx:∀n e,e≤t.length→EvL.Gy (eG fo t) (CJ (uI fo) may t n e)
 |0,_,_=>trivial
 |n+1,e,he=>by
  unfold CJ;by_cases c:e<t.length
  ·rw[ak c];obtain⟨d1,d2⟩:=K6 c;refine⟨?_,Dx n _ d1⟩;have e1:uI fo ((t.drop e).take (dec (t.drop e)).2)=eG fo t e (e+(dec (t.drop e)).2):=by unfold eG;rw[oN]
   show EvL.Parts _ _ (uI fo ((t.drop e).take (dec (t.drop e)).2)) _;rw[e1];exact Oc fo may t e n _ (.cons c (.nil _)) d1
  ·rw[aj c];exact⟨trivial,trivial⟩
theorem Od:∀n e,e≤t.length→EvL.Shows (CJ (uI fo) may t n e)
 |0,_,_=>trivial
 |n+1,e,he=>by
  unfold CJ;by_cases c:e<t.length
  ·rw[ak c];obtain⟨d1,d2⟩:=K6 c;refine⟨fun _=> ?_,Od n _ d1⟩;have hne:(t.drop e).take (dec (t.drop e)).2≠[]:=by intro q;have:=eT List.length q;rw[gH,dQ,iw]at this;omega
   show uI fo ((t.drop e).take (dec (t.drop e)).2)≠[];unfold uI;split;·exact adX hne
   ·exact hne
  ·rw[aj c];exact⟨fun h=>absurd rfl h,trivial⟩
end
theorem Zk (fo le wo:Bool) (s want:List UInt8) (gs ws:List Int) (hw:want≠[]):
 EvL.outer want (eG fo s) (EvL.places (CJ (uI fo) (qb le wo gs ws) s (s.length+1) 0))=Left.every want (CJ (uI fo) (qb le wo gs ws) s (s.length+1) 0):=
 EvL.Dr want _ hw _ (Od fo _ s _ _ (aH _)) (Dx fo _ s _ _ (aH _))
end
def afV (fo:Bool) (w:World):Prop:=Calls Tryz.prog 12 #[] w fun e w'=>∃v,e= .returned v∧Below w.heap.size w w'∧
 (fo=true→∀(x:List UInt8) (w2:World),Below w'.heap.size w' w2→x.length≤80→Calls Tryz.prog 73 #[v, .string ⟨x.toArray⟩] w2 fun e w3=>e= .returned (.string ⟨(wr 3 x).toArray⟩)∧Below w2.heap.size w2 w3)
structure DE (W1:World) (vo:Value) (acc:List (Nat×Nat)) (w:World):Prop where
 aB:Below W1.heap.size W1 w
 out:w.ownsRow W1.heap.size 33 2 vo acc.length (bR acc)
theorem DE.nil (W1:World):DE W1 (.slice none 0 0) [] W1:=⟨aF _ _,⟨rfl, .inl ⟨rfl,rfl⟩⟩⟩
section
variable {W1 w w':World} {vo v':Value} {acc:List (Nat×Nat)}
theorem DE.below (h:DE W1 vo acc w) (hb:Below w.heap.size w w'):DE W1 vo acc w':=⟨h.aB.trans (hb.mono h.aB.size),own_below hb h.out⟩
theorem DE.drewN (h:DE W1 vo acc w) (q:Nat):DE W1 vo acc (w.drewN q):=⟨⟨h.aB.os,h.aB.tape,h.aB.output,h.aB.size,h.aB.block⟩,h.out⟩
theorem DE.hit {o:Obj} {a b:Nat} (h:DE W1 vo acc w) (hg:(w.drew.alloc o).grownBy w' vo.ownBlock) (ho:w'.ownsRow W1.heap.size 33 2 v' (acc.length+1) (bR acc++[.int .i64 a, .int .i64 b])):DE W1 v' (acc++[(a,b)]) w':=by
 have hf:=YW hg;refine⟨⟨h.aB.os▸hf.os,h.aB.tape▸hf.tape,h.aB.output▸hf.output,aQ h.aB.size hf.size,fun j hj=> ?_⟩,?_⟩;·rw[hf.block j (bH hj h.aB.size) (fun c=>by have:=(bD h.out c).1;omega)];exact h.aB.block j hj
 ·rw[tZ,bf];exact ho
end
theorem Tf {L:List Nat} {k:Nat} (h:k<L.length):L.drop k=L.getD k 0::L.drop (k+1):=by rw[oV h,aM,aY h];rfl
theorem acB {L:List Nat} {k:Nat} (h:k<L.length):(L.map fun(x:Nat)=>(x:Int)).getD k 0=((L.getD k 0:Nat):Int):=by rw[aM,aM,fF,aY h];rfl
theorem Oe {L:List Nat} {k:Nat} (h:k<L.length):L.getD k 0∈L:=by rw[aM,aY h];exact mG h
theorem ad4 {L:List Nat} (hp:L.Pairwise (·<·)) {i j:Nat} (h:i<j) (hj:j<L.length):L.getD i 0<L.getD j 0:=by rw[aM,aM,aY hj,aY (by omega)];exact List.pairwise_iff_getElem.1 hp i j (by omega) hj h
theorem Og (want:List UInt8) (part:Nat→Nat→List UInt8) (a b:Nat) (r:List Nat):EvL.inner want part a (b::r)=if want.length<(part a b).length then(if part a b=want then[(a,b)]else[])else(if part a b=want then[(a,b)]else[])++EvL.inner want part a r:=rfl
theorem Oh (want:List UInt8) (part:Nat→Nat→List UInt8) (a:Nat) (r:List Nat):EvL.outer want part (a::r)=EvL.inner want part a r++EvL.outer want part r:=rfl
theorem Oi (s:List UInt8) (a b:Nat):((s.drop a).take (b-a)).length≤b-a:=List.length_take_le _ _
theorem QT (s:ByteArray) (fo le wo:Bool) (W:World):Calls Tryz.prog 19 #[.string s, .string ⟨#[]⟩, .agg #[.bool fo, .bool le, .bool wo]] W (jG [] W):=by go_enter Tryz.func19,Tryz.ntmps19;go_wp2_with fail;go_ret;exact⟨_,rfl,(aF _ W).alloc (ay _) _,⟨rfl, .inl ⟨rfl,rfl⟩⟩⟩
theorem Zl (s t want:List UInt8) (S:ByteArray) (hS:(⟨s.toArray⟩:ByteArray)=S) (le wo:Bool) (L:List Nat) (W:World) (ht:t≠[]) (hn:s.length≤60) (hn2:t.length≤60) (hw:t=want)
 (hP:∀w,Below W.heap.size W w→Calls Tryz.prog 72 #[.string S, .agg #[.bool false, .bool le, .bool wo]] w (dF (L.map fun(x:Nat)=>(x:Int)) w))
 (hK:∀w,Below W.heap.size W w→afV false w) (hL:∀x∈L,x≤s.length) (hA:L.Pairwise (·<·)) (hLN:L.length≤100):
 Calls Tryz.prog 19 #[.string S, .string ⟨t.toArray⟩, .agg #[.bool false, .bool le, .bool wo]] W (jG (EvL.outer want (eG false s) L) W):=by
 have hte:t.isEmpty=false:=by cases t with|nil=>exact absurd rfl ht|cons a b=>rfl
 have hSZ:S.size=s.length:=size_mk s S hS;have O8:=ah hP;have HKA:=ah hK;have Vt:=ah hL;have HAS:=ah hA;have kS:=ah hS;have HWW:=ah hw;have HN:=ah hn;have HN2:=ah hn2;have uN:=ah hSZ;have Pb:=ah (FB.start W false le wo);obtain⟨N,hN⟩:∃N,L.length=N:=⟨_,rfl⟩
 rw[hN]at hLN;have Vu:=ah hN;clear hP hK hL hA ht hS hw hn hn2 hSZ hN;obtain⟨i0,hI0,hz0,hz1,hz2⟩:=dY pR;have z0:=Pb.out.c0;have z1:=Pb.out.c1;have z2:=Pb.out.c2;go_enter Tryz.func19,Tryz.ntmps19;go_upto_region 8 with(first
  |(go_at_call 72;refine(O8.out _ Pb.out.aB).mono ?_;rintro e w1 ⟨A,n,c,rfl,hR,hb⟩;have xR:=ah (Pb.out.go hb);have HR1:=ah hR;clear hb hR z0 z1 z2)
  |(go_at_call 12;refine(HKA.out _ xR.out.aB).mono ?_;rintro e w2 ⟨kv,rfl,hb,hfk⟩;have V7:=ah (xR.out.go hb);have HR2:=ah (fC HR1.out hb);have HFK:=ah hfk;clear hb hfk;have z0:=V7.out.c0))
 have hnN:n=N:=by rw[←HR1.out.len,dx];exact Vu.out
 subst hnN;obtain rfl:t=want:=HWW.out;have HDX:=ah (fun(wx:World) (hd:Below w2.heap.size w2 wx)=>V7.out.go hd);have HRX:=ah (fun(wx:World) (hd:Below w2.heap.size w2 wx)=>fC HR2.out hd);go_wp2_with fail;go_loopw [10,11,12,13] (fun vo vi _ _ wr=>∃(i:Nat) (acc:List (Nat×Nat)),i≤n∧vi= .int .i64 i∧DE w2 vo acc wr∧acc.length≤200*i∧acc++EvL.outer t (eG false s) (L.drop i)=EvL.outer t (eG false s) L) (fun _ vi _ _ _=>n - (RowKit.intOf vi).toNat);case atStart=>exact⟨0,[],aH _,rfl,DE.nil _,ay _,rfl⟩
 case round=>
  obtain⟨i,acc,hi,rfl,hD,hal,hl⟩:=hrel;have HD:=ah hD;clear hD;by_cases hlt:i<n
  ·have hiL:i<L.length:=by rw[Vu.out];exact hlt
   rw[Tf hiL,Oh,←dI]at hl;obtain⟨a,ha⟩:∃a,L.getD i 0=a:=⟨_,rfl⟩
   rw[ha]at hl;have HL0:=ah hl;have HA:=ah ha;have zi:=ah hal;have hwi:wrap64 ((i:Int)+1)=((i+1:Nat):Int):=by unfold wrap64;omega
   have qU:=ah hwi;have hii:(i:Int)<n:=by omega
   clear hl ha hal hwi;go_wp2_with fail;(try rw[qU.out]);go_hide hQ;go_loopw [10,12,13] (fun vo vj _ wr=>∃(j:Nat) (acc:List (Nat×Nat)),i+1≤j∧j≤n∧vj= .int .i64 j∧DE w2 vo acc wr∧acc.length≤200*i+j∧acc++EvL.inner t (eG false s) a (L.drop j)++EvL.outer t (eG false s) (L.drop (i+1))=EvL.outer t (eG false s) L) (fun _ vj _ _=>n - (RowKit.intOf vj).toNat);case atStart=>exact⟨i+1,acc,ay _,hlt,rfl,HD.out,by have:=zi.out;omega,HL0.out⟩
   case round=>
    obtain⟨j,acc,hij,hj,rfl,hD,hal,hl⟩:=hrel;have HD:=ah hD;clear hD HL0 zi;by_cases hjl:j<n
    ·have Zm:j<L.length:=by rw[Vu.out];exact hjl
     rw[Tf Zm,Og]at hl;obtain⟨b,hb⟩:∃b,L.getD j 0=b:=⟨_,rfl⟩
     have hab:a<b:=by rw[←HA.out,←hb];exact ad4 HAS.out (by omega) Zm
     have hbs:b≤s.length:=by rw[←hb];exact Vt.out _ (Oe Zm)
     obtain⟨g,o,rfl,hg,hc⟩:=(HRX.out _ (aF _ _)).at_ (by omega);have c1:=hc i hlt;have c2:=hc j hjl;rw[acB (by rw[Vu.out];exact hlt),HA.out]at c1;rw[acB Zm,hb]at c2;have HC:=ah (fun(wx:World) (hd:Below w2.heap.size w2 wx)=>And.intro ((hd.cell (p:=⟨g,o+i,none⟩) hg).trans c1) ((hd.cell (p:=⟨g,o+j,none⟩) hg).trans c2));clear c1 c2;obtain⟨c1,c2⟩:=HC.out _ HD.out.aB;have z0:=(HDX.out _ HD.out.aB).c0;rw[hb]at hl;have ha0:(0:Int)≤a:=xu a;have ha1:(a:Int)≤b:=by omega
     have ha2:(b:Int)≤S.size:=by rw[uN.out];omega
     obtain⟨x,hx⟩:∃x,(s.drop a).take (b - a)=x:=⟨_,rfl⟩
     have hxl:x.length≤80:=by rw[←hx];have:=Oi s a b;have:=HN.out;omega
     have hsl:∀W,(Instr.slice 9 (.string S) (some (.int .i64 (a:Int))) (some (.int .i64 (b:Int))) none).run Tryz.prog W= .ok (.string ⟨x.toArray⟩) W:=fun W=>by rw[run_slice_string _ _ _ _ _ _ _ Tryz.underlying9 ha0 ha1 ha2,jM,jM,←kS.out,tQ,hx]
     have HXL:=ah hxl;obtain⟨y,hy⟩:∃y,eG false s a b=y:=⟨_,rfl⟩
     have HXY:=ah (show x=y by rw[←hy,←hx];rfl);rw[hy]at hl;have hj0:(0:Int)≤j:=by omega
     have hj1:(j:Int)<n:=by omega
     have hi0:(0:Int)≤i:=by omega
     have PY:wrap64 ((j:Int)+1)=((j+1:Nat):Int):=by unfold wrap64;omega
     have HWJ:=ah PY;have zi:=ah hal;have HIJ:=ah hij;clear hc hg hb hx hy Zm hxl hal hij PY hbs;obtain rfl:x=y:=HXY.out;by_cases Lf:x=t
     ·have hb:(x==t)=true:=by rw[Lf];exact beq_self_eq_true _
      have hlen:¬t.length<x.length:=by rw[Lf];exact dA _
      rw[aj hlen,ak Lf]at hl;have HL2:=ah (show(acc++[(a,b)])++EvL.inner t (eG false s) a (L.drop (j+1))++EvL.outer t (eG false s) (L.drop (i+1))=EvL.outer t (eG false s) L by rw[←hl,dI acc]);clear hl Lf;go_wp2_with fail;go_quiet (fail);have Dy:=ah (HD.out.drewN nq);obtain⟨wq,hwq⟩:∃wq,wr.drewN nq=wq:=⟨_,rfl⟩
      rw[hwq]at Dy⊢;clear z0;have z0:=(HDX.out _ Dy.out.aB).c0;have Oj:=Dy;go_upto_region 19 with fail;obtain⟨d1,d2⟩:=HC.out _ Oj.out.aB;have NK:acc.length+1≤maxLen:=by have:=zi.out;simp only[maxLen];omega
      have Zn:(acc.length+1)*16≤140737488355328:=by have:=zi.out;omega
      have K9:=ah NK;have QC:=ah Zn;clear NK Zn;have NM:=ah (show w2.heap.size≤wq.heap.size from Oj.out.aB.size);have HFR:=ah (show(wq.drew.alloc (.cells #[.int .i64 a, .int .i64 b] 33)).ownsRow w2.heap.size 33 2 _ acc.length (bR acc)from(Fr.alloc (fun _=>False) wq.drew _).own Oj.out.out (fun _ _=>id));subst hQ;go_region_law (refine step_append_lies _ (by rfl) (.tmp 58) (.tmp 68) 29 (by rfl) w2.heap.size 33 i0 _ 2 16 Tryz.underlying29 hI0 hz0 hz1 hz2 rfl (by omega) _ acc.length (bR acc) (by rfl) HFR.out ⟨wq.heap.size,0,none⟩ 1 1 [.int .i64 a, .int .i64 b] (by rfl) (by rfl) (xE (dh wq.drew _)) (YV _ _ rfl rfl) (by omega) K9.out QC.out (aQ NM.out (dJ (by simp))) _ rfl ?_;intro g3 Ii w7 hown3 hgrow3 _ _);all_goals (
       have HD7:=ah (Oj.out.hit hgrow3 hown3);clear hown3 hgrow3)
      all_goals go_wp2_with fail
      all_goals (try rw[HWJ.out])
      all_goals exact⟨⟨j+1,acc++[(a,b)],by have:=HIJ.out;omega,by omega,rfl,HD7.out,by have:=zi.out;rw[List.length_append,List.length_singleton];omega,HL2.out⟩,by simp[RowKit.intOf];omega⟩
     ·have hb:(x==t)=false:=bW.2 Lf;by_cases hlen:t.length<x.length
      ·rw[ak hlen,aj Lf,eD]at hl;have HL2:=ah hl;have afW:=ah (show acc.length≤200*(i+1)by have:=zi.out;omega);clear hl Lf;go_wp2_with fail;go_quiet (fail);have Dy:=ah (HD.out.drewN nq);obtain⟨wq,hwq⟩:∃wq,wr.drewN nq=wq:=⟨_,rfl⟩
       rw[hwq]at Dy⊢;clear z0;have z0:=(HDX.out _ Dy.out.aB).c0;have Oj:=Dy;go_wp2_with fail;subst hQ;go_wp2_with fail;(try rw[qU.out]);exact⟨⟨i+1,acc,hlt,rfl,Oj.out,afW.out,HL2.out⟩,by simp[RowKit.intOf];omega⟩
      ·rw[aj hlen,aj Lf,lC]at hl;have HL2:=ah hl;clear hl Lf;go_wp2_with fail;go_quiet (fail);have Dy:=ah (HD.out.drewN nq);obtain⟨wq,hwq⟩:∃wq,wr.drewN nq=wq:=⟨_,rfl⟩
       rw[hwq]at Dy⊢;clear z0;have z0:=(HDX.out _ Dy.out.aB).c0;have Oj:=Dy;go_wp2_with fail;(try rw[HWJ.out]);exact⟨⟨j+1,acc,by have:=HIJ.out;omega,by omega,rfl,Oj.out,by have:=zi.out;omega,HL2.out⟩,by simp[RowKit.intOf];omega⟩
    ·obtain rfl:j=n:=by omega
     rw[nK (by rw[Vu.out];exact ay _)]at hl;have LG:=Lib.hid (show acc++EvL.outer t (eG false s) (L.drop (i+1))=EvL.outer t (eG false s) L by rw[←hl];simp[EvL.inner]);have zi:=ah (show acc.length≤200*(i+1)by omega);clear hl hal hij;go_wp2_with fail;subst hQ;go_wp2_with fail;(try rw[qU.out]);exact⟨⟨i+1,acc,hlt,rfl,HD.out,zi.out,LG.out⟩,by simp[RowKit.intOf];omega⟩
  ·obtain rfl:i=n:=by omega
   rw[nK (by rw[Vu.out];exact ay _)]at hl;have LG:=Lib.hid (show acc=EvL.outer t (eG false s) L by rw[←hl];simp[EvL.outer]);clear hl hal;go_wp2_with fail;go_ret;refine⟨_,rfl,V7.out.aB.trans (HD.out.aB.mono V7.out.aB.size),?_⟩;rw[←LG.out];exact rO HD.out.out (fun k hk=>aQ V7.out.aB.size (bD HD.out.out hk).1)
theorem Zo (s t want:List UInt8) (S:ByteArray) (hS:(⟨s.toArray⟩:ByteArray)=S) (le wo:Bool) (L:List Nat) (W:World) (ht:t≠[]) (hn:s.length≤60) (hn2:t.length≤60) (hw:wr 3 t=want)
 (hP:∀w,Below W.heap.size W w→Calls Tryz.prog 72 #[.string S, .agg #[.bool true, .bool le, .bool wo]] w (dF (L.map fun(x:Nat)=>(x:Int)) w))
 (hK:∀w,Below W.heap.size W w→afV true w) (hL:∀x∈L,x≤s.length) (hA:L.Pairwise (·<·)) (hLN:L.length≤100):
 Calls Tryz.prog 19 #[.string S, .string ⟨t.toArray⟩, .agg #[.bool true, .bool le, .bool wo]] W (jG (EvL.outer want (eG true s) L) W):=by
 have hte:t.isEmpty=false:=by cases t with|nil=>exact absurd rfl ht|cons a b=>rfl
 have hSZ:S.size=s.length:=size_mk s S hS;have O8:=ah hP;have HKA:=ah hK;have Vt:=ah hL;have HAS:=ah hA;have kS:=ah hS;have HWW:=ah hw;have HN:=ah hn;have HN2:=ah hn2;have uN:=ah hSZ;have Pb:=ah (FB.start W true le wo);obtain⟨N,hN⟩:∃N,L.length=N:=⟨_,rfl⟩
 rw[hN]at hLN;have Vu:=ah hN;clear hP hK hL hA ht hS hw hn hn2 hSZ hN;obtain⟨i0,hI0,hz0,hz1,hz2⟩:=dY pR;have z0:=Pb.out.c0;have z1:=Pb.out.c1;have z2:=Pb.out.c2;go_enter Tryz.func19,Tryz.ntmps19;go_upto_region 8 with(first
  |(go_at_call 72;refine(O8.out _ Pb.out.aB).mono ?_;rintro e w1 ⟨A,n,c,rfl,hR,hb⟩;have xR:=ah (Pb.out.go hb);have HR1:=ah hR;clear hb hR z0 z1 z2)
  |(go_at_call 12;refine(HKA.out _ xR.out.aB).mono ?_;rintro e w2 ⟨kv,rfl,hb,hfk⟩;have V7:=ah (xR.out.go hb);have HR2:=ah (fC HR1.out hb);have HFK:=ah hfk;clear hb hfk;have z0:=V7.out.c0)
  |(go_at_call 73;refine(HFK.out (by trivial) t _ (aF _ _) (aQ HN2.out (by decide))).mono ?_;rintro e w3 ⟨rfl,hb⟩;rw[HWW.out];have HF3:=ah (V7.out.go hb);have HR3:=ah (fC HR2.out hb);have ajb:=ah hb;clear hb z0))
 have hnN:n=N:=by rw[←HR1.out.len,dx];exact Vu.out
 subst hnN;have HDX:=ah (fun(wx:World) (hd:Below w3.heap.size w3 wx)=>HF3.out.go hd);have HRX:=ah (fun(wx:World) (hd:Below w3.heap.size w3 wx)=>fC HR3.out hd);have HKX:=ah (fun(x:List UInt8) (wx:World) (hd:Below w3.heap.size w3 wx) (hx:x.length≤80)=>HFK.out (by trivial) x wx (ajb.out.trans (hd.mono ajb.out.size)) hx);go_wp2_with fail;go_loopw [10,11,12,13] (fun vo vi _ _ wr=>∃(i:Nat) (acc:List (Nat×Nat)),i≤n∧vi= .int .i64 i∧DE w3 vo acc wr∧acc.length≤200*i∧acc++EvL.outer want (eG true s) (L.drop i)=EvL.outer want (eG true s) L) (fun _ vi _ _ _=>n - (RowKit.intOf vi).toNat);case atStart=>exact⟨0,[],aH _,rfl,DE.nil _,ay _,rfl⟩
 case round=>
  obtain⟨i,acc,hi,rfl,hD,hal,hl⟩:=hrel;have HD:=ah hD;clear hD;by_cases hlt:i<n
  ·have hiL:i<L.length:=by rw[Vu.out];exact hlt
   rw[Tf hiL,Oh,←dI]at hl;obtain⟨a,ha⟩:∃a,L.getD i 0=a:=⟨_,rfl⟩
   rw[ha]at hl;have HL0:=ah hl;have HA:=ah ha;have zi:=ah hal;have hwi:wrap64 ((i:Int)+1)=((i+1:Nat):Int):=by unfold wrap64;omega
   have qU:=ah hwi;have hii:(i:Int)<n:=by omega
   clear hl ha hal hwi;go_wp2_with fail;(try rw[qU.out]);go_hide hQ;go_loopw [10,12,13] (fun vo vj _ wr=>∃(j:Nat) (acc:List (Nat×Nat)),i+1≤j∧j≤n∧vj= .int .i64 j∧DE w3 vo acc wr∧acc.length≤200*i+j∧acc++EvL.inner want (eG true s) a (L.drop j)++EvL.outer want (eG true s) (L.drop (i+1))=EvL.outer want (eG true s) L) (fun _ vj _ _=>n - (RowKit.intOf vj).toNat);case atStart=>exact⟨i+1,acc,ay _,hlt,rfl,HD.out,by have:=zi.out;omega,HL0.out⟩
   case round=>
    obtain⟨j,acc,hij,hj,rfl,hD,hal,hl⟩:=hrel;have HD:=ah hD;clear hD HL0 zi;by_cases hjl:j<n
    ·have Zm:j<L.length:=by rw[Vu.out];exact hjl
     rw[Tf Zm,Og]at hl;obtain⟨b,hb⟩:∃b,L.getD j 0=b:=⟨_,rfl⟩
     have hab:a<b:=by rw[←HA.out,←hb];exact ad4 HAS.out (by omega) Zm
     have hbs:b≤s.length:=by rw[←hb];exact Vt.out _ (Oe Zm)
     obtain⟨g,o,rfl,hg,hc⟩:=(HRX.out _ (aF _ _)).at_ (by omega);have c1:=hc i hlt;have c2:=hc j hjl;rw[acB (by rw[Vu.out];exact hlt),HA.out]at c1;rw[acB Zm,hb]at c2;have HC:=ah (fun(wx:World) (hd:Below w3.heap.size w3 wx)=>And.intro ((hd.cell (p:=⟨g,o+i,none⟩) hg).trans c1) ((hd.cell (p:=⟨g,o+j,none⟩) hg).trans c2));clear c1 c2;obtain⟨c1,c2⟩:=HC.out _ HD.out.aB;have z0:=(HDX.out _ HD.out.aB).c0;rw[hb]at hl;have ha0:(0:Int)≤a:=xu a;have ha1:(a:Int)≤b:=by omega
     have ha2:(b:Int)≤S.size:=by rw[uN.out];omega
     obtain⟨x,hx⟩:∃x,(s.drop a).take (b - a)=x:=⟨_,rfl⟩
     have hxl:x.length≤80:=by rw[←hx];have:=Oi s a b;have:=HN.out;omega
     have hsl:∀W,(Instr.slice 9 (.string S) (some (.int .i64 (a:Int))) (some (.int .i64 (b:Int))) none).run Tryz.prog W= .ok (.string ⟨x.toArray⟩) W:=fun W=>by rw[run_slice_string _ _ _ _ _ _ _ Tryz.underlying9 ha0 ha1 ha2,jM,jM,←kS.out,tQ,hx]
     have HXL:=ah hxl;obtain⟨y,hy⟩:∃y,eG true s a b=y:=⟨_,rfl⟩
     have HXY:=ah (show Go.Proofs.YtocaiijbhepnnaaGreatDoor.searchEach.wr 3 x=y by rw[←hy,←hx];rfl);rw[hy]at hl;have hj0:(0:Int)≤j:=by omega
     have hj1:(j:Int)<n:=by omega
     have hi0:(0:Int)≤i:=by omega
     have PY:wrap64 ((j:Int)+1)=((j+1:Nat):Int):=by unfold wrap64;omega
     have HWJ:=ah PY;have zi:=ah hal;have HIJ:=ah hij;clear hc hg hb hx hy Zm hxl hal hij PY hbs;by_cases Lf:y=want
     ·have hb:(y==want)=true:=by rw[Lf];exact beq_self_eq_true _
      have hlen:¬want.length<y.length:=by rw[Lf];exact dA _
      rw[aj hlen,ak Lf]at hl;have HL2:=ah (show(acc++[(a,b)])++EvL.inner want (eG true s) a (L.drop (j+1))++EvL.outer want (eG true s) (L.drop (i+1))=EvL.outer want (eG true s) L by rw[←hl,dI acc]);clear hl Lf;go_wp2_with fail;go_quiet (fail);have Dy:=ah (HD.out.drewN nq);obtain⟨wq,hwq⟩:∃wq,wr.drewN nq=wq:=⟨_,rfl⟩
      rw[hwq]at Dy⊢;clear z0;have z0:=(HDX.out _ Dy.out.aB).c0;go_upto_region 18 with(go_at_call 73;refine(HKX.out x _ Dy.out.aB HXL.out).mono ?_;rintro e w5 ⟨rfl,hb5⟩;rw[HXY.out];have Oj:=ah (Dy.out.below hb5);clear hb5)
      go_upto_region 19 with fail;obtain⟨d1,d2⟩:=HC.out _ Oj.out.aB;have NK:acc.length+1≤maxLen:=by have:=zi.out;simp only[maxLen];omega
      have Zn:(acc.length+1)*16≤140737488355328:=by have:=zi.out;omega
      have K9:=ah NK;have QC:=ah Zn;clear NK Zn;have NM:=ah (show w3.heap.size≤w5.heap.size from Oj.out.aB.size);have HFR:=ah (show(w5.drew.alloc (.cells #[.int .i64 a, .int .i64 b] 33)).ownsRow w3.heap.size 33 2 _ acc.length (bR acc)from(Fr.alloc (fun _=>False) w5.drew _).own Oj.out.out (fun _ _=>id));subst hQ;go_region_law (refine step_append_lies _ (by rfl) (.tmp 58) (.tmp 68) 29 (by rfl) w3.heap.size 33 i0 _ 2 16 Tryz.underlying29 hI0 hz0 hz1 hz2 rfl (by omega) _ acc.length (bR acc) (by rfl) HFR.out ⟨w5.heap.size,0,none⟩ 1 1 [.int .i64 a, .int .i64 b] (by rfl) (by rfl) (xE (dh w5.drew _)) (YV _ _ rfl rfl) (by omega) K9.out QC.out (aQ NM.out (dJ (by simp))) _ rfl ?_;intro g3 Ii w7 hown3 hgrow3 _ _);all_goals (
       have HD7:=ah (Oj.out.hit hgrow3 hown3);clear hown3 hgrow3)
      all_goals go_wp2_with fail
      all_goals (try rw[HWJ.out])
      all_goals exact⟨⟨j+1,acc++[(a,b)],by have:=HIJ.out;omega,by omega,rfl,HD7.out,by have:=zi.out;rw[List.length_append,List.length_singleton];omega,HL2.out⟩,by simp[RowKit.intOf];omega⟩
     ·have hb:(y==want)=false:=bW.2 Lf;by_cases hlen:want.length<y.length
      ·rw[ak hlen,aj Lf,eD]at hl;have HL2:=ah hl;have afW:=ah (show acc.length≤200*(i+1)by have:=zi.out;omega);clear hl Lf;go_wp2_with fail;go_quiet (fail);have Dy:=ah (HD.out.drewN nq);obtain⟨wq,hwq⟩:∃wq,wr.drewN nq=wq:=⟨_,rfl⟩
       rw[hwq]at Dy⊢;clear z0;have z0:=(HDX.out _ Dy.out.aB).c0;go_upto_region 18 with(go_at_call 73;refine(HKX.out x _ Dy.out.aB HXL.out).mono ?_;rintro e w5 ⟨rfl,hb5⟩;rw[HXY.out];have Oj:=ah (Dy.out.below hb5);clear hb5)
       go_wp2_with fail;subst hQ;go_wp2_with fail;(try rw[qU.out]);exact⟨⟨i+1,acc,hlt,rfl,Oj.out,afW.out,HL2.out⟩,by simp[RowKit.intOf];omega⟩
      ·rw[aj hlen,aj Lf,lC]at hl;have HL2:=ah hl;clear hl Lf;go_wp2_with fail;go_quiet (fail);have Dy:=ah (HD.out.drewN nq);obtain⟨wq,hwq⟩:∃wq,wr.drewN nq=wq:=⟨_,rfl⟩
       rw[hwq]at Dy⊢;clear z0;have z0:=(HDX.out _ Dy.out.aB).c0;go_upto_region 18 with(go_at_call 73;refine(HKX.out x _ Dy.out.aB HXL.out).mono ?_;rintro e w5 ⟨rfl,hb5⟩;rw[HXY.out];have Oj:=ah (Dy.out.below hb5);clear hb5)
       go_wp2_with fail;(try rw[HWJ.out]);exact⟨⟨j+1,acc,by have:=HIJ.out;omega,by omega,rfl,Oj.out,by have:=zi.out;omega,HL2.out⟩,by simp[RowKit.intOf];omega⟩
    ·obtain rfl:j=n:=by omega
     rw[nK (by rw[Vu.out];exact ay _)]at hl;have LG:=Lib.hid (show acc++EvL.outer want (eG true s) (L.drop (i+1))=EvL.outer want (eG true s) L by rw[←hl];simp[EvL.inner]);have zi:=ah (show acc.length≤200*(i+1)by omega);clear hl hal hij;go_wp2_with fail;subst hQ;go_wp2_with fail;(try rw[qU.out]);exact⟨⟨i+1,acc,hlt,rfl,HD.out,zi.out,LG.out⟩,by simp[RowKit.intOf];omega⟩
  ·obtain rfl:i=n:=by omega
   rw[nK (by rw[Vu.out];exact ay _)]at hl;have LG:=Lib.hid (show acc=EvL.outer want (eG true s) L by rw[←hl];simp[EvL.outer]);clear hl hal;go_wp2_with fail;go_ret;refine⟨_,rfl,HF3.out.aB.trans (HD.out.aB.mono HF3.out.aB.size),?_⟩;rw[←LG.out];exact rO HD.out.out (fun k hk=>aQ HF3.out.aB.size (bD HD.out.out hk).1)
theorem acD (s t:ByteArray) (L:List (Nat×Nat)) (fo le wo:Bool) (W:World) (hL:L.length≤1000)
 (hE:∀w,Below W.heap.size W w→Calls Tryz.prog 19 #[.string s, .string t, .agg #[.bool fo, .bool le, .bool wo]] w (jG L w)):
 Calls Tryz.prog 18 #[.string s, .string t, .agg #[.bool fo, .bool le, .bool wo]] W (rY (Left.mJ 0 L) W):=by
 have HE:=ah hE;clear hE;obtain⟨N,hN⟩:∃N,L.length=N:=⟨_,rfl⟩
 rw[hN]at hL;have HN:=ah hN;clear hN;obtain⟨i0,hi0,hz0,hz1,hz2⟩:=dY pR;go_enter Tryz.func18,Tryz.ntmps18;go_wp2_with (go_at_call 19;refine(HE.out _ ((aF _ W).alloc (ay _) _)).mono ?_;rintro e w1 ⟨v,rfl,hb1,hown1⟩;rw[HN.out]at hown1;obtain⟨A,c,rfl,_⟩:=kI hown1;have HB1:=ah (((aF _ W).alloc (ay _) _).trans (hb1.mono (dJ (by simp))));have HR:=ah (AX HN.out hown1 (by omega));clear hb1 hown1);go_loopw [10,8,9] (fun i vo ve wr=>∃(k:Nat) (acc:List (Nat×Nat)) (en:Nat) (Ao:Option Addr) (m co:Nat),k≤N∧i= .int .i64 k∧vo= .slice Ao m co∧m=acc.length∧ve= .int .i64 en∧AL w1 (.slice Ao m co) acc wr∧m≤k∧acc++Left.mJ en (L.drop k)=Left.mJ 0 L) (fun i _ _ _=>N-(RowKit.intOf i).toNat);case atStart=>exact⟨0,[],0,none,0,0,aH _,rfl,rfl,rfl,rfl,⟨aF _ _,⟨rfl, .inl ⟨rfl,rfl⟩⟩⟩,ay _,rfl⟩
 case round=>
  obtain⟨k,acc,en,Ao,m,co,hk,rfl,rfl,hm,rfl,hA,hmk,hl⟩:=hrel;have HA:=ah hA;clear hA;have HM:=ah hm;clear hm;by_cases hlt:k<N
  ·obtain⟨g,rfl,hg,hc⟩:=HR.out.at_ (by omega);obtain⟨c0,c1⟩:=hc k hlt;have hp:L[k]? =some (L.getD k Left.m0):=by rw[aM,aY (by rw[HN.out];exact hlt)];rfl
   obtain⟨⟨a,b⟩,hab⟩:∃p,L.getD k Left.m0=p:=⟨_,rfl⟩
   rw[hab]at c0 c1 hp;rw[drop_at hp]at hl;have hu:∀e (x:Nat×Nat) r,Left.mJ e (x::r)=if e≤x.1 then x::Left.mJ x.2 r else Left.mJ e r:=fun _ _ _=>rfl
   rw[hu]at hl;dsimp only at hl;clear hu;have d0:=(HA.out.aB.cell (p:=⟨g,k*2,none⟩) hg).trans c0;have d1:=(HA.out.aB.cell (p:=⟨g,k*2+1,none⟩) hg).trans c1;have HD1:=ah (fun(w:World) (hb:Below w1.heap.size w1 w)=>(hb.cell (p:=⟨g,k*2+1,none⟩) hg).trans c1);clear c0 c1 hc hab hp hg;have hwk:wrap64 ((k:Int)+1)=((k+1:Nat):Int):=by unfold wrap64;omega
   have j5:=ah hwk;clear hwk;have hk0:(0:Int)≤k:=by omega
   have hk1:(k:Int)<N:=by omega
   have HL:=ah hl;clear hl;by_cases hae:en≤a
   ·have hai:(en:Int)≤a:=by omega
    have hl:=HL.out;rw[ak hae]at hl;have LG:=ah (show(acc++[(a,b)])++Left.mJ b (L.drop (k+1))=Left.mJ 0 L by rw[dI];exact hl);clear hl HL hae;have K9:=ah (show m+1≤maxLen by simp only[maxLen];omega);have QC:=ah (show(m+1)*16≤140737488355328 by omega);have V6:=ah (HA.out.below ((aF _ wr).alloc (ay _) (.cells #[.int .i64 a, .int .i64 b] 33)));have HOF:=ah (fun(v':Value) (w':World) (h1:w'.ownsRow w1.heap.size 33 2 v' (m+1) (bR acc++[.int .i64 a, .int .i64 b])) (h2:(wr.alloc (.cells #[.int .i64 a, .int .i64 b] 33)).grownBy w' (Value.slice Ao m co).ownBlock)=>show AL w1 v' (acc++[(a,b)]) w' from V6.out.grow (HM.out▸h1) h2);have HOW:Hid ((wr.alloc (.cells #[.int .i64 a, .int .i64 b] 33)).ownsRow w1.heap.size 33 2 (.slice Ao m co) m (bR acc)):=ah (HM.out.symm▸V6.out.own);have LC:=ah V6.out.aB.size;go_wp2_with (at_builtin;refine qC _ rfl (.tmp 28) (.tmp 33) 29 rfl w1.heap.size 33 i0 _ 2 16 Tryz.underlying29 hi0 hz0 hz1 hz2 rfl (by omega) _ m (bR acc) rfl HOW.out ⟨wr.heap.size,0,none⟩ 1 1 [.int .i64 a, .int .i64 b] rfl rfl (xE (dh _ _)) (YV _ _ rfl rfl) (by omega) K9.out QC.out LC.out _ rfl ?_;intro g3 Ii w3 hown3 hgrow3 _ _;have LH:=ah (HOF.out _ _ hown3 hgrow3);have d1:=HD1.out _ LH.out.aB;clear hown3 hgrow3);exact⟨⟨k+1,acc++[(a,b)],b,_,_,_,hlt,by first|rw[j5.out]|rfl,rfl,by rw[List.length_append,HM.out];rfl,rfl,LH.out,Nat.succ_le_succ hmk,LG.out⟩,by first|(rw[j5.out];simp[RowKit.intOf];omega)|(simp[RowKit.intOf];omega)⟩
   ·have hai:¬(en:Int)≤a:=by omega
    have hl:=HL.out;rw[aj hae]at hl;have LG:=ah hl;clear hl HL hae;go_wp2;exact⟨⟨k+1,acc,en,Ao,m,co,hlt,by first|rw[j5.out]|rfl,rfl,HM.out,rfl,HA.out,Nat.le_succ_of_le hmk,LG.out⟩,by first|(rw[j5.out];simp[RowKit.intOf];omega)|(simp[RowKit.intOf];omega)⟩
  ·have hkn:k=N:=by omega
   rw[nK (by rw[HN.out,hkn];exact ay _)]at hl;have HL:=Lib.hid (show acc=Left.mJ 0 L by rw[←hl];simp[Left.mJ]);have HMS:=ah (show m≤100000 by omega);clear hl hkn hmk;go_wp2;go_ret;exact⟨Ao,m,co,rfl,by rw[←HL.out];exact AX HM.out.symm (show wr.ownsRow w1.heap.size _ 2 (.slice Ao m co) m (bR acc)from HM.out.symm▸HA.out.own) HMS.out,HB1.out.trans (HA.out.aB.mono HB1.out.size)⟩
end Go.Proofs.YtocaiijbhepnnaaGreatDoor.searchEach
