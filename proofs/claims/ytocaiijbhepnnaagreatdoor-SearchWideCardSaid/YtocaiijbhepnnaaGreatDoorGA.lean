/- SearchWide, walked: search.places and its closures. -/
import Derived.Test.YtocaiijbhepnnaaGreatDoorFC
import Derived.Test.YtocaiijbhepnnaaGreatDoorFI
import Derived.Deep.DeepCutAuto
import Derived.Laws.EntriesVeiled
set_option maxRecDepth 100000
set_option maxHeartbeats 20000000
namespace Go.Proofs.YtocaiijbhepnnaaGreatDoor.searchWide
open Go.Shelf Go.RowKit Go.Lib Go.Proofs.YtocaiijbhepnnaaGreatDoor.Am
theorem Cq (s p:ByteArray) (w:World) (h:s.size<p.size):Calls Tryz.prog 169 #[.string s, .string p] w λe w'=>e= .returned (.bool false)/\w'=w:=by
 have hd:decide ((p.size:Int)<=s.size)=false:=by rw[Ct];omega
 go_enter Tryz.func169,Tryz.ntmps169;go_wp2;go_ret;exact⟨rfl,rfl⟩
theorem EY (s p:ByteArray) (b:Bool) (w:World) (h:p.size<=s.size) (hb:((s.extract 0 p.size).toList==p.toList)=b):Calls Tryz.prog 169 #[.string s, .string p] w λe w'=>e= .returned (.bool b)/\w'=w:=by
 have hd:(p.size:Int)<=s.size:=by omega
 have h0:(0:Int)<=p.size:=by omega
 have HB:=ah hb;clear hb;go_enter Tryz.func169,Tryz.ntmps169;go_wp2;go_ret;exact⟨by rw[<-HB.out];rfl,rfl⟩
theorem BQ (a b:List UInt8) (q:Bool) (w:World) (hq:decide (a.take b.length=b)=q):Calls Tryz.prog 169 #[.string ⟨a.toArray⟩, .string ⟨b.toArray⟩] w λe w'=>e= .returned (.bool q)/\w'=w:=by
 have s1:(⟨a.toArray⟩:ByteArray).size=a.length:=size_mk a _ rfl;have s2:(⟨b.toArray⟩:ByteArray).size=b.length:=size_mk b _ rfl;rcases aN a.length b.length with c|c
 ·have:q=false:=by rw[<-hq,Ct];intro h;have:=dX List.length h;rw[fF]at this;omega
  rw[this];exact Cq _ _ w (by rw[s1,s2];exact c)
 ·refine EY _ _ q w (by rw[s1,s2];exact c) ?_;rw[vR,ByteArray.toList_mk,ByteArray.toList_mk,s2,<-hq];simp only[vF,lU];rw[eX,dK,bf]
theorem Wv (a b:List UInt8) (w:World) (h:¬a.take b.length=b):Calls Tryz.prog 118 #[.string ⟨a.toArray⟩, .string ⟨b.toArray⟩] w λe w'=>e= .returned (.tuple #[.string ⟨a.toArray⟩, .bool false])/\w'=w:=by go_enter Tryz.func118,Tryz.ntmps118;go_wp2_with (go_at_call 169;refine(BQ a b false _ (bK h)).mono ?_;rintro e w1 ⟨rfl,rfl⟩);go_ret2;exact⟨rfl,rfl⟩
theorem Sm (a b:List UInt8) (w:World) (h:a.take b.length=b):Calls Tryz.prog 118 #[.string ⟨a.toArray⟩, .string ⟨b.toArray⟩] w λe w'=>e= .returned (.tuple #[.string ⟨(a.drop b.length).toArray⟩, .bool true])/\w'=w:=by
 have s1:(⟨a.toArray⟩:ByteArray).size=a.length:=size_mk a _ rfl;have s2:(⟨b.toArray⟩:ByteArray).size=b.length:=size_mk b _ rfl;have hle:b.length<=a.length:=by have:=dX List.length h;rw[fF]at this;omega
 have hx:=Od a b.length ⟨a.toArray⟩ rfl;obtain⟨x,hxx⟩:∃x:ByteArray,⟨(a.drop b.length).toArray⟩=x:=⟨_,rfl⟩
 obtain⟨s,hs⟩:∃s:ByteArray,⟨a.toArray⟩=s:=⟨_,rfl⟩
 obtain⟨p,hp⟩:∃p:ByteArray,⟨b.toArray⟩=p:=⟨_,rfl⟩
 have hcall:=BQ a b true w (bg h);rw[hxx];rw[hs,hxx,<-s2,hp]at hx;rw[hs]at s1;rw[hp]at s2;rw[hs,hp]at hcall⊢;have h0:(0:Int)<=p.size:=by omega
 have h1:(p.size:Int)<=s.size:=by omega
 have HH:=ah h;have H1:=ah s1;have H2:=ah s2;have H3:=ah hle;have H4:=ah hcall;clear h s1 s2 hle hcall hxx hs hp;go_enter Tryz.func118,Tryz.ntmps118;go_wp2_with (go_at_call 169;refine H4.out.mono ?_;rintro e w1 ⟨rfl,rfl⟩);go_ret2;exact⟨rfl,rfl⟩
theorem acR (a b:List UInt8) (w:World) (h:Left.cut a b=none):Calls Tryz.prog 71 #[.string ⟨a.toArray⟩, .string ⟨b.toArray⟩] w λe w'=>e= .returned (.tuple #[.string ⟨a.toArray⟩, .bool false])/\w'=w:=by
 have h1:¬a.take b.length=b:=by intro c;unfold Left.cut at h;rw[au c]at h;cases h
 have H1:=ah h1;clear h1 h;go_enter Tryz.func71,Tryz.ntmps71;go_wp2_with (go_at_call 118;refine(Wv a b _ H1.out).mono ?_;rintro e w1 ⟨rfl,rfl⟩);go_ret2;exact⟨rfl,rfl⟩
theorem Qw (a b n:List UInt8) (w:World) (h:Left.cut a b=some n):Calls Tryz.prog 71 #[.string ⟨a.toArray⟩, .string ⟨b.toArray⟩] w λe w'=>e= .returned (.tuple #[.string ⟨n.toArray⟩, .bool true])/\w'=w:=by
 have h1:a.take b.length=b/\a.drop b.length=n:=by
  unfold Left.cut at h;split at h;·rename_i c;exact⟨c,by injection h⟩
  ·cases h
 have hc:=Sm a b w h1.1;rw[h1.2]at hc;have H1:=ah hc;clear h1 h hc;go_enter Tryz.func71,Tryz.ntmps71;go_wp2_with (go_at_call 118;refine H1.out.mono ?_;rintro e w1 ⟨rfl,rfl⟩);go_ret2;exact⟨rfl,rfl⟩
def Bb (p:Left.Pl):List Value:=[.int .i64 p.1, .bool p.2.1, .string ⟨p.2.2.toArray⟩]
def fE (l:List Left.Pl):List Value:=l.flatMap Bb
theorem Mh (l:List Left.Pl) (p:Left.Pl):fE (l++[p])=fE l++Bb p:=by simp[fE]
theorem Ow:(Tryz.prog.info? 113).map (λi=>(i.zero,i.size,i.bytes))=some (some (.agg #[.int .i64 0, .bool false, .string ⟨#[]⟩]),3,32):=by kernel_rfl
def Ww (p:Nat×Nat):List Value:=[.int .i64 p.1, .int .i64 p.2]
def iV (l:List (Nat×Nat)):List Value:=l.flatMap Ww
theorem JU (l:List (Nat×Nat)) (p:Nat×Nat):iV (l++[p])=iV l++Ww p:=by simp[iV]
theorem Ox:(Tryz.prog.info? 33).map (λi=>(i.zero,i.size,i.bytes))=some (some (.agg #[.int .i64 0, .int .i64 0]),2,16):=by kernel_rfl
theorem zo:∀(l:List (Nat×Nat)) (k:Nat),k<l.length->(iV l)[k*2]? =some (.int .i64 (l.getD k Left.m0).1)/\(iV l)[k*2+1]? =some (.int .i64 (l.getD k Left.m0).2)
 |[],_,h=>absurd h (iM _)
 |_::_,0,_=>⟨rfl,rfl⟩
 |_::l,k+1,h=>by have:=zo l k (Nat.lt_of_succ_lt_succ h);rw[show(k+1)*2=k*2+1+1 by omega];exact this
structure Cr (w:World) (A:Option Addr) (n:Nat) (l:List (Nat×Nat)):Prop where
 len:l.length=n
 small:n<=100000
 at_:0<n->∃g,A=some ⟨g,0,none⟩/\g<w.heap.size/\∀j,j<n->w.cell? ⟨g,j*2,none⟩=some (.int .i64 (l.getD j Left.m0).1)/\w.cell? ⟨g,j*2+1,none⟩=some (.int .i64 (l.getD j Left.m0).2)
 ty:∀g,A=some ⟨g,0,none⟩->0<n->∃cs,w.heap[g]? =some (.cells cs 33 (0,0))
theorem Cr.below {w w':World} {A:Option Addr} {n:Nat} {l:List (Nat×Nat)} (h:Cr w A n l) (hb:Below w.heap.size w w'):Cr w' A n l:=
 ⟨h.len,h.small,λh0=>by
  obtain⟨g,e,hg,hc⟩:=h.at_ h0;exact⟨g,e,bC hg hb.size,λj hj=>⟨by rw[hb.cell (p:=⟨g,j*2,none⟩) hg];exact(hc j hj).1,by rw[hb.cell (p:=⟨g,j*2+1,none⟩) hg];exact(hc j hj).2⟩⟩,λg e h0=>by
  obtain⟨cs,hcs⟩:=h.ty g e h0;exact⟨cs,(hb.block g (dQ.1 hcs).1).trans hcs⟩⟩
theorem uD {w:World} {base n c:Nat} {A:Option Addr} {l:List (Nat×Nat)} (hn:l.length=n) (h:w.ownsRow base 33 2 (.slice A n c) n (iV l)) (hs:n<=100000):Cr w A n l:=by refine⟨hn,hs,λh0=> ?_,λg e _=>(bZ h (g:=g) (by subst e;rfl)).2.2⟩;obtain⟨g,rfl⟩:=um h h0;refine⟨g,rfl,(bZ h (g:=g) rfl).2.1,λj hj=> ?_⟩;obtain⟨h1,h2⟩:=zo l j (by omega);have c1:=rQ (g:=g) h rfl _ _ h1;have c2:=rQ (g:=g) h rfl _ _ h2;rw[iE,bL]at c1 c2;exact⟨c1,c2⟩
theorem acS (a b c:Value) (ha:a.oneCell'=true) (hb:b.oneCell'=true) (hc:c.oneCell'=true):∀u∈[a,b,c],u.oneCell'=true:=by intro u hu;simp only[aT,kG,lZ]at hu;rcases hu with rfl|rfl|rfl<;>assumption
theorem ajx (a b:Value) (ha:a.oneCell'=true) (hb:b.oneCell'=true):∀u∈[a,b],u.oneCell'=true:=by intro u hu;simp only[aT,kG,lZ]at hu;rcases hu with rfl|rfl<;>assumption
theorem acT {w w3:World} {o:Obj} {r:Option Nat} (h:(w.drew.alloc o).grownBy w3 r):Fr (λk=>r=some k) w w3:=
 ((Fr.drew _ w).trans (Fr.alloc _ w.drew o)).trans (Fr.grown h (λ_ h _=>h))
theorem aa0 (zs:List Int) (x:Int) (A:Option Addr) (n c:Nat) (W:World) (h:cB W A n zs):
 Calls Tryz.prog 116 #[.slice A n c, .int .i64 x] W λe w'=>e= .returned (.bool (Qm zs x))/\Below W.heap.size W w':=by
 have H:=ah (acI zs x A n c W h);clear h;obtain⟨z,hz⟩:∃z,Qm zs x=z:=⟨_,rfl⟩
 unfold JK at H;rw[hz]at H⊢;clear hz;go_enter Tryz.func116,Tryz.ntmps116;go_wp2_with (go_at_call 53;refine H.out.mono ?_;rintro e w1 ⟨m,rfl,hb⟩;have HB:=ah hb;clear hb);go_ret;exact⟨rfl,HB.out⟩
def lK (le wo:Bool) (gb wb:List Int) (at_:Int):Bool:=(!le||Qm gb at_)&&(!wo||Qm wb at_)
structure PB (W0:World) (ob Zk lb wb dB:Nat) (fo le wo:Bool) (lA:Option Addr) (ln lk:Nat) (gs:List Int) (wA:Option Addr) (wn wk:Nat) (ws:List Int):Prop where
 o:W0.heap[ob]? =some (.cells #[.bool fo, .bool le, .bool wo] 28 (0,0))
 i:W0.heap[Zk]? =some (.cells #[.func (.func 116) #[] #[]] 44 (0,0))
 l:W0.heap[lb]? =some (.cells #[.slice lA ln lk] 41 (0,0))
 w:W0.heap[wb]? =some (.cells #[.slice wA wn wk] 41 (0,0))
 lr:cB W0 lA ln gs
 wr:cB W0 wA wn ws
 lt:W0.heap.size=dB
structure AS (W0:World) (dB:Nat) (v:Value) (w:World):Prop where
 aD:Below dB W0 w
 out:w.heap[dB]? =some (.cells #[v] 110 (0,0))
theorem AS.go {W0 w w':World} {dB:Nat} {v:Value} (h:AS W0 dB v w) (hb:Below w.heap.size w w'):AS W0 dB v w':=
 ⟨h.aD.trans (hb.mono (dN (bU h.out))),bM hb h.out⟩
theorem PB.ints {W0 w:World} {A:Option Addr} {n:Nat} {zs:List Int} {dB:Nat} (h:cB W0 A n zs) (he:W0.heap.size=dB) (hb:Below dB W0 w):cB w A n zs:=
 ⟨h.len,h.small,λh0=>by
  obtain⟨g,o,e,hg,hc⟩:=h.at_ h0;exact⟨g,o,e,bC hg hb.size,λj hj=>by rw[hb.cell (p:=⟨g,o+j,none⟩) (by rw[<-he];exact hg)];exact hc j hj⟩⟩
def JV (W0:World) (dB:Nat) (v:Value) (base:Nat) (l:List Left.Pl) (w:World) (e:Ending) (w':World):Prop:=
 (∃r,e= .returned r)/\Fr (λk=>k=dB\/v.ownBlock=some k) w w'/\∃v',AS W0 dB v' w'/\w'.ownsRow base 113 3 v' l.length (fE l)/\(v'.ownBlock=v.ownBlock\/∃g,v'.ownBlock=some g/\w.heap.size<=g)
structure AC (W0 w0:World) (dB base n:Nat) (v:Value) (l:List Left.Pl) (w:World):Prop where
 st:AS W0 dB v w
 own:w.ownsRow base 113 3 v n (fE l)
 aD:Below w0.heap.size w0 w
section
variable {W0 w0 w w3:World} {dB base n:Nat} {v:Value} {l:List Left.Pl}
theorem AC.go {w':World} (h:AC W0 w0 dB base n v l w) (hb:Below w.heap.size w w'):AC W0 w0 dB base n v l w':=⟨h.st.go hb,own_below hb h.own,h.aD.trans (hb.mono h.aD.size)⟩
theorem AC.alloc (h:AC W0 w0 dB base n v l w) (o:Obj):AC W0 w0 dB base n v l (w.alloc o):=h.go ((aM _ w).alloc (ay _) o)
theorem AC.drew (h:AC W0 w0 dB base n v l w):AC W0 w0 dB base n v l w.drew:=h.go ⟨rfl,rfl,rfl,ay _,λ_ _=>rfl⟩
theorem JW {g:Nat} {t:TypeId} {cs:Array Value} (h:w.heap[g]? =some (.cells cs t (0,0))) (i:Nat) (u:Value):(w.setCell ⟨g,i,none⟩ u).heap[g]? =some (.cells (cs.setIfInBounds i u) t (0,0)):=by simp[World.setCell,Array.getElem?_modify,h]
theorem xQ {g:Nat} {t:TypeId} {cs:Array Value} (h:w.heap[g]? =some (.cells cs t (0,0))) (i:Nat):w.frozen? ⟨g,i,none⟩=false:=by simp[World.frozen?,h]
theorem AC.grown (h:AC W0 w0 dB base n v l w) (hg:w.grownBy w3 v.ownBlock) (hbase:dB<base):AS W0 dB v w3:=by have hr:∀k,v.ownBlock=some k->base<=k:=λk hk=>(bZ h.own hk).1;refine⟨h.st.aD.grown hg (dN (bU h.st.out)) λk hk=>bn (dN hbase) (hr k hk),?_⟩;rw[hg.block _ (bU h.st.out) λc=>by have:=hr dB c.symm;omega];exact h.st.out
theorem Zl {g3 Mi:Nat} {p:Left.Pl} {r:Value} (hn:l.length=n) (hbase:dB<base) (h:AC W0 w0 dB base n v l w)
 (hown:w3.ownsRow base 113 3 (.slice (some ⟨g3,0,none⟩) (n+1) Mi) (n+1) (fE l++Bb p)) (hg:w.grownBy w3 v.ownBlock)
 (hat:v.ownBlock=some g3\/g3=w.heap.size):
 JV W0 dB v base (l++[p]) w0 (.returned r) (w3.setCell ⟨dB,0,none⟩ (.slice (some ⟨g3,0,none⟩) (n+1) Mi)):=by
 have has:=h.grown hg hbase;have hne:g3≠dB:=λc=>by have:=(bZ hown (g:=g3) rfl).1;omega
 have hf:Fr (λk=>k=dB) w3 (w3.setCell ⟨dB,0,none⟩ (.slice (some ⟨g3,0,none⟩) (n+1) Mi)):=Fr.set _ _ _ (λ_=>rfl);refine⟨⟨r,rfl⟩,((Fr.of_below h.aD (ay _)).trans ((Fr.grown hg (λ_ hk _=>hk)).mono (λk _ hk=>Or.inr hk))).trans (hf.mono (λk _ hk=>Or.inl hk)),_,⟨has.aD.setCell (ay _) _,JW has.out 0 _⟩,?_,?_⟩;·rw[Mh,bT,hn];exact hf.own hown (λg hg=>by cases hg;exact hne)
 ·rcases hat with c|c
  ·exact .inl c.symm
  ·refine .inr ⟨g3,rfl,?_⟩;rw[c];exact h.aD.size
end
theorem Wx (W0:World) (ob Zk lb wb dB:Nat) (fo le wo:Bool) (lA:Option Addr) (ln lk:Nat) (gs:List Int) (wA:Option Addr) (wn wk:Nat) (ws:List Int)
 (hp:PB W0 ob Zk lb wb dB fo le wo lA ln lk gs wA wn wk ws) (k:Nat) (sh sh2:List UInt8) (l:List Left.Pl) (n base:Nat) (v:Value) (w:World) (ha:AS W0 dB v w)
 (hfo:fo=false->sh2=sh) (hF:fo=true->∀w,AS W0 dB v w->Calls Tryz.prog 69 #[.string ⟨sh.toArray⟩] w λe w'=>e= .returned (.string ⟨sh2.toArray⟩)/\Below w.heap.size w w')
 (hown:w.ownsRow base 113 3 v n (fE l)) (hn:l.length=n) (hsm:n<=1000000) (hbase:dB<base) (hb2:base<=w.heap.size):
 Calls Tryz.prog 117 #[.int .i64 k, .string ⟨sh.toArray⟩, .pointer (some ⟨ob,0,none⟩), .pointer (some ⟨dB,0,none⟩), .pointer (some ⟨Zk,0,none⟩), .pointer (some ⟨lb,0,none⟩), .pointer (some ⟨wb,0,none⟩)] w (JV W0 dB v base (l++[(k,lK le wo gs ws k,sh2)]) w):=by
 obtain⟨A,c,rfl,_⟩:=aW hown;have HP:=ah hp;have key:∀w',AS W0 dB (.slice A n c) w'->w'.cell? ⟨dB,0,none⟩=some (.slice A n c)/\w'.cell? ⟨ob,0,none⟩=some (.bool fo)/\w'.cell? ⟨ob,1,none⟩=some (.bool le)/\w'.cell? ⟨ob,2,none⟩=some (.bool wo)/\w'.cell? ⟨Zk,0,none⟩=some (.func (.func 116) #[] #[])/\w'.cell? ⟨lb,0,none⟩=some (.slice lA ln lk)/\w'.cell? ⟨wb,0,none⟩=some (.slice wA wn wk):=λw' h=>by have q:∀g o,W0.heap[g]? =some o->w'.heap[g]? =some o:=λg o hh=>(h.aD.block g (by rw[<-hp.lt];exact bU hh)).trans hh;exact⟨by rw[bE _ _ 0 _ _ _ h.out];rfl,by rw[bE _ _ 0 _ _ _ (q _ _ hp.o)];rfl,by rw[bE _ _ 1 _ _ _ (q _ _ hp.o)];rfl,by rw[bE _ _ 2 _ _ _ (q _ _ hp.o)];rfl,by rw[bE _ _ 0 _ _ _ (q _ _ hp.i)];rfl,by rw[bE _ _ 0 _ _ _ (q _ _ hp.l)];rfl,by rw[bE _ _ 0 _ _ _ (q _ _ hp.w)];rfl⟩
 have KEY:=ah key;obtain⟨y0,y1,y2,y3,y4,y5,y6⟩:=key w ha;have H0:=ah (AC.mk (w0:=w) ha hown (aM _ w));have HF:=ah hF;have HN:=ah hn;have Ql:=ah hbase;have HB2:=ah hb2;have HM:=ah (show lK le wo gs ws k=((!le||Qm gs k)&&(!wo||Qm ws k))from rfl);obtain⟨mv,hmv⟩:∃mv,lK le wo gs ws k=mv:=⟨_,rfl⟩
 rw[hmv]at HM⊢;clear hmv key hF hn hbase hb2 hown ha hp;obtain⟨i0,hi0,hz0,hz1,hz2⟩:=iA Ow;go_enter Tryz.func117,Tryz.ntmps117;go_upto_if 10 with(fail)
 go_cut [1] (λt wx=>t= .string ⟨sh2.toArray⟩/\AC W0 w dB base n (.slice A n c) l wx);case first=>
  cases fo;case false=>have HE:=ah (hfo rfl);clear hfo;go_wp2_with fail;go_meet;exact⟨by rw[HE.out],H0.out⟩
  case true=>go_wp2_with (go_at_call 69;refine(HF.out rfl _ H0.out.st).mono ?_;rintro e w1 ⟨rfl,hb⟩;have H1:=ah (H0.out.go hb);clear hb);go_meet;exact⟨rfl,H1.out⟩
 case rest=>
  obtain⟨rfl,hc⟩:=hcut;have HC:=ah hc.drew;clear hc y0 y1 y2 y3 y4 y5 y6 H0 HF hfo;obtain⟨z,hz⟩:∃z,Qm gs k=z:=⟨_,rfl⟩
  obtain⟨z2,hz2⟩:∃z,Qm ws k=z:=⟨_,rfl⟩
  rw[hz,hz2]at HM;have HZ:=ah hz;have HZ2:=ah hz2;clear hz hz2;have afO:(le=false/\wo=false/\True/\True)\/(le=false/\wo=true/\True)\/(le=true/\z=true/\wo=false/\True)\/(le=true/\z=true/\wo=true)\/(le=true/\z=false/\True/\True):=by cases le<;>cases wo<;>cases z<;>simp
  go_wp2_with fail;rcases afO with⟨rfl,rfl,u1,u3⟩|⟨rfl,rfl,u1⟩|⟨rfl,rfl,rfl,u3⟩|⟨rfl,rfl,rfl⟩|⟨rfl,rfl,u2,u3⟩
  all_goals
   have hm:=HM.out;simp at hm;clear HM;subst hm;refine BN (AS W0 dB (.slice A n c)) 26 (by kernel_rfl) ?_;(refine aB (i:=0) (v:= ?_) rfl (by kernel_rfl) (by kernel_rfl) (by kernel_rfl) (by kernel_rfl) (λ_ _ _ h=>h) HC.out.st (Or.inl ⟨by kernel_rfl,?_⟩) ?_;rotate_left;(focus (intro w hw;obtain⟨y0,y1,y2,y3,y4,y5,y6⟩:=KEY.out w hw;go_simp;try with_reducible rfl)));(try simp only[Act.put,bB,bA]);(try simp only[aI]);(try simp only[aK]);(try simp only[aJ]);(refine aB (i:=1) (v:= ?_) rfl (by kernel_rfl) (by kernel_rfl) (by kernel_rfl) (by kernel_rfl) (λ_ _ _ h=>h) HC.out.st (Or.inl ⟨by kernel_rfl,?_⟩) ?_;rotate_left;(focus (intro w hw;go_simp;try with_reducible rfl)));(try simp only[Act.put,bB,bD,bA]);(try simp only[aI]);(try simp only[aK]);(try simp only[aJ]);(refine aB (i:=2) (v:= ?_) rfl (by kernel_rfl) (by kernel_rfl) (by kernel_rfl) (by kernel_rfl) (λ_ _ _ h=>h) HC.out.st (Or.inl ⟨by kernel_rfl,?_⟩) ?_;rotate_left;(focus (intro w hw;go_simp;try with_reducible rfl)));(try simp only[Act.put,bB,bD,bA]);(try simp only[aI]);(try simp only[aK]);(try simp only[aJ]);(refine aB (i:=3) (v:= ?_) rfl (by kernel_rfl) (by kernel_rfl) (by kernel_rfl) (by kernel_rfl) (λ_ _ _ h=>h) HC.out.st (Or.inl ⟨by kernel_rfl,?_⟩) ?_;rotate_left;(focus (intro w hw;obtain⟨y0,y1,y2,y3,y4,y5,y6⟩:=KEY.out w hw;go_simp;try with_reducible rfl)));(try simp only[Act.put,bB,bD,bA]);(try simp only[aI]);(try simp only[aK]);(try simp only[aJ]);(refine aB (i:=4) (v:= ?_) rfl (by kernel_rfl) (by kernel_rfl) (by kernel_rfl) (by kernel_rfl) (λ_ _ _ h=>h) HC.out.st (Or.inl ⟨by kernel_rfl,?_⟩) ?_;rotate_left;(focus (intro w hw;go_simp;try with_reducible rfl)));(try simp only[Act.put,bB,bD,bA]);(try simp only[aI]);(try simp only[aK]);(try simp only[aJ]);(refine aB (i:=5) (v:= ?_) rfl (by kernel_rfl) (by kernel_rfl) (by kernel_rfl) (by kernel_rfl) (λ_ _ _ h=>h) HC.out.st (Or.inl ⟨by kernel_rfl,?_⟩) ?_;rotate_left;(focus (intro w hw;go_simp;try with_reducible rfl)));(try simp only[Act.put,bB,bD,bA]);(try simp only[aI]);(try simp only[aK]);(try simp only[aJ]);(refine aB (i:=22) (v:= ?_) rfl (by kernel_rfl) (by kernel_rfl) (by kernel_rfl) (by kernel_rfl) (λ_ _ _ h=>h) HC.out.st (Or.inl ⟨by kernel_rfl,?_⟩) ?_;rotate_left;(focus (intro w hw;go_simp;try with_reducible rfl)));(try simp only[Act.put,bB,bD,bA]);(try simp only[aI]);(try simp only[aK]);(try simp only[aJ]);first|(have uu:=u1;clear uu;(refine aB (i:=6) (v:=undef) rfl (by kernel_rfl) (by kernel_rfl) (by kernel_rfl) (by kernel_rfl) (λ_ _ _ h=>h) HC.out.st (Or.inr ⟨by kernel_rfl,rfl⟩) ?_))|(refine aB (i:=6) (v:= ?_) rfl (by kernel_rfl) (by kernel_rfl) (by kernel_rfl) (by kernel_rfl) (λ_ _ _ h=>h) HC.out.st (Or.inl ⟨by kernel_rfl,?_⟩) ?_;rotate_left;(focus (intro w hw;obtain⟨y0,y1,y2,y3,y4,y5,y6⟩:=KEY.out w hw;go_simp;try with_reducible rfl)))
   (try simp only[Act.put,bB,bD,bA]);(try simp only[aI]);(try simp only[aK]);(try simp only[aJ]);first|(have uu:=u1;clear uu;(refine aB (i:=7) (v:=undef) rfl (by kernel_rfl) (by kernel_rfl) (by kernel_rfl) (by kernel_rfl) (λ_ _ _ h=>h) HC.out.st (Or.inr ⟨by kernel_rfl,rfl⟩) ?_))|(refine aB (i:=7) (v:= ?_) rfl (by kernel_rfl) (by kernel_rfl) (by kernel_rfl) (by kernel_rfl) (λ_ _ _ h=>h) HC.out.st (Or.inl ⟨by kernel_rfl,?_⟩) ?_;rotate_left;(focus (intro w hw;obtain⟨y0,y1,y2,y3,y4,y5,y6⟩:=KEY.out w hw;go_simp;try with_reducible rfl)))
   (try simp only[Act.put,bB,bD,bA]);(try simp only[aI]);(try simp only[aK]);(try simp only[aJ]);first|(have uu:=u1;clear uu;(refine aB (i:=8) (v:=undef) rfl (by kernel_rfl) (by kernel_rfl) (by kernel_rfl) (by kernel_rfl) (λ_ _ _ h=>h) HC.out.st (Or.inr ⟨by kernel_rfl,rfl⟩) ?_))|(refine aB (i:=8) (v:= ?_) rfl (by kernel_rfl) (by kernel_rfl) (by kernel_rfl) (by kernel_rfl) (λ_ _ _ h=>h) HC.out.st (Or.inl ⟨by kernel_rfl,?_⟩) ?_;rotate_left;(focus (intro w hw;go_simp;try with_reducible rfl)))
   (try simp only[Act.put,bB,bD,bA]);(try simp only[aI]);(try simp only[aK]);(try simp only[aJ]);first|(have uu:=u1;clear uu;(refine aB (i:=9) (v:=undef) rfl (by kernel_rfl) (by kernel_rfl) (by kernel_rfl) (by kernel_rfl) (λ_ _ _ h=>h) HC.out.st (Or.inr ⟨by kernel_rfl,rfl⟩) ?_))|(refine iC (i:=9) (by kernel_rfl) rfl (λK hK=> ?_);go_simp;refine(aa0 gs k lA ln lk _ (PB.ints HP.out.lr HP.out.lt HC.out.st.aD)).mono ?_;rintro e wz ⟨rfl,hb⟩;rw[HZ.out];have HC:=Lib.hid (HC.out.go hb);clear hb;dsimp only;refine hK.out _ _ (Or.inr HC.out.st) ?_;clear hK K)
   (try simp only[Act.put,bB,bD,bA]);(try simp only[aI]);(try simp only[aK]);(try simp only[aJ]);(refine aB (i:=10) (v:= ?_) rfl (by kernel_rfl) (by kernel_rfl) (by kernel_rfl) (by kernel_rfl) (λ_ _ _ h=>h) HC.out.st (Or.inl ⟨by kernel_rfl,?_⟩) ?_;rotate_left;(focus (intro w hw;go_simp;try with_reducible rfl)));(try simp only[Act.put,bB,bD,bA]);(try simp only[aI]);(try simp only[aK]);(try simp only[aJ]);(refine aB (i:=11) (v:= ?_) rfl (by kernel_rfl) (by kernel_rfl) (by kernel_rfl) (by kernel_rfl) (λ_ _ _ h=>h) HC.out.st (Or.inl ⟨by kernel_rfl,?_⟩) ?_;rotate_left;(focus (intro w hw;go_simp;try with_reducible rfl)));(try simp only[Act.put,bB,bD,bA]);(try simp only[aI]);(try simp only[aK]);(try simp only[aJ]);first|(have uu:=u2;clear uu;(refine aB (i:=12) (v:=undef) rfl (by kernel_rfl) (by kernel_rfl) (by kernel_rfl) (by kernel_rfl) (λ_ _ _ h=>h) HC.out.st (Or.inr ⟨by kernel_rfl,rfl⟩) ?_))|(refine aB (i:=12) (v:= ?_) rfl (by kernel_rfl) (by kernel_rfl) (by kernel_rfl) (by kernel_rfl) (λ_ _ _ h=>h) HC.out.st (Or.inl ⟨by kernel_rfl,?_⟩) ?_;rotate_left;(focus (intro w hw;go_simp;try with_reducible rfl)))
   (try simp only[Act.put,bB,bD,bA]);(try simp only[aI]);(try simp only[aK]);(try simp only[aJ]);first|(have uu:=u2;clear uu;(refine aB (i:=13) (v:=undef) rfl (by kernel_rfl) (by kernel_rfl) (by kernel_rfl) (by kernel_rfl) (λ_ _ _ h=>h) HC.out.st (Or.inr ⟨by kernel_rfl,rfl⟩) ?_))|(refine aB (i:=13) (v:= ?_) rfl (by kernel_rfl) (by kernel_rfl) (by kernel_rfl) (by kernel_rfl) (λ_ _ _ h=>h) HC.out.st (Or.inl ⟨by kernel_rfl,?_⟩) ?_;rotate_left;(focus (intro w hw;obtain⟨y0,y1,y2,y3,y4,y5,y6⟩:=KEY.out w hw;go_simp;try with_reducible rfl)))
   (try simp only[Act.put,bB,bD,bA]);(try simp only[aI]);(try simp only[aK]);(try simp only[aJ]);first|(have uu:=u2;clear uu;(refine aB (i:=14) (v:=undef) rfl (by kernel_rfl) (by kernel_rfl) (by kernel_rfl) (by kernel_rfl) (λ_ _ _ h=>h) HC.out.st (Or.inr ⟨by kernel_rfl,rfl⟩) ?_))|(refine aB (i:=14) (v:= ?_) rfl (by kernel_rfl) (by kernel_rfl) (by kernel_rfl) (by kernel_rfl) (λ_ _ _ h=>h) HC.out.st (Or.inl ⟨by kernel_rfl,?_⟩) ?_;rotate_left;(focus (intro w hw;go_simp;try with_reducible rfl)))
   (try simp only[Act.put,bB,bD,bA]);(try simp only[aI]);(try simp only[aK]);(try simp only[aJ]);first|(have uu:=u2;clear uu;(refine aB (i:=15) (v:=undef) rfl (by kernel_rfl) (by kernel_rfl) (by kernel_rfl) (by kernel_rfl) (λ_ _ _ h=>h) HC.out.st (Or.inr ⟨by kernel_rfl,rfl⟩) ?_))|(refine aB (i:=15) (v:= ?_) rfl (by kernel_rfl) (by kernel_rfl) (by kernel_rfl) (by kernel_rfl) (λ_ _ _ h=>h) HC.out.st (Or.inl ⟨by kernel_rfl,?_⟩) ?_;rotate_left;(focus (intro w hw;go_simp;try with_reducible rfl)))
   (try simp only[Act.put,bB,bD,bA]);(try simp only[aI]);(try simp only[aK]);(try simp only[aJ]);first|(have uu:=u3;clear uu;(refine aB (i:=16) (v:=undef) rfl (by kernel_rfl) (by kernel_rfl) (by kernel_rfl) (by kernel_rfl) (λ_ _ _ h=>h) HC.out.st (Or.inr ⟨by kernel_rfl,rfl⟩) ?_))|(refine aB (i:=16) (v:= ?_) rfl (by kernel_rfl) (by kernel_rfl) (by kernel_rfl) (by kernel_rfl) (λ_ _ _ h=>h) HC.out.st (Or.inl ⟨by kernel_rfl,?_⟩) ?_;rotate_left;(focus (intro w hw;obtain⟨y0,y1,y2,y3,y4,y5,y6⟩:=KEY.out w hw;go_simp;try with_reducible rfl)))
   (try simp only[Act.put,bB,bD,bA]);(try simp only[aI]);(try simp only[aK]);(try simp only[aJ]);first|(have uu:=u3;clear uu;(refine aB (i:=17) (v:=undef) rfl (by kernel_rfl) (by kernel_rfl) (by kernel_rfl) (by kernel_rfl) (λ_ _ _ h=>h) HC.out.st (Or.inr ⟨by kernel_rfl,rfl⟩) ?_))|(refine aB (i:=17) (v:= ?_) rfl (by kernel_rfl) (by kernel_rfl) (by kernel_rfl) (by kernel_rfl) (λ_ _ _ h=>h) HC.out.st (Or.inl ⟨by kernel_rfl,?_⟩) ?_;rotate_left;(focus (intro w hw;obtain⟨y0,y1,y2,y3,y4,y5,y6⟩:=KEY.out w hw;go_simp;try with_reducible rfl)))
   (try simp only[Act.put,bB,bD,bA]);(try simp only[aI]);(try simp only[aK]);(try simp only[aJ]);first|(have uu:=u3;clear uu;(refine aB (i:=18) (v:=undef) rfl (by kernel_rfl) (by kernel_rfl) (by kernel_rfl) (by kernel_rfl) (λ_ _ _ h=>h) HC.out.st (Or.inr ⟨by kernel_rfl,rfl⟩) ?_))|(refine aB (i:=18) (v:= ?_) rfl (by kernel_rfl) (by kernel_rfl) (by kernel_rfl) (by kernel_rfl) (λ_ _ _ h=>h) HC.out.st (Or.inl ⟨by kernel_rfl,?_⟩) ?_;rotate_left;(focus (intro w hw;go_simp;try with_reducible rfl)))
   (try simp only[Act.put,bB,bD,bA]);(try simp only[aI]);(try simp only[aK]);(try simp only[aJ]);first|(have uu:=u3;clear uu;(refine aB (i:=19) (v:=undef) rfl (by kernel_rfl) (by kernel_rfl) (by kernel_rfl) (by kernel_rfl) (λ_ _ _ h=>h) HC.out.st (Or.inr ⟨by kernel_rfl,rfl⟩) ?_))|(refine iC (i:=19) (by kernel_rfl) rfl (λK hK=> ?_);go_simp;refine(aa0 ws k wA wn wk _ (PB.ints HP.out.wr HP.out.lt HC.out.st.aD)).mono ?_;rintro e wy ⟨rfl,hb⟩;rw[HZ2.out];have HC:=Lib.hid (HC.out.go hb);clear hb;dsimp only;refine hK.out _ _ (Or.inr HC.out.st) ?_;clear hK K)
   (try simp only[Act.put,bB,bD,bA]);(try simp only[aI]);(try simp only[aK]);(try simp only[aJ]);first|(have uu:=u2;clear uu;(refine aB (i:=20) (v:=undef) rfl (by kernel_rfl) (by kernel_rfl) (by kernel_rfl) (by kernel_rfl) (λ_ _ _ h=>h) HC.out.st (Or.inr ⟨by kernel_rfl,rfl⟩) ?_))|(refine aB (i:=20) (v:= ?_) rfl (by kernel_rfl) (by kernel_rfl) (by kernel_rfl) (by kernel_rfl) (λ_ _ _ h=>h) HC.out.st (Or.inl ⟨by kernel_rfl,?_⟩) ?_;rotate_left;(focus (intro w hw;go_simp;try with_reducible rfl)))
   (try simp only[Act.put,bB,bD,bA]);(try simp only[aI]);(try simp only[aK]);(try simp only[aJ]);(refine aB (i:=21) (v:= ?_) rfl (by kernel_rfl) (by kernel_rfl) (by kernel_rfl) (by kernel_rfl) (λ_ _ _ h=>h) HC.out.st (Or.inl ⟨by kernel_rfl,?_⟩) ?_;rotate_left;(focus (intro w hw;go_simp;try with_reducible rfl)));(try simp only[Act.put,bB,bD,bA]);(try simp only[aI]);(try simp only[aK]);(try simp only[aJ]);(refine aB (i:=23) (v:= ?_) rfl (by kernel_rfl) (by kernel_rfl) (by kernel_rfl) (by kernel_rfl) (λ_ _ _ h=>h) HC.out.st (Or.inl ⟨by kernel_rfl,?_⟩) ?_;rotate_left;(focus (intro w hw;go_simp;try with_reducible rfl)));(try simp only[Act.put,bB,bD,bA]);(try simp only[aI]);(try simp only[aK]);(try simp only[aJ]);refine iC (i:=24) (by kernel_rfl) rfl (λK hK=> ?_);go_simp;refine hK.out _ _ (Or.inr (HC.out.alloc _).st) ?_;clear hK K;refine iC (i:=25) (by kernel_rfl) rfl (λK hK=> ?_);refine step_append_lies _ (by rfl) (.tmp 13) (.tmp 37) 110 (by rfl) base 113 i0 _ 3 32 Tryz.underlying110 hi0 hz0 hz1 hz2 rfl (by omega) (.slice A n c) n (fE l) (by rfl) (HC.out.alloc _).own ⟨_,0,none⟩ 1 1 [.int .i64 k, .bool _, .string ⟨sh2.toArray⟩] (by rfl) (by rfl) (Dg (dH _ _)) (acS _ _ _ rfl rfl rfl) (by omega) (by simp only[maxLen];omega) (by omega) (bn HB2.out (HC.out.alloc _).aD.size) _ rfl ?_;intro g3 Mi w3 hown3 hgrow3 afP _;have HS3:=ah ((HC.out.alloc _).grown hgrow3 Ql.out);have HE3:=ah (Zl (p:=(k,_,sh2)) (r:= .tuple #[]) HN.out Ql.out (HC.out.alloc _) hown3 hgrow3 afP);have hcS:w3.cell? ⟨dB,0,none⟩=some (.slice A n c):=by rw[bE w3 dB 0 _ _ _ HS3.out.out];rfl
   have hfS:=xQ HS3.out.out 0;clear hown3 hgrow3 afP;refine hK.out _ _ (Or.inr HS3.out) ?_;clear hK K;refine iC (i:=26) (by kernel_rfl) rfl (λK hK=> ?_);go_simp;refine hK.out _ _ (Or.inl rfl) ?_;clear hK K;refine BM (by kernel_rfl) (bodyPost_end (results_none rfl _ _ _) rfl HE3.out) _
section
open Folds (dec aZ bQ)
def xR (sh:List UInt8->List UInt8) (may:Int->Bool) (t:List UInt8):Nat->Nat->List Left.Pl
 |0,_=>[]
 |n+1,e=>if e<t.length then(e,may e,sh ((t.drop e).take (dec (t.drop e)).2))::xR sh may t n (e+(dec (t.drop e)).2)else[(t.length,may t.length,sh [])]
def qL (fo:Bool) (x:List UInt8):List UInt8:=if fo=true then wr 3 x else x
theorem Zm (le wo:Bool) (gs ws:List Int) (k:Int):lK le wo (if le=true then gs else[]) (if wo=true then ws else[]) k=lK le wo gs ws k:=by cases le<;>cases wo<;>rfl
theorem eU {w w':World} {A:Option Addr} {n:Nat} {zs:List Int} (h:cB w A n zs) (hb:Below w.heap.size w w'):cB w' A n zs:=PB.ints h rfl hb
theorem EZ (w:World):cB w none 0 []:=⟨rfl,aL _,λh=>absurd h (dA _)⟩
theorem ints_set {w:World} {A:Option Addr} {n b:Nat} {zs:List Int} {x:Option Addr} {y z:Nat} {T:TypeId} (h:cB w A n zs) (hb:w.heap[b]? =some (.cells #[.slice x y z] T (0,0))) (u:Value):cB (w.setCell ⟨b,0,none⟩ u) A n zs:=
 ⟨h.len,h.small,λh0=>by
  obtain⟨g,o,e,hg,hc⟩:=h.at_ h0;have hne:b≠g:=by
   rintro rfl;have:=hc 0 h0;rw[bE w b _ _ _ _ hb]at this;cases o with
   |zero=>simp at this
   |succ o=>simp at this
  exact⟨g,o,e,by rw[World.size_setCell];exact hg,λj hj=>by rw[World.cell?_setCell_far _ _ _ _ hne];exact hc j hj⟩⟩
structure P3 (W:World) (fo le wo:Bool) (lv wv:Value) (w:World):Prop where
 aD:Below W.heap.size W w
 o:w.heap[W.heap.size]? =some (.cells #[.bool fo, .bool le, .bool wo] 28 (0,0))
 l:w.heap[W.heap.size+1]? =some (.cells #[lv] 41 (0,0))
 w:w.heap[W.heap.size+1+1]? =some (.cells #[wv] 41 (0,0))
section
variable {W w w':World} {fo le wo:Bool} {lv wv:Value}
theorem P3.go (h:P3 W fo le wo lv wv w) (hb:Below w.heap.size w w'):P3 W fo le wo lv wv w':=
 ⟨h.aD.trans (hb.mono h.aD.size),bM hb h.o,bM hb h.l,bM hb h.w⟩
theorem rX {g k:Nat} {i:Nat} {u:Value} {o:Obj} (h:w.heap[g]? =some o) (hne:g≠k):(w.setCell ⟨k,i,none⟩ u).heap[g]? =some o:=(vT w ⟨k,i,none⟩ u g hne).trans h
theorem P3.ajA (h:P3 W fo le wo lv wv w) (u:Value):P3 W fo le wo u wv (w.setCell ⟨W.heap.size+1,0,none⟩ u):=
 ⟨h.aD.setCell (lV _) _,rX h.o (by omega),JW h.l 0 u,rX h.w (by omega)⟩
theorem P3.ajB (h:P3 W fo le wo lv wv w) (u:Value):P3 W fo le wo lv u (w.setCell ⟨W.heap.size+1+1,0,none⟩ u):=
 ⟨h.aD.setCell (by show W.heap.size<=W.heap.size+1+1;omega) _,rX h.o (by omega),rX h.l (by omega),JW h.w 0 u⟩
theorem P3.start (W:World) (fo le wo:Bool):P3 W fo le wo (.slice none 0 0) (.slice none 0 0) (((W.alloc (.cells #[.bool fo, .bool le, .bool wo] 28)).alloc (.cells #[.slice none 0 0] 41)).alloc (.cells #[.slice none 0 0] 41)):=by
 have h1:=(aM W.heap.size W).alloc (ay _) (.cells #[.bool fo, .bool le, .bool wo] 28);have h2:=h1.alloc h1.size (.cells #[.slice none 0 0] 41);have h3:=h2.alloc h2.size (.cells #[.slice none 0 0] 41);refine⟨h3,?_,?_,?_⟩;·change (((W.heap.push _).push _).push _)[_]? =_;rw[vN,ak (by simp only[vE];omega),vN,ak (by simp only[vE];omega),vN,au rfl]
 ·change (((W.heap.push _).push _).push _)[_]? =_;rw[vN,ak (by simp only[vE];omega),vN,au (by simp only[vE])]
 ·change (((W.heap.push _).push _).push _)[_]? =_;rw[vN,au (by simp only[vE])]
end
structure PL (W0:World) (s:ByteArray) (dB e:Nat) (acc:List Left.Pl) (v:Value) (w:World):Prop where
 st:AS W0 dB v w
 it:w.heap[dB+1]? =some (.stringIter s e)
 own:w.ownsRow (dB+1) 113 3 v acc.length (fE acc)
section
variable {W0 w w':World} {s:ByteArray} {dB e:Nat} {acc:List Left.Pl} {v:Value}
theorem PL.go (h:PL W0 s dB e acc v w) (hb:Below w.heap.size w w'):PL W0 s dB e acc v w':=⟨h.st.go hb,bM hb h.it,own_below hb h.own⟩
theorem PL.iter (h:PL W0 s dB e acc v w) (e':Nat):PL W0 s dB e' acc v (w.iterAt (dB+1) s e'):=
 ⟨⟨below_iterAt h.st.aD (lV _) s e',(iterAt_other w _ _ s e' (by omega)).trans h.st.out⟩,iterAt_heap w _ s e e' h.it,own_iterAt h.it h.own⟩
theorem PL.add {p:Left.Pl} {x:Ending} (h:PL W0 s dB e acc v w) (ha:JV W0 dB v (dB+1) (acc++[p]) w x w'):∃v',PL W0 s dB e (acc++[p]) v' w':=by
 obtain⟨_,hf,v',h1,h2,_⟩:=ha;refine⟨v',h1,?_,h2⟩;rw[hf.block _ (bU h.it) λc=> ?_];·exact h.it
 ·rcases c with c|c
  ·omega
  ·obtain⟨_,_,cur,hc⟩:=bZ h.own c;rw[h.it]at hc;cases hc
end
def E8 (l:List Left.Pl) (W:World) (e:Ending) (w':World):Prop:=∃v,e= .returned v/\Below W.heap.size W w'/\w'.ownsRow W.heap.size 113 3 v l.length (fE l)
def Fa (zs:List Int) (W:World) (e:Ending) (w':World):Prop:=∃A n c,e= .returned (.slice A n c)/\cB w' A n zs/\Below W.heap.size W w'
theorem Sn (t:List UInt8) (fo le wo:Bool) (gs ws:List Int) (W:World) (hT:Lib.Utf8Tabs 2 3 W) (hn:t.length<=10000)
 (hF:fo=true->∀(x:List UInt8) (w:World),Below W.heap.size W w->x.length<=10000->Calls Tryz.prog 69 #[.string ⟨x.toArray⟩] w λe w'=>e= .returned (.string ⟨(wr 3 x).toArray⟩)/\Below w.heap.size w w')
 (hG:le=true->∀w,Below W.heap.size W w->Calls Tryz.prog 115 #[.string ⟨t.toArray⟩] w (Fa gs w)) (hW:wo=true->∀w,Below W.heap.size W w->Calls Tryz.prog 52 #[.string ⟨t.toArray⟩] w (Fa ws w)):
 Calls Tryz.prog 70 #[.string ⟨t.toArray⟩, .agg #[.bool fo, .bool le, .bool wo]] W (E8 (xR (qL fo) (lK le wo gs ws) t (t.length+1) 0) W):=by
 have hmf:∀fn first cap w,(Instr.makeFunc fn first cap).run Tryz.prog w= .ok (.func fn first cap) w:=λ_ _ _ _=>rfl
 have hmay:lK le wo gs ws=lK le wo (if le=true then gs else[]) (if wo=true then ws else[]):=funext λk=>(Zm le wo gs ws k).symm;rw[hmay];clear hmay;obtain⟨gs',hgs⟩:∃l,(if le=true then gs else[])=l:=⟨_,rfl⟩
 obtain⟨ws',hws⟩:∃l,(if wo=true then ws else[])=l:=⟨_,rfl⟩
 rw[hgs,hws];have HGS:=ah hgs;have HWS:=ah hws;have HT:=ah hT;have HF:=ah hF;have HG:=ah hG;have HW:=ah hW;obtain⟨s,hs⟩:∃s:ByteArray,(⟨t.toArray⟩:ByteArray)=s:=⟨_,rfl⟩
 have oI:=ah (size_mk t s hs);rw[hs]at HG HW⊢;have HS:=ah hs;have HNT:=ah hn;clear hs hgs hws hT hF hG hW hn;have HP0:=ah (P3.start W fo le wo);go_enter Tryz.func70,Tryz.ntmps70;go_upto_if 14 with(fail)
 go_cut [] (λwx=>∃lA ln lk,P3 W fo le wo (.slice lA ln lk) (.slice none 0 0) wx/\cB wx lA ln gs');case first=>
  cases le;case false=>have HE:=ah (show gs'=[]by rw[<-HGS.out,ak AP]);clear HGS;go_wp2_with fail;go_meet;exact⟨none,0,0,HP0.out,by rw[HE.out];exact EZ _⟩
  case true=>have HE:=ah (show gs'=gs by rw[<-HGS.out,au rfl]);clear HGS;go_wp2_with (go_at_call 115;refine(HG.out rfl _ HP0.out.aD).mono ?_;rintro e w1 ⟨lA,ln,lk,rfl,hi,hb⟩;have TF:=ah (HP0.out.go hb);have HI1:=ah hi;clear hb hi;have q1:w1.cell? ⟨W.heap.size+1,0,none⟩=some (.slice none 0 0):=(bE w1 _ 0 _ _ _ TF.out.l).trans rfl;have q2:=xQ TF.out.l 0);go_meet;exact⟨lA,ln,lk,TF.out.ajA _,by rw[HE.out];exact ints_set HI1.out TF.out.l _⟩
 case rest=>
  obtain⟨lA,ln,lk,hp,hi⟩:=hcut;have TF:=ah hp;have HI1:=ah hi;have q3:wc.cell? ⟨W.heap.size,2,none⟩=some (.bool wo):=(bE wc _ 2 _ _ _ hp.o).trans rfl;clear hp hi HP0;go_upto_if 18 with(fail)
  go_cut [] (λwx=>∃wA wn wk,P3 W fo le wo (.slice lA ln lk) (.slice wA wn wk) wx/\cB wx lA ln gs'/\cB wx wA wn ws');case first=>
   cases wo;case false=>have HE:=ah (show ws'=[]by rw[<-HWS.out,ak AP]);clear HWS;go_wp2_with fail;go_meet;exact⟨none,0,0,TF.out,HI1.out,by rw[HE.out];exact EZ _⟩
   case true=>have HE:=ah (show ws'=ws by rw[<-HWS.out,au rfl]);clear HWS;go_wp2_with (go_at_call 52;refine(HW.out rfl _ TF.out.aD).mono ?_;rintro e w1 ⟨wA,wn,wk,rfl,hi,hb⟩;have FR:=ah (TF.out.go hb);have HI2:=ah hi;have HI3:=ah (eU HI1.out hb);clear hb hi;have q1:w1.cell? ⟨W.heap.size+1+1,0,none⟩=some (.slice none 0 0):=(bE w1 _ 0 _ _ _ FR.out.w).trans rfl;have q2:=xQ FR.out.w 0);go_meet;exact⟨wA,wn,wk,FR.out.ajB _,ints_set HI3.out FR.out.w _,by rw[HE.out];exact ints_set HI2.out FR.out.w _⟩
  case rest=>
   obtain⟨wA,wn,wk,hp,hi,hi2⟩:=hcut;have hbW:Below wc.heap.size wc (wc.alloc (.cells #[.func (.func 116) #[] #[]] 44)):=(aM _ wc).alloc (ay _) _;have HB0:=ah (show PB (wc.alloc (.cells #[.func (.func 116) #[] #[]] 44)) W.heap.size wc.heap.size (W.heap.size+1) (W.heap.size+1+1) (wc.heap.size+1) fo le wo lA ln lk gs' wA wn wk ws' from
    ⟨bM hbW hp.o,dH wc _,bM hbW hp.l,bM hbW hp.w,eU hi hbW,eU hi2 hbW,by simp⟩)
   obtain⟨W0,hW0⟩:∃W0,wc.alloc (.cells #[.func (.func 116) #[] #[]] 44)=W0:=⟨_,rfl⟩
   have FR:=ah (hp.go hbW);rw[hW0]at HB0 FR;have HW0:=ah hW0;clear hbW hp hi hi2 hW0 TF HI1 q3;go_wp2;rw[HW0.out];have hsz:wc.heap.size+1=W0.heap.size:=HB0.out.lt.symm;have HBW:=ah (show W.heap.size<=wc.heap.size+1 by rw[hsz];exact FR.out.aD.size);obtain⟨Zk,afQ⟩:∃Zk,wc.heap.size=Zk:=⟨_,rfl⟩
   rw[afQ]at hsz HB0 HBW⊢;obtain⟨ob,hob⟩:∃ob,Zk+1=ob:=⟨_,rfl⟩
   rw[hob]at hsz HB0 HBW⊢;clear HW0 afQ hob;have xM:=ah hsz;clear hsz;go_loopw [10] (λ_ wr=>∃e n acc v,PL W0 s ob e acc v wr/\e<=t.length/\t.length<n+e/\acc.length<=e/\acc++xR (qL fo) (lK le wo gs' ws') t n e=xR (qL fo) (lK le wo gs' ws') t (t.length+1) 0) (λ_ wr=>s.size-wr.iterPos (ob+1));case atStart=>
    refine⟨0,t.length+1,[], .slice none 0 0,⟨⟨?_,?_⟩,?_,⟨rfl, .inl ⟨rfl,rfl⟩⟩⟩,aL _,mI _,ay _,rfl⟩;·have h1:Below ob W0 (W0.alloc (.cells #[.slice none 0 0] 110)):=(aM _ W0).alloc (by rw[xM.out];exact ay _) _;exact h1.alloc (by rw[jL,<-xM.out];exact lV _) _
    ·exact(Below.heap_alloc _ _ ob (by rw[jL,<-xM.out];exact mI _)).trans (by rw[xM.out];exact dH _ _)
    ·have:=World.iter_heap (W0.alloc (.cells #[.slice none 0 0] 110)) s 0;rw[jL,<-xM.out]at this;exact this
   case round=>
    obtain⟨e,n,acc,v,hPL,he,hne,hacc,hl⟩:=hrel;have hit:=hPL.it;have HL:=ah hl;clear hl;have hss:=oI.out;have hnt:=HNT.out;by_cases hlt:e<s.size
    ·have hlt2:e<t.length:=by omega
     have HP:=ah hPL;clear hPL;have hnx:=λty=>run_next_any_at (P:=Tryz.prog) wr _ s e ty hit hlt;rw[ig t e s HS.out]at hnx;have hne2:t.drop e≠[]:=by intro c;rw[lI]at c;omega
     have hd1:=aZ (t.drop e);have hd2:=bQ (t.drop e) hne2;rw[dF]at hd2;obtain⟨n',rfl⟩:∃n',n=n'+1:=⟨n-1,by omega⟩
     have hpl:xR (qL fo) (lK le wo gs' ws') t (n'+1) e=(e,lK le wo gs' ws' e,qL fo ((t.drop e).take (dec (t.drop e)).2))::xR (qL fo) (lK le wo gs' ws') t n' (e+(dec (t.drop e)).2):=by show(if e<t.length then _ else _)=_;rw[au hlt2]
     obtain⟨r,hr⟩:∃r:Int,((dec (t.drop e)).1:Int)=r:=⟨_,rfl⟩
     obtain⟨wd,hwd⟩:∃wd,(dec (t.drop e)).2=wd:=⟨_,rfl⟩
     have HDC:=ah (λw (h:Below W.heap.size W w)=>vU (t.drop e) hne2 w (jM h HT.out));rw[hr,hwd]at hnx HDC;rw[hwd]at hpl hd1 hd2;clear hr hwd;obtain⟨sh,hsh⟩:∃sh,(t.drop e).take wd=sh:=⟨_,rfl⟩
     have hx1:=Od t e s HS.out;have hx2:s.extract e (e+wd)=⟨sh.toArray⟩:=by rw[<-HS.out,vR,pJ,<-hsh]
     obtain⟨ew,F5⟩:∃ew,e+wd=ew:=⟨_,rfl⟩
     rw[hsh,F5]at hpl;rw[F5]at hnx hx2;have hwr:wrap64 ((e:Int)+wd)=ew:=by unfold wrap64;omega
     have afR:sh.length<=10000:=by rw[<-hsh,fF,dF];omega
     have hi0:(0:Int)<=e:=by omega
     have hi1:(e:Int)<=s.size:=by omega
     have hi2:(e:Int)<=ew:=by omega
     have hi3:(ew:Int)<=s.size:=by omega
     have TA:=ah hpl;have HG:=ah (And.intro hd1 hd2);have HEW:=ah F5;have HSL:=ah afR;clear hpl hd1 hd2 hne2 hsh F5 afR;have TG:=ah (show acc.length<=1000000 by omega);have HAR:=ah (And.intro he (And.intro hne hacc));clear hss hnt he hne hacc hlt2;have TF:=ah (HP.out.iter ew);have HBB:=ah (λw (h:AS W0 ob v w)=>FR.out.aD.trans (h.aD.mono (by rw[xM.out];exact FR.out.aD.size)));go_wp2_with (first
      |(go_at_call 99;refine(HDC.out _ (HBB.out _ TF.out.st)).mono ?_;rintro x w1 ⟨rfl,hb1⟩;have HPA:=ah (TF.out.go hb1);clear hb1)
      |(go_at_call 117;refine(Wx W0 _ _ _ _ _ fo le wo lA ln lk gs' wA wn wk ws' HB0.out e sh (qL fo sh) acc acc.length (ob+1) v _ HPA.out.st (λh=>by unfold qL;rw[h];rfl) (λh w hw=>by have:=HF.out h sh w (HBB.out w hw) HSL.out;unfold qL;rw[au h];exact this) HPA.out.own rfl TG.out (mI _) (dN (bU HPA.out.it))).mono ?_;rintro x w2 hadd;obtain⟨r2,rfl⟩:=hadd.1;have HPB:=ah (HPA.out.add hadd);clear hadd))
     obtain⟨v',P3⟩:=HPB.out;have g1:=HG.out;have g2:=HEW.out;have g3:=oI.out;obtain⟨g4,g5,g6⟩:=HAR.out;refine⟨⟨ew,n',acc++[(e,lK le wo gs' ws' e,qL fo sh)],v',P3,by omega,by omega,by simp;omega,by rw[<-HL.out,TA.out];simp⟩,?_⟩;have q1:w2.iterPos (ob+1)=ew:=by unfold World.iterPos;rw[P3.it]
     have q2:wr.iterPos (ob+1)=e:=by unfold World.iterPos;rw[hit]
     rw[q1,q2];omega
    ·have hnx:=λty=>run_next_end_at (P:=Tryz.prog) wr _ s e ty hit hlt;obtain⟨n',rfl⟩:∃n',n=n'+1:=⟨n-1,by omega⟩
     have hpl:xR (qL fo) (lK le wo gs' ws') t (n'+1) e=[(s.size,lK le wo gs' ws' s.size,qL fo [])]:=by show(if e<t.length then _ else _)=_;rw[ak (by omega),hss]
     have TA:=ah hpl;clear hpl;have HBB:=ah (λw (h:AS W0 ob v w)=>FR.out.aD.trans (h.aD.mono (by rw[xM.out];exact FR.out.aD.size)));have ajC:=ah (Wx W0 _ _ _ _ _ fo le wo lA ln lk gs' wA wn wk ws' HB0.out s.size [] (qL fo []) acc acc.length (ob+1) v wr hPL.st (λh=>by unfold qL;rw[h];rfl) (λh w hw=>by have:=HF.out h [] w (HBB.out w hw) (aL _);unfold qL;rw[au h];exact this) hPL.own rfl (by omega) (mI _) (dN (bU hPL.it)));have HP:=ah hPL;clear hPL hss hnt he hne hacc hlt;go_wp2_with (go_at_call 117;refine ajC.out.mono ?_;rintro x w2 hadd;obtain⟨r2,rfl⟩:=hadd.1;obtain⟨v',hp3⟩:=HP.out.add hadd;obtain⟨A',c',rfl,_⟩:=aW hp3.own;have HP3:=ah hp3;clear hp3 hadd;have hcv:w2.cell? ⟨ob,0,none⟩=some (.slice A' (acc++[(s.size,lK le wo gs' ws' s.size,qL fo [])]).length c'):=(bE w2 _ 0 _ _ _ HP3.out.st.out).trans rfl);go_ret;refine⟨_,rfl,FR.out.aD.trans (HP3.out.st.aD.mono (by rw[xM.out];exact FR.out.aD.size)),?_⟩;have h:=EC HP3.out.own (base':=W.heap.size) (λg hg=>by have:=(bZ HP3.out.own hg).1;have:=HBW.out;omega);have hlen:(acc++[(s.size,lK le wo gs' ws' s.size,qL fo [])]).length=acc.length+1:=by simp
     rw[<-HL.out,TA.out,hlen];rw[hlen]at h;exact h
end
section
open Folds (dec aZ bQ)
section
variable {sh:List UInt8->List UInt8} {may:Int->Bool} {t:List UInt8}
theorem zq {e:Nat} (h:e<t.length):e+(dec (t.drop e)).2<=t.length/\0<(dec (t.drop e)).2:=by
 have hne:t.drop e≠[]:=by intro c;rw[lI]at c;omega
 have h1:=aZ (t.drop e);have h2:=bQ (t.drop e) hne;rw[dF]at h2;exact⟨by omega,h1⟩
theorem Wy:∀n e,e<=t.length->∀q∈xR sh may t n e,e<=q.1
 |0,_,_,q,h=>by cases h
 |n+1,e,he,q,h=>by
  unfold xR at h;by_cases c:e<t.length
  ·rw[au c]at h;obtain⟨d1,d2⟩:=zq c;rcases aT.1 h with rfl|h
   ·exact ay _
   ·exact bn (Nat.le_add_right _ _) (Wy n _ d1 q h)
  ·rw[ak c]at h;obtain rfl:=dM.1 h;exact he
theorem Qx:∀n e,e<=t.length->Left.asc t.length (xR sh may t n e)
 |0,_,_=>trivial
 |n+1,e,he=>by
  unfold xR;by_cases c:e<t.length;·rw[au c];obtain⟨d1,d2⟩:=zq c;exact⟨he,λq hq=>bC (Nat.lt_add_of_pos_right d2) (Wy n _ d1 q hq),Qx n _ d1⟩
  ·rw[ak c];exact⟨ay _,λq hq=>absurd hq kG,trivial⟩
theorem JX:∀n e,(xR sh may t n e).length<=n
 |0,_=>ay _
 |n+1,e=>by
  unfold xR;split;·exact Et (JX n _)
  ·exact Et (aL _)
theorem acV (n e:Nat):xR sh may t (n+1) e≠[]:=by unfold xR;split<;>exact nC _ _
end
theorem Ht (want:List UInt8):∀l,(Left.every want l).length<=l.length
 |[]=>ay _
 |p::r=>by
  have ih:=Ht want r;have hu:Left.every want (p::r)=if p.2.1=true then(match Left.look want (p::r)with|some b=>(p.1,b)::Left.every want r|none=>Left.every want r)else Left.every want r:=rfl
  rw[hu];split
  ·split
   ·exact Et ih
   ·exact Jz ih
  ·exact Jz ih
end
section
open Folds (dec aZ bQ)
theorem Zn {r:Int} (h:JE r=true):encR r≠[]:=by
 rw[acD r h];unfold Za;repeat' split
 all_goals simp
theorem Wz {t:List UInt8} (ht:t≠[]):wr 3 t≠[]:=by
 unfold wr;rw[Folds.L6 _ t ht];intro h;have h1:=(List.append_eq_nil_iff.1 h).1;unfold Folds.one at h1;split at h1
 ·cases t with
  |nil=>exact ht rfl
  |cons a b=>cases h1
 ·obtain⟨a,hR,_⟩:=form_facts _ (Zb t) 3 (by decide);dsimp only at h1;cases hf:formV ((dec t).1:Int) 3 with
  |nil=>exact a hf
  |cons x r=>rw[hf]at h1 hR;exact Zn (hR x nU) (List.append_eq_nil_iff.1 (show encR x++qA r=[]from h1)).1
