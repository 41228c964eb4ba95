/- SearchWide, walked: the law itself, where what it calls is given; rules, breakers in the machine's heap. -/
import Derived.Test.YtocaiijbhepnnaaGreatDoorHF
set_option maxRecDepth 100000
set_option maxHeartbeats 20000000
namespace Go.Proofs.YtocaiijbhepnnaaGreatDoor.searchWide
open Go.Shelf Go.RowKit Go.Lib Go.Proofs.YtocaiijbhepnnaaGreatDoor.Am
structure IY (W:World) (a b:Int) (w:World):Prop where
 aD:Below W.heap.size W w
 box:w.heap[W.heap.size]? =some (.cells #[.int .i64 a, .int .i64 b] 33 (0,0))
theorem IY.drewN {W w:World} {a b:Int} (h:IY W a b w) (n:Nat):IY W a b (w.drewN n):=⟨⟨h.aD.os,h.aD.tape,h.aD.output,h.aD.size,h.aD.block⟩,h.box⟩
def Z5 (part:Nat->Nat->List UInt8):List Nat->Prop
 |[]=>True
 |a::r=>r.Pairwise (λx y=>(part a x).length<=(part a y).length)/\Z5 part r
theorem Ig {want:List UInt8} {part:Nat->Nat->List UInt8} {a:Nat}:∀{l:List Nat} {m:Nat×Nat},m∈EvL.inner want part a l->m.1=a/\m.2∈l/\part m.1 m.2=want
 |[],_,h=>by cases h
 |b::r,m,h=>by
  have one:m∈(if part a b=want then[(a,b)]else[])->m.1=a/\m.2∈b::r/\part m.1 m.2=want:=λh=>by
   split at h;·rename_i c;obtain rfl:=dM.1 h;exact⟨rfl,nU,c⟩
   ·cases h
  unfold EvL.inner at h;split at h;·exact one h
  ·rcases fZ.1 h with h|h
   ·exact one h
   ·obtain⟨h1,h2,h3⟩:=Ig h;exact⟨h1,lH _ h2,h3⟩
theorem Ih {want:List UInt8} {part:Nat->Nat->List UInt8}:∀{l:List Nat} {m:Nat×Nat},m∈EvL.outer want part l->m.1∈l/\m.2∈l/\part m.1 m.2=want
 |[],_,h=>by cases h
 |a::r,m,h=>by
  unfold EvL.outer at h;rcases fZ.1 h with h|h;·obtain⟨h1,h2,h3⟩:=Ig h;exact⟨by rw[h1];exact nU,lH _ h2,h3⟩
  ·obtain⟨h1,h2,h3⟩:=Ih h;exact⟨lH _ h1,lH _ h2,h3⟩
theorem Ii {want:List UInt8} {part:Nat->Nat->List UInt8} {a b:Nat} (e:part a b=want):∀{l:List Nat},l.Pairwise (λx y=>(part a x).length<=(part a y).length)->b∈l->(a,b)∈EvL.inner want part a l
 |[],_,h=>by cases h
 |x::r,hp,h=>by
  obtain⟨hp1,hp2⟩:=List.pairwise_cons.1 hp;unfold EvL.inner;rcases aT.1 h with rfl|h
  ·rw[au e];split
   ·exact List.mem_singleton_self _
   ·exact fG _ (List.mem_singleton_self _)
  ·have:=hp1 b h;rw[e]at this;rw[ak (by omega)];exact gq _ (Ii e hp2 h)
theorem Ij {want:List UInt8} {part:Nat->Nat->List UInt8} {a b:Nat} (e:part a b=want) (hab:a<b):∀{l:List Nat},Z5 part l->l.Pairwise (·<·)->a∈l->b∈l->(a,b)∈EvL.outer want part l
 |[],_,_,h,_=>by cases h
 |x::r,hm,hp,ha,hb=>by
  obtain⟨hp1,hp2⟩:=List.pairwise_cons.1 hp;unfold EvL.outer;rcases aT.1 ha with rfl|ha2
  ·rcases aT.1 hb with rfl|hb2
   ·omega
   ·exact fG _ (Ii e hm.1 hb2)
  ·rcases aT.1 hb with rfl|hb2
   ·have:=hp1 a ha2;omega
   ·exact gq _ (Ij e hab hm.2 hp2 ha2 hb2)
theorem FC {part:Nat->Nat->List UInt8} {a:Nat}:∀{l:List Left.Pl} {acc:List UInt8},EvL.Parts part a acc l->(EvL.places l).Pairwise (λx y=>(part a x).length<=(part a y).length)/\∀x∈EvL.places l,acc.length<=(part a x).length
 |[],_,_=>⟨List.Pairwise.nil,λx h=>by cases h⟩
 |q::r,acc,h=>by
  obtain⟨h1,h2⟩:=h;obtain⟨i1,i2⟩:=FC h2;have hl:acc.length<=(acc++q.2.2).length:=by rw[bT];omega
  have hx:∀x∈EvL.places r,acc.length<=(part a x).length:=λx hx=>bn hl (i2 x hx);by_cases c:q.2.1=true
  ·rw[EvL.oz c];refine⟨List.pairwise_cons.2 ⟨λx hx'=>by rw[h1];exact hx x hx',i1⟩,λx h=> ?_⟩;rcases aT.1 h with rfl|h
   ·rw[h1];exact ay _
   ·exact hx x h
  ·rw[EvL.qG c];exact⟨i1,hx⟩
theorem wV {part:Nat->Nat->List UInt8}:∀{l:List Left.Pl},EvL.zn part l->Z5 part (EvL.places l)
 |[],_=>trivial
 |p::r,h=>by
  have ih:=wV h.2;by_cases c:p.2.1=true;·rw[EvL.oz c];exact⟨(FC h.1).1,ih⟩
  ·rw[EvL.qG c];exact ih
def xV (t:List UInt8):List Nat:=((aG t t.length 0).map (·.1))++[t.length]
theorem Ik (t:List UInt8):oC t=(xV t).map λ(x:Nat)=>(x:Int):=by unfold oC gZ marks xV;rw[List.map_append,List.map_map];rfl
theorem Dr (s:List UInt8) (fo le wo:Bool):EvL.places (wB s fo le wo)=(xV s).filter λ(k:Nat)=>lK le wo (F7 s) (eu s) (k:Int):=by unfold wB;exact MQ _ _ s s.length 0 (aL _) (by omega)
theorem Tk (s:List UInt8):(xV s).Pairwise (·<·):=by refine List.pairwise_append.2 ⟨List.pairwise_map.2 (sw s _ _),List.pairwise_singleton _ _,λa ha b hb=> ?_⟩;obtain rfl:=dM.1 hb;obtain⟨y,hy,rfl⟩:=dw.1 ha;exact(kX s _ _ y hy).2
theorem Il (s:List UInt8):∀x∈xV s,x<=s.length:=λx hx=>by
 rcases fZ.1 hx with h|h;·obtain⟨y,hy,rfl⟩:=dw.1 h;exact dN (kX s _ _ y hy).2
 ·exact Nat.le_of_eq (dM.1 h)
theorem lQ {s t:List UInt8} {fo le wo:Bool} {a b:Nat} (ht:t≠[]):(a,b)∈gY s t fo le wo↔
 (a∈xV s/\lK le wo (F7 s) (eu s) (a:Int)=true)/\(b∈xV s/\lK le wo (F7 s) (eu s) (b:Int)=true)/\a<b/\qL fo ((s.drop a).take (b-a))=qL fo t:=by
 have hw:qL fo t≠[]:=by
  unfold qL;split;·exact Wz ht
  ·exact ht
 have he:gY s t fo le wo=EvL.outer (qL fo t) (sQ fo s) (EvL.places (wB s fo le wo)):=by unfold gY;rw[ak ht];exact(WH fo le wo s (qL fo t) (F7 s) (eu s) hw).symm
 have hm:Z5 (sQ fo s) (EvL.places (wB s fo le wo)):=wV (uH fo _ s _ _ (aL _));have hp:(EvL.places (wB s fo le wo)).Pairwise (·<·):=by rw[Dr];exact List.Pairwise.filter _ (Tk s)
 constructor;·intro h;have hr:=(Left.L8 (Ml s t fo le wo) _ h).1;rw[he]at h;obtain⟨h1,h2,h3⟩:=Ih h;rw[Dr]at h1 h2;exact⟨kC.1 h1,kC.1 h2,hr,h3⟩
 ·rintro⟨h1,h2,h3,h4⟩;rw[he];refine Ij h4 h3 hm hp ?_ ?_
  ·rw[Dr];exact kC.2 h1
  ·rw[Dr];exact kC.2 h2
theorem xW {s:List UInt8} {fo le wo:Bool}:gY s [] fo le wo=[]:=by unfold gY;rw[au rfl]
theorem QS (gs ws:List Int) (x:Int):lK false false gs ws x=true:=rfl
theorem FD (s:List UInt8) (x:Int):lK false true (F7 s) (eu s) x=decide (x∈eu s):=by unfold lK;rw[ZY (QN s)];rfl
theorem FE {s t:List UInt8} {le wo:Bool} {m:Nat×Nat} (h:m∈gY s t false le wo):m∈gY s t false false false:=by
 obtain⟨a,b⟩:=m;by_cases ht:t=[]
 ·subst ht;rw[xW]at h;cases h
 ·obtain⟨⟨h1,_⟩,⟨h2,_⟩,h3⟩:=(lQ ht).1 h;exact(lQ ht).2 ⟨⟨h1,QS _ _ _⟩,⟨h2,QS _ _ _⟩,h3⟩
theorem Tm {s t:List UInt8} {m:Nat×Nat} (h:m∈gY s t false false true):(m.1:Int)∈eu s/\(m.2:Int)∈eu s:=by
 obtain⟨a,b⟩:=m;by_cases ht:t=[]
 ·subst ht;rw[xW]at h;cases h
 ·obtain⟨⟨_,h1⟩,⟨_,h2⟩,_⟩:=(lQ ht).1 h;rw[FD,fH]at h1 h2;exact⟨h1,h2⟩
theorem Tn {s t:List UInt8} {m:Nat×Nat} (h:m∈gY s t false false false):m∈gY s t true false false/\m.1<=m.2/\m.2<=s.length/\(s.take m.2).drop m.1=t:=by
 obtain⟨a,b⟩:=m;by_cases ht:t=[]
 ·subst ht;rw[xW]at h;cases h
 ·obtain⟨h1,h2,h3,h4⟩:=(lQ ht).1 h;have h4:(s.drop a).take (b-a)=t:=h4;exact⟨(lQ ht).2 ⟨h1,h2,h3,by rw[h4]⟩,dN h3,Il s b h2.1,by rw[List.drop_take];exact h4⟩
theorem sD {s:List UInt8} {x:Int} (h:x∈eu s):x∈oC s:=by
 by_cases hs:s=[]
 ·subst hs;unfold eu at h;rw[ak (by decide),iL]at h;have:Co (LX []) (gZ []) (marks []).length 0=[]:=by decide
  rw[this]at h;cases h
 ·rw[<-zN s hs,zM]at h;obtain⟨i,hi,rfl⟩:=dw.1 h;unfold oC;by_cases c:i<(marks s).length
  ·rw[au c];refine fG _ ?_;have hl:i<(gZ s).length:=by unfold gZ;rw[dR];exact c
   rw[aU,bJ hl];exact mK hl
  ·rw[ak c];exact gq _ (List.mem_singleton_self _)
theorem QT {s:List UInt8} {a b:Nat} (ha:(a:Int)∈eu s) (hb:(b:Int)∈eu s) (h:a<b):b<=s.length/\(a,b)∈gY s ((s.take b).drop a) false false true:=by
 have hea:=sD ha;have heb:=sD hb;rw[Ik]at hea heb;obtain⟨x,hx,ex⟩:=dw.1 hea;obtain⟨y,hy,ey⟩:=dw.1 heb;obtain rfl:x=a:=by omega
 obtain rfl:y=b:=by omega
 have hle:=Il s y hy;refine⟨hle,?_⟩;have ht:(s.take y).drop x≠[]:=λe=>by have:=dX List.length e;rw[dF,fF,j5]at this;omega
 exact(lQ ht).2 ⟨⟨hx,by rw[FD];exact bg ha⟩,⟨hy,by rw[FD];exact bg hb⟩,h,by rw[List.drop_take]⟩
theorem OY (l:List (Nat×Nat)) (a b:Int) (A:Option Addr) (n c:Nat) (W:World) (hR:Cr W A n l):
 Calls Tryz.prog 22 #[.slice A n c, .agg #[.int .i64 a, .int .i64 b]] W λe w'=>e= .returned (.bool (Left.Mg a b l))/\Below W.heap.size W w':=by
 have hsm:=hR.small;have HR:=ah hR;clear hR;go_enter Tryz.func22,Tryz.ntmps22;go_wp2;go_loopw [5] (λi wr=>∃k:Nat,k<=n/\i= .int .i64 k/\Left.Mg a b (l.drop k)=Left.Mg a b l/\IY W a b wr) (λi _=>n-(RowKit.intOf i).toNat);case atStart=>exact⟨0,aL _,rfl,rfl,(aM _ W).alloc (ay _) _,dH W _⟩
 case round=>
  obtain⟨k,hk,rfl,hlo,hI⟩:=hrel;have HI:=ah hI;clear hI;have b0:=(bE wr W.heap.size 0 _ _ _ HI.out.box).trans rfl;have b1:=(bE wr W.heap.size 1 _ _ _ HI.out.box).trans rfl;by_cases hlt:k<n
  ·obtain⟨g,rfl,hg,hc⟩:=HR.out.at_ (by omega);obtain⟨c0,c1⟩:=hc k hlt;rw[Left.drop_one (by rw[HR.out.len];exact hlt),Left.Mg]at hlo;obtain⟨⟨x,y⟩,hxy⟩:∃p,l.getD k Left.m0=p:=⟨_,rfl⟩
   rw[hxy]at c0 c1 hlo;dsimp only at hlo;have d0:=(HI.out.aD.cell (p:=⟨g,k*2,none⟩) hg).trans c0;have d1:=(HI.out.aD.cell (p:=⟨g,k*2+1,none⟩) hg).trans c1;clear c0 c1 hc hg hxy;have hk0:(0:Int)<=k:=by omega
   have hk1:(k:Int)<n:=by omega
   have HID:=ah HI.out.drewN;have hwk:wrap64 ((k:Int)+1)=((k+1:Nat):Int):=by unfold wrap64;omega
   have iQ:=ah hwk;clear hwk;by_cases hx:(x:Int)=a
   ·subst hx;by_cases hy:(y:Int)=b
    ·subst hy;rw[au ⟨rfl,rfl⟩]at hlo;have sP:=ah hlo;clear hlo;go_wp2;go_quiet (fail);go_wp2;go_ret;exact⟨by rw[<-sP.out];rfl,(HID.out _).aD⟩
    ·have hyi:¬b=(y:Int):=λc=>hy c.symm;have hyb:(b==(y:Int))=false:=iw.2 hyi;rw[ak (λc=>hy c.2)]at hlo;have sP:=ah hlo;clear hlo;go_wp2;go_quiet (fail);go_wp2;exact⟨⟨k+1,hlt,by first|rw[iQ.out]|rfl,sP.out,HID.out _⟩,by first|(rw[iQ.out];simp[RowKit.intOf];omega)|(simp[RowKit.intOf];omega)⟩
   ·have hxi:¬a=(x:Int):=λc=>hx c.symm;have hxb:(a==(x:Int))=false:=iw.2 hxi;rw[ak (λc=>hx c.1)]at hlo;have sP:=ah hlo;clear hlo;go_wp2;go_quiet (fail);go_wp2;exact⟨⟨k+1,hlt,by first|rw[iQ.out]|rfl,sP.out,HID.out _⟩,by first|(rw[iQ.out];simp[RowKit.intOf];omega)|(simp[RowKit.intOf];omega)⟩
  ·obtain rfl:k=n:=by omega
   rw[xg (Nat.le_of_eq HR.out.len),Left.Mg]at hlo;have sP:=ah hlo;clear hlo;go_wp2;go_ret;exact⟨by rw[<-sP.out];rfl,HI.out.aD⟩
theorem zO {a b:Nat}:∀{l:List (Nat×Nat)},(a,b)∈l->Left.Mg a b l=true
 |[],h=>by cases h
 |m::l,h=>by
  unfold Left.Mg;rcases aT.1 h with rfl|h;·rw[au ⟨rfl,rfl⟩]
  ·split
   ·rfl
   ·exact zO h
def sF (w:World) (d:Value):Prop:=
 ∃D o S oS c,d= .pointer (some ⟨D,o,none⟩)/\D<w.heap.size/\S<w.heap.size/\w.cell? ⟨D,o,none⟩=some (.slice (some ⟨S,oS,none⟩) 20 c)/\∀i:Nat,i<20->∃b:ByteArray,w.cell? ⟨S,oS+i,none⟩=some (.string b)
theorem sF.below {w w':World} {d:Value} (h:sF w d) (hb:Below w.heap.size w w'):sF w' d:=by obtain⟨D,o,S,oS,c,e,h1,h2,h3,h4⟩:=h;refine⟨D,o,S,oS,c,e,bC h1 hb.size,bC h2 hb.size,(hb.cell (p:=⟨D,o,none⟩) h1).trans h3,λi hi=> ?_⟩;obtain⟨b,hb'⟩:=h4 i hi;exact⟨b,(hb.cell (p:=⟨S,oS+i,none⟩) h2).trans hb'⟩
def Tp (W:World) (e:Ending) (w':World):Prop:=(∃(k:Nat) (x:Bool),k<20/\e= .returned (.tuple #[.int .i64 k, .bool x]))/\w'=W
theorem Tq (s:ByteArray) (d:Value) (W:World) (h:sF W d):Calls Tryz.prog 224 #[d, .string s] W (Tp W):=by
 obtain⟨D,o,S,oS,c,rfl,h1,h2,h3,h4⟩:=h;have H4:=ah h4;clear h4 h1 h2;go_enter Tryz.func224,Tryz.ntmps224;go_wp2;go_loopw [6] (λi wr=>∃k:Nat,k<=20/\i= .int .i64 k/\wr=W) (λi _=>20-(RowKit.intOf i).toNat);case atStart=>exact⟨0,aL _,rfl,rfl⟩
 case round=>
  obtain⟨k,hk,rfl,rfl⟩:=hrel;by_cases hlt:k<20
  ·obtain⟨b,hb⟩:=H4.out k hlt;have hk0:(0:Int)<=k:=by omega
   have hk1:(k:Int)<20:=by omega
   have iQ:=ah (show wrap64 ((k:Int)+1)=((k+1:Nat):Int)by unfold wrap64;omega);rcases yZ (b.toList==s.toList)with hq|hq;·go_wp2;refine bodyPost_end (results_tmp2 rfl _ _ _) rfl ⟨⟨k,true,hlt,rfl⟩,rfl⟩
   ·go_wp2;exact⟨⟨k+1,hlt,rfl,trivial⟩,by simp[RowKit.intOf];omega⟩
  ·have hk1:¬(k:Int)<20:=by omega
   go_wp2;refine bodyPost_end (results_tmp2 rfl _ _ _) rfl ⟨⟨0,false,by omega,rfl⟩,rfl⟩
def xX (w:World) (g:Nat):Prop:=∃C:Array Value,w.heap[g]? =some (.cells C 4 (0,0))/\C.size=20/\∀j,j<20->∃b,C[j]? =some (.bool b)
theorem xX.below {w w':World} {g:Nat} (h:xX w g) (hb:Below w.heap.size w w'):xX w' g:=by obtain⟨C,h1,h2⟩:=h;exact⟨C,bM hb h1,h2⟩
theorem xX.at_ {w:World} {g:Nat} (h:xX w g) {j:Nat} (hj:j<20):∃b,w.cell? ⟨g,j,none⟩=some (.bool b):=by obtain⟨C,h1,h2,h3⟩:=h;obtain⟨b,hb⟩:=h3 j hj;exact⟨b,(bE _ _ _ _ _ _ h1).trans hb⟩
theorem xX.fz {w:World} {g:Nat} (h:xX w g) (j:Nat):w.frozen? ⟨g,j,none⟩=false:=by obtain⟨C,h1,_⟩:=h;simp[World.frozen?,h1]
theorem xX.set {w:World} {g:Nat} (h:xX w g) {j:Nat} (b:Bool):xX (w.setCell ⟨g,j,none⟩ (.bool b)) g:=by
 obtain⟨C,h1,h2,h3⟩:=h;refine⟨_,rR w g j _ _ _ h1,by rw[Array.size_setIfInBounds];exact h2,λi hi=> ?_⟩;rw[Array.getElem?_setIfInBounds];by_cases c:j=i;·subst c;rw[au rfl,au (by omega)];exact⟨b,rfl⟩
 ·rw[ak c];exact h3 i hi
theorem Tt:(Tryz.prog.info? 4).map (λi=>(i.zero,i.size,i.bytes))=some (some (.bool false),1,1):=by kernel_rfl
theorem OZ (w:World):(Instr.makeSlice 239 (.int .i64 20) (.int .i64 20)).run Tryz.prog w= .ok (.slice (some ⟨w.heap.size,0,none⟩) 20 20) (w.alloc (.cells (madeCells #[.bool false] 20) 4)):=by obtain⟨i,hi,hz0,hz1,hz2⟩:=iA Tt;have h:=run_makeSlice w 239 4 i _ Tryz.underlying239 hi hz0 .i64 .i64 20 20 (by decide) (by decide) (by rw[hz1];decide) (by rw[hz2];decide) (by decide);rw[hz1]at h;exact h
theorem xX.new (w:World):xX (w.alloc (.cells (madeCells #[.bool false] 20) 4)) w.heap.size:=
 ⟨_,dH w _,size_madeCells _ _,λj hj=>⟨false,by
  unfold madeCells;rw[Array.getElem?_map,Array.getElem?_range,au hj];show some _=_;have:j%(#[Value.bool false]).size=0:=Nat.mod_one j;dsimp only;rw[this];rfl⟩⟩
def ads (W:World) (e:Ending) (w':World):Prop:=(∃b,e= .returned (.bool b))/\w'=W
theorem adt (s:ByteArray) (d:Value) (g:Nat) (W:World) (h:sF W d) (hh:xX W g):Calls Tryz.prog 184 #[d, .slice (some ⟨g,0,none⟩) 20 20, .string s] W (ads W):=by have H:=ah h;have HH:=ah hh;clear h hh;go_enter Tryz.func184,Tryz.ntmps184;go_wp2_with (go_at_call 224;refine(Tq s d W H.out).mono ?_;rintro e w1 ⟨⟨k,x,hk,rfl⟩,rfl⟩;obtain⟨b,hb⟩:=HH.out.at_ hk;have hk0:(0:Int)<=k:=kF k;have hk1:(k:Int)<20:=by omega);go_ret;exact⟨⟨b,rfl⟩,rfl⟩
def DbN (W:World):Prop:=Calls Tryz.prog 75 #[] W λe w1=>∃d,e= .returned d/\Below W.heap.size W w1/\DbT w1 d dW 19/\sF w1 d
structure KS (w1:World) (A:Option Addr) (n:Nat) (l:List RN) (w:World):Prop where
 aD:Below w1.heap.size w1 w
 row:wT Fg 3 Sw w A n l
 has:xX w w1.heap.size
theorem KS.go {w1 w w':World} {A:Option Addr} {n:Nat} {l:List RN} (h:KS w1 A n l w) (hb:Below w.heap.size w w'):KS w1 A n l w':=
 ⟨h.aD.trans (hb.mono h.aD.size),h.row.below hb,h.has.below hb⟩
theorem KS.set {w1 w:World} {A:Option Addr} {n:Nat} {l:List RN} (h:KS w1 A n l w) {j:Nat} (b:Bool):KS w1 A n l (w.setCell ⟨w1.heap.size,j,none⟩ (.bool b)):=by
 refine⟨h.aD.setCell (p:=⟨w1.heap.size,j,none⟩) (ay _) _,⟨h.row.len,h.row.small,λh0=> ?_⟩,h.has.set b⟩;obtain⟨g,e,hg,hc⟩:=h.row.at_ h0;have hne:g≠w1.heap.size:=λc=>by subst c;have h1:=hc 0 h0 0 _ (by decide) rfl;obtain⟨b,h2⟩:=h.has.at_ (j:=0) (by decide);rw[jl,bL]at h1;rw[h1]at h2;injection h2 with h2;cases h2
 refine⟨g,e,?_,λk hk i u hi hu=> ?_⟩;·exact bC hg (Fr.set (T:=λk=>k=w1.heap.size) w ⟨w1.heap.size,j,none⟩ (.bool b) (λ_=>rfl)).size
 ·exact((Fr.set (T:=λk=>k=w1.heap.size) w ⟨w1.heap.size,j,none⟩ (.bool b) (λ_=>rfl)).cell (p:=⟨g,k*3+i,none⟩) hg hne).trans (hc k hk i u hi hu)
def MS (W:World) (e:Ending) (w':World):Prop:=(∃k:Int,e= .returned (.int .i64 k))/\Below W.heap.size W w'
theorem Xt (t:List UInt8) (W:World) (h:DbN W) (hn:t.length<=10000):Calls Tryz.prog 129 #[.string ⟨t.toArray⟩] W (MS W):=by
 have F8:=ah (λw=>Bd t w hn);have HM:=ah h;have HL:=ah (wC t);clear h hn;obtain⟨s,hs⟩:∃s:ByteArray,(⟨t.toArray⟩:ByteArray)=s:=⟨_,rfl⟩
 unfold Mv at F8;rw[hs]at F8⊢;clear hs;generalize wU t=l at F8 HL;have hmk:=λw=>OZ w;go_enter Tryz.func129,Tryz.ntmps129;go_wp2_with (first
  |(go_at_call 75;refine HM.out.mono ?_;rintro e w1 ⟨d,rfl,hb,hD,hN⟩;have HB1:=ah hb;have HD:=ah hD;have HN:=ah hN;obtain⟨D,o,S,oS,c,rfl,h1,h2,h3,h4⟩:=hN;have H1:=ah h1;have H2:=ah h2;have H3:=ah h3;have H4:=ah h4;clear hb hD h1 h2 h4)
  |(go_at_call 89;refine(F8.out _).mono ?_;rintro e w2 ⟨A,n,c2,rfl,hR,hb⟩;have HK:=ah (show KS w1 A n l w2 from⟨((aM _ w1).alloc (ay _) _).trans (hb.mono ((aM _ w1).alloc (ay _) (.cells (madeCells #[.bool false] 20) 4)).size),hR,(xX.new w1).below hb⟩);clear hb hR))
 go_loopw [6,7] (λvp vi wr=>∃(k:Nat) (p:Bool),k<=n/\vi= .int .i64 k/\vp= .bool p/\KS w1 A n l wr) (λ_ vi _=>n-(RowKit.intOf vi).toNat);case atStart=>exact⟨0,true,aL _,rfl,rfl,HK.out⟩
 case round=>
  obtain⟨k,p,hk,rfl,rfl,hK⟩:=hrel;have hd3:=(hK.aD.cell (p:=⟨D,o,none⟩) H1.out).trans H3.out;have HKR:=ah hK;clear hK HK;by_cases hlt:k<n
  ·obtain⟨g,rfl,hg,hc⟩:=HKR.out.row.at_ (by omega);have d1:=hc k hlt 0 _ (by decide) rfl;rw[cK]at d1;obtain⟨r,hr⟩:∃r:Nat,(l.getD k Sw).1=r:=⟨_,rfl⟩
   rw[hr]at d1;have hk0:(0:Int)<=k:=by omega
   have hk1:(k:Int)<n:=by omega
   have iQ:=ah (show wrap64 ((k:Int)+1)=((k+1:Nat):Int)by unfold wrap64;have:=HKR.out.row.small;omega);clear hr hc hg h3;obtain⟨q,hq,hq2⟩:∃q:Nat,fT dW (fD (r:Int))=(q:Int)/\q<20:=by have:=Ce Xr.cls (fD (r:Int));exact⟨(fT dW (fD (r:Int))).toNat,by omega,by omega⟩
   have hq0:(0:Int)<=q:=by omega
   have hq1:(q:Int)<20:=by omega
   have HQ:=ah hq;clear hq;go_wp2_with (go_at_call 162;refine(Xe Xr (r:Int) _ _ (kI HD.out HKR.out.aD)).mono ?_;rintro e w4 ⟨rfl,hb⟩;rw[HQ.out];have HK4:=ah (HKR.out.go hb);have HK5:=ah (HK4.out.set (j:=q) true);obtain⟨b4,hb4⟩:=HK4.out.has.at_ hq2;have hfz:=HK4.out.has.fz q;have hd5:=(HK5.out.aD.cell (p:=⟨D,o,none⟩) H1.out).trans H3.out;obtain⟨nm,hn1⟩:=H4.out q hq2;have hn5:=(HK5.out.aD.cell (p:=⟨S,oS+q,none⟩) H2.out).trans hn1;clear hb hn1 hd3 d1);all_goals exact⟨⟨k+1,_,hlt,by first|rw[iQ.out]|rfl,rfl,HK5.out⟩,by first|(rw[iQ.out];simp[RowKit.intOf];omega)|(simp[RowKit.intOf];omega)⟩
  ·have hk1:¬(k:Int)<n:=by omega
   have HN2:=ah (HN.out.below HKR.out.aD);have HE:=ah (HB1.out.trans (HKR.out.aD.mono HB1.out.size));have HH:=ah HKR.out.has;clear hd3 h3;cases p;all_goals go_wp2_with (go_at_call 184;refine(adt _ _ _ _ HN2.out HH.out).mono ?_;rintro e w4 ⟨⟨b,rfl⟩,rfl⟩;rcases b)
   all_goals go_ret
   all_goals exact⟨⟨_,rfl⟩,HE.out⟩
abbrev PZ:=Int×Int×Int
def XZ (x:PZ):List Value:=[.int .i64 x.1, .int .i64 x.2.1, .int .i64 x.2.2]
def X0:PZ:=(0,0,0)
theorem QU (x:PZ):(XZ x).length=3:=rfl
theorem QV:(Tryz.prog.info? 49).map (λi=>(i.zero,i.size,i.bytes))=some (some (.agg #[.int .i64 0, .int .i64 0, .int .i64 0]),3,24):=by kernel_rfl
def Between (ws:List Int) (acc:List PZ):Prop:=∀p∈acc,∃j,j+1<ws.length/\p.1=ws.getD j 0/\p.2.1=ws.getD (j+1) 0
def zQ (ws:List Int) (W:World) (e:Ending) (w':World):Prop:=∃A n c acc,e= .returned (.slice A n c)/\wT XZ 3 X0 w' A n acc/\Between ws acc/\n<=ws.length/\Below W.heap.size W w'
theorem O1 (t:List UInt8) (ws:List Int) (W:World) (hB:Sz ⟨t.toArray⟩ ws W) (hl:ws.length<=1000)
 (hw:∀j,j+1<ws.length->∃a b:Nat,ws.getD j 0=(a:Int)/\ws.getD (j+1) 0=(b:Int)/\a<=b/\b<=t.length)
 (hK:∀(x:List UInt8) (w:World),x.length<=t.length->Below W.heap.size W w->Calls Tryz.prog 129 #[.string ⟨x.toArray⟩] w (MS w)):
 Calls Tryz.prog 79 #[.string ⟨t.toArray⟩] W (zQ ws W):=by
 obtain⟨s,hs⟩:∃s:ByteArray,(⟨t.toArray⟩:ByteArray)=s:=⟨_,rfl⟩
 have hss:s.size=t.length:=size_mk t s hs;unfold Sz lM at hB;rw[hs]at hB⊢;have HS:=ah hs;have oI:=ah hss;have HBD:=ah hB;have HWS:=ah hw;have HKD:=ah hK;have XV:=ah hl;clear hs hss hB hw hK hl;obtain⟨i0,hI0,hz0,hz1,hz2⟩:=iA QV;go_enter Tryz.func79,Tryz.ntmps79;go_wp2_with (go_at_call 21;refine HBD.out.mono ?_;rintro e w1 ⟨A,n,c,rfl,hI,hb⟩;have HI:=ah hI;have HB1:=ah hb;clear hI hb);go_loopw [3,5] (λvo vi wr=>∃(k m:Nat) (Ao:Option Addr) (co:Nat) (acc:List PZ),1<=k/\(k<=n\/k=1)/\vi= .int .i64 k/\vo= .slice Ao m co/\m+1=k/\acc.length=m/\Acc XZ 3 49 w1 (.slice Ao m co) acc wr/\Between ws acc) (λ_ vi _=>n+1-(RowKit.intOf vi).toNat);case atStart=>exact⟨1,0,none,0,[],ay _, .inr rfl,rfl,rfl,rfl,rfl,Acc.nil _ _ _ _,λp hp=>absurd hp kG⟩
 case round=>
  obtain⟨k,m,Ao,co,acc,hk1,hk2,rfl,rfl,hmk,hm,hA,hbt⟩:=hrel;have hn1:n<=1000:=by have:=HI.out.len;have:=XV.out;omega
  by_cases hlt:k<n
  ·obtain⟨g,o,rfl,hg,hc⟩:=HI.out.at_ (by omega);have c1:=hc m (by omega);have c2:=hc k hlt;obtain⟨a,b,ea,eb,hab,hbl⟩:=HWS.out m (by rw[HI.out.len];omega);rw[hmk]at eb;rw[ea]at c1;rw[eb]at c2;have KEY:=ah (show ∀w,Below w1.heap.size w1 w->w.cell? ⟨g,o+m,none⟩=some (.int .i64 (a:Int))/\w.cell? ⟨g,o+k,none⟩=some (.int .i64 (b:Int))from λw hw=>⟨(hw.cell (p:=⟨g,o+m,none⟩) hg).trans c1,(hw.cell (p:=⟨g,o+k,none⟩) hg).trans c2⟩);have hm0:(0:Int)<=m:=kF m;have hm1:(m:Int)<n:=by omega
   have hk0:(0:Int)<=k:=kF k;have hkn:(k:Int)<n:=by omega
   have hwm:IntKind.i64.wrap ((k:Int)-1)=(m:Int):=by rw[IntKind.wrap_i64];omega
   have iQ:=ah (show wrap64 ((k:Int)+1)=((k+1:Nat):Int)by unfold wrap64;omega);obtain⟨x,hx⟩:∃x,(t.drop a).take (b-a)=x:=⟨_,rfl⟩
   have HXL:=ah (show x.length<=t.length by rw[<-hx,fF,dF];omega);have HSL:=ah (show ∀w,(Instr.slice 9 (.string s) (some (.int .i64 (a:Int))) (some (.int .i64 (b:Int))) none).run Tryz.prog w= .ok (.string ⟨x.toArray⟩) w from λw=>by
    rw[run_slice_string _ _ _ _ _ _ _ Tryz.underlying9 (kF a) (by omega) (by rw[oI.out];omega),jJ,jJ,<-HS.out,vR,hx])
   have HEX:=ah (show ∀q:Int,Between ws (acc++[((a:Int),(b:Int),q)])from λq p hp=>by
    rcases fZ.1 hp with h|h;·exact hbt p h
    ·obtain rfl:=dM.1 h;exact⟨m,by rw[HI.out.len];omega,ea.symm,by rw[hmk,eb]⟩)
   have HM:=ah hm;have TD:=ah hmk;have HN1:=ah hn1;have LY:=ah hlt;have HK1:=ah hk1;have HC:=ah hA.drewN;clear hA hx ea eb hab hbl c1 c2 hc hg hbt hm hmk hn1 hk1 hk2 hlt;go_upto_region 6 with fail;have HC:=ah (HC.out 1);refine BN (Below w1.heap.size w1) 99 (by kernel_rfl) ?_;(refine aB (i:=0) (v:= ?_) rfl (by kernel_rfl) (by kernel_rfl) (by kernel_rfl) (by kernel_rfl) (by exact λ_ _ _ h=>h) HC.out.aD (Or.inl ⟨by kernel_rfl,?_⟩) ?_;rotate_left;(focus (intro w hw;go_simp;try with_reducible rfl)));(try simp only[Act.put,bB,bA]);(try simp only[aI]);(try simp only[aK]);(try simp only[aJ]);(refine aB (i:=1) (v:= ?_) rfl (by kernel_rfl) (by kernel_rfl) (by kernel_rfl) (by kernel_rfl) (by exact λ_ _ _ h=>h) HC.out.aD (Or.inl ⟨by kernel_rfl,?_⟩) ?_;rotate_left;(focus (intro w hw;go_simp;try with_reducible rfl)));(try simp only[Act.put,bB,bD,bA]);(try simp only[aI]);(try simp only[aK]);(try simp only[aJ]);(refine aB (i:=2) (v:= ?_) rfl (by kernel_rfl) (by kernel_rfl) (by kernel_rfl) (by kernel_rfl) (by exact λ_ _ _ h=>h) HC.out.aD (Or.inl ⟨by kernel_rfl,?_⟩) ?_;rotate_left;(focus (intro w hw;go_simp;try with_reducible rfl)));(try simp only[Act.put,bB,bD,bA]);(try simp only[aI]);(try simp only[aK]);(try simp only[aJ]);(refine aB (i:=3) (v:= ?_) rfl (by kernel_rfl) (by kernel_rfl) (by kernel_rfl) (by kernel_rfl) (by exact λ_ _ _ h=>h) HC.out.aD (Or.inl ⟨by kernel_rfl,?_⟩) ?_;rotate_left;(focus (intro w hw;go_simp;try with_reducible rfl)));(try simp only[Act.put,bB,bD,bA]);(try simp only[aI]);(try simp only[aK]);(try simp only[aJ]);(refine aB (i:=4) (v:= ?_) rfl (by kernel_rfl) (by kernel_rfl) (by kernel_rfl) (by kernel_rfl) (by exact λ_ _ _ h=>h) HC.out.aD (Or.inl ⟨by kernel_rfl,?_⟩) ?_;rotate_left;(focus (intro w hw;go_simp;try with_reducible rfl)));(try simp only[Act.put,bB,bD,bA]);(try simp only[aI]);(try simp only[aK]);(try simp only[aJ]);(refine aB (i:=5) (v:= ?_) rfl (by kernel_rfl) (by kernel_rfl) (by kernel_rfl) (by kernel_rfl) (by exact λ_ _ _ h=>h) HC.out.aD (Or.inl ⟨by kernel_rfl,?_⟩) ?_;rotate_left;(focus (intro w hw;obtain⟨y1,y2⟩:=KEY.out w hw;go_simp;try with_reducible rfl)));(try simp only[Act.put,bB,bD,bA]);(try simp only[aI]);(try simp only[aK]);(try simp only[aJ]);(refine aB (i:=6) (v:= ?_) rfl (by kernel_rfl) (by kernel_rfl) (by kernel_rfl) (by kernel_rfl) (by exact λ_ _ _ h=>h) HC.out.aD (Or.inl ⟨by kernel_rfl,?_⟩) ?_;rotate_left;(focus (intro w hw;go_simp;try with_reducible rfl)));(try simp only[Act.put,bB,bD,bA]);(try simp only[aI]);(try simp only[aK]);(try simp only[aJ]);(refine aB (i:=7) (v:= ?_) rfl (by kernel_rfl) (by kernel_rfl) (by kernel_rfl) (by kernel_rfl) (by exact λ_ _ _ h=>h) HC.out.aD (Or.inl ⟨by kernel_rfl,?_⟩) ?_;rotate_left;(focus (intro w hw;go_simp;try with_reducible rfl)));(try simp only[Act.put,bB,bD,bA]);(try simp only[aI]);(try simp only[aK]);(try simp only[aJ]);(refine aB (i:=8) (v:= ?_) rfl (by kernel_rfl) (by kernel_rfl) (by kernel_rfl) (by kernel_rfl) (by exact λ_ _ _ h=>h) HC.out.aD (Or.inl ⟨by kernel_rfl,?_⟩) ?_;rotate_left;(focus (intro w hw;go_simp;try with_reducible rfl)));(try simp only[Act.put,bB,bD,bA]);(try simp only[aI]);(try simp only[aK]);(try simp only[aJ]);(refine aB (i:=9) (v:= ?_) rfl (by kernel_rfl) (by kernel_rfl) (by kernel_rfl) (by kernel_rfl) (by exact λ_ _ _ h=>h) HC.out.aD (Or.inl ⟨by kernel_rfl,?_⟩) ?_;rotate_left;(focus (intro w hw;obtain⟨y1,y2⟩:=KEY.out w hw;go_simp;try with_reducible rfl)));(try simp only[Act.put,bB,bD,bA]);(try simp only[aI]);(try simp only[aK]);(try simp only[aJ]);(refine aB (i:=10) (v:= ?_) rfl (by kernel_rfl) (by kernel_rfl) (by kernel_rfl) (by kernel_rfl) (by exact λ_ _ _ h=>h) HC.out.aD (Or.inl ⟨by kernel_rfl,?_⟩) ?_;rotate_left;(focus (intro w hw;go_simp;try with_reducible rfl)));(try simp only[Act.put,bB,bD,bA]);(try simp only[aI]);(try simp only[aK]);(try simp only[aJ]);(refine aB (i:=11) (v:= ?_) rfl (by kernel_rfl) (by kernel_rfl) (by kernel_rfl) (by kernel_rfl) (by exact λ_ _ _ h=>h) HC.out.aD (Or.inl ⟨by kernel_rfl,?_⟩) ?_;rotate_left;(focus (intro w hw;go_simp;try with_reducible rfl)));(try simp only[Act.put,bB,bD,bA]);(try simp only[aI]);(try simp only[aK]);(try simp only[aJ]);(refine aB (i:=12) (v:= ?_) rfl (by kernel_rfl) (by kernel_rfl) (by kernel_rfl) (by kernel_rfl) (by exact λ_ _ _ h=>h) HC.out.aD (Or.inl ⟨by kernel_rfl,?_⟩) ?_;rotate_left;(focus (intro w hw;go_simp;try with_reducible rfl)));(try simp only[Act.put,bB,bD,bA]);(try simp only[aI]);(try simp only[aK]);(try simp only[aJ]);(refine aB (i:=13) (v:= ?_) rfl (by kernel_rfl) (by kernel_rfl) (by kernel_rfl) (by kernel_rfl) (by exact λ_ _ _ h=>h) HC.out.aD (Or.inl ⟨by kernel_rfl,?_⟩) ?_;rotate_left;(focus (intro w hw;go_simp;try with_reducible rfl)));(try simp only[Act.put,bB,bD,bA]);(try simp only[aI]);(try simp only[aK]);(try simp only[aJ]);(refine aB (i:=14) (v:= ?_) rfl (by kernel_rfl) (by kernel_rfl) (by kernel_rfl) (by kernel_rfl) (by exact λ_ _ _ h=>h) HC.out.aD (Or.inl ⟨by kernel_rfl,?_⟩) ?_;rotate_left;(focus (intro w hw;go_simp;try with_reducible rfl)));(try simp only[Act.put,bB,bD,bA]);(try simp only[aI]);(try simp only[aK]);(try simp only[aJ]);(refine aB (i:=15) (v:= ?_) rfl (by kernel_rfl) (by kernel_rfl) (by kernel_rfl) (by kernel_rfl) (by exact λ_ _ _ h=>h) HC.out.aD (Or.inl ⟨by kernel_rfl,?_⟩) ?_;rotate_left;(focus (intro w hw;obtain⟨y1,y2⟩:=KEY.out w hw;go_simp;try with_reducible rfl)));(try simp only[Act.put,bB,bD,bA]);(try simp only[aI]);(try simp only[aK]);(try simp only[aJ]);(refine aB (i:=16) (v:= ?_) rfl (by kernel_rfl) (by kernel_rfl) (by kernel_rfl) (by kernel_rfl) (by exact λ_ _ _ h=>h) HC.out.aD (Or.inl ⟨by kernel_rfl,?_⟩) ?_;rotate_left;(focus (intro w hw;go_simp;try with_reducible rfl)));(try simp only[Act.put,bB,bD,bA]);(try simp only[aI]);(try simp only[aK]);(try simp only[aJ]);(refine aB (i:=17) (v:= ?_) rfl (by kernel_rfl) (by kernel_rfl) (by kernel_rfl) (by kernel_rfl) (by exact λ_ _ _ h=>h) HC.out.aD (Or.inl ⟨by kernel_rfl,?_⟩) ?_;rotate_left;(focus (intro w hw;go_simp;try with_reducible rfl)));(try simp only[Act.put,bB,bD,bA]);(try simp only[aI]);(try simp only[aK]);(try simp only[aJ]);(refine aB (i:=18) (v:= ?_) rfl (by kernel_rfl) (by kernel_rfl) (by kernel_rfl) (by kernel_rfl) (by exact λ_ _ _ h=>h) HC.out.aD (Or.inl ⟨by kernel_rfl,?_⟩) ?_;rotate_left;(focus (intro w hw;go_simp;try with_reducible rfl)));(try simp only[Act.put,bB,bD,bA]);(try simp only[aI]);(try simp only[aK]);(try simp only[aJ]);(refine aB (i:=19) (v:= ?_) rfl (by kernel_rfl) (by kernel_rfl) (by kernel_rfl) (by kernel_rfl) (by exact λ_ _ _ h=>h) HC.out.aD (Or.inl ⟨by kernel_rfl,?_⟩) ?_;rotate_left;(focus (intro w hw;obtain⟨y1,y2⟩:=KEY.out w hw;go_simp;try with_reducible rfl)));(try simp only[Act.put,bB,bD,bA]);(try simp only[aI]);(try simp only[aK]);(try simp only[aJ]);(refine aB (i:=20) (v:= ?_) rfl (by kernel_rfl) (by kernel_rfl) (by kernel_rfl) (by kernel_rfl) (by exact λ_ _ _ h=>h) HC.out.aD (Or.inl ⟨by kernel_rfl,?_⟩) ?_;rotate_left;(focus (intro w hw;have hsl:=HSL.out w;go_simp;try with_reducible rfl)));(try simp only[Act.put,bB,bD,bA]);(try simp only[aI]);(try simp only[aK]);(try simp only[aJ]);refine iC (i:=21) (by kernel_rfl) rfl (λK hK=> ?_);go_simp;refine(HKD.out x _ HXL.out (HB1.out.trans (HC.out.aD.mono HB1.out.size))).mono ?_;rintro e w2 ⟨⟨q,rfl⟩,hb⟩;have HC2:=ah (HC.out.below hb);clear hb;dsimp only;refine hK.out _ _ (Or.inr HC2.out.aD) ?_;clear hK K;(refine aB (i:=22) (v:= ?_) rfl (by kernel_rfl) (by kernel_rfl) (by kernel_rfl) (by kernel_rfl) (by exact λ_ _ _ h=>h) HC2.out.aD (Or.inl ⟨by kernel_rfl,?_⟩) ?_;rotate_left;(focus (intro w hw;go_simp;try with_reducible rfl)));(try simp only[Act.put,bB,bD,bA]);(try simp only[aI]);(try simp only[aK]);(try simp only[aJ]);refine iC (i:=23) (by kernel_rfl) rfl (λK hK=> ?_);go_simp;refine hK.out _ _ (Or.inr (HC2.out.alloc _).aD) ?_;clear hK K;refine iC (i:=24) (by kernel_rfl) rfl (λK hK=> ?_);have HOW:=ah (show(w2.alloc (.cells #[.int .i64 (a:Int), .int .i64 (b:Int), .int .i64 q] 49)).ownsRow w1.heap.size 49 3 (.slice Ao m co) m (mh XZ acc)from by have:=(HC2.out.alloc (.cells #[.int .i64 (a:Int), .int .i64 (b:Int), .int .i64 q] 49)).own;rwa [HM.out]at this);refine step_append_lies _ (by rfl) (.tmp 14) (.tmp 37) 45 (by rfl) w1.heap.size 49 i0 _ 3 24 Tryz.underlying45 hI0 hz0 hz1 hz2 rfl (by have:=HM.out;have:=TD.out;have:=HN1.out;have:=LY.out;omega) (.slice Ao m co) m (mh XZ acc) (by rfl) HOW.out ⟨_,0,none⟩ 1 1 [.int .i64 (a:Int), .int .i64 (b:Int), .int .i64 q] (by rfl) (by rfl) (Dg (dH _ _)) (acS _ _ _ rfl rfl rfl) (by have:=TD.out;have:=HN1.out;have:=LY.out;omega) (by have:=TD.out;have:=HN1.out;have:=LY.out;simp only[maxLen];omega) (by have:=TD.out;have:=HN1.out;have:=LY.out;omega) (HC2.out.alloc _).aD.size _ rfl ?_;intro g3 Mi w3 hown3 hgrow3 _ _;have XY:=ah ((HC2.out.alloc _).grown (x:=(((a:Int),(b:Int),q):PZ)) (by rw[HM.out]) hown3 hgrow3);clear hown3 hgrow3;refine hK.out _ _ (Or.inr XY.out.aD) ?_;clear hK K;refine iC (i:=25) (by kernel_rfl) rfl (λK hK=> ?_);go_simp;refine hK.out _ _ (Or.inr XY.out.aD) ?_;clear hK K;refine BM (by kernel_rfl) ?_ _;go_wp2_with fail;exact⟨⟨k+1,m+1,_,_,_,by omega, .inl LY.out,by first|rw[iQ.out]|rfl,rfl,by rw[TD.out],by rw[List.length_append,HM.out,List.length_singleton],XY.out,HEX.out q⟩,by first|(rw[iQ.out];simp[RowKit.intOf];omega)|(simp[RowKit.intOf];omega)⟩
  ·have hkn:¬(k:Int)<n:=by omega
   have HA:=ah hA;have HBT:=ah hbt;have XU:=ah (show m<=ws.length by have:=HI.out.len;omega);have hm3:m<=100000:=by omega
   clear hA hbt hmk hk2;go_wp2_with fail;go_ret;have ho:=HA.out.own;rw[hm]at ho;exact⟨Ao,m,co,acc,rfl,Bc QU X0 hm ho hm3,HBT.out,XU.out,HB1.out.trans (HA.out.aD.mono HB1.out.size)⟩
theorem FH {w:World} {A:Option Addr} {n:Nat} {l:List PZ} (h:wT XZ 3 X0 w A n l) {k:Nat} (hk:k<n):∃g,A=some ⟨g,0,none⟩/\g<w.heap.size/\w.cell? ⟨g,k*3,none⟩=some (.int .i64 (l.getD k X0).1)/\w.cell? ⟨g,k*3+1,none⟩=some (.int .i64 (l.getD k X0).2.1)/\w.cell? ⟨g,k*3+2,none⟩=some (.int .i64 (l.getD k X0).2.2):=by obtain⟨g,e,hg,hc⟩:=h.at_ (by omega);exact⟨g,e,hg,hc k hk 0 _ (by decide) rfl,hc k hk 1 _ (by decide) rfl,hc k hk 2 _ (by decide) rfl⟩
theorem Xu {l:List PZ} {k:Nat} (hk:k<l.length):l.getD k X0∈l:=by rw[aU,bJ hk];exact mK hk
theorem Tv (s:ByteArray) (ws:List Int) (W:World) (hl:ws.length<=1000) (hP:Calls Tryz.prog 79 #[.string s] W (zQ ws W)):Calls Tryz.prog 24 #[.string s] W (zQ ws W):=by
 unfold zQ at hP;have HP:=ah hP;have XV:=ah hl;clear hP hl;obtain⟨i0,hI0,hz0,hz1,hz2⟩:=iA QV;go_enter Tryz.func24,Tryz.ntmps24;go_wp2_with (go_at_call 79;refine HP.out.mono ?_;rintro e w1 ⟨A,n,c,L,rfl,hR,hbt,hn,hb⟩;have HR:=ah hR;have HB1:=ah hb;have HBT:=ah hbt;have HN:=ah hn;clear hR hb hbt hn);go_loopw [3,5] (λvo vi wr=>∃(k m:Nat) (Ao:Option Addr) (co:Nat) (acc:List PZ),k<=n/\vi= .int .i64 k/\vo= .slice Ao m co/\m<=k/\acc.length=m/\Acc XZ 3 49 w1 (.slice Ao m co) acc wr/\Between ws acc) (λ_ vi _=>n-(RowKit.intOf vi).toNat);case atStart=>exact⟨0,0,none,0,[],aL _,rfl,rfl,ay _,rfl,Acc.nil _ _ _ _,λp hp=>absurd hp kG⟩
 case round=>
  obtain⟨k,m,Ao,co,acc,hk,rfl,rfl,hmk,hm,hA,hbt⟩:=hrel;have hn1:n<=1000:=by have:=HN.out;have:=XV.out;omega
  by_cases hlt:k<n
  ·have HPM:=ah (HBT.out _ (Xu (show k<L.length by rw[HR.out.len];exact hlt)));obtain⟨g,rfl,hg,d0,d1,d2⟩:=FH HR.out hlt;obtain⟨⟨a,b,q⟩,hp⟩:∃p:PZ,L.getD k X0=p:=⟨_,rfl⟩
   rw[hp]at d0 d1 d2 HPM;dsimp only at d0 d1 d2;have e0:=(hA.aD.cell (p:=⟨g,k*3,none⟩) hg).trans d0;have e1:=(hA.aD.cell (p:=⟨g,k*3+1,none⟩) hg).trans d1;have e2:=(hA.aD.cell (p:=⟨g,k*3+2,none⟩) hg).trans d2;have hk0:(0:Int)<=k:=kF k;have hkn:(k:Int)<n:=by omega
   have iQ:=ah (show wrap64 ((k:Int)+1)=((k+1:Nat):Int)by unfold wrap64;omega);have HA:=ah hA;have HBA:=ah hbt;have HM:=ah hm;have TD:=ah hmk;have agl:=ah (show m+1<=maxLen/\(m+1)*24<=0x800000000000 by simp only[maxLen];omega);have hm4:m<=1000:=by omega
   clear hp d0 d1 d2 hg hA hbt hm hmk;by_cases hq:(3:Int)<=q
   ·have HOW:=ah (show(wr.alloc (.cells #[.int .i64 a, .int .i64 b, .int .i64 q] 49)).ownsRow w1.heap.size 49 3 (.slice Ao m co) m (mh XZ acc)from by have:=(HA.out.alloc (.cells #[.int .i64 a, .int .i64 b, .int .i64 q] 49)).own;rwa [HM.out]at this);have HX:=ah (show Between ws (acc++[((a,b,q):PZ)])from λp hp=>by
     rcases fZ.1 hp with h|h;·exact HBA.out p h
     ·obtain rfl:=dM.1 h;exact HPM.out)
    have HAL:=ah (HA.out.alloc (.cells #[.int .i64 a, .int .i64 b, .int .i64 q] 49));go_wp2_with (at_builtin;refine zi _ rfl (.tmp 20) (.tmp 25) 45 rfl w1.heap.size 49 i0 _ 3 24 Tryz.underlying45 hI0 hz0 hz1 hz2 rfl (by omega) _ m (mh XZ acc) rfl HOW.out ⟨wr.heap.size,0,none⟩ 1 1 [.int .i64 a, .int .i64 b, .int .i64 q] rfl rfl (Dg (dH _ _)) (acS _ _ _ rfl rfl rfl) (by omega) agl.out.1 agl.out.2 HAL.out.aD.size _ rfl ?_;intro g3 Mi w3 hown3 hgrow3 _ _;have XY:=ah (HAL.out.grown (x:=((a,b,q):PZ)) (by rw[HM.out]) hown3 hgrow3);clear hown3 hgrow3);exact⟨⟨k+1,m+1,_,_,_,hlt,by first|rw[iQ.out]|rfl,rfl,by have:=TD.out;omega,by rw[List.length_append,HM.out,List.length_singleton],XY.out,HX.out⟩,by first|(rw[iQ.out];simp[RowKit.intOf];omega)|(simp[RowKit.intOf];omega)⟩
   ·go_wp2_with fail;exact⟨⟨k+1,m,Ao,co,acc,hlt,by first|rw[iQ.out]|rfl,rfl,by have:=TD.out;omega,HM.out,HA.out,HBA.out⟩,by first|(rw[iQ.out];simp[RowKit.intOf];omega)|(simp[RowKit.intOf];omega)⟩
  ·have hkn:¬(k:Int)<n:=by omega
   have HA:=ah hA;have HBA:=ah hbt;have XU:=ah (show m<=ws.length by have:=HN.out;omega);have hm3:m<=100000:=by omega
   clear hA hbt hmk;go_wp2_with fail;go_ret;have ho:=HA.out.own;rw[hm]at ho;exact⟨Ao,m,co,acc,rfl,Bc QU X0 hm ho hm3,HBA.out,XU.out,HB1.out.trans (HA.out.aD.mono HB1.out.size)⟩
def QW (w:World):Prop:=Calls Tryz.prog 14 #[] w λe w'=>e= .returned (.bool true)/\Below w.heap.size w w'
def Dt (W:World) (e:Ending) (w':World):Prop:=e= .returned (.bool true)/\Below W.heap.size W w'
theorem iX (s:ByteArray):(⟨s.data.toList.toArray⟩:ByteArray)=s:=by rw[Array.toArray_toList]
structure SW (W:World) (A0 A1 A2 A3 Ab:Option Addr) (n0 n1 n2 n3 nb:Nat) (P F T V:List (Nat×Nat)) (ws:List Int) (w:World):Prop where
 aD:Below W.heap.size W w
 p:Cr w A0 n0 P
 f:Cr w A1 n1 F
 t:Cr w A2 n2 T
 v:Cr w A3 n3 V
 b:cB w Ab nb ws
theorem SW.go {W w w':World} {A0 A1 A2 A3 Ab:Option Addr} {n0 n1 n2 n3 nb:Nat} {P F T V:List (Nat×Nat)} {ws:List Int} (h:SW W A0 A1 A2 A3 Ab n0 n1 n2 n3 nb P F T V ws w) (hb:Below w.heap.size w w'):SW W A0 A1 A2 A3 Ab n0 n1 n2 n3 nb P F T V ws w':=
 ⟨h.aD.trans (hb.mono h.aD.size),h.p.below hb,h.f.below hb,h.t.below hb,h.v.below hb,eU h.b hb⟩
theorem SW.drew {W w:World} {A0 A1 A2 A3 Ab:Option Addr} {n0 n1 n2 n3 nb:Nat} {P F T V:List (Nat×Nat)} {ws:List Int} (h:SW W A0 A1 A2 A3 Ab n0 n1 n2 n3 nb P F T V ws w):SW W A0 A1 A2 A3 Ab n0 n1 n2 n3 nb P F T V ws w.drew:=
 ⟨⟨h.aD.os,h.aD.tape,h.aD.output,h.aD.size,h.aD.block⟩,⟨h.p.len,h.p.small,h.p.at_,h.p.ty⟩,⟨h.f.len,h.f.small,h.f.at_,h.f.ty⟩,⟨h.t.len,h.t.small,h.t.at_,h.t.ty⟩,⟨h.v.len,h.v.small,h.v.at_,h.v.ty⟩,⟨h.b.len,h.b.small,h.b.at_⟩⟩
structure TW (W:World) (A:Option Addr) (n:Nat) (acc:List PZ) (w:World):Prop where
 aD:Below W.heap.size W w
 row:wT XZ 3 X0 w A n acc
theorem TW.go {W w w':World} {A:Option Addr} {n:Nat} {acc:List PZ} (h:TW W A n acc w) (hb:Below w.heap.size w w'):TW W A n acc w':=⟨h.aD.trans (hb.mono h.aD.size),h.row.below hb⟩
theorem TW.drew {W w:World} {A:Option Addr} {n:Nat} {acc:List PZ} (h:TW W A n acc w):TW W A n acc w.drew:=⟨⟨h.aD.os,h.aD.tape,h.aD.output,h.aD.size,h.aD.block⟩,⟨h.row.len,h.row.small,h.row.at_⟩⟩
theorem qK {w:World} {A:Option Addr} {n:Nat} {l:List (Nat×Nat)} (h:Cr w A n l) {k:Nat} (hk:k<n):∃g,A=some ⟨g,0,none⟩/\w.cell? ⟨g,k*2,none⟩=some (.int .i64 ((l.getD k Left.m0).1:Nat))/\w.cell? ⟨g,k*2+1,none⟩=some (.int .i64 ((l.getD k Left.m0).2:Nat)):=by obtain⟨g,rfl,hg,hc⟩:=h.at_ (by omega);obtain⟨c0,c1⟩:=hc k hk;exact⟨g,rfl,c0,c1⟩
theorem O4 (s t:ByteArray) (P F T V:List (Nat×Nat)) (ws:List Int) (W:World) (hs:s.size<=48) (ht:t.size<=40)
 (hlive:∀w,Below W.heap.size W w->QW w)
 (hln:P.length<=100/\F.length<=100/\T.length<=100/\V.length<=100)
 (hP:∀w,Below W.heap.size W w->Calls Tryz.prog 16 #[.string s, .string t, .agg #[.bool false, .bool false, .bool false]] w (jg P w))
 (hF:∀w,Below W.heap.size W w->Calls Tryz.prog 16 #[.string s, .string t, .agg #[.bool true, .bool false, .bool false]] w (jg F w))
 (hT:∀w,Below W.heap.size W w->Calls Tryz.prog 16 #[.string s, .string t, .agg #[.bool false, .bool true, .bool false]] w (jg T w))
 (hV:∀w,Below W.heap.size W w->Calls Tryz.prog 16 #[.string s, .string t, .agg #[.bool false, .bool false, .bool true]] w (jg V w))
 (hB:∀w,Below W.heap.size W w->Sz s ws w)
 (hW:∀w,Below W.heap.size W w->Calls Tryz.prog 24 #[.string s] w (zQ ws w))
 (hVP:∀m∈V,m∈P/\(m.1:Int)∈ws/\(m.2:Int)∈ws) (hTP:∀m∈T,m∈P)
 (hPF:∀m∈P,m∈F/\m.1<=m.2/\m.2<=s.size/\s.extract m.1 m.2=t)
 (hI:∀j,j+1<ws.length->∃a b:Nat,ws.getD j 0=(a:Int)/\ws.getD (j+1) 0=(b:Int)/\a<=b/\b<=s.size/\∀w,Below W.heap.size W w->Calls Tryz.prog 25 #[.string s, .string (s.extract a b), .agg #[.bool false, .bool false, .bool true], .int .i64 a, .int .i64 b] w λe w'=>e= .returned (.bool true)/\Below w.heap.size w w'):
 Calls Tryz.prog 6 #[.string s, .string t] W (Dt W):=by
 have HL:=ah hlive;have HP:=ah hP;have HF:=ah hF;have HT:=ah hT;have HV:=ah hV;have HB:=ah hB;have HW:=ah hW;have HVP:=ah hVP;have HTP:=ah hTP;have HPF:=ah hPF;have HI:=ah hI;have MG:=ah hln;have hs1:¬(48:Int)<s.size:=by omega
 have ht1:¬(40:Int)<t.size:=by omega
 have oI:=ah hs;clear hlive hP hF hT hV hB hW hVP hTP hPF hI hln hs ht;go_enter Tryz.func6,Tryz.ntmps6;go_wp2_with (first
  |(go_at_call 21;refine(HB.out w4 FT.out).mono ?_;rintro e w5 ⟨Ab,nb,cb,rfl,ZT,hb5⟩;have HS5:=ah (show SW W _ _ _ _ _ _ _ _ _ _ P F T V ws w5 from⟨FT.out.trans (hb5.mono FT.out.size),HM4.out.below hb5,HN4.out.below hb5,HO4.out.below hb5,HQ4.out.below hb5,ZT⟩);clear R6 V3 HM3 HM4 HN2 HN3 HN4 HO3 HO4 HQ4 HB1 HB2 HB3 FT ZT hb5)
  |(go_at_call 16;refine(HV.out w3 HB3.out).mono ?_;rintro e w4 ⟨v3,rfl,hb4,Xv⟩;obtain⟨A3,c3,rfl,_⟩:=jf Xv;have FT:=ah (HB3.out.trans (hb4.mono HB3.out.size));have HM4:=ah (HM3.out.below hb4);have HN4:=ah (HN3.out.below hb4);have HO4:=ah (HO3.out.below hb4);have HQ4:=ah (uD rfl Xv (bn MG.out.2.2.2 (by decide)));clear hb4 Xv)
  |(go_at_call 16;refine(HT.out w2 HB2.out).mono ?_;rintro e w3 ⟨v2,rfl,hb3,hown3⟩;obtain⟨A2,c2,rfl,_⟩:=jf hown3;have HB3:=ah (HB2.out.trans (hb3.mono HB2.out.size));have HM3:=ah (V3.out.below hb3);have HN3:=ah (HN2.out.below hb3);have HO3:=ah (uD rfl hown3 (bn MG.out.2.2.1 (by decide)));clear hb3 hown3)
  |(go_at_call 16;refine(HF.out w1 HB1.out).mono ?_;rintro e w2 ⟨v1,rfl,hb2,hown2⟩;obtain⟨A1,c1,rfl,_⟩:=jf hown2;have HB2:=ah (HB1.out.trans (hb2.mono HB1.out.size));have V3:=ah (R6.out.below hb2);have HN2:=ah (uD rfl hown2 (bn MG.out.2.1 (by decide)));clear hb2 hown2)
  |(go_at_call 16;refine(HP.out W (aM _ W)).mono ?_;rintro e w1 ⟨v0,rfl,hb1,hown1⟩;obtain⟨A0,c0,rfl,_⟩:=jf hown1;have HB1:=ah hb1;have R6:=ah (uD rfl hown1 (bn MG.out.1 (by decide)));clear hb1 hown1))
 obtain⟨n3,hn3⟩:∃n,V.length=n:=⟨_,rfl⟩
 obtain⟨n2,hn2⟩:∃n,T.length=n:=⟨_,rfl⟩
 obtain⟨n0,hn0⟩:∃n,P.length=n:=⟨_,rfl⟩
 rw[hn0,hn2,hn3]at MG HS5;rw[hn0,hn2,hn3];have HN0:=ah hn0;have HN2:=ah hn2;have HN3:=ah hn3;clear hn0 hn2 hn3 HP HF HT HV HB;go_loopw [10] (λvi wr=>∃k:Nat,k<=n3/\vi= .int .i64 k/\SW W A0 A1 A2 A3 Ab n0 F.length n2 n3 nb P F T V ws wr) (λvi _=>n3-(RowKit.intOf vi).toNat);case atStart=>exact⟨0,aL _,rfl,HS5.out⟩
 case round=>
  obtain⟨k,hk,rfl,hS⟩:=hrel;have HS:=ah hS;clear hS HS5;by_cases hlt:k<n3
  ·obtain⟨g,rfl,d0,d1⟩:=qK HS.out.v hlt;obtain⟨f1,f2,f3⟩:=HVP.out _ (Left.EP (show k<V.length by rw[HN3.out];exact hlt));obtain⟨⟨a,b⟩,hp⟩:∃p,V.getD k Left.m0=p:=⟨_,rfl⟩
   rw[hp]at d0 d1 f1 f2 f3;dsimp only at d0 d1 f2 f3;have HIN:=ah (zO f1);have HD1:=ah (bg f2);have HD2:=ah (bg f3);have hk0:(0:Int)<=k:=kF k;have hkn:(k:Int)<n3:=by omega
   have iQ:=ah (show wrap64 ((k:Int)+1)=((k+1:Nat):Int)by unfold wrap64;have:=MG.out;omega);have HC:=ah (show ∀w,SW W A0 A1 A2 (some ⟨g,0,none⟩) Ab n0 F.length n2 n3 nb P F T V ws w->w.cell? ⟨g,k*2,none⟩=some (.int .i64 (a:Int))/\w.cell? ⟨g,k*2+1,none⟩=some (.int .i64 (b:Int))from λw hw=>by
    obtain⟨g',e,c0,c1⟩:=qK hw.v hlt;cases e;rw[hp]at c0 c1;exact⟨c0,c1⟩)
   clear hp f1 f2 f3;go_wp2_with (first
    |(go_at_call 22;refine(OY P (a:Int) (b:Int) _ _ _ wr HS.out.p).mono ?_;rintro e w6 ⟨rfl,hb⟩;rw[HIN.out];have HS6:=ah (HS.out.go hb);obtain⟨x0,x1⟩:=HC.out _ HS6.out;clear hb d0 d1)
    |(go_at_call 23;refine(Mw ws (a:Int) _ _ _ w6 HS6.out.b).mono ?_;rintro e w7 ⟨rfl,rfl⟩;rw[HD1.out])
    |(go_at_call 23;refine(Mw ws (b:Int) _ _ _ _ HS6.out.b).mono ?_;rintro e w7 ⟨rfl,rfl⟩;rw[HD2.out]))
   exact⟨⟨k+1,hlt,by first|rw[iQ.out]|rfl,HS6.out⟩,by first|(rw[iQ.out];simp[RowKit.intOf];omega)|(simp[RowKit.intOf];omega)⟩
  ·have hkn:¬(k:Int)<n3:=by omega
   go_wp2_with fail;clear hkn hlt hk;go_loopw [11] (λvi wr=>∃k:Nat,k<=n2/\vi= .int .i64 k/\SW W A0 A1 A2 A3 Ab n0 F.length n2 n3 nb P F T V ws wr) (λvi _=>n2-(RowKit.intOf vi).toNat);case atStart=>exact⟨0,aL _,rfl,HS.out⟩
   case round=>
    obtain⟨k,hk,rfl,hS⟩:=hrel;have HS:=ah hS;clear hS;by_cases hlt:k<n2
    ·obtain⟨g,rfl,d0,d1⟩:=qK HS.out.t hlt;have f1:=HTP.out _ (Left.EP (show k<T.length by rw[HN2.out];exact hlt));obtain⟨⟨a,b⟩,hp⟩:∃p,T.getD k Left.m0=p:=⟨_,rfl⟩
     rw[hp]at d0 d1 f1;dsimp only at d0 d1;have HIN:=ah (zO f1);have hk0:(0:Int)<=k:=kF k;have hkn:(k:Int)<n2:=by omega
     have iQ:=ah (show wrap64 ((k:Int)+1)=((k+1:Nat):Int)by unfold wrap64;have:=MG.out;omega);clear hp f1;go_wp2_with (go_at_call 22;refine(OY P (a:Int) (b:Int) _ _ _ _ HS.out.p).mono ?_;rintro e w6 ⟨rfl,hb⟩;rw[HIN.out];have HS6:=ah (HS.out.go hb);clear hb d0 d1);exact⟨⟨k+1,hlt,by first|rw[iQ.out]|rfl,HS6.out⟩,by first|(rw[iQ.out];simp[RowKit.intOf];omega)|(simp[RowKit.intOf];omega)⟩
    ·have hkn:¬(k:Int)<n2:=by omega
     go_wp2_with fail;clear hkn hlt hk;go_loopw [12] (λvi wr=>∃k:Nat,k<=n0/\vi= .int .i64 k/\SW W A0 A1 A2 A3 Ab n0 F.length n2 n3 nb P F T V ws wr) (λvi _=>n0-(RowKit.intOf vi).toNat);case atStart=>exact⟨0,aL _,rfl,HS.out⟩
     case round=>
      obtain⟨k,hk,rfl,hS⟩:=hrel;have HS:=ah hS;clear hS;by_cases hlt:k<n0
      ·obtain⟨g,rfl,d0,d1⟩:=qK HS.out.p hlt;obtain⟨f1,f2,f3,f4⟩:=HPF.out _ (Left.EP (show k<P.length by rw[HN0.out];exact hlt));obtain⟨⟨a,b⟩,hp⟩:∃p,P.getD k Left.m0=p:=⟨_,rfl⟩
       rw[hp]at d0 d1 f1 f2 f3 f4;dsimp only at d0 d1 f2 f3 f4;have HIN:=ah (zO f1);have HC:=ah (show ∀w,SW W (some ⟨g,0,none⟩) A1 A2 A3 Ab n0 F.length n2 n3 nb P F T V ws w->w.cell? ⟨g,k*2,none⟩=some (.int .i64 (a:Int))/\w.cell? ⟨g,k*2+1,none⟩=some (.int .i64 (b:Int))from λw hw=>by
        obtain⟨g',e,c0,c1⟩:=qK hw.p hlt;cases e;rw[hp]at c0 c1;exact⟨c0,c1⟩)
       have HSL:=ah (show ∀w,(Instr.slice 9 (.string s) (some (.int .i64 (a:Int))) (some (.int .i64 (b:Int))) none).run Tryz.prog w= .ok (.string t) w from λw=>by
        rw[run_slice_string _ _ _ _ _ _ _ Tryz.underlying9 (kF a) (by omega) (by omega),jJ,jJ,f4])
       have hk0:(0:Int)<=k:=kF k;have hkn:(k:Int)<n0:=by omega
       have iQ:=ah (show wrap64 ((k:Int)+1)=((k+1:Nat):Int)by unfold wrap64;have:=MG.out;omega);clear hp f1 f2 f3 f4 d0 d1;go_upto_region 19 with fail;have hb:SW W (some ⟨g,0,none⟩) A1 A2 A3 Ab n0 F.length n2 n3 nb P F T V ws (wr.drewN 1):=HS.out.drew;refine dZ (C:=SW W (some ⟨g,0,none⟩) A1 A2 A3 Ab n0 F.length n2 n3 nb P F T V ws) (by kernel_rfl) (by kernel_rfl) hb ?_;clear hb;go_big_quiet_step (exact λ_=>rfl);go_big_quiet_step (exact λ_=>rfl);go_big_quiet_step (exact λ_=>rfl);refine aV (by kernel_rfl) (λK hK=> ?_);refine aQ (.pointer (some ⟨g,k*2,none⟩)) (λw hw=> ?_) (hK _ ?_);·go_simp
       clear hK K;(try simp only[Act.put]);(try simp only[aI]);(try simp only[aK]);(try simp only[aJ]);refine aV (by kernel_rfl) (λK hK=> ?_);refine aQ (.agg #[.int .i64 (a:Int), .int .i64 (b:Int)]) (λw hw=> ?_) (hK _ ?_);·obtain⟨x0,x1⟩:=HC.out w hw;go_simp
       clear hK K;(try simp only[Act.put]);(try simp only[aI]);(try simp only[aK]);(try simp only[aJ]);refine aV (by kernel_rfl) (λK hK=> ?_);refine gB 22 #[.slice A1 F.length c1, .agg #[.int .i64 (a:Int), .int .i64 (b:Int)]] (.bool true) (λw hw=> ?_) (λw hw=> ?_) (hK _ ?_);·go_simp
       ·refine(OY F (a:Int) (b:Int) _ _ _ w hw.f).mono ?_;rintro e w2 ⟨rfl,hb⟩;rw[HIN.out];exact⟨rfl,hw.go hb⟩
       clear hK K;(try simp only[Act.put]);(try simp only[aI]);(try simp only[aK]);(try simp only[aJ]);refine aV (by kernel_rfl) (λK hK=> ?_);refine aQ (.bool false) (λw hw=> ?_) (hK _ ?_);·go_simp
       clear hK K;(try simp only[Act.put]);(try simp only[aI]);(try simp only[aK]);(try simp only[aJ]);go_big_quiet_step (exact λ_=>rfl);go_big_quiet_step (exact λ_=>rfl);go_big_quiet_step (exact λ_=>rfl);go_big_quiet_step (exact λ_=>rfl);refine aV (by kernel_rfl) (λK hK=> ?_);refine aQ (.pointer (some ⟨g,k*2,none⟩)) (λw hw=> ?_) (hK _ ?_);·go_simp
       clear hK K;(try simp only[Act.put]);(try simp only[aI]);(try simp only[aK]);(try simp only[aJ]);refine aV (by kernel_rfl) (λK hK=> ?_);refine aQ (.pointer (some ⟨g,k*2,none⟩)) (λw hw=> ?_) (hK _ ?_);·go_simp
       clear hK K;(try simp only[Act.put]);(try simp only[aI]);(try simp only[aK]);(try simp only[aJ]);refine aV (by kernel_rfl) (λK hK=> ?_);refine aQ (.int .i64 (a:Int)) (λw hw=> ?_) (hK _ ?_);·obtain⟨x0,x1⟩:=HC.out w hw;go_simp
       clear hK K;(try simp only[Act.put]);(try simp only[aI]);(try simp only[aK]);(try simp only[aJ]);go_big_quiet_step (exact λ_=>rfl);go_big_quiet_step (exact λ_=>rfl);refine aV (by kernel_rfl) (λK hK=> ?_);refine aQ (.pointer (some ⟨g,k*2,none⟩)) (λw hw=> ?_) (hK _ ?_);·go_simp
       clear hK K;(try simp only[Act.put]);(try simp only[aI]);(try simp only[aK]);(try simp only[aJ]);refine aV (by kernel_rfl) (λK hK=> ?_);refine aQ (.pointer (some ⟨g,k*2+1,none⟩)) (λw hw=> ?_) (hK _ ?_);·go_simp
       clear hK K;(try simp only[Act.put]);(try simp only[aI]);(try simp only[aK]);(try simp only[aJ]);refine aV (by kernel_rfl) (λK hK=> ?_);refine aQ (.int .i64 (b:Int)) (λw hw=> ?_) (hK _ ?_);·obtain⟨x0,x1⟩:=HC.out w hw;go_simp
       clear hK K;(try simp only[Act.put]);(try simp only[aI]);(try simp only[aK]);(try simp only[aJ]);refine aV (by kernel_rfl) (λK hK=> ?_);refine aQ (.string t) (λw hw=> ?_) (hK _ ?_);·have hsl:=HSL.out w;go_simp
       clear hK K;(try simp only[Act.put]);(try simp only[aI]);(try simp only[aK]);(try simp only[aJ]);go_big_quiet_step (exact λ_=>rfl);refine aV (by kernel_rfl) (λK hK=> ?_);refine aQ (.bool false) (λw hw=> ?_) (hK _ ?_);·go_simp
       clear hK K;(try simp only[Act.put]);(try simp only[aI]);(try simp only[aK]);(try simp only[aJ]);refine aV (by kernel_rfl) (λK hK=> ?_);refine aQ (.bool false) (λw hw=> ?_) (hK _ ?_);·go_simp
       clear hK K;(try simp only[Act.put]);(try simp only[aI]);(try simp only[aK]);(try simp only[aJ]);refine wpQuiet_nil ?_;intro w' hw';have HW':=ah hw';clear hw';go_wp2_with fail;exact⟨⟨k+1,hlt,by first|rw[iQ.out]|rfl,HW'.out⟩,by first|(rw[iQ.out];simp[RowKit.intOf];omega)|(simp[RowKit.intOf];omega)⟩
      ·have hkn:¬(k:Int)<n0:=by omega
       go_wp2_with (go_at_call 24;refine(HW.out _ HS.out.aD).mono ?_;rintro e w6 ⟨Aw,nw,cw,acc,rfl,hR,hbt,hn,hb⟩;have HT6:=ah (show TW W Aw nw acc w6 from⟨HS.out.aD.trans (hb.mono HS.out.aD.size),hR⟩);have HBT:=ah hbt;clear hb hR hbt hn);clear hkn hlt hk HS;go_loopw [14] (λvi wr=>∃k:Nat,k<=nw/\vi= .int .i64 k/\TW W Aw nw acc wr) (λvi _=>nw-(RowKit.intOf vi).toNat);case atStart=>exact⟨0,aL _,rfl,HT6.out⟩
       case round=>
        obtain⟨k,hk,rfl,hS⟩:=hrel;have HS:=ah hS;clear hS HT6;by_cases hlt:k<nw
        ·obtain⟨g,rfl,hg,d0,d1,d2⟩:=FH HS.out.row hlt;obtain⟨j,hj,j1,j2⟩:=HBT.out _ (Xu (show k<acc.length by rw[HS.out.row.len];exact hlt));obtain⟨a,b,e1,e2,hab,hbs,his⟩:=HI.out j hj;rw[j1,e1]at d0;rw[j2,e2]at d1;have HC:=ah (show ∀w,TW W (some ⟨g,0,none⟩) nw acc w->w.cell? ⟨g,k*3,none⟩=some (.int .i64 (a:Int))/\w.cell? ⟨g,k*3+1,none⟩=some (.int .i64 (b:Int))from λw hw=>by
          obtain⟨g',e,_,c0,c1,_⟩:=FH hw.row hlt;cases e;rw[j1,e1]at c0;rw[j2,e2]at c1;exact⟨c0,c1⟩)
         have HIS:=ah his;have HSL:=ah (show ∀w,(Instr.slice 9 (.string s) (some (.int .i64 (a:Int))) (some (.int .i64 (b:Int))) none).run Tryz.prog w= .ok (.string (s.extract a b)) w from λw=>by
          rw[run_slice_string _ _ _ _ _ _ _ Tryz.underlying9 (kF a) (by omega) (by omega),jJ,jJ])
         have hk0:(0:Int)<=k:=kF k;have hkn:(k:Int)<nw:=by omega
         have iQ:=ah (show wrap64 ((k:Int)+1)=((k+1:Nat):Int)by unfold wrap64;have:=HS.out.row.small;omega);clear d0 d1 d2 j1 j2 e1 e2 hg hj his;go_upto_region 25 with fail;have hb:TW W (some ⟨g,0,none⟩) nw acc (wr.drewN 1):=HS.out.drew;refine dZ (C:=TW W (some ⟨g,0,none⟩) nw acc) (by kernel_rfl) (by kernel_rfl) hb ?_;clear hb;go_big_quiet_step (exact λ_=>rfl);go_big_quiet_step (exact λ_=>rfl);go_big_quiet_step (exact λ_=>rfl);go_big_quiet_step (exact λ_=>rfl);refine aV (by kernel_rfl) (λK hK=> ?_);refine aQ (.pointer (some ⟨g,k*3,none⟩)) (λw hw=> ?_) (hK _ ?_);·go_simp
         clear hK K;(try simp only[Act.put]);(try simp only[aI]);(try simp only[aK]);(try simp only[aJ]);refine aV (by kernel_rfl) (λK hK=> ?_);refine aQ (.pointer (some ⟨g,k*3,none⟩)) (λw hw=> ?_) (hK _ ?_);·go_simp
         clear hK K;(try simp only[Act.put]);(try simp only[aI]);(try simp only[aK]);(try simp only[aJ]);refine aV (by kernel_rfl) (λK hK=> ?_);refine aQ (.int .i64 (a:Int)) (λw hw=> ?_) (hK _ ?_);·obtain⟨x0,x1⟩:=HC.out w hw;go_simp
         clear hK K;(try simp only[Act.put]);(try simp only[aI]);(try simp only[aK]);(try simp only[aJ]);go_big_quiet_step (exact λ_=>rfl);go_big_quiet_step (exact λ_=>rfl);refine aV (by kernel_rfl) (λK hK=> ?_);refine aQ (.pointer (some ⟨g,k*3,none⟩)) (λw hw=> ?_) (hK _ ?_);·go_simp
         clear hK K;(try simp only[Act.put]);(try simp only[aI]);(try simp only[aK]);(try simp only[aJ]);refine aV (by kernel_rfl) (λK hK=> ?_);refine aQ (.pointer (some ⟨g,k*3+1,none⟩)) (λw hw=> ?_) (hK _ ?_);·go_simp
         clear hK K;(try simp only[Act.put]);(try simp only[aI]);(try simp only[aK]);(try simp only[aJ]);refine aV (by kernel_rfl) (λK hK=> ?_);refine aQ (.int .i64 (b:Int)) (λw hw=> ?_) (hK _ ?_);·obtain⟨x0,x1⟩:=HC.out w hw;go_simp
         clear hK K;(try simp only[Act.put]);(try simp only[aI]);(try simp only[aK]);(try simp only[aJ]);refine aV (by kernel_rfl) (λK hK=> ?_);refine aQ (.string (s.extract a b)) (λw hw=> ?_) (hK _ ?_);·have hsl:=HSL.out w;go_simp
         clear hK K;(try simp only[Act.put]);(try simp only[aI]);(try simp only[aK]);(try simp only[aJ]);refine aV (by kernel_rfl) (λK hK=> ?_);refine aQ (.agg #[.bool false, .bool false, .bool true]) (λw hw=> ?_) (hK _ ?_);·go_simp
         clear hK K;(try simp only[Act.put]);(try simp only[aI]);(try simp only[aK]);(try simp only[aJ]);go_big_quiet_step (exact λ_=>rfl);go_big_quiet_step (exact λ_=>rfl);refine aV (by kernel_rfl) (λK hK=> ?_);refine aQ (.pointer (some ⟨g,k*3,none⟩)) (λw hw=> ?_) (hK _ ?_);·go_simp
         clear hK K;(try simp only[Act.put]);(try simp only[aI]);(try simp only[aK]);(try simp only[aJ]);refine aV (by kernel_rfl) (λK hK=> ?_);refine aQ (.pointer (some ⟨g,k*3,none⟩)) (λw hw=> ?_) (hK _ ?_);·go_simp
         clear hK K;(try simp only[Act.put]);(try simp only[aI]);(try simp only[aK]);(try simp only[aJ]);refine aV (by kernel_rfl) (λK hK=> ?_);refine aQ (.int .i64 (a:Int)) (λw hw=> ?_) (hK _ ?_);·obtain⟨x0,x1⟩:=HC.out w hw;go_simp
         clear hK K;(try simp only[Act.put]);(try simp only[aI]);(try simp only[aK]);(try simp only[aJ]);go_big_quiet_step (exact λ_=>rfl);go_big_quiet_step (exact λ_=>rfl);refine aV (by kernel_rfl) (λK hK=> ?_);refine aQ (.pointer (some ⟨g,k*3,none⟩)) (λw hw=> ?_) (hK _ ?_);·go_simp
         clear hK K;(try simp only[Act.put]);(try simp only[aI]);(try simp only[aK]);(try simp only[aJ]);refine aV (by kernel_rfl) (λK hK=> ?_);refine aQ (.pointer (some ⟨g,k*3+1,none⟩)) (λw hw=> ?_) (hK _ ?_);·go_simp
         clear hK K;(try simp only[Act.put]);(try simp only[aI]);(try simp only[aK]);(try simp only[aJ]);refine aV (by kernel_rfl) (λK hK=> ?_);refine aQ (.int .i64 (b:Int)) (λw hw=> ?_) (hK _ ?_);·obtain⟨x0,x1⟩:=HC.out w hw;go_simp
         clear hK K;(try simp only[Act.put]);(try simp only[aI]);(try simp only[aK]);(try simp only[aJ]);refine aV (by kernel_rfl) (λK hK=> ?_);refine gB 25 #[.string s, .string (s.extract a b), .agg #[.bool false, .bool false, .bool true], .int .i64 (a:Int), .int .i64 (b:Int)] (.bool true) (λw hw=> ?_) (λw hw=> ?_) (hK _ ?_);·go_simp
         ·refine(HIS.out w hw.aD).mono ?_;rintro e w2 ⟨rfl,hb⟩;exact⟨rfl,hw.go hb⟩
         clear hK K;(try simp only[Act.put]);(try simp only[aI]);(try simp only[aK]);(try simp only[aJ]);refine aV (by kernel_rfl) (λK hK=> ?_);refine aQ (.bool false) (λw hw=> ?_) (hK _ ?_);·go_simp
         clear hK K;(try simp only[Act.put]);(try simp only[aI]);(try simp only[aK]);(try simp only[aJ]);refine wpQuiet_nil ?_;intro w' hw';have HW':=ah hw';clear hw';go_wp2_with fail;exact⟨⟨k+1,hlt,by first|rw[iQ.out]|rfl,HW'.out⟩,by first|(rw[iQ.out];simp[RowKit.intOf];omega)|(simp[RowKit.intOf];omega)⟩
        ·have hkn:¬(k:Int)<nw:=by omega
         go_wp2_with (go_at_call 14;refine(HL.out _ HS.out.aD).mono ?_;rintro e w7 ⟨rfl,hb⟩;have HS7:=ah (HS.out.go hb);clear hb);go_ret;exact⟨rfl,HS7.out.aD⟩
theorem Tw (s t:ByteArray) (W:World) (hl:∀w,Below W.heap.size W w->QW w) (h:48<s.size\/40<t.size):
 Calls Tryz.prog 6 #[.string s, .string t] W (Dt W):=by
 have HL:=ah hl;clear hl;rcases(by omega:48<s.size\/(¬48<s.size/\40<t.size))with h1|⟨h1,h2⟩
 ·have h1i:(48:Int)<s.size:=by omega
  clear h;go_enter Tryz.func6,Tryz.ntmps6;go_wp2_with (go_at_call 14;refine(HL.out _ (aM _ W)).mono ?_;rintro e w1 ⟨rfl,hb⟩;have HB1:=ah hb;clear hb);go_ret;exact⟨rfl,HB1.out⟩
 ·have h1i:¬(48:Int)<s.size:=by omega
  have h2i:(40:Int)<t.size:=by omega
  clear h;go_enter Tryz.func6,Tryz.ntmps6;go_wp2_with (go_at_call 14;refine(HL.out _ (aM _ W)).mono ?_;rintro e w1 ⟨rfl,hb⟩;have HB1:=ah hb;clear hb);go_ret;exact⟨rfl,HB1.out⟩
theorem Im {s:List UInt8} {j:Nat} (hj:j+1<(eu s).length):∃a b:Nat,(eu s).getD j 0=(a:Int)/\(eu s).getD (j+1) 0=(b:Int)/\a<b/\(a:Int)∈eu s/\(b:Int)∈eu s:=by have h1:=up_at (QN s) (i:=j) (j:=j+1) (mI j) hj;have m1:=Bf (zs:=eu s) (k:=j) (by omega);have m2:=Bf (zs:=eu s) (k:=j+1) hj;have e1:=sD m1;have e2:=sD m2;rw[Ik]at e1 e2;obtain⟨a,_,ea⟩:=dw.1 e1;obtain⟨b,_,eb⟩:=dw.1 e2;refine⟨a,b,ea.symm,eb.symm,by omega,by rw[ea];exact m1,by rw[eb];exact m2⟩
theorem Xw (s:List UInt8):(eu s).length<=s.length+1:=by
 by_cases hs:s=[]
 ·subst hs;decide
 ·rw[<-zN s hs,zM,dR];refine bn (List.length_filter_le _ _) ?_;rw[List.length_range'];have:=EN s;omega
theorem F9 (s t:ByteArray) (W:World) (h:Ask W) (hm:∀w,Below W.heap.size W w->QO w/\DbN w) (hl:∀w,Below W.heap.size W w->QW w):
 Calls Tryz.prog 6 #[.string s, .string t] W (Dt W):=by
 have ls:s.data.toList.length=s.size:=iT;have lt:t.data.toList.length=t.size:=iT;rcases(by omega:(48<s.size\/40<t.size)\/(s.size<=48/\t.size<=40))with c|⟨c1,c2⟩
 ·exact Tw s t W hl c
 ·have hE:∀(fo le wo:Bool) w,Below W.heap.size W w->Calls Tryz.prog 16 #[.string s, .string t, .agg #[.bool fo, .bool le, .bool wo]] w (jg (gY s.data.toList t.data.toList fo le wo) w):=λfo le wo w hb=>by have:=Hw s.data.toList t.data.toList fo le wo w (h.go hb) (by omega) (by omega);rwa [iX,iX]at this
  have hn:∀fo le wo,(gY s.data.toList t.data.toList fo le wo).length<=100:=λfo le wo=>bn (Fe _ _ fo le wo) (by omega);have hwl:(eu s.data.toList).length<=100:=bn (Xw _) (by omega);have hB:∀w,Below W.heap.size W w->Sz s (eu s.data.toList) w:=λw hb=>by have:=aj3 s.data.toList w (hm w hb).1 (by omega);rwa [iX]at this
  have hx:∀a b,s.extract a b=⟨((s.data.toList.take b).drop a).toArray⟩:=λa b=>by
   conv=>lhs;rw[<-iX s]
   rw[vR,List.drop_take]
  refine O4 s t _ _ _ _ (eu s.data.toList) W c1 c2 hl ⟨hn _ _ _,hn _ _ _,hn _ _ _,hn _ _ _⟩ (hE false false false) (hE true false false) (hE false true false) (hE false false true) hB (λw hb=> ?_) (λm hm=>⟨FE hm,Tm hm⟩) (λm hm=>FE hm) (λm hm=> ?_) (λj hj=> ?_)
  ·refine Tv s _ w (by omega) ?_;have:=O1 s.data.toList (eu s.data.toList) w (by rw[iX];exact hB w hb) (by omega) (λj hj=> ?_) (λx w' hx' hb'=>Xt x w' (hm w' (hb.trans (hb'.mono hb.size))).2 (by omega))
   ·rwa [iX]at this
   ·obtain⟨a,b,e1,e2,e3,m1,m2⟩:=Im hj;exact⟨a,b,e1,e2,dN e3,(QT m1 m2 e3).1⟩
  ·obtain⟨h1,h2,h3,h4⟩:=Tn hm;exact⟨h1,h2,by omega,by rw[hx,h4,iX]⟩
  ·obtain⟨a,b,e1,e2,e3,m1,m2⟩:=Im hj;obtain⟨i1,i2⟩:=QT m1 m2 e3;refine⟨a,b,e1,e2,dN e3,by omega,λw hb=> ?_⟩;have:=ac4 s.data.toList ((s.data.toList.take b).drop a) false false true a b w (h.go hb) (by omega) (by rw[dF,fF];omega);rw[bg i2,iX,<-hx]at this;exact this
section
open JO (PT)
noncomputable section
def isB (x:AV) (b:Bool):Bool:=match x with
 | .bool c=>FU c b
 |_=>false
theorem Bn {x:AV} {b:Bool} (h:isB x b=true) {ι:aX} {v:Value} (hv:VR ι x v):v= .bool b:=by
 unfold isB at h;split at h;·have hv:v=_:=hv;rw[hv,vH h]
 ·cases h
def Xx (d:Nat) (t:E AV d):Nat->List Int->Bool
 |_,[]=>true
 |i,x::r=>aA (isInt .i64 (E.get d (path d i) t) x) (Xx d t (Nat.succ i) r)
theorem MU {d:Nat} {t:E AV d}:∀{l:List Int} {i:Nat},Xx d t i l=true->∀j,j<l.length->isInt .i64 (E.get d (path d (i+j)) t) (l.getD j 0)=true
 |[],_,_,j,hj=>by simp at hj
 |x::r,i,e,j,hj=>by
  obtain⟨h1,h2⟩:=aj e;cases j with
  |zero=>exact h1
  |succ j=>have:=MU h2 j (by simpa using hj);rw[show i+(j+1)=Nat.succ i+j by omega];simpa using this
def O5 (h:H) (x:AV) (n s:Nat) (f:(d:Nat)->E AV d->Nat->Bool):Bool:=match x with
 | .jq=>Nat.beq n (nat_lit 0)
 | .slice b off len es _=>aA (Nat.beq len n) (Bool.rec (match h.get b with
   |some (.cells _ _ m d t)=>aA (Nat.beq es s) (aA (Nat.ble (Nat.add off (Nat.mul len es)) m) (f d t off))
   |_=>false) true (Nat.beq n (nat_lit 0)))
 |_=>false
theorem zR {h:H} {x:AV} {n s:Nat} {f:(d:Nat)->E AV d->Nat->Bool} (e:O5 h x n s f=true) {ι:aX} {w:World} {v:Value} (k:WR ι h w) (hv:VR ι x v):
 ∃A c,v= .slice A n c/\(0<n->∃g o d,∃t:E AV d,∃off,A=some ⟨g,o,none⟩/\g<w.heap.size/\f d t off=true/\∀i,i<n*s->∃y,w.cell? ⟨g,o+i,none⟩=some y/\VR ι (E.get d (path d (off+i)) t) y):=by
 unfold O5 at e;split at e;·have e:=aR e;subst e;have hv:v= .slice none 0 0:=hv;exact⟨none,0,hv,λc=>absurd c (dA _)⟩
 ·rename_i b off len es z;obtain⟨e1,e2⟩:=aj e;have e1:=aR e1;subst e1;rcases jI len with h0|h0
  ·subst h0;obtain⟨m,y,cap,_,rfl,_⟩:=hv;exact⟨y,cap,rfl,λc=>absurd c (dA _)⟩
  ·have hz:Nat.beq len (nat_lit 0)=false:=by
    cases hq:Nat.beq len (nat_lit 0);·rfl
    ·have:=aR hq;exact absurd h0 (by rw[this];exact dA _)
   rw[hz]at e2;simp only at e2;split at e2
   ·rename_i el ro m d t hb;obtain⟨q1,q2⟩:=aj e2;obtain⟨q3,q4⟩:=aj q2;have q1:=aR q1;subst q1;obtain⟨B,o,cap,rfl,hc,hcell⟩:=fP k hv h0 hb (eZ q3);refine⟨_,cap,rfl,λ_=>⟨B,o,d,t,off,rfl,?_,q4,hcell⟩⟩;rcases jI es with c|c
    ·obtain⟨m0,y0,cap0,hm0,e0,_,_,hy0⟩:=hv;obtain⟨arr,iY,lo,hi,hw,_⟩:=k.cells trivial hm0 hb;have hB:m0.B=B:=by
      injection e0 with e0 _ _;rcases hy0 with hy|⟨hy,_⟩
      ·omega
      ·rw[hy]at e0;injection e0 with e0;injection e0 with e0 _ _;exact e0.symm
     rw[<-hB];exact(dQ.1 hw).1
    ·obtain⟨y,hy,_⟩:=hcell 0 (Nat.mul_pos h0 c);exact fQ hy
   ·cases e2
 ·cases e
def QX (h:H) (x:AV) (l:List Int):Bool:=aA (Nat.ble l.length (nat_lit 100000)) (O5 h x l.length (nat_lit 1) λd t off=>Xx d t off l)
theorem FI {h:H} {x:AV} {l:List Int} (e:QX h x l=true) {ι:aX} {w:World} {v:Value} (k:WR ι h w) (hv:VR ι x v):∃A n c,v= .slice A n c/\cB w A n l:=by obtain⟨e1,e2⟩:=aj e;obtain⟨A,c,rfl,h1⟩:=zR e2 k hv;refine⟨A,_,c,rfl,rfl,eZ e1,λh0=> ?_⟩;obtain⟨g,o,d,t,off,rfl,hg,q,hc⟩:=h1 h0;refine⟨g,o,rfl,hg,λj hj=> ?_⟩;obtain⟨y,hy,ry⟩:=hc j (by show j<l.length*1;omega);rw[hy,kH (MU q j hj) ry]
mutual
def Xy (h:H):PT->AV->AV->AV->Bool
 | .node op cls kids,a,b,k=>aA (isInt .i64 a (Int.ofNat op)) (aA (QX h b (cls.map λ(x:Nat)=>(x:Int))) (O5 h k kids.length (nat_lit 3) λd t off=>QY h kids d t off))
def QY (h:H):List PT->(d:Nat)->E AV d->Nat->Bool
 |[],_,_,_=>true
 |p::r,d,t,i=>aA (Xy h p (E.get d (path d i) t) (E.get d (path d (Nat.add i (nat_lit 1))) t) (E.get d (path d (Nat.add i (nat_lit 2))) t)) (QY h r d t (Nat.add i (nat_lit 3)))
end
mutual
theorem J9 {h:H} {ι:aX} {w:World} (k:WR ι h w):∀(p:PT) {x y z:AV} {a b c:Value},Xy h p x y z=true->VR ι x a->VR ι y b->VR ι z c->eD w a b c p
 | .node op cls kids,x,y,z,a,b,c,e,ha,hb,hc=>by
   unfold Xy at e;obtain⟨e1,e2⟩:=aj e;obtain⟨e3,e4⟩:=aj e2;unfold eD;obtain⟨A,n,c1,rfl,hI⟩:=FI e3 k hb;obtain⟨A2,c2,rfl,h1⟩:=zR e4 k hc;refine⟨kH e1 ha,⟨A,n,c1,rfl,hI⟩,A2,c2,rfl,?_⟩;rcases jI kids.length with h0|h0;·rw[pV h0];exact trivial
   ·obtain⟨g,o,d,t,off,rfl,hg,q,hcl⟩:=h1 h0;exact MV k kids 0 kids.length (by omega) hg (by rw[jl,cK];exact q) hcl
theorem MV {h:H} {ι:aX} {w:World} (k:WR ι h w):∀(l:List PT) (i n:Nat) {d:Nat} {t:E AV d} {off g o:Nat},i+l.length<=n->g<w.heap.size->QY h l d t (off+i*3)=true->
 (∀i,i<n*3->∃y,w.cell? ⟨g,o+i,none⟩=some y/\VR ι (E.get d (path d (off+i)) t) y)->lN w (some ⟨g,o,none⟩) i l
 |[],_,_,_,_,_,_,_,_,_,_,_=>trivial
 |p::r,i,n,d,t,off,g,o,hn,hg,e,hc=>by unfold QY at e;obtain⟨e1,e2⟩:=aj e;rw[dx]at hn;unfold lN;obtain⟨y0,z0,s0⟩:=hc (i*3) (by omega);obtain⟨y1,z1,s1⟩:=hc (i*3+1) (by omega);obtain⟨y2,z2,s2⟩:=hc (i*3+2) (by omega);exact⟨⟨g,o,y0,y1,y2,rfl,hg,z0,z1,z2,J9 k p e1 s0 s1 s2⟩,MV k r (i+1) n (by omega) hg (by rw[eY,<-lC];exact e2) hc⟩
end
def fineP (p:PT):Bool:=aA (p9 p) (aA (OJ p) (Nat.ble (kR p) 2000))
theorem fineP_ok {p:PT} (h:fineP p=true):OU p:=by obtain⟨h1,h2⟩:=aj h;obtain⟨h3,h4⟩:=aj h2;exact⟨h1,h3,eZ h4⟩
def oG (d:Nat) (t:E AV d) (i k:Nat):AV:=E.get d (path d (Nat.add i k)) t
def abf (h:H) (d:Nat) (t:E AV d) (i:Nat) (r:PR):Bool:=
 aA (aA (isB (oG d t i 0) r.brk) (aA (isB (oG d t i 1) r.fst) (aA (isB (oG d t i 2) r.XW) (FU r.XW false)))) (aA (aA (Xy h r.left (oG d t i 3) (oG d t i 4) (oG d t i 5)) (Xy h r.right (oG d t i 6) (oG d t i 7) (oG d t i 8))) (aA (fineP r.left) (fineP r.right)))
def O6 (h:H) (d:Nat) (t:E AV d):Nat->List PR->Bool
 |_,[]=>true
 |i,r::l=>aA (abf h d t i r) (O6 h d t (Nat.add i (nat_lit 9)) l)
theorem Io {h:H} {d:Nat} {t:E AV d}:∀{l:List PR} {i:Nat},O6 h d t i l=true->∀j r,l[j]? =some r->abf h d t (i+j*9) r=true
 |[],_,_,j,r,hj=>by simp at hj
 |x::l,i,e,j,r,hj=>by
  obtain⟨h1,h2⟩:=aj e;cases j with
  |zero=>
   obtain rfl:x=r:=by simpa using hj
   rw[jl,cK];exact h1
  |succ j=>have:=Io h2 j r (by simpa using hj);rw[show i+(j+1)*9=Nat.add i (nat_lit 9)+j*9 by rw[eY];show _=i+9+_;omega];exact this
def MW (h:H) (x:AV) (l:List PR):Bool:=aA (aA (Nat.ble (nat_lit 1) l.length) (Nat.ble l.length (nat_lit 64))) (O5 h x l.length (nat_lit 9) λd t off=>O6 h d t off l)
theorem Xz {w:World} {a b c:Value} {p:PT} (h:eD w a b c p):(∃op:Nat,a= .int .i64 op)/\(∃A n d,b= .slice A n d)/\∃A n d,c= .slice A n d:=by cases p;unfold eD at h;obtain⟨h1,⟨A,n,c,h2,_⟩,A2,c2,h3,_⟩:=h;exact⟨⟨_,h1⟩,⟨A,n,c,h2⟩,A2,_,c2,h3⟩
theorem MX {h:H} {x:AV} {l:List PR} (e:MW h x l=true) {ι:aX} {w:World} {v:Value} (k:WR ι h w) (hv:VR ι x v):∃g o c,v= .slice (some ⟨g,o,none⟩) l.length c/\pG w g o l:=by
 obtain⟨e1,e2⟩:=aj e;obtain⟨e3,e4⟩:=aj e1;obtain⟨A,c,rfl,h1⟩:=zR e2 k hv;obtain⟨g,o,d,t,off,rfl,hg,q,hc⟩:=h1 (eZ e3);refine⟨g,o,c,rfl,hg,eZ e4,λi r hr=> ?_⟩;have hi:i<l.length:=(mJ.1 hr).1;obtain⟨q1,q2⟩:=aj (Io q i r hr);obtain⟨b0,q1⟩:=aj q1;obtain⟨b1,q1⟩:=aj q1;obtain⟨b2,b3⟩:=aj q1;obtain⟨q3,q4⟩:=aj q2;obtain⟨pl,pr⟩:=aj q3;obtain⟨fl,fr⟩:=aj q4;have cell:∀j,j<9->∃y,w.cell? ⟨g,o+i*9+j,none⟩=some y/\VR ι (oG d t (off+i*9) j) y:=λj hj=>by obtain⟨y,hy,ry⟩:=hc (i*9+j) (by show i*9+j<l.length*9;omega);rw[<-lC]at hy ry;exact⟨y,hy,ry⟩
 obtain⟨y0,z0,s0⟩:=cell 0 (by omega);obtain⟨y1,z1,s1⟩:=cell 1 (by omega);obtain⟨y2,z2,s2⟩:=cell 2 (by omega);obtain⟨y3,z3,s3⟩:=cell 3 (by omega);obtain⟨y4,z4,s4⟩:=cell 4 (by omega);obtain⟨y5,z5,s5⟩:=cell 5 (by omega);obtain⟨y6,z6,s6⟩:=cell 6 (by omega);obtain⟨y7,z7,s7⟩:=cell 7 (by omega);obtain⟨y8,z8,s8⟩:=cell 8 (by omega);have hl:=J9 k r.left pl s3 s4 s5;have hr:=J9 k r.right pr s6 s7 s8;obtain⟨⟨o1,rfl⟩,⟨A4,n4,d4,rfl⟩,A5,n5,d5,rfl⟩:=Xz hl;obtain⟨⟨o2,rfl⟩,⟨A7,n7,d7,rfl⟩,A8,n8,d8,rfl⟩:=Xz hr;obtain rfl:=Bn b0 s0;obtain rfl:=Bn b1 s1;obtain rfl:=Bn b2 s2;refine⟨vH b3,⟨o1,A4,n4,d4,A5,n5,d5,o2,A7,n7,d7,A8,n8,d8⟩,⟨hl,hr,fineP_ok fl,fineP_ok fr⟩,λj x hx=> ?_⟩;match j,hx with
 |0,hx=>cases hx;exact z0
 |1,hx=>cases hx;exact z1
 |2,hx=>cases hx;exact z2
 |3,hx=>cases hx;exact z3
 |4,hx=>cases hx;exact z4
 |5,hx=>cases hx;exact z5
 |6,hx=>cases hx;exact z6
 |7,hx=>cases hx;exact z7
 |8,hx=>cases hx;exact z8
 |j+9,hx=>simp[zJ.cells]at hx
def abg (h:H) (d:Nat) (t:E AV d) (i:Nat) (s:SD):Bool:=
 aA (aA (QX h (oG d t i 0) s.left) (QX h (oG d t i 1) s.right)) (aA (isB (oG d t i 2) s.TH) (isB (oG d t i 3) s.TI))
def O7 (h:H) (d:Nat) (t:E AV d):Nat->List SD->Bool
 |_,[]=>true
 |i,r::l=>aA (abg h d t i r) (O7 h d t (Nat.add i (nat_lit 4)) l)
theorem Ip {h:H} {d:Nat} {t:E AV d}:∀{l:List SD} {i:Nat},O7 h d t i l=true->∀j r,l[j]? =some r->abg h d t (i+j*4) r=true
 |[],_,_,j,r,hj=>by simp at hj
 |x::l,i,e,j,r,hj=>by
  obtain⟨h1,h2⟩:=aj e;cases j with
  |zero=>
   obtain rfl:x=r:=by simpa using hj
   rw[jl,cK];exact h1
  |succ j=>have:=Ip h2 j r (by simpa using hj);rw[show i+(j+1)*4=Nat.add i (nat_lit 4)+j*4 by rw[eY];show _=i+4+_;omega];exact this
def FJ (h:H) (x:AV) (l:List SD):Bool:=aA (Nat.ble (nat_lit 1) l.length) (O5 h x l.length (nat_lit 4) λd t off=>O7 h d t off l)
theorem MZ {h:H} {x:AV} {l:List SD} (e:FJ h x l=true) {ι:aX} {w:World} {v:Value} (k:WR ι h w) (hv:VR ι x v):∃A c,v= .slice A l.length c/\QL w A l.length l:=by
 obtain⟨e1,e2⟩:=aj e;obtain⟨A,c,rfl,h1⟩:=zR e2 k hv;obtain⟨g,o,d,t,off,rfl,hg,q,hc⟩:=h1 (eZ e1);refine⟨_,c,rfl,rfl,λi s hs=> ?_⟩;have hi:i<l.length:=(mJ.1 hs).1;obtain⟨q1,q2⟩:=aj (Ip q i s hs);obtain⟨i0,i1⟩:=aj q1;obtain⟨b2,b3⟩:=aj q2;have cell:∀j,j<4->∃y,w.cell? ⟨g,o+i*4+j,none⟩=some y/\VR ι (oG d t (off+i*4) j) y:=λj hj=>by obtain⟨y,hy,ry⟩:=hc (i*4+j) (by show i*4+j<l.length*4;omega);rw[<-lC]at hy ry;exact⟨y,hy,ry⟩
 obtain⟨y0,z0,s0⟩:=cell 0 (by omega);obtain⟨y1,z1,s1⟩:=cell 1 (by omega);obtain⟨y2,z2,s2⟩:=cell 2 (by omega);obtain⟨y3,z3,s3⟩:=cell 3 (by omega);obtain⟨lA,ln,lc,rfl,hL⟩:=FI i0 k s0;obtain⟨rA,rn,rc,rfl,hR⟩:=FI i1 k s1;obtain rfl:=Bn b2 s2;obtain rfl:=Bn b3 s3;exact⟨g,o,lA,ln,lc,rA,rn,rc,rfl,hg,z0,z1,z2,z3,hL,hR⟩
end
end
noncomputable section
def QZ (v:AV) (h:H):Bool:=match v with
 | .fV (.cons (.agg (.cons x (.cons y .nil))) (.cons a (.cons b .nil)))=>aA (aA (MW h x cZ) (isB y true)) (aA (isInt .i64 a 0) (isInt .i64 b 0))
 |_=>false
theorem XA {ι:aX} {h:H} {w:World} {x:AV} {v:Value} (e:QZ x h=true) (k:WR ι h w) (hv:VR ι x v):∃gr og cr,v= .tuple #[.agg #[.slice (some ⟨gr,og,none⟩) cZ.length cr, .bool true], .int .i64 0, .int .i64 0]/\pG w gr og cZ:=by
 unfold QZ at e;split at e;·obtain⟨e1,e2⟩:=aj e;obtain⟨e3,e4⟩:=aj e1;obtain⟨e5,e6⟩:=aj e2;obtain⟨xs,rfl,u,l1,h1,⟨ys,rfl,p,l2,h2,hp,q,l3,h3,hq,h4⟩,a,l4,h5,ha,b,l5,h6,hb,h7⟩:=hv;obtain⟨g,og,c,rfl,hR⟩:=MX e3 k hp;obtain rfl:=Bn e4 hq;obtain rfl:=kH e5 ha;obtain rfl:=kH e6 hb;subst h4 h3 h7 h6 h5;refine⟨g,og,c,?_,hR⟩;rw[show xs=#[.agg ys, .int .i64 0, .int .i64 0]from Array.ext' h1,show ys=#[.slice (some ⟨g,og,none⟩) cZ.length c, .bool true]from Array.ext' h2]
 ·cases e
theorem XB {ext:Nat->Nat} {Bo Ga:Nat->AV->H->Option bF} {N:Nat} (lq:Tryz.prog.follows .mixedOrders=true) (hprog:fC Tryz.prog=true) (eA:mO Tryz.prog (bY Tryz.prog ext Bo)) (eB:mO Tryz.prog (bY Tryz.prog ext Ga)) (oA:fO Tryz.prog (bY Tryz.prog ext Bo)) (oB:fO Tryz.prog (bY Tryz.prog ext Ga))
 (d n p s:gW) (ag r:AV) (ss:List SD)
 (hf:(d.f=75/\n.f=77)/\p.f=76/\s.f=126) (ha:(d.args= .nil/\n.args= .cons d.v .nil)/\p.args= .cons (.str Xq) (.cons n.v .nil)/\s.args= .cons ag .nil/\p.v= .fV (.cons ag r))
 (hw:(d.ws=[]/\n.ws=[])/\p.ws=[]/\s.ws=[]) (hx:(64<=d.nx/\d.nx<=65536)/\d.bi=[]/\d.nx'=n.nx/\n.nx'=p.nx/\p.nx'=s.nx)
 (hd:aA (fnOf Tryz.prog d.f).isSome (aA (Bo d.f d.args (nA d)).isNone (aA (P6 d) (o7 d (λv h=>zh h v (qH dW 19)) ((run (bY Tryz.prog ext Bo) (Nat.succ N)).call d.f d.args (nA d)))))=true)
 (hn:aA (fnOf Tryz.prog n.f).isSome (aA (Bo n.f n.args (nA n)).isNone (aA (P6 n) (o7 n (λ_ _=>true) ((run (bY Tryz.prog ext Bo) (Nat.succ N)).call n.f n.args (nA n)))))=true)
 (hp:aA (fnOf Tryz.prog p.f).isSome (aA (Ga p.f p.args (nA p)).isNone (aA (P6 p) (o7 p QZ ((run (bY Tryz.prog ext Ga) (Nat.succ N)).call p.f p.args (nA p)))))=true)
 (hs:aA (fnOf Tryz.prog s.f).isSome (aA (Bo s.f s.args (nA s)).isNone (aA (P6 s) (o7 s (λv h=>FJ h v ss) ((run (bY Tryz.prog ext Bo) (Nat.succ N)).call s.f s.args (nA s)))))=true)
 (h1:jo (rM d (nA d)) n.bi=true) (h2:jo (rM n (rM d (nA d))) p.bi=true) (h3:jo (rM p (rM n (rM d (nA d)))) s.bi=true) (hk:wF cZ ss=true) (W:World):QO W:=by
 have hin:nA d=h0 d.nx:=by unfold nA h0;rw[hx.2.1];rfl
 refine(show Calls Tryz.prog 75 #[] W _ from ?_);rw[<-hf.1.1];refine(ug lq hprog eA oA hw.1.1 hd (ι:=qy W) (w:=W) (h:=nA d) (by rw[hin];exact Lf hx.1.1 hx.1.2 W) (yU W) (by rw[hin];rfl) (by rw[hx.2.1];rfl) (vs:=#[]) (by rw[ha.1.1];rfl)).mono ?_;rintro e w1 ⟨v,rfl,⟨v1,hh,ι1,q1,s1,k1⟩,⟨ι2,k2,g2,s2⟩,hb⟩;refine⟨v,rfl,hb,Ez q1 k1 s1,λw2 hb2=> ?_⟩;rw[<-hf.1.2];refine(ug lq hprog eA oA hw.1.2 hn (k2.below hb2) g2 hx.2.2.1 h1 (vs:=#[v]) (by rw[ha.1.2];exact⟨v,[],rfl,s2,rfl⟩)).mono ?_;rintro e w3 ⟨nv,rfl,_,⟨ι3,k3,g3,s3⟩,hb3⟩;refine⟨nv,rfl,hb3,λw4 hb4 b hS=> ?_⟩;rw[<-hf.2.1];refine(ug lq hprog eB oB hw.2.1 hp (k3.below hb4) g3 hx.2.2.2.1 h2 (vs:=#[.string b,nv]) (by rw[ha.2.1];exact⟨_,_,rfl,⟨b,rfl,hS.symm⟩,nv,[],rfl,s3,rfl⟩)).mono ?_;rintro e w5 ⟨pv,rfl,⟨v5,hh5,ι5,q5,s5,k5⟩,⟨ι6,k6,g6,s6⟩,hb5⟩;obtain⟨gr,og,cr,rfl,hR⟩:=XA q5 k5 s5;refine⟨gr,og,cr,rfl,hb5,hR,ss,hk,λw6 hb6 w7 hb7=> ?_⟩;rw[ha.2.2.2]at s6;obtain⟨xs,e1,u,l,e2,hu,_⟩:=s6;injection e1 with e1;subst e1;injection e2 with e2 _;subst e2;rw[<-hf.2.2];refine(ug lq hprog eA oA hw.2.2 hs ((k6.below hb6).below hb7) g6 hx.2.2.2.2 h3 (vs:=#[.agg #[.slice (some ⟨gr,og,none⟩) cZ.length cr, .bool true]]) (by rw[ha.2.2.1];exact⟨_,[],rfl,hu,rfl⟩)).mono ?_;rintro e w8 ⟨sv,rfl,⟨v8,hh8,ι8,q8,s8,k8⟩,_,hb8⟩;obtain⟨A,c,rfl,hS⟩:=MZ q8 k8 s8;exact⟨A,_,c,rfl,hS,hb8⟩
end
noncomputable section
def Z6 (x:AV):Bool:=match x with
 | .str _=>true
 |_=>false
theorem Z7 {x:AV} (h:Z6 x=true) {ι:aX} {v:Value} (hv:VR ι x v):∃b:ByteArray,v= .string b:=by
 unfold Z6 at h;split at h;·obtain⟨b,e,_⟩:=hv;exact⟨b,e⟩
 ·cases h
def txC (d:Nat) (t:E AV d):Nat->Nat->Bool
 |_,0=>true
 |i,n+1=>aA (Z6 (E.get d (path d i) t)) (txC d t (Nat.succ i) n)
theorem XC {d:Nat} {t:E AV d}:∀{n i:Nat},txC d t i n=true->∀j,j<n->Z6 (E.get d (path d (i+j)) t)=true
 |0,_,_,j,hj=>absurd hj (iM j)
 |n+1,i,e,j,hj=>by
  obtain⟨h1,h2⟩:=aj e;cases j with
  |zero=>exact h1
  |succ j=>have:=XC h2 j (by omega);rw[show i+(j+1)=Nat.succ i+j by omega];exact this
def zT (h:H) (x:AV):Bool:=match x with
 | .ptr b off=>match h.get b with
   |some (.cells _ _ n d t)=>aA (Nat.ble (Nat.add off (nat_lit 1)) n) (O5 h (E.get d (path d (Nat.add off (nat_lit 0))) t) (nat_lit 20) (nat_lit 1) λd t off=>txC d t off (nat_lit 20))
   |_=>false
 |_=>false
theorem M0 {h:H} {x:AV} (e:zT h x=true) {ι:aX} {w:World} {v:Value} (k:WR ι h w) (hv:VR ι x v):sF w v:=by
 unfold zT at e;split at e
 ·rename_i b off;split at e
  ·rename_i el ro n d t hb;obtain⟨e0,e1⟩:=aj e;obtain⟨D,o,rfl,hc⟩:=nI (c:=1) k hv hb (eZ e0);obtain⟨y0,z0,s0⟩:=hc 0 (by omega);obtain⟨A,c,rfl,h1⟩:=zR e1 k s0;obtain⟨S,oS,d2,t2,off2,rfl,hS,q,hr⟩:=h1 (by decide);refine⟨D,o,S,oS,c,rfl,fQ z0,hS,z0,λi hi=> ?_⟩;obtain⟨y,hy,ry⟩:=hr i (by omega);obtain⟨b,rfl⟩:=Z7 (XC q i hi) ry;exact⟨b,hy⟩
  ·cases e
 ·cases e
theorem Tx {m:gW} {p q:AV->H->Bool} {r:bF} (h:o7 m (λv h=>aA (p v h) (q v h)) r=true):o7 m p r=true:=by
 cases r with
 |fail=>cases h
 |ok v hh=>obtain⟨a,b⟩:=aj h;show aA (p v hh) _=true;rw[(aj a).1];exact b
theorem Z8 {m:gW} {p q:AV->H->Bool} {r:bF} {a b c:Bool} (h:aA a (aA b (aA c (o7 m (λv h=>aA (p v h) (q v h)) r)))=true):aA a (aA b (aA c (o7 m p r)))=true:=by obtain⟨h1,h⟩:=aj h;obtain⟨h2,h⟩:=aj h;obtain⟨h3,h⟩:=aj h;rw[h1,h2,h3];exact Tx h
theorem adv {ext:Nat->Nat} {Bo:Nat->AV->H->Option bF} {N:Nat} (lq:Tryz.prog.follows .mixedOrders=true) (hprog:fC Tryz.prog=true) (eA:mO Tryz.prog (bY Tryz.prog ext Bo)) (oA:fO Tryz.prog (bY Tryz.prog ext Bo))
 (d:gW) (hf:d.f=75) (ha:d.args= .nil) (hw:d.ws=[]) (hx:(64<=d.nx/\d.nx<=65536)/\d.bi=[])
 (hd:aA (fnOf Tryz.prog d.f).isSome (aA (Bo d.f d.args (nA d)).isNone (aA (P6 d) (o7 d (λv h=>aA (zh h v (qH dW 19)) (zT h v)) ((run (bY Tryz.prog ext Bo) (Nat.succ N)).call d.f d.args (nA d)))))=true) (W:World):DbN W:=by
 have hin:nA d=h0 d.nx:=by unfold nA h0;rw[hx.2];rfl
 refine(show Calls Tryz.prog 75 #[] W _ from ?_);rw[<-hf];refine(ug lq hprog eA oA hw hd (ι:=qy W) (w:=W) (h:=nA d) (by rw[hin];exact Lf hx.1.1 hx.1.2 W) (yU W) (by rw[hin];rfl) (by rw[hx.2];rfl) (vs:=#[]) (by rw[ha];rfl)).mono ?_;rintro e w1 ⟨v,rfl,⟨v1,hh,ι1,q1,s1,k1⟩,_,hb⟩;obtain⟨qa,qb⟩:=aj q1;exact⟨v,rfl,hb,Ez qa k1 s1,M0 qb k1 s1⟩
