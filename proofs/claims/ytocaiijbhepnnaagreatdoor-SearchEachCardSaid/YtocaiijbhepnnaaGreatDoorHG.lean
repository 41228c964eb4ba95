/- SearchEach, walked: the law itself, where what it calls is given; rules, breakers in the machine's heap. -/
import Derived.Test.YtocaiijbhepnnaaGreatDoorGB
import Derived.RangeFuncNested
import Derived.RangeFuncBox
import Derived.RangeFuncLeaves
import Derived.RangeFuncCalls
import Derived.Shelf.Abstract
import Derived.WalkKit
import Derived.OwnWalkIn
import Derived.TacticsInMore
import Derived.LoopNIn
import Derived.LoopIn
import Derived.Test.YtocaiijbhepnnaaGreatDoorHF
import Derived.Shelf.RegionOpen
import Derived.Deep.RegionHeld3
import Derived.Test.YtocaiijbhepnnaaGreatDoorHE
import Derived.Test.YtocaiijbhepnnaaGreatDoorFA
set_option maxRecDepth 100000
set_option maxHeartbeats 8000000
namespace Go.Proofs.YtocaiijbhepnnaaGreatDoor.searchEach
open Go.Shelf Go.RowKit Go.Lib Go.Proofs.YtocaiijbhepnnaaGreatDoor.Am
section
open Go.RowKit Go.Shelf Go.Lib Go.Proofs.YtocaiijbhepnnaaGreatDoor.Am
attribute [local go_sem] Oper.semAt_some
def gF (W W':World):Prop:=W.heap.size≤W'.heap.size∧∀(k:Nat) (cs:Array Value) (fr:Nat×Nat),W.heap[k]? =some (.cells cs 33 fr)→W'.heap[k]? =some (.cells cs 33 fr)
theorem mO {A B C:World} (h:gF A B) (k:gF B C):gF A C:=⟨aQ h.1 k.1,fun i cs fr hi=>k.2 i cs fr (h.2 i cs fr hi)⟩
theorem G8 {w:World} (W:World) (l:Nat) (o o':Obj) (_:w.heap.size≤l) (h:W.heap[l]? =some o) (hc:o.isCells=false) (_:o.isWalk=false):gF W (W.putObj l o'):=by have hg:=grownBy_putObj' W l o';refine⟨hg.size,fun k cs fr hk=>(hg.block k (dH.1 hk).1 (fun e=> ?_)).trans hk⟩;injection e with e;subst e;rw[hk]at h;injection h with h;subst h;cases hc
theorem vX {W W':World} (h:Below W.heap.size W W'):gF W W':=⟨h.size,fun k _ _ hk=>(h.block k (dH.1 hk).1).trans hk⟩
theorem jJ {W:World} {p:Addr} {v:Value} {T:TypeId} (h:∃(cs:Array Value) (fr:Nat×Nat),W.heap[p.block]? =some (.cells cs T fr)) (hT:T≠33):gF W (W.setCell p v):=
 ⟨by simp,fun k cs fr hk=>(heap_setCell_other W p k v (fun e=>by
  obtain⟨c',f',h'⟩:=h;rw[←e,hk]at h';injection h' with h';injection h' with _ h';exact hT h'.symm)).trans hk⟩
theorem CG.keeps {w w':World} {A:Option Addr} {n:Nat} {l:List (Nat×Nat)} (h:CG w A n l) (hk:gF w w'):CG w' A n l:=by
 refine⟨h.len,h.small,fun h0=> ?_,fun g e h0=> ?_⟩;·obtain⟨g,e,hg,hc⟩:=h.at_ h0;obtain⟨cs,hcs⟩:=h.ty g e h0;have hq:∀j,w'.cell? ⟨g,j,none⟩=w.cell? ⟨g,j,none⟩:=fun j=>World.cell?_of_block (w:=w) (a:=⟨g,j,none⟩) ((hk.2 g cs _ hcs).trans hcs.symm);exact⟨g,e,bH hg hk.1,fun j hj=>⟨(hq _).trans (hc j hj).1,(hq _).trans (hc j hj).2⟩⟩
 ·obtain⟨cs,hcs⟩:=h.ty g e h0;exact⟨cs,hk.2 g cs _ hcs⟩
theorem DN {W W':World} (h:Below W.heap.size W W'):W.grownBy W' none:=⟨h.os,h.tape,h.output,h.size,fun k hk _=>h.block k hk⟩
def Rh (x:Nat×Nat):Array Value:=#[.int .i64 x.1, .int .i64 x.2]
def Ri (s t:ByteArray) (fo le wo:Bool) (L:List (Nat×Nat)) (w:World):Prop:=Calls Tryz.prog 15 #[.string s, .string t, .agg #[.bool fo, .bool le, .bool wo]] w (rY L w)
theorem aac (n:Nat) (l B1 B2 B3:Nat) (s t:ByteArray) (fo le wo:Bool) (L:List (Nat×Nat)) (J Jx:List (Nat×Nat)→World→Prop) (W:World) (hJ:AbidesFrom W.heap.size J)
 (hA:∀w,Below W.heap.size W w→Ri s t fo le wo L w)
 (hY:∀pre x W1,J pre W1→pre.length<L.length→YieldAt Fence.wide (n-1) Tryz.prog l (Rh x) W1 fun e W'=>
  (e= .returned (.bool true)∧J (pre++[x]) W'∧gF W1 W')∨(e= .returned (.bool false)∧Jx (pre++[x]) W'))
 (h1:W.cell? ⟨B1,0,none⟩=some (.string s)) (h2:W.cell? ⟨B2,0,none⟩=some (.string t))
 (h30:W.cell? ⟨B3,0,none⟩=some (.bool fo)) (h31:W.cell? ⟨B3,1,none⟩=some (.bool le)) (h32:W.cell? ⟨B3,2,none⟩=some (.bool wo)) (h0:J [] W):
 CallsIn Fence.wide n Tryz.prog 74 #[.func (.yield l) #[] #[], .pointer (some ⟨B1,0,none⟩), .pointer (some ⟨B2,0,none⟩), .pointer (some ⟨B3,0,none⟩)] W fun e W'=>(∃v,e= .returned v)∧
  ((∃ys,ys=L∧J ys W')∨(∃pre,pre<+:L∧Jx pre W')):=by
 refine callsIn_of_wp Tryz.func74 rfl trivial ?_ rfl;simp only[Tryz.ntmps74,nJ,bJ,iw,Nat.reduceAdd,Nat.reduceSub,w9,wZ,xA,qo,lC,yU];have HA:=ah hA;clear hA;gi_wp2_with (refine⟨trivial,(fun h=>by cases h),?_⟩;gi_at_call 15;refine(callsIn_wide.2 (HA.out W (aF _ W))).mono ?_;rintro e w1 ⟨A,N,c,rfl,hm,hb⟩;have HM:=ah hm;have HJ0:=ah (hJ _ _ _ none h0 (DN hb) (by simp));have uN:=ah hb.size;clear hm hb);have HN:=ah HM.out.len;have hN:=HM.out.small;gi_loopw [12] (fun i wr=>∃(k:Nat),k≤N∧i= .int .i64 k∧J (L.take k) wr∧CG wr A N L∧W.heap.size≤wr.heap.size) (fun i _=>N-(RowKit.intOf i).toNat);case atStart=>exact⟨0,aH _,rfl,by rw[List.take_zero];exact HJ0.out,HM.out,uN.out⟩
 case round=>
  obtain⟨k,hk,rfl,hJs,hR,hsz⟩:=hrel;have HR:=ah hR;have HS:=ah hsz;clear hR hsz;by_cases hlt:k<N
  ·obtain⟨g,rfl,hg,hc⟩:=HR.out.at_ (by omega);obtain⟨c0,c1⟩:=hc k hlt;have hp:L[k]? =some (L.getD k Left.m0):=by rw[aM,aY (by rw[HN.out];exact hlt)];rfl
   obtain⟨⟨a,b⟩,hab⟩:∃p,L.getD k Left.m0=p:=⟨_,rfl⟩
   rw[hab]at c0 c1 hp;have htk:L.take k++[(a,b)]=L.take (k+1):=by rw[xw,hp];rfl
   have BG:=ah htk;have hlen:(L.take k).length<L.length:=by rw[gH,HN.out];omega
   have hal:=(aF wr.heap.size wr).alloc (ay _) (.cells #[.int .i64 a, .int .i64 b] 33);have hJ2:=hJ _ _ _ none hJs (DN hal) (by simp);have HR2:=ah (HR.out.below hal);have HS2:=ah (aQ HS.out hal.size);obtain⟨fn,tmps,assign,body,hy,hRo⟩:=hY (L.take k) (a,b) _ hJ2 hlen;simp only[Rh]at hy;clear hJs hJ2 hal hc hab hp htk hlen HR;have hwk:wrap64 ((k:Int)+1)=((k+1:Nat):Int):=by unfold wrap64;omega
   have j5:=ah hwk;clear hwk;have hk0:(0:Int)≤k:=by omega
   have hk1:(k:Int)<N:=by omega
   gi_wp2;refine⟨(fun h=>by cases h),hRo.mono ?_⟩;rintro x W3 (⟨rfl,hJ3,hk3⟩|⟨rfl,hJx3⟩)
   ·have HJ3:=ah hJ3;have HK3:=ah hk3;clear hJ3 hk3;gi_wp2;go_roundw;case rel=>exact⟨k+1,hlt,by first|rw[j5.out]|rfl,by rw[←BG.out];exact HJ3.out,HR2.out.keeps HK3.out,aQ HS2.out HK3.out.1⟩
    case measure=>first|(rw[j5.out];simp[RowKit.intOf];omega)|(simp[RowKit.intOf];omega)
   ·gi_wp2;refine qE (results_none rfl _ _ _) rfl ?_;exact⟨⟨_,rfl⟩, .inr ⟨L.take k++[(a,b)],by rw[BG.out];exact List.take_prefix _ _,hJx3⟩⟩
  ·have hkn:k=N:=by omega
   gi_wp2;go_end0;exact⟨⟨_,rfl⟩, .inl ⟨L,rfl,by rw[mH (by rw[HN.out];omega)]at hJs;exact hJs⟩⟩
theorem aad (s t:ByteArray) (fo le wo:Bool) (n:Nat) (w:World):
 CallsIn Fence.wide n Tryz.prog 20 #[.string s, .string t, .agg #[.bool fo, .bool le, .bool wo]] w fun e w'=>e= .returned (.func (.func 74) #[] #[.pointer (some ⟨w.heap.size,0,none⟩), .pointer (some ⟨w.heap.size+1,0,none⟩), .pointer (some ⟨w.heap.size+2,0,none⟩)])∧
  w'=((w.alloc (.cells #[.string s] 9)).alloc (.cells #[.string t] 9)).alloc (.cells #[.bool fo, .bool le, .bool wo] 28):=by
 refine callsIn_of_wp Tryz.func20 rfl trivial ?_ rfl;simp only[Tryz.ntmps20,nJ,bJ,iw,Nat.reduceAdd,Nat.reduceSub,w9,wZ,xA,qo,lC,yU];gi_wp2;go_ret;exact⟨rfl,rfl⟩
structure TL (s t:ByteArray) (fo le wo:Bool) (B1 B2 B3:Nat) (w:World):Prop where
 l1:B1<w.heap.size
 l2:B2<w.heap.size
 l3:B3<w.heap.size
 c1:w.cell? ⟨B1,0,none⟩=some (.string s)
 c2:w.cell? ⟨B2,0,none⟩=some (.string t)
 c30:w.cell? ⟨B3,0,none⟩=some (.bool fo)
 c31:w.cell? ⟨B3,1,none⟩=some (.bool le)
 c32:w.cell? ⟨B3,2,none⟩=some (.bool wo)
theorem DR (n:Nat) (s t:ByteArray) (fo le wo:Bool) (L:List (Nat×Nat)) (B1 B2 B3:Nat) (w:World) (hS:TL s t fo le wo B1 B2 B3 w) (hA:∀v,Below w.heap.size w v→Ri s t fo le wo L v):
 SeqStopsK Fence.wide n Tryz.prog 74 #[.pointer (some ⟨B1,0,none⟩), .pointer (some ⟨B2,0,none⟩), .pointer (some ⟨B3,0,none⟩)] Rh gF (fun ys=>ys=L) (fun pre=>pre<+:L) L.length w:=fun l J Jx W hW hJ _ hY h0=>
 aac n l B1 B2 B3 s t fo le wo L J Jx W hJ (fun v hv=>hA v (hW.trans (hv.mono hW.size))) hY ((hW.cell (p:=⟨B1,0,none⟩) hS.l1).trans hS.c1) ((hW.cell (p:=⟨B2,0,none⟩) hS.l2).trans hS.c2)
  ((hW.cell (p:=⟨B3,0,none⟩) hS.l3).trans hS.c30) ((hW.cell (p:=⟨B3,1,none⟩) hS.l3).trans hS.c31) ((hW.cell (p:=⟨B3,2,none⟩) hS.l3).trans hS.c32) h0
end
section
open Go.RowKit Go.Shelf Go.Lib Go.Proofs.YtocaiijbhepnnaaGreatDoor.Am
attribute [local go_sem] Oper.semAt_some
def aae (w:World):Prop:=Calls Tryz.prog 14 #[] w fun e w'=>e= .returned (.bool true)∧Below w.heap.size w w'
def Lr (W:World) (e:Ending) (w':World):Prop:=e= .returned (.bool true)∧Below W.heap.size W w'
theorem uw (s:ByteArray):(⟨s.data.toList.toArray⟩:ByteArray)=s:=by rw[Array.toArray_toList]
def Bk (w:World) (g:Nat) (cs:Array Value) (T:TypeId):Prop:=w.heap[g]? =some (.cells cs T (0,0))
section
variable {w w':World} {g:Nat} {cs:Array Value} {T:TypeId}
theorem Bk.lt (h:Bk w g cs T):g<w.heap.size:=(dH.1 h).1
theorem Bk.below (h:Bk w g cs T) (hb:Below w.heap.size w w'):Bk w' g cs T:=bM hb h
theorem Bk.c (h:Bk w g cs T) (i:Nat):w.cell? ⟨g,i,none⟩=cs[i]? :=bC _ _ _ _ _ _ h
theorem Bk.f (h:Bk w g cs T) (i:Nat):w.frozen? ⟨g,i,none⟩=false:=by simp[World.frozen?,show w.heap[g]? =_ from h]
theorem Bk.new (w:World) (cs:Array Value) (T:TypeId):Bk (w.alloc (.cells cs T)) w.heap.size cs T:=dh w _
theorem Bk.set (h:Bk w g cs T) (i:Nat) (v:Value):Bk (w.setCell ⟨g,i,none⟩ v) g (cs.setIfInBounds i v) T:=tT _ _ i _ _ _ h
theorem Bk.other {g':Nat} (h:Bk w g cs T) (hn:g≠g') (i:Nat) (v:Value):Bk (w.setCell ⟨g',i,none⟩ v) g cs T:=(heap_setCell_other w ⟨g',i,none⟩ g v hn).trans h
theorem Bk.ne {g':Nat} {cs':Array Value} {T':TypeId} (h:Bk w g cs T) (h':Bk w g' cs' T') (hT:T≠T'):g≠g':=afE h h' hT
theorem Bk.own {row:Option Nat} (h:Bk w g cs T) (hg:w.grownBy w' row) (hr:∀r,row=some r→∃o:Obj,w.heap[r]? =some o∧o.isCells=false):Bk w' g cs T:=
 (hg.block g h.lt (fun e=>by obtain⟨o,ho,hc⟩:=hr g e.symm;rw[show w.heap[g]? =_ from h]at ho;injection ho with ho;subst ho;cases hc)).trans h
end
theorem CG.own {w w':World} {A:Option Addr} {n:Nat} {l:List (Nat×Nat)} {row:Option Nat} (h:CG w A n l) (hg:w.grownBy w' row) (hr:∀r,row=some r→∃o:Obj,w.heap[r]? =some o∧o.isCells=false):CG w' A n l:=
 h.keeps ⟨hg.size,fun k cs fr hk=>(hg.block k (dH.1 hk).1 (fun e=>by obtain⟨o,ho,hc⟩:=hr k e.symm;rw[hk]at ho;injection ho with ho;subst ho;cases hc)).trans hk⟩
structure EW (W0:World) (s t:ByteArray) (fo le wo:Bool) (x:Int) (L:List (Nat×Nat)) (B B6 B7 B8 E A9:Nat) (A:Option Addr) (N c:Nat) (m:Nat) (w:World):Prop where
 aB:Below W0.heap.size W0 w
 res:∃b,Bk w B #[.bool b] 4
 sto:Bk w B6 #[.int .i64 x] 3
 seq:Bk w B7 #[.func (.func 74) #[] #[.pointer (some ⟨E,0,none⟩), .pointer (some ⟨E+1,0,none⟩), .pointer (some ⟨E+2,0,none⟩)]] 38
 LM:Bk w B8 #[.slice A N c] 29
 cnt:Bk w A9 #[.int .i64 m] 3
 e1:Bk w E #[.string s] 9
 e2:Bk w (E+1) #[.string t] 9
 e3:Bk w (E+2) #[.bool fo, .bool le, .bool wo] 28
 mat:CG w A N L
 ne:B6≠A9
 lo:W0.heap.size<B∧W0.heap.size<A9
section
variable {W0 w w':World} {s t:ByteArray} {fo le wo:Bool} {x:Int} {L:List (Nat×Nat)} {B B6 B7 B8 E A9:Nat} {A:Option Addr} {N c m:Nat}
theorem EW.own {row:Option Nat} (h:EW W0 s t fo le wo x L B B6 B7 B8 E A9 A N c m w) (hg:w.grownBy w' row) (hr:∀r,row=some r→W0.heap.size≤r∧∃o:Obj,w.heap[r]? =some o∧o.isCells=false):EW W0 s t fo le wo x L B B6 B7 B8 E A9 A N c m w':=by have hr':=fun r e=>(hr r e).2;obtain⟨b,hb⟩:=h.res;exact⟨h.aB.grown hg h.aB.size (fun r e=>(hr r e).1),⟨b,hb.own hg hr'⟩,h.sto.own hg hr',h.seq.own hg hr',h.LM.own hg hr',h.cnt.own hg hr',h.e1.own hg hr',h.e2.own hg hr',h.e3.own hg hr',h.mat.own hg hr',h.ne,h.lo⟩
theorem EW.count (h:EW W0 s t fo le wo x L B B6 B7 B8 E A9 A N c m w) (j:Nat):EW W0 s t fo le wo x L B B6 B7 B8 E A9 A N c j (w.setCell ⟨A9,0,none⟩ (.int .i64 j)):=by obtain⟨b,hb⟩:=h.res;have n (g:Nat) (cs:Array Value) (T:TypeId) (hg:Bk w g cs T) (hT:T≠3):Bk (w.setCell ⟨A9,0,none⟩ (.int .i64 j)) g cs T:=hg.other (hg.ne h.cnt hT) 0 _;exact⟨h.aB.setCell (p:=⟨A9,0,none⟩) (dJ h.lo.2) _,⟨b,n _ _ _ hb (by decide)⟩,h.sto.other h.ne 0 _,n _ _ _ h.seq (by decide),n _ _ _ h.LM (by decide),h.cnt.set 0 _,n _ _ _ h.e1 (by decide),n _ _ _ h.e2 (by decide),n _ _ _ h.e3 (by decide),h.mat.keeps (jJ ⟨_,_,h.cnt⟩ (by decide)),h.ne,h.lo⟩
theorem EW.result (h:EW W0 s t fo le wo x L B B6 B7 B8 E A9 A N c m w) (q:Bool):EW W0 s t fo le wo x L B B6 B7 B8 E A9 A N c m (w.setCell ⟨B,0,none⟩ (.bool q)):=by obtain⟨b,hb⟩:=h.res;have n (g:Nat) (cs:Array Value) (T:TypeId) (hg:Bk w g cs T) (hT:T≠4):Bk (w.setCell ⟨B,0,none⟩ (.bool q)) g cs T:=hg.other (hg.ne hb hT) 0 _;exact⟨h.aB.setCell (p:=⟨B,0,none⟩) (dJ h.lo.1) _,⟨q,hb.set 0 _⟩,n _ _ _ h.sto (by decide),n _ _ _ h.seq (by decide),n _ _ _ h.LM (by decide),n _ _ _ h.cnt (by decide),n _ _ _ h.e1 (by decide),n _ _ _ h.e2 (by decide),n _ _ _ h.e3 (by decide),h.mat.keeps (jJ ⟨_,_,hb⟩ (by decide)),h.ne,h.lo⟩
theorem EW.at_ (h:EW W0 s t fo le wo x L B B6 B7 B8 E A9 A N c m w):TL s t fo le wo E (E+1) (E+2) w:=
 ⟨h.e1.lt,h.e2.lt,h.e3.lt,(h.e1.c 0).trans rfl,(h.e2.c 0).trans rfl,(h.e3.c 0).trans rfl,(h.e3.c 1).trans rfl,(h.e3.c 2).trans rfl⟩
end
theorem BD {w0 X Y:World} {row:Option Nat} (h:gF w0 X) (hg:X.grownBy Y row) (hr:∀r,row=some r→∃o:Obj,X.heap[r]? =some o∧o.isCells=false):gF w0 Y:=
 mO h ⟨hg.size,fun k cs fr hk=>(hg.block k (dH.1 hk).1 (fun e=>by obtain⟨o,ho,hc⟩:=hr k e.symm;rw[hk]at ho;injection ho with ho;subst ho;cases hc)).trans hk⟩
section
variable {g:Operand} {ps:Array Tmp} {assign body:Code} {Q:Exit→Act→World→Prop} {a:Act} {w:World} {s t:ByteArray} {fo le wo:Bool} {L:List (Nat×Nat)} {E n:Nat} {a₁:Int→Int→Act}
theorem VW (h1:1≤n) (hg:a.eval g= .func (.func 74) #[] #[.pointer (some ⟨E,0,none⟩), .pointer (some ⟨E+1,0,none⟩), .pointer (some ⟨E+2,0,none⟩)]) (hS:TL s t fo le wo E (E+1) (E+2) w) (hA:∀v,Below w.heap.size w v→Ri s t fo le wo L v) (hps:ps.size=2)
 (I:List (Nat×Nat)→World→Prop) (Ix:Code→List (Nat×Nat)→World→Prop) (hI:OwnFrom w.heap.size I) (hIx:∀c,OwnFrom w.heap.size (Ix c)) (h0:I [] w)
 (hassign:∀(l:Nat) (z:Nat×Nat) (V:World) (K:Act→World→Prop),K (a₁ z.1 z.2) V→assign.wpIn (Fence.wide.inRound l) (n-1-1) Tryz.prog (Exit.then K (fun _ _ _=>False)) {tmps:=(ps.zip (Rh z)).foldl (fun t (p,v)=>t.setIfInBounds p v) a.tmps,defers:=[]} V)
 (hbody:∀(l:Nat) (pre:List (Nat×Nat)) (z:Nat×Nat) (V:World),w.heap.size≤l→(∃r,V.heap[l]? =some (.loop r))→I pre V→pre.length<L.length→body.wpIn (Fence.wide.inRound l) (n-1-1) Tryz.prog (ownPostG w.heap.size gF I Ix (pre++[z]) V) (a₁ z.1 z.2) V)
 (hdone:∀(D:Nat) (V:World),w.heap.size≤D→I L V→V.heap[D]? =some (.deferred (some []))→Q .normal {a with defers:={target:= .collected D,args:=#[]}::a.defers} V)
 (hstop:∀(D:Nat) (c:Code) (pre:List (Nat×Nat)) (V:World),w.heap.size≤D→pre<+:L→Ix c pre V→V.heap[D]? =some (.deferred (some []))→c.wpIn Fence.wide n Tryz.prog Q {a with defers:={target:= .collected D,args:=#[]}::a.defers} V):
 (Code.rangeFunc g ps assign body).wpIn Fence.wide n Tryz.prog Q a w:=
 wpIn_rangeFunc_ownH (F:=Fence.wide) rfl h1 hg trivial (enters_of Tryz.func74 (by kernel_rfl) rfl) (DR (n-1) s t fo le wo L E (E+1) (E+2) w hS hA) mO G8 (aF _ _) (fun _=>hps.symm) I Ix hI hIx h0
  (fun z a' _=>a'=a₁ z.1 z.2) (fun z a'=>ownFrom_pure _ (fun _=>a'=a₁ z.1 z.2)) (fun l _ z V K hi hK=>hassign l z V K (hK _ _ (KeepsFrom.refl _ _) (vX (aF _ _)) hi rfl))
  (fun l pre z a' V hl hr hi ha hlt=>by subst ha;exact hbody l pre z V hl hr hi hlt) (fun D xs V hD hx hi hK=>by subst hx;exact hdone D V hD hi hK) hstop
theorem aaf {l₀:Nat} {r₀:Loop} (hl₀:w.heap[l₀]? =some (.loop r₀)) (h1:1≤n) (hg:a.eval g= .func (.func 74) #[] #[.pointer (some ⟨E,0,none⟩), .pointer (some ⟨E+1,0,none⟩), .pointer (some ⟨E+2,0,none⟩)]) (hS:TL s t fo le wo E (E+1) (E+2) w) (hA:∀v,Below w.heap.size w v→Ri s t fo le wo L v) (hps:ps.size=2)
 (I:List (Nat×Nat)→World→Prop) (Ix:Code→List (Nat×Nat)→World→Prop) (hI:OwnFrom w.heap.size I) (hIx:∀c,OwnFrom w.heap.size (Ix c)) (h0:I [] w)
 (hassign:∀(l:Nat) (z:Nat×Nat) (V:World) (K:Act→World→Prop),K (a₁ z.1 z.2) V→assign.wpIn (Fence.wide.inRound l) (n-1-1) Tryz.prog (Exit.then K (fun _ _ _=>False)) {tmps:=(ps.zip (Rh z)).foldl (fun t (p,v)=>t.setIfInBounds p v) a.tmps,defers:=[]} V)
 (hbody:∀(l:Nat) (pre:List (Nat×Nat)) (z:Nat×Nat) (V:World),w.heap.size≤l→(∃r,V.heap[l]? =some (.loop r))→I pre V→pre.length<L.length→body.wpIn (Fence.wide.inRound l) (n-1-1) Tryz.prog (ownPostG w.heap.size gF I Ix (pre++[z]) V) (a₁ z.1 z.2) V)
 (hdone:∀(V:World),I L V→Q .normal a V)
 (hstop:∀(c:Code) (pre:List (Nat×Nat)) (V:World),pre<+:L→Ix c pre V→c.wpIn (Fence.wide.inRound l₀) n Tryz.prog Q a V):
 (Code.rangeFunc g ps assign body).wpIn (Fence.wide.inRound l₀) n Tryz.prog Q a w:=
 wpIn_rangeFunc_ownN (F:=Fence.wide.inRound l₀) rfl hl₀ h1 hg trivial (enters_of Tryz.func74 (by kernel_rfl) rfl) ((DR (n-1) s t fo le wo L E (E+1) (E+2) w hS hA).inRound l₀) mO G8 (aF _ _) (fun _=>hps.symm) I Ix hI hIx h0
  (fun z a' _=>a'=a₁ z.1 z.2) (fun z a'=>ownFrom_pure _ (fun _=>a'=a₁ z.1 z.2)) (fun l _ z V K hi hK=>hassign l z V K (hK _ _ (KeepsFrom.refl _ _) (vX (aF _ _)) hi rfl))
  (fun l pre z a' V hl hr hi ha hlt=>by subst ha;exact hbody l pre z V hl hr hi hlt) (fun xs V hx hi=>by subst hx;exact hdone V hi) hstop
end
theorem G9 {pre L:List (Nat×Nat)} {z:Nat×Nat} (h:pre++[z]<+:L):L.getD pre.length Left.m0=z:=by obtain⟨r,rfl⟩:=h;rw[aM,dI,nG (ay _),qd];rfl
theorem OU {pre L:List (Nat×Nat)} (h:pre<+:L) (hl:pre.length<L.length):pre++[L.getD pre.length Left.m0]<+:L:=by
 obtain⟨r,rfl⟩:=h;cases r with
 |nil=>simp at hl
 |cons y r=>rw[aM,nG (ay _),qd];exact⟨r,by simp⟩
theorem agm (n:Fn) (a b:Array Value) (w:World):(binOp BinOp.eql 38 (.func n a b) .nilFunc).run Tryz.prog w= .ok (.bool false) w:=by
 have hu:=run_underlying Tryz.underlying38 w;have he:(Op.equal 38 (.func n a b) .nilFunc).run Tryz.prog w= .ok false w:=by show(Op.equalIn (9999+1) 38 (.func n a b) .nilFunc).run Tryz.prog w=_;rw[Op.equalIn];simp[Sem.run_bind,hu,Result.andThen]
 simp[binOp,he,Result.andThen]
structure E1 (W:World) (fo le wo:Bool) (x:Int) (g5 g6:Nat) (w:World):Prop where
 aB:Below W.heap.size W w
 res:Bk w (W.heap.size+1) #[.bool false] 4
 fnd:Bk w g5 #[.bool fo, .bool le, .bool wo] 28
 sto:Bk w g6 #[.int .i64 x] 3
 lo:W.heap.size+1<g6
theorem E1.go {W w w':World} {fo le wo:Bool} {x:Int} {g5 g6:Nat} (h:E1 W fo le wo x g5 g6 w) (hb:Below w.heap.size w w'):E1 W fo le wo x g5 g6 w':=
 ⟨h.aB.trans (hb.mono h.aB.size),h.res.below hb,h.fnd.below hb,h.sto.below hb,h.lo⟩
theorem aag (s t:ByteArray) (fo le wo:Bool) (w:World):
 Calls Tryz.prog 20 #[.string s, .string t, .agg #[.bool fo, .bool le, .bool wo]] w fun e w'=>e= .returned (.func (.func 74) #[] #[.pointer (some ⟨w.heap.size,0,none⟩), .pointer (some ⟨w.heap.size+1,0,none⟩), .pointer (some ⟨w.heap.size+2,0,none⟩)])∧
  w'=((w.alloc (.cells #[.string s] 9)).alloc (.cells #[.string t] 9)).alloc (.cells #[.bool fo, .bool le, .bool wo] 28):=callsIn_wide.1 (aad s t fo le wo 9 w)
theorem acY (s t:ByteArray) (fo le wo:Bool) (w:World):∃w',((w.alloc (.cells #[.string s] 9)).alloc (.cells #[.string t] 9)).alloc (.cells #[.bool fo, .bool le, .bool wo] 28)=w'∧Below w.heap.size w w'∧w'.heap.size=w.heap.size+3∧
 Bk w' w.heap.size #[.string s] 9∧Bk w' (w.heap.size+1) #[.string t] 9∧Bk w' (w.heap.size+2) #[.bool fo, .bool le, .bool wo] 28:=by
 refine⟨_,rfl,(((aF _ w).alloc (ay _) _).alloc (by simp) _).alloc (by simp;omega) _,by simp,?_,?_,?_⟩;·exact((Bk.new w _ _).below ((aF _ _).alloc (ay _) _)).below ((aF _ _).alloc (ay _) _)
 ·have:=(Bk.new (w.alloc (.cells #[.string s] 9)) #[.string t] 9).below ((aF _ _).alloc (ay _) (.cells #[.bool fo, .bool le, .bool wo] 28));rwa [gy]at this
 ·have:=Bk.new ((w.alloc (.cells #[.string s] 9)).alloc (.cells #[.string t] 9)) #[.bool fo, .bool le, .bool wo] 28;rwa [gy,gy]at this
theorem acZ (s t:ByteArray) (fo le wo:Bool) (x y:Int) (L:List (Nat×Nat)) (W:World)
 (hlive:∀w,Below W.heap.size W w→aae w) (hL:s.size≤48→L.length≤100) (hA:s.size≤48→t.size≤40→∀w,Below W.heap.size W w→Ri s t fo le wo L w)
 (hD:s.size≤48→t.size≤40→∀w,Below W.heap.size W w→Calls Tryz.prog 18 #[.string s, .string t, .agg #[.bool fo, .bool le, .bool wo]] w (rY L w)):
 Calls Tryz.prog 5 #[.agg #[.string s, .string t, .bool fo, .bool le, .bool wo, .int .i64 x, .int .i64 y]] W (Lr W):=by
 have HL:=ah hlive;have zi:=ah hA;have HDL:=ah hD;have Vt:=ah hL
 clear hlive hA hD hL
 refine(callsIn_wide (n:=9)).1 ?_
 refine callsIn_of_wp_marks Tryz.func5 rfl trivial ?_ rfl
 simp only[Tryz.ntmps5,nJ,bJ,iw,Nat.reduceAdd,Nat.reduceSub,w9,wZ,xA,qo,lC,yU]
 refine wpIn_wide.2 ?_
 go_upto_region 1 with fail
 go_cut [3,4,5,6]from 14 to 21 (fun a b p q wx=>∃g5 g6,a= .string s∧b= .string t∧p= .pointer (some ⟨g5,0,none⟩)∧q= .pointer (some ⟨g6,0,none⟩)∧E1 W fo le wo x g5 g6 wx)
 case first=>
  obtain⟨u,hu⟩:∃u,(W.alloc (.cells #[.string s, .string t, .bool fo, .bool le, .bool wo, .int .i64 x, .int .i64 y] 36)).alloc (.cells #[.bool false] 4)=u:=⟨_,rfl⟩
  have HQ:=ah (show Bk u W.heap.size #[.string s, .string t, .bool fo, .bool le, .bool wo, .int .i64 x, .int .i64 y] 36 from by rw[←hu];exact(Bk.new W _ _).below ((aF _ _).alloc (ay _) _))
  have HR:=ah (show Bk u (W.heap.size+1) #[.bool false] 4 from by rw[←hu,←gy W];exact Bk.new _ _ _)
  have HB:=ah (show Below W.heap.size W u from by rw[←hu];exact((aF _ W).alloc (ay _) _).alloc (by simp) _)
  have HZ:=ah (show u.heap.size=W.heap.size+2 from by rw[←hu];simp)
  rw[hu]
  clear hu
  have y0:=(HQ.out.c 0).trans rfl
  have y1:=(HQ.out.c 1).trans rfl
  have y2:=(HQ.out.c 2).trans rfl
  have y3:=(HQ.out.c 3).trans rfl
  have y4:=(HQ.out.c 4).trans rfl
  have y5:=(HQ.out.c 5).trans rfl
  go_region_held3 (fun w'=>w'.cell? ⟨W.heap.size,0,none⟩=some (.string s)∧w'.cell? ⟨W.heap.size,1,none⟩=some (.string t)∧w'.cell? ⟨W.heap.size,2,none⟩=some (.bool fo)∧w'.cell? ⟨W.heap.size,3,none⟩=some (.bool le)∧w'.cell? ⟨W.heap.size,4,none⟩=some (.bool wo)∧w'.cell? ⟨W.heap.size,5,none⟩=some (.int .i64 x))
   (first|go_keep)
   (first|fail)
  all_goals go_wp2_with fail
  all_goals go_meet
  all_goals have hb2:=fun(o o':Obj)=>(((aF u.heap.size u).alloc (ay _) o).alloc (by simp) o').drew
  ·have hb:=hb2 (.cells #[.bool fo, .bool le, .bool wo] 28) (.cells #[.int .i64 x] 3)
   exact⟨_,_,rfl,rfl,rfl,rfl,HB.out.trans (hb.mono HB.out.size),HR.out.below hb,heap_alloc2_old _ _ _,heap_alloc2_new _ _ _,by have:=HZ.out;omega⟩
  ·have hb:=hb2 (.cells #[.int .i64 x] 3) (.cells #[.bool fo, .bool le, .bool wo] 28)
   exact⟨_,_,rfl,rfl,rfl,rfl,HB.out.trans (hb.mono HB.out.size),HR.out.below hb,heap_alloc2_new _ _ _,heap_alloc2_old _ _ _,by have:=HZ.out;omega⟩
 case rest=>
  obtain⟨g5,g6,rfl,rfl,rfl,rfl,hE⟩:=hcut
  have HE:=ah hE;clear hE
  by_cases c1:48<s.size
  ·have h1i:(48:Int)<s.size:=by omega
   clear c1
   go_wp2_with (go_at_call 14;refine(HL.out _ HE.out.aB).mono ?_;rintro e w5 ⟨rfl,hb⟩;have H6:=ah (HE.out.go hb);have cR:=(H6.out.res.c 0).trans rfl;have fR:=H6.out.res.f 0;clear hb)
   have hc:=((H6.out.res.set 0 (.bool true)).c 0).trans rfl
   exact⟨.bool true,by simp[results,Tryz.f5,go_sem,hc],rfl,H6.out.aB.setCell (p:=⟨W.heap.size+1,0,none⟩) (Nat.le_succ _) _⟩
  by_cases c2:40<t.size
  ·have h1i:¬(48:Int)<s.size:=by omega
   have h2i:(40:Int)<t.size:=by omega
   clear c1 c2
   go_wp2_with (go_at_call 14;refine(HL.out _ HE.out.aB).mono ?_;rintro e w5 ⟨rfl,hb⟩;have H6:=ah (HE.out.go hb);have cR:=(H6.out.res.c 0).trans rfl;have fR:=H6.out.res.f 0;clear hb)
   have hc:=((H6.out.res.set 0 (.bool true)).c 0).trans rfl
   exact⟨.bool true,by simp[results,Tryz.f5,go_sem,hc],rfl,H6.out.aB.setCell (p:=⟨W.heap.size+1,0,none⟩) (Nat.le_succ _) _⟩
  have HA:=ah (zi.out (by omega) (by omega));have HD:=ah (HDL.out (by omega) (by omega));have HLEN:=ah (Vt.out (by omega))
  have hs1:¬(48:Int)<s.size:=by omega
  have ht1:¬(40:Int)<t.size:=by omega
  clear c1 c2 zi HDL Vt
  have y0:=(HE.out.fnd.c 0).trans rfl
  have y1:=(HE.out.fnd.c 1).trans rfl
  have y2:=(HE.out.fnd.c 2).trans rfl
  obtain⟨w2,hw2,hb2,hz2,k1,k2,k3⟩:=acY s t fo le wo wc
  have HB2:=ah hb2
  have hb3:=(aF w2.heap.size w2).alloc (ay _) (.cells #[.func (.func 74) #[] #[.pointer (some ⟨wc.heap.size,0,none⟩), .pointer (some ⟨wc.heap.size+1,0,none⟩), .pointer (some ⟨wc.heap.size+2,0,none⟩)]] 38)
  have HB3:=ah hb3
  have V3:=ah ((HE.out.go hb2).go hb3)
  have K1:=ah (k1.below hb3);have K2:=ah (k2.below hb3);have K3:=ah (k3.below hb3)
  have K7:=ah (Bk.new w2 #[.func (.func 74) #[] #[.pointer (some ⟨wc.heap.size,0,none⟩), .pointer (some ⟨wc.heap.size+1,0,none⟩), .pointer (some ⟨wc.heap.size+2,0,none⟩)]] 38)
  have HW2:=ah hw2;have HZ2:=ah hz2
  have z0:=(V3.out.fnd.c 0).trans rfl
  have z1:=(V3.out.fnd.c 1).trans rfl
  have z2:=(V3.out.fnd.c 2).trans rfl
  clear k1 k2 k3 hb2 hb3 hw2 hz2
  have heq:=agm (.func 74) #[] #[.pointer (some ⟨wc.heap.size,0,none⟩), .pointer (some ⟨wc.heap.size+1,0,none⟩), .pointer (some ⟨wc.heap.size+2,0,none⟩)]
  go_wp2_with (first
   |(go_at_call 20;refine(aag s t fo le wo wc).mono ?_;rintro e w' ⟨rfl,rfl⟩;rw[HW2.out])
   |(go_at_call 18;refine(HD.out _ V3.out.aB).mono ?_;rintro e w4 ⟨A,N,c,rfl,hm,hb⟩;have hbb:=((aF w4.heap.size w4).alloc (ay _) (.cells #[.slice A N c] 29)).alloc (by simp) (.cells #[.int .i64 0] 3);have Qv:=ah hbb;have HM:=ah hm;have Ea:=ah hb;have c7:=(((K7.out.below hb).below hbb).c 0).trans rfl;clear hm hb hbb))
  obtain⟨u,hu⟩:∃u,(w4.alloc (.cells #[.slice A N c] 29)).alloc (.cells #[.int .i64 0] 3)=u:=⟨_,rfl⟩
  have HK8:=ah (show Bk u w4.heap.size #[.slice A N c] 29 from by rw[←hu];exact(Bk.new w4 _ _).below ((aF _ _).alloc (ay _) _))
  have HK9:=ah (show Bk u (w4.heap.size+1) #[.int .i64 0] 3 from by rw[←hu,←gy w4];exact Bk.new _ _ _)
  rw[hu]at Qv c7⊢
  have HEW:EW W s t fo le wo x L (W.heap.size+1) g6 w2.heap.size w4.heap.size wc.heap.size (w4.heap.size+1) A N c 0 u:=by
   have h5:=(V3.out.go Ea.out).go Qv.out
   have hlt:=(V3.out.go Ea.out).sto.lt
   exact⟨h5.aB,⟨false,h5.res⟩,h5.sto,(K7.out.below Ea.out).below Qv.out,HK8.out,HK9.out,(K1.out.below Ea.out).below Qv.out,(K2.out.below Ea.out).below Qv.out,(K3.out.below Ea.out).below Qv.out,HM.out.below Qv.out,by omega,kD _,by have:=V3.out.lo;omega⟩
  have HE0:=ah HEW
  clear HEW hu HK8 HK9 Qv HM Ea c7 K1 K2 K3 K7 V3 HB2 HB3 HE y0 y1 y2 z0 z1 z2 heq HW2 HZ2
  obtain⟨B2,hB2⟩:∃B2,W.heap.size+1=B2:=⟨_,rfl⟩
  obtain⟨B7,hB7⟩:∃B7,w2.heap.size=B7:=⟨_,rfl⟩
  obtain⟨B8,hB8⟩:∃B8,w4.heap.size=B8:=⟨_,rfl⟩
  obtain⟨B9,hB9⟩:∃B9,B8+1=B9:=⟨_,rfl⟩
  obtain⟨E0,hE0⟩:∃E0,wc.heap.size=E0:=⟨_,rfl⟩
  rw[hB2,hB7,hB8,hE0]at HE0⊢
  rw[hB9]at HE0⊢
  clear hB2 hB7 hB8 hB9 hE0 w2 w4 wc
  have hA':∀v,Below u.heap.size u v→Ri s t fo le wo L v:=fun v hv=>HA.out v (HE0.out.aB.trans (hv.mono HE0.out.aB.size))
  refine(wpIn_wide (n:=9)).1 ?_
  apply VW (n:=9) (by omega) rfl HE0.out.at_ hA' rfl
   (fun pre V=>pre<+:L∧EW W s t fo le wo x L B2 g6 B7 B8 E0 B9 A N c pre.length V)
   (fun cd pre _=>cd= .ret∧¬pre<+:L)
   (fun pre X Y row hh hg hr=>⟨hh.1,hh.2.own hg (fun r e=>⟨aQ HE0.out.aB.size (hr r e).1,(hr r e).2⟩)⟩)
   (fun cd=>ownFrom_pure _ (fun pre=>cd= .ret∧¬pre<+:L))
   ⟨List.nil_prefix,HE0.out⟩
  case hassign=>
   rintro l ⟨p,q⟩ V K hK
   simp only[Rh]at hK⊢
   generalize(p:Int)=pi,(q:Int)=qi at hK⊢
   gi_wp2
   exact hK
  case hdone=>
   rintro D V hD ⟨_,hE⟩ hK
   have hlen:=hE.mat.len
   rw[hlen]at hE
   have Pd:=ah hE
   obtain⟨b,hres⟩:=hE.res
   have HRS:=ah hres
   have c9:=(hE.cnt.c 0).trans rfl
   have c8:=(hE.LM.c 0).trans rfl
   have HDL:=ah (dH.1 hK).1
   have HK:=ah hK
   clear hE hres hK hlen
   go_wp2_with (go_at_call 14;refine(HL.out V Pd.out.aB).mono ?_;rintro e w5 ⟨rfl,hb⟩;have H6:=ah hb;have cR:=((HRS.out.below hb).c 0).trans rfl;have fR:=(HRS.out.below hb).f 0;clear hb)
   have hK5:=(H6.out.block D HDL.out).trans HK.out
   have hK':=(KeepsOthers.setCell w5 ⟨B2,0,none⟩ (.bool true)).same D _ hK5 rfl
   refine⟨by simp, .inl ⟨_,_,rfl,run_takeDeferred hK',?_⟩⟩
   have hc5:=cell_kept ((((HRS.out.below H6.out).set 0 (.bool true)).c 0).trans rfl) (grownBy_putObj' _ D (.deferred none)) (fun r e=>by cases e;exact⟨_,hK',rfl⟩)
   refine⟨.bool true,?_,rfl,((Pd.out.aB.trans (H6.out.mono Pd.out.aB.size)).setCell (p:=⟨B2,0,none⟩) (dJ Pd.out.lo.1) _).trans (belowK_b (w:=u) HE0.out.aB.size _ D _ _ hD hK' rfl rfl)⟩
   simp[results,Tryz.f5,go_sem,hc5]
  case hstop=>
   rintro D cd pre V hD hpre ⟨_,hn⟩ hK
   exact absurd hpre hn
  case hbody=>
   rintro l pre ⟨p,q⟩ V hl ⟨r,hr⟩ ⟨hpre,hE⟩ hlt
   dsimp only
   have hlen:=hE.mat.len
   have agn:=ah (fun z (h:pre++[z]<+:L)=>G9 h)
   have HSN:=ah (OU hpre hlt)
   have LG:=ah (show(pre++[(p,q)]).length=pre.length+1 by simp)
   obtain⟨m,hm⟩:∃m,pre.length=m:=⟨_,rfl⟩
   have O9:=ah hlt
   rw[hm]at hE hlt agn HSN LG
   rw[hlen]at hlt
   have Pd:=ah hE
   obtain⟨b0,hres⟩:=hE.res
   have cR:=(hres.c 0).trans rfl
   have fR:=hres.f 0
   have c9:=(hE.cnt.c 0).trans rfl
   have f9:=hE.cnt.f 0
   have c8:=(hE.LM.c 0).trans rfl
   have c7:=(hE.seq.c 0).trans rfl
   have c6:=(hE.sto.c 0).trans rfl
   obtain⟨g,rfl,hg,hc⟩:=hE.mat.at_ (by omega)
   obtain⟨d0,d1⟩:=hc m hlt
   obtain⟨e0,e1⟩:=hc 0 (by omega)
   obtain⟨⟨a,b⟩,hab⟩:∃z,L.getD m Left.m0=z:=⟨_,rfl⟩
   rw[hab]at d0 d1 HSN
   have HAB:=ah hab
   have hm0:(0:Int)≤m:=by omega
   have hm1:(m:Int)<N:=by omega
   have hn0:(0:Int)<N:=by omega
   have hge:decide ((N:Int)≤m)=false:=by rw[zq];omega
   have j5:=ah (show wrap64 ((m:Int)+1)=((m+1:Nat):Int)by have:=HLEN.out;unfold wrap64;omega)
   have HHR:=ah hr
   clear hE hres hc hg hab hlen hpre hr
   by_cases hpa:p=a
   ·subst hpa
    by_cases hqb:q=b
    ·subst hqb
     have HI:=ah (show ∀V',EW W s t fo le wo x L B2 g6 B7 B8 E0 B9 (some ⟨g,0,none⟩) N c m V'→pre++[(p,q)]<+:L∧EW W s t fo le wo x L B2 g6 B7 B8 E0 B9 (some ⟨g,0,none⟩) N c (pre++[(p,q)]).length (V'.setCell ⟨B9,0,none⟩ (.int .i64 (m+1:Nat)))from fun V' h=>⟨HSN.out,by rw[LG.out];exact h.count (m+1)⟩)
     by_cases hst:(m:Int)=x
     ·have hsj:((m:Int)==x)=true:=bL.2 hst
      clear hst
      gi_wp2
      have hA2:∀v,Below V.heap.size V v→Ri s t fo le wo L v:=fun v hv=>HA.out v (Pd.out.aB.trans (hv.mono Pd.out.aB.size))
      apply aaf (n:=7) HHR.out (by omega) rfl Pd.out.at_ hA2 rfl
       (fun pre' V'=>pre'=[]∧EW W s t fo le wo x L B2 g6 B7 B8 E0 B9 (some ⟨g,0,none⟩) N c m V'∧KeepsFrom u.heap.size V V'∧gF V V')
       (fun cd pre' V'=>((cd= .ret∧¬pre'<+:L)∨cd= .exit 2)∧EW W s t fo le wo x L B2 g6 B7 B8 E0 B9 (some ⟨g,0,none⟩) N c m V'∧KeepsFrom u.heap.size V V'∧gF V V')
       (fun pre' X Y row hh hg hr=>⟨hh.1,hh.2.1.own hg (fun r e=>⟨aQ Pd.out.aB.size (hr r e).1,(hr r e).2⟩),ownFrom_keepsFrom (β:=Unit) (ay _) () X Y row hh.2.2.1 hg hr,BD hh.2.2.2 hg (fun r e=>(hr r e).2)⟩)
       (fun cd pre' X Y row hh hg hr=>⟨hh.1,hh.2.1.own hg (fun r e=>⟨aQ Pd.out.aB.size (hr r e).1,(hr r e).2⟩),ownFrom_keepsFrom (β:=Unit) (ay _) () X Y row hh.2.2.1 hg hr,BD hh.2.2.2 hg (fun r e=>(hr r e).2)⟩)
       ⟨rfl,Pd.out,KeepsFrom.refl _ _,vX (aF _ _)⟩
      case hassign=>
       rintro l2 ⟨p2,q2⟩ V2 K hK
       simp only[Rh]at hK⊢
       generalize(p2:Int)=pi,(q2:Int)=qi at hK⊢
       gi_wp2
       exact hK
      case hdone=>
       rintro V2 ⟨hn,_⟩
       have:=O9.out
       rw[hn]at this
       exact absurd this (iN _)
      case hstop=>
       rintro cd pre' V2 hpre' ⟨(⟨rfl,hn⟩|rfl),hE2,hKF,hKM⟩
       ·exact absurd hpre' hn
       ·have HE2:=ah hE2;have HKF:=ah hKF;have HKM:=ah hKM
        have c9':=(hE2.cnt.c 0).trans rfl
        have f9':=hE2.cnt.f 0
        clear hE2 hKF hKM
        gi_wp2
        try rw[j5.out]
        exact⟨HKF.out.trans ((KeepsOthers.setCell _ _ _).from _),mO HKM.out (jJ ⟨_,_,HE2.out.cnt⟩ (by decide)),HI.out _ HE2.out⟩
      case hbody=>
       rintro l2 pre' ⟨p2,q2⟩ V2 _ _ ⟨rfl,hE2,hKF,hKM⟩ _
       dsimp only
       obtain⟨b2,hres2⟩:=hE2.res
       have cR2:=(hres2.c 0).trans rfl
       have fR2:=hres2.f 0
       have c82:=(hE2.LM.c 0).trans rfl
       obtain⟨g2,hg2,_,hc2⟩:=hE2.mat.at_ (by omega)
       injection hg2 with hg2
       injection hg2 with hg2 _ _
       subst hg2
       obtain⟨k0,k1⟩:=hc2 0 (by omega)
       have HG0:=ah (fun z (h:([]:List (Nat×Nat))++[z]<+:L)=>G9 h)
       obtain⟨⟨a0,b0⟩,agp⟩:∃z,L.getD 0 Left.m0=z:=⟨_,rfl⟩
       rw[agp]at k0 k1
       have ajF:=ah agp
       have HE2:=ah hE2;have HKF:=ah hKF;have HKM:=ah hKM
       clear hE2 hKF hKM hc2 agp hres2 cR fR c9 f9 c8 c7 c6 d0 d1 e0 e1
       by_cases hpa:p2=a0
       ·subst hpa
        by_cases hqb:q2=b0
        ·subst hqb
         gi_wp2
         exact⟨KeepsFrom.refl _ _, .inr rfl,HE2.out,HKF.out,HKM.out⟩
        ·have hqi:¬(q2:Int)=b0:=by omega
         have hqj:((q2:Int)==(b0:Int))=false:=bW.2 hqi
         have hqn:((q2:Int) !=(b0:Int))=true:=by simp[bne,hqj]
         gi_wp2
         exact⟨(KeepsOthers.setCell _ _ _).from _, .inl ⟨rfl,fun h=>hqb (by have:=HG0.out _ h;rw[show L.getD ([]:List (Nat×Nat)).length Left.m0=(p2,b0)from ajF.out]at this;injection this with _ h2;exact h2.symm)⟩,HE2.out.result false,HKF.out.trans ((KeepsOthers.setCell _ _ _).from _),mO HKM.out (by obtain⟨b3,h3⟩:=HE2.out.res;exact jJ ⟨_,_,h3⟩ (by decide))⟩
       ·have hpi:¬(p2:Int)=a0:=by omega
        have hpj:((p2:Int)==(a0:Int))=false:=bW.2 hpi
        gi_wp2
        exact⟨(KeepsOthers.setCell _ _ _).from _, .inl ⟨rfl,fun h=>hpa (by have:=HG0.out _ h;rw[show L.getD ([]:List (Nat×Nat)).length Left.m0=(a0,b0)from ajF.out]at this;injection this with h1 _;exact h1.symm)⟩,HE2.out.result false,HKF.out.trans ((KeepsOthers.setCell _ _ _).from _),mO HKM.out (by obtain⟨b3,h3⟩:=HE2.out.res;exact jJ ⟨_,_,h3⟩ (by decide))⟩
     ·have hsj:((m:Int)==x)=false:=bW.2 hst
      clear hst
      gi_wp2
      try rw[j5.out]
      exact⟨(KeepsOthers.setCell _ _ _).from _,jJ ⟨_,_,Pd.out.cnt⟩ (by decide),HI.out _ Pd.out⟩
    ·have hqi:¬(q:Int)=b:=by omega
     have hqj:((q:Int)==(b:Int))=false:=bW.2 hqi
     have hqn:((q:Int) !=(b:Int))=true:=by simp[bne,hqj]
     gi_wp2
     exact⟨(KeepsOthers.setCell _ _ _).from _,rfl,fun h=>hqb (by have:=agn.out _ h;rw[HAB.out]at this;injection this with _ h2;exact h2.symm)⟩
   ·have hpi:¬(p:Int)=a:=by omega
    have hpj:((p:Int)==(a:Int))=false:=bW.2 hpi
    gi_wp2
    exact⟨(KeepsOthers.setCell _ _ _).from _,rfl,fun h=>hpa (by have:=agn.out _ h;rw[HAB.out]at this;injection this with h1 _;exact h1.symm)⟩
theorem Ij (s t:ByteArray) (fo le wo:Bool) (x y:Int) (W:World) (h:Ask W) (hd:VU W) (hl:∀w,Below W.heap.size W w→aae w):
 Calls Tryz.prog 5 #[.agg #[.string s, .string t, .bool fo, .bool le, .bool wo, .int .i64 x, .int .i64 y]] W (Lr W):=by
 have ls:s.data.toList.length=s.size:=ji;have lt:t.data.toList.length=t.size:=ji;have hn:=zf s.data.toList t.data.toList fo le wo;have hal:∀(l:List (Nat×Nat)) e,(Left.mJ e l).length≤l.length:=fun l=>by
  induction l with
  |nil=>intro e;exact ay _
  |cons m l ih=>intro e;unfold Left.mJ;split<;>have:=ih e<;>have:=ih m.2<;>simp only[bJ]<;>omega
 have hL:=hal (qR s.data.toList t.data.toList fo le wo) 0;refine acZ s t fo le wo x y (Left.mJ 0 (qR s.data.toList t.data.toList fo le wo)) W hl (fun _=>by omega) (fun c1 c2 w hb=> ?_) (fun c1 c2 w hb=> ?_);·have:=ab8 s.data.toList t.data.toList fo le wo w (h.go hb) (by omega) (by omega);rwa [uw,uw]at this
 ·have:=Z9 s.data.toList t.data.toList fo le wo w (hd.go hb) (by omega) (by omega);rwa [uw,uw]at this
end
section
open KX (PT)
noncomputable section
def isB (x:AV) (b:Bool):Bool:=match x with
 | .bool c=>H7 c b
 |_=>false
theorem zm {x:AV} {b:Bool} (h:isB x b=true) {ι:bg} {v:Value} (hv:VR ι x v):v= .bool b:=by
 unfold isB at h;split at h;·have hv:v=_:=hv;rw[hv,wR h]
 ·cases h
def aah (d:Nat) (t:E AV d):Nat→List Int→Bool
 |_,[]=>true
 |i,x::r=>aA (isInt .i64 (E.get d (path d i) t) x) (aah d t (Nat.succ i) r)
theorem OV {d:Nat} {t:E AV d}:∀{l:List Int} {i:Nat},aah d t i l=true→∀j,j<l.length→isInt .i64 (E.get d (path d (i+j)) t) (l.getD j 0)=true
 |[],_,_,j,hj=>by simp at hj
 |x::r,i,e,j,hj=>by
  obtain⟨h1,h2⟩:=au e;cases j with
  |zero=>exact h1
  |succ j=>have:=OV h2 j (by simpa using hj);rw[show i+(j+1)=Nat.succ i+j by omega];simpa using this
def VX (h:H) (x:AV) (n s:Nat) (f:(d:Nat)→E AV d→Nat→Bool):Bool:=match x with
 | .jO=>Nat.beq n (nat_lit 0)
 | .slice b off len es _=>aA (Nat.beq len n) (Bool.rec (match h.get b with
   |some (.cells _ _ m d t)=>aA (Nat.beq es s) (aA (Nat.ble (Nat.add off (Nat.mul len es)) m) (f d t off))
   |_=>false) true (Nat.beq n (nat_lit 0)))
 |_=>false
theorem ET {h:H} {x:AV} {n s:Nat} {f:(d:Nat)→E AV d→Nat→Bool} (e:VX h x n s f=true) {ι:bg} {w:World} {v:Value} (k:WR ι h w) (hv:VR ι x v):
 ∃A c,v= .slice A n c∧(0<n→∃g o d,∃t:E AV d,∃off,A=some ⟨g,o,none⟩∧g<w.heap.size∧f d t off=true∧∀i,i<n*s→∃y,w.cell? ⟨g,o+i,none⟩=some y∧VR ι (E.get d (path d (off+i)) t) y):=by
 unfold VX at e;split at e;·have e:=aO e;subst e;have hv:v= .slice none 0 0:=hv;exact⟨none,0,hv,fun c=>absurd c (dA _)⟩
 ·rename_i b off len es z;obtain⟨e1,e2⟩:=au e;have e1:=aO e1;subst e1;rcases kC len with h0|h0
  ·subst h0;obtain⟨m,y,cap,_,rfl,_⟩:=hv;exact⟨y,cap,rfl,fun c=>absurd c (dA _)⟩
  ·have hz:Nat.beq len (nat_lit 0)=false:=by
    cases hq:Nat.beq len (nat_lit 0);·rfl
    ·have:=aO hq;exact absurd h0 (by rw[this];exact dA _)
   rw[hz]at e2;simp only at e2;split at e2
   ·rename_i el ro m d t hb;obtain⟨q1,q2⟩:=au e2;obtain⟨q3,q4⟩:=au q2;have q1:=aO q1;subst q1;obtain⟨B,o,cap,rfl,hc,hcell⟩:=gQ k hv h0 hb (fH q3);refine⟨_,cap,rfl,fun _=>⟨B,o,d,t,off,rfl,?_,q4,hcell⟩⟩;rcases kC es with c|c
    ·obtain⟨m0,y0,cap0,hm0,e0,_,_,hy0⟩:=hv;obtain⟨arr,jv,lo,hi,hw,_⟩:=k.cells trivial hm0 hb;have hB:m0.B=B:=by
      injection e0 with e0 _ _;rcases hy0 with hy|⟨hy,_⟩
      ·omega
      ·rw[hy]at e0;injection e0 with e0;injection e0 with e0 _ _;exact e0.symm
     rw[←hB];exact(dH.1 hw).1
    ·obtain⟨y,hy,_⟩:=hcell 0 (Nat.mul_pos h0 c);exact dK hy
   ·cases e2
 ·cases e
def TM (h:H) (x:AV) (l:List Int):Bool:=aA (Nat.ble l.length (nat_lit 100000)) (VX h x l.length (nat_lit 1) fun d t off=>aah d t off l)
theorem He {h:H} {x:AV} {l:List Int} (e:TM h x l=true) {ι:bg} {w:World} {v:Value} (k:WR ι h w) (hv:VR ι x v):∃A n c,v= .slice A n c∧bQ w A n l:=by obtain⟨e1,e2⟩:=au e;obtain⟨A,c,rfl,h1⟩:=ET e2 k hv;refine⟨A,_,c,rfl,rfl,fH e1,fun h0=> ?_⟩;obtain⟨g,o,d,t,off,rfl,hg,q,hc⟩:=h1 h0;refine⟨g,o,rfl,hg,fun j hj=> ?_⟩;obtain⟨y,hy,ry⟩:=hc j (by show j<l.length*1;omega);rw[hy,lI (OV q j hj) ry]
mutual
def aai (h:H):PT→AV→AV→AV→Bool
 | .node op cls kids,a,b,k=>aA (isInt .i64 a (Int.ofNat op)) (aA (TM h b (cls.map fun(x:Nat)=>(x:Int))) (VX h k kids.length (nat_lit 3) fun d t off=>TN h kids d t off))
def TN (h:H):List PT→(d:Nat)→E AV d→Nat→Bool
 |[],_,_,_=>true
 |p::r,d,t,i=>aA (aai h p (E.get d (path d i) t) (E.get d (path d (Nat.add i (nat_lit 1))) t) (E.get d (path d (Nat.add i (nat_lit 2))) t)) (TN h r d t (Nat.add i (nat_lit 3)))
end
mutual
theorem Ls {h:H} {ι:bg} {w:World} (k:WR ι h w):∀(p:PT) {x y z:AV} {a b c:Value},aai h p x y z=true→VR ι x a→VR ι y b→VR ι z c→eX w a b c p
 | .node op cls kids,x,y,z,a,b,c,e,ha,hb,hc=>by
   unfold aai at e;obtain⟨e1,e2⟩:=au e;obtain⟨e3,e4⟩:=au e2;unfold eX;obtain⟨A,n,c1,rfl,hI⟩:=He e3 k hb;obtain⟨A2,c2,rfl,h1⟩:=ET e4 k hc;refine⟨lI e1 ha,⟨A,n,c1,rfl,hI⟩,A2,c2,rfl,?_⟩;rcases kC kids.length with h0|h0;·rw[qN h0];exact trivial
   ·obtain⟨g,o,d,t,off,rfl,hg,q,hcl⟩:=h1 h0;exact OX k kids 0 kids.length (by omega) hg (by rw[ko,cZ];exact q) hcl
theorem OX {h:H} {ι:bg} {w:World} (k:WR ι h w):∀(l:List PT) (i n:Nat) {d:Nat} {t:E AV d} {off g o:Nat},i+l.length≤n→g<w.heap.size→TN h l d t (off+i*3)=true→
 (∀i,i<n*3→∃y,w.cell? ⟨g,o+i,none⟩=some y∧VR ι (E.get d (path d (off+i)) t) y)→mM w (some ⟨g,o,none⟩) i l
 |[],_,_,_,_,_,_,_,_,_,_,_=>trivial
 |p::r,i,n,d,t,off,g,o,hn,hg,e,hc=>by unfold TN at e;obtain⟨e1,e2⟩:=au e;rw[bJ]at hn;unfold mM;obtain⟨y0,z0,s0⟩:=hc (i*3) (by omega);obtain⟨y1,z1,s1⟩:=hc (i*3+1) (by omega);obtain⟨y2,z2,s2⟩:=hc (i*3+2) (by omega);exact⟨⟨g,o,y0,y1,y2,rfl,hg,z0,z1,z2,Ls k p e1 s0 s1 s2⟩,OX k r (i+1) n (by omega) hg (by rw[fD,←mh];exact e2) hc⟩
end
def fineP (p:PT):Bool:=aA (qV p) (aA (QY p) (Nat.ble (lW p) 2000))
theorem fineP_ok {p:PT} (h:fineP p=true):Q7 p:=by obtain⟨h1,h2⟩:=au h;obtain⟨h3,h4⟩:=au h2;exact⟨h1,h3,fH h4⟩
def pW (d:Nat) (t:E AV d) (i k:Nat):AV:=E.get d (path d (Nat.add i k)) t
def aed (h:H) (d:Nat) (t:E AV d) (i:Nat) (r:PR):Bool:=
 aA (aA (isB (pW d t i 0) r.brk) (aA (isB (pW d t i 1) r.fst) (aA (isB (pW d t i 2) r.LM) (H7 r.LM false)))) (aA (aA (aai h r.left (pW d t i 3) (pW d t i 4) (pW d t i 5)) (aai h r.right (pW d t i 6) (pW d t i 7) (pW d t i 8))) (aA (fineP r.left) (fineP r.right)))
def Rj (h:H) (d:Nat) (t:E AV d):Nat→List PR→Bool
 |_,[]=>true
 |i,r::l=>aA (aed h d t i r) (Rj h d t (Nat.add i (nat_lit 9)) l)
theorem JH {h:H} {d:Nat} {t:E AV d}:∀{l:List PR} {i:Nat},Rj h d t i l=true→∀j r,l[j]? =some r→aed h d t (i+j*9) r=true
 |[],_,_,j,r,hj=>by simp at hj
 |x::l,i,e,j,r,hj=>by
  obtain⟨h1,h2⟩:=au e;cases j with
  |zero=>
   obtain rfl:x=r:=by simpa using hj
   rw[ko,cZ];exact h1
  |succ j=>have:=JH h2 j r (by simpa using hj);rw[show i+(j+1)*9=Nat.add i (nat_lit 9)+j*9 by rw[fD];show _=i+9+_;omega];exact this
def Hf (h:H) (x:AV) (l:List PR):Bool:=aA (aA (Nat.ble (nat_lit 1) l.length) (Nat.ble l.length (nat_lit 64))) (VX h x l.length (nat_lit 9) fun d t off=>Rj h d t off l)
theorem aaj {w:World} {a b c:Value} {p:PT} (h:eX w a b c p):(∃op:Nat,a= .int .i64 op)∧(∃A n d,b= .slice A n d)∧∃A n d,c= .slice A n d:=by cases p;unfold eX at h;obtain⟨h1,⟨A,n,c,h2,_⟩,A2,c2,h3,_⟩:=h;exact⟨⟨_,h1⟩,⟨A,n,c,h2⟩,A2,_,c2,h3⟩
theorem DT {h:H} {x:AV} {l:List PR} (e:Hf h x l=true) {ι:bg} {w:World} {v:Value} (k:WR ι h w) (hv:VR ι x v):∃g o c,v= .slice (some ⟨g,o,none⟩) l.length c∧kg w g o l:=by
 obtain⟨e1,e2⟩:=au e;obtain⟨e3,e4⟩:=au e1;obtain⟨A,c,rfl,h1⟩:=ET e2 k hv;obtain⟨g,o,d,t,off,rfl,hg,q,hc⟩:=h1 (fH e3);refine⟨g,o,c,rfl,hg,fH e4,fun i r hr=> ?_⟩;have hi:i<l.length:=(nH.1 hr).1;obtain⟨q1,q2⟩:=au (JH q i r hr);obtain⟨b0,q1⟩:=au q1;obtain⟨b1,q1⟩:=au q1;obtain⟨b2,b3⟩:=au q1;obtain⟨q3,q4⟩:=au q2;obtain⟨pl,pr⟩:=au q3;obtain⟨fl,fr⟩:=au q4;have cell:∀j,j<9→∃y,w.cell? ⟨g,o+i*9+j,none⟩=some y∧VR ι (pW d t (off+i*9) j) y:=fun j hj=>by obtain⟨y,hy,ry⟩:=hc (i*9+j) (by show i*9+j<l.length*9;omega);rw[←mh]at hy ry;exact⟨y,hy,ry⟩
 obtain⟨y0,z0,s0⟩:=cell 0 (by omega);obtain⟨y1,z1,s1⟩:=cell 1 (by omega);obtain⟨y2,z2,s2⟩:=cell 2 (by omega);obtain⟨y3,z3,s3⟩:=cell 3 (by omega);obtain⟨y4,z4,s4⟩:=cell 4 (by omega);obtain⟨y5,z5,s5⟩:=cell 5 (by omega);obtain⟨y6,z6,s6⟩:=cell 6 (by omega);obtain⟨y7,z7,s7⟩:=cell 7 (by omega);obtain⟨y8,z8,s8⟩:=cell 8 (by omega);have hl:=Ls k r.left pl s3 s4 s5;have hr:=Ls k r.right pr s6 s7 s8;obtain⟨⟨o1,rfl⟩,⟨A4,n4,d4,rfl⟩,A5,n5,d5,rfl⟩:=aaj hl;obtain⟨⟨o2,rfl⟩,⟨A7,n7,d7,rfl⟩,A8,n8,d8,rfl⟩:=aaj hr;obtain rfl:=zm b0 s0;obtain rfl:=zm b1 s1;obtain rfl:=zm b2 s2;refine⟨wR b3,⟨o1,A4,n4,d4,A5,n5,d5,o2,A7,n7,d7,A8,n8,d8⟩,⟨hl,hr,fineP_ok fl,fineP_ok fr⟩,fun j x hx=> ?_⟩;match j,hx with
 |0,hx=>cases hx;exact z0
 |1,hx=>cases hx;exact z1
 |2,hx=>cases hx;exact z2
 |3,hx=>cases hx;exact z3
 |4,hx=>cases hx;exact z4
 |5,hx=>cases hx;exact z5
 |6,hx=>cases hx;exact z6
 |7,hx=>cases hx;exact z7
 |8,hx=>cases hx;exact z8
 |j+9,hx=>simp[yF.cells]at hx
def aee (h:H) (d:Nat) (t:E AV d) (i:Nat) (s:SD):Bool:=
 aA (aA (TM h (pW d t i 0) s.left) (TM h (pW d t i 1) s.right)) (aA (isB (pW d t i 2) s.V8) (isB (pW d t i 3) s.V9))
def Rk (h:H) (d:Nat) (t:E AV d):Nat→List SD→Bool
 |_,[]=>true
 |i,r::l=>aA (aee h d t i r) (Rk h d t (Nat.add i (nat_lit 4)) l)
theorem JI {h:H} {d:Nat} {t:E AV d}:∀{l:List SD} {i:Nat},Rk h d t i l=true→∀j r,l[j]? =some r→aee h d t (i+j*4) r=true
 |[],_,_,j,r,hj=>by simp at hj
 |x::l,i,e,j,r,hj=>by
  obtain⟨h1,h2⟩:=au e;cases j with
  |zero=>
   obtain rfl:x=r:=by simpa using hj
   rw[ko,cZ];exact h1
  |succ j=>have:=JI h2 j r (by simpa using hj);rw[show i+(j+1)*4=Nat.add i (nat_lit 4)+j*4 by rw[fD];show _=i+4+_;omega];exact this
def Hg (h:H) (x:AV) (l:List SD):Bool:=aA (Nat.ble (nat_lit 1) l.length) (VX h x l.length (nat_lit 4) fun d t off=>Rk h d t off l)
theorem OY {h:H} {x:AV} {l:List SD} (e:Hg h x l=true) {ι:bg} {w:World} {v:Value} (k:WR ι h w) (hv:VR ι x v):∃A c,v= .slice A l.length c∧Tx w A l.length l:=by
 obtain⟨e1,e2⟩:=au e;obtain⟨A,c,rfl,h1⟩:=ET e2 k hv;obtain⟨g,o,d,t,off,rfl,hg,q,hc⟩:=h1 (fH e1);refine⟨_,c,rfl,rfl,fun i s hs=> ?_⟩;have hi:i<l.length:=(nH.1 hs).1;obtain⟨q1,q2⟩:=au (JI q i s hs);obtain⟨i0,i1⟩:=au q1;obtain⟨b2,b3⟩:=au q2;have cell:∀j,j<4→∃y,w.cell? ⟨g,o+i*4+j,none⟩=some y∧VR ι (pW d t (off+i*4) j) y:=fun j hj=>by obtain⟨y,hy,ry⟩:=hc (i*4+j) (by show i*4+j<l.length*4;omega);rw[←mh]at hy ry;exact⟨y,hy,ry⟩
 obtain⟨y0,z0,s0⟩:=cell 0 (by omega);obtain⟨y1,z1,s1⟩:=cell 1 (by omega);obtain⟨y2,z2,s2⟩:=cell 2 (by omega);obtain⟨y3,z3,s3⟩:=cell 3 (by omega);obtain⟨lA,ln,lc,rfl,hL⟩:=He i0 k s0;obtain⟨rA,rn,rc,rfl,hR⟩:=He i1 k s1;obtain rfl:=zm b2 s2;obtain rfl:=zm b3 s3;exact⟨g,o,lA,ln,lc,rA,rn,rc,rfl,hg,z0,z1,z2,z3,hL,hR⟩
end
end
noncomputable section
def aak (v:AV) (h:H):Bool:=match v with
 | .ptr b off=>match h.get b with
   |some (.cells _ _ n d t)=>aA (Nat.ble (Nat.add off (nat_lit 3)) n) (aA (Az h (E.get d (path d (Nat.add off (nat_lit 0))) t) (rZ gV 13)) (aA (Hf h (E.get d (path d (Nat.add off (nat_lit 1))) t) su) (isB (E.get d (path d (Nat.add off (nat_lit 2))) t) true)))
   |_=>false
 |_=>false
theorem aal {ι:bg} {h:H} {w:World} {x:AV} {v:Value} (e:aak x h=true) (k:WR ι h w) (hv:VR ι x v):ZU w v gV 13 su true:=by
 unfold aak at e;split at e
 ·rename_i b off;split at e
  ·rename_i el ro n d t hb;obtain⟨e0,e⟩:=au e;obtain⟨e1,e⟩:=au e;obtain⟨e2,e3⟩:=au e;obtain⟨B,o,rfl,hc⟩:=oI (c:=3) k hv hb (fH e0);obtain⟨y0,z0,s0⟩:=hc 0 (by omega);obtain⟨y1,z1,s1⟩:=hc 1 (by omega);obtain⟨y2,z2,s2⟩:=hc 2 (by omega);obtain⟨g,og,c,rfl,hR⟩:=DT e2 k s1;obtain rfl:=zm e3 s2;exact⟨B,o,y0,g,og,c,rfl,dK z0,z0,z1,z2,Gf e1 k s0,hR⟩
  ·cases e
 ·cases e
def TP (v:AV) (h:H):Bool:=match v with
 | .ig (.cons (.agg (.cons x (.cons y .nil))) (.cons a (.cons b .nil)))=>aA (aA (Hf h x dG) (isB y true)) (aA (isInt .i64 a 0) (isInt .i64 b 0))
 |_=>false
theorem aam {ι:bg} {h:H} {w:World} {x:AV} {v:Value} (e:TP x h=true) (k:WR ι h w) (hv:VR ι x v):∃gr og cr,v= .tuple #[.agg #[.slice (some ⟨gr,og,none⟩) dG.length cr, .bool true], .int .i64 0, .int .i64 0]∧kg w gr og dG:=by
 unfold TP at e;split at e;·obtain⟨e1,e2⟩:=au e;obtain⟨e3,e4⟩:=au e1;obtain⟨e5,e6⟩:=au e2;obtain⟨xs,rfl,u,l1,h1,⟨ys,rfl,p,l2,h2,hp,q,l3,h3,hq,h4⟩,a,l4,h5,ha,b,l5,h6,hb,h7⟩:=hv;obtain⟨g,og,c,rfl,hR⟩:=DT e3 k hp;obtain rfl:=zm e4 hq;obtain rfl:=lI e5 ha;obtain rfl:=lI e6 hb;subst h4 h3 h7 h6 h5;refine⟨g,og,c,?_,hR⟩;rw[show xs=#[.agg ys, .int .i64 0, .int .i64 0]from Array.ext' h1,show ys=#[.slice (some ⟨g,og,none⟩) dG.length c, .bool true]from Array.ext' h2]
 ·cases e
theorem aan {ext:Nat→Nat} {OZ Ik:Nat→AV→H→Option bF} {N:Nat} (mZ:Tryz.prog.follows .mixedOrders=true) (hprog:fZ Tryz.prog=true) (eA:oW Tryz.prog (cB Tryz.prog ext OZ)) (eB:oW Tryz.prog (cB Tryz.prog ext Ik)) (oA:fV Tryz.prog (cB Tryz.prog ext OZ)) (oB:fV Tryz.prog (cB Tryz.prog ext Ik))
 (d n p s:iR) (ag r:AV) (ss:List SD)
 (hf:(d.f=75∧n.f=77)∧p.f=76∧s.f=126) (ha:(d.args= .nil∧n.args= .cons d.v .nil)∧p.args= .cons (.str Z6) (.cons n.v .nil)∧s.args= .cons ag .nil∧p.v= .ig (.cons ag r))
 (hw:(d.ws=[]∧n.ws=[])∧p.ws=[]∧s.ws=[]) (hx:(64≤d.nx∧d.nx≤65536)∧d.bi=[]∧d.nx'=n.nx∧n.nx'=p.nx∧p.nx'=s.nx)
 (hd:aA (fnOf Tryz.prog d.f).isSome (aA (OZ d.f d.args (qx d)).isNone (aA (UE d) (Ap d (fun v h=>Az h v (rZ gW 19)) ((run (cB Tryz.prog ext OZ) (Nat.succ N)).call d.f d.args (qx d)))))=true)
 (hn:aA (fnOf Tryz.prog n.f).isSome (aA (OZ n.f n.args (qx n)).isNone (aA (UE n) (Ap n (fun _ _=>true) ((run (cB Tryz.prog ext OZ) (Nat.succ N)).call n.f n.args (qx n)))))=true)
 (hp:aA (fnOf Tryz.prog p.f).isSome (aA (Ik p.f p.args (qx p)).isNone (aA (UE p) (Ap p TP ((run (cB Tryz.prog ext Ik) (Nat.succ N)).call p.f p.args (qx p)))))=true)
 (hs:aA (fnOf Tryz.prog s.f).isSome (aA (OZ s.f s.args (qx s)).isNone (aA (UE s) (Ap s (fun v h=>Hg h v ss) ((run (cB Tryz.prog ext OZ) (Nat.succ N)).call s.f s.args (qx s)))))=true)
 (h1:jN (tL d (qx d)) n.bi=true) (h2:jN (tL n (tL d (qx d))) p.bi=true) (h3:jN (tL p (tL n (tL d (qx d)))) s.bi=true) (hk:xW dG ss=true) (W:World):TK W:=by
 have hin:qx d=h0 d.nx:=by unfold qx h0;rw[hx.2.1];rfl
 refine(show Calls Tryz.prog 75 #[] W _ from ?_);rw[←hf.1.1];refine(Aq mZ hprog eA oA hw.1.1 hd (ι:=tK W) (w:=W) (h:=qx d) (by rw[hin];exact Yb hx.1.1 hx.1.2 W) (Et W) (by rw[hin];rfl) (by rw[hx.2.1];rfl) (vs:=#[]) (by rw[ha.1.1];rfl)).mono ?_;rintro e w1 ⟨v,rfl,⟨v1,hh,ι1,q1,s1,k1⟩,⟨ι2,k2,g2,s2⟩,hb⟩;refine⟨v,rfl,hb,Gf q1 k1 s1,fun w2 hb2=> ?_⟩;rw[←hf.1.2];refine(Aq mZ hprog eA oA hw.1.2 hn (k2.below hb2) g2 hx.2.2.1 h1 (vs:=#[v]) (by rw[ha.1.2];exact⟨v,[],rfl,s2,rfl⟩)).mono ?_;rintro e w3 ⟨nv,rfl,_,⟨ι3,k3,g3,s3⟩,hb3⟩;refine⟨nv,rfl,hb3,fun w4 hb4 b hS=> ?_⟩;rw[←hf.2.1];refine(Aq mZ hprog eB oB hw.2.1 hp (k3.below hb4) g3 hx.2.2.2.1 h2 (vs:=#[.string b,nv]) (by rw[ha.2.1];exact⟨_,_,rfl,⟨b,rfl,hS.symm⟩,nv,[],rfl,s3,rfl⟩)).mono ?_;rintro e w5 ⟨pv,rfl,⟨v5,hh5,ι5,q5,s5,k5⟩,⟨ι6,k6,g6,s6⟩,hb5⟩;obtain⟨gr,og,cr,rfl,hR⟩:=aam q5 k5 s5;refine⟨gr,og,cr,rfl,hb5,hR,ss,hk,fun w6 hb6 w7 hb7=> ?_⟩;rw[ha.2.2.2]at s6;obtain⟨xs,e1,u,l,e2,hu,_⟩:=s6;injection e1 with e1;subst e1;injection e2 with e2 _;subst e2;rw[←hf.2.2];refine(Aq mZ hprog eA oA hw.2.2 hs ((k6.below hb6).below hb7) g6 hx.2.2.2.2 h3 (vs:=#[.agg #[.slice (some ⟨gr,og,none⟩) dG.length cr, .bool true]]) (by rw[ha.2.2.1];exact⟨_,[],rfl,hu,rfl⟩)).mono ?_;rintro e w8 ⟨sv,rfl,⟨v8,hh8,ι8,q8,s8,k8⟩,_,hb8⟩;obtain⟨A,c,rfl,hS⟩:=OY q8 k8 s8;exact⟨A,_,c,rfl,hS,hb8⟩
end
end Go.Proofs.YtocaiijbhepnnaaGreatDoor.searchEach
