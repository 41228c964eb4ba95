/- SearchReplaces, walked: the law itself, where what it calls is given; rules, breakers in the machine's heap. -/
import Derived.RangeFuncNested
import Derived.Shelf.RegionOpen
import Derived.Deep.RegionHeld3
import Derived.Test.YtocaiijbhepnnaaGreatDoorHF
set_option maxRecDepth 100000
set_option maxHeartbeats 8000000
namespace Go.Proofs.YtocaiijbhepnnaaGreatDoor.searchReplaces
open Go.Shelf Go.RowKit Go.Lib Go.Proofs.YtocaiijbhepnnaaGreatDoor.Am
section
open Go.RowKit Go.Shelf Go.Lib Go.Proofs.YtocaiijbhepnnaaGreatDoor.Am
attribute [local go_sem] Oper.semAt_some
def ko (W W':World):Prop:=W.heap.size<=W'.heap.size/\∀(k:Nat) (cs:Array Value) (fr:Nat×Nat),W.heap[k]? =some (.cells cs 33 fr)->W'.heap[k]? =some (.cells cs 33 fr)
theorem uR {A B C:World} (h:ko A B) (k:ko B C):ko A C:=⟨aS h.1 k.1,λi cs fr hi=>k.2 i cs fr (h.2 i cs fr hi)⟩
theorem Ig {w:World} (W:World) (l:Nat) (o o':Obj) (_:w.heap.size<=l) (h:W.heap[l]? =some o) (hc:o.isCells=false) (_:o.isWalk=false):ko W (W.putObj l o'):=by have hg:=grownBy_putObj' W l o';refine⟨hg.size,λk cs fr hk=>(hg.block k (dQ.1 hk).1 (λe=> ?_)).trans hk⟩;injection e with e;subst e;rw[hk]at h;injection h with h;subst h;cases hc
theorem L9 {W:World} {p:Addr} {v:Value} {T:TypeId} (h:∃(cs:Array Value) (fr:Nat×Nat),W.heap[p.block]? =some (.cells cs T fr)) (hT:T≠33):ko W (W.setCell p v):=
 ⟨by simp,λk cs fr hk=>(heap_setCell_other W p k v (λe=>by
  obtain⟨c',f',h'⟩:=h;rw[<-e,hk]at h';injection h' with h';injection h' with _ h';exact hT h'.symm)).trans hk⟩
theorem Ho.keeps {w w':World} {A:Option Addr} {n:Nat} {l:List (Nat×Nat)} (h:Ho w A n l) (hk:ko w w'):Ho w' A n l:=by
 refine⟨h.len,h.small,λh0=> ?_,λg e h0=> ?_⟩;·obtain⟨g,e,hg,hc⟩:=h.at_ h0;obtain⟨cs,hcs⟩:=h.ty g e h0;have hq:∀j,w'.cell? ⟨g,j,none⟩=w.cell? ⟨g,j,none⟩:=λj=>World.cell?_of_block (w:=w) (a:=⟨g,j,none⟩) ((hk.2 g cs _ hcs).trans hcs.symm);exact⟨g,e,bH hg hk.1,λj hj=>⟨(hq _).trans (hc j hj).1,(hq _).trans (hc j hj).2⟩⟩
 ·obtain⟨cs,hcs⟩:=h.ty g e h0;exact⟨cs,hk.2 g cs _ hcs⟩
theorem rE {W W':World} (h:Below W.heap.size W W'):W.grownBy W' none:=⟨h.os,h.tape,h.output,h.size,λk hk _=>h.block k hk⟩
def aaP (x:Nat×Nat):Array Value:=#[.int .i64 x.1, .int .i64 x.2]
def WH (s t:ByteArray) (fo le wo:Bool) (L:List (Nat×Nat)) (w:World):Prop:=Calls Tryz.prog 15 #[.string s, .string t, .agg #[.bool fo, .bool le, .bool wo]] w (qx L w)
theorem aaQ (n:Nat) (l B1 B2 B3:Nat) (s t:ByteArray) (fo le wo:Bool) (L:List (Nat×Nat)) (J Jx:List (Nat×Nat)->World->Prop) (W:World) (hJ:AbidesFrom W.heap.size J)
 (hA:∀w,Below W.heap.size W w->WH s t fo le wo L w)
 (hY:∀k W1,J (L.take k) W1->k<L.length->YieldAt Fence.wide (n-1) Tryz.prog l (aaP (L.getD k Left.m0)) W1 λe W'=>
  (e= .returned (.bool true)/\J (L.take (k+1)) W'/\ko W1 W')\/(e= .returned (.bool false)/\Jx (L.take (k+1)) W'))
 (h1:W.cell? ⟨B1,0,none⟩=some (.string s)) (h2:W.cell? ⟨B2,0,none⟩=some (.string t))
 (h30:W.cell? ⟨B3,0,none⟩=some (.bool fo)) (h31:W.cell? ⟨B3,1,none⟩=some (.bool le)) (h32:W.cell? ⟨B3,2,none⟩=some (.bool wo)) (h0:J [] W):
 CallsIn Fence.wide n Tryz.prog 74 #[.func (.yield l) #[] #[], .pointer (some ⟨B1,0,none⟩), .pointer (some ⟨B2,0,none⟩), .pointer (some ⟨B3,0,none⟩)] W λe W'=>(∃v,e= .returned v)/\
  ((∃ys,ys=L/\J ys W')\/(∃pre,pre<+:L/\Jx pre W')):=by
 refine callsIn_of_wp Tryz.func74 rfl trivial ?_ rfl;simp only[Tryz.ntmps74,nZ,bK,gQ,Nat.reduceAdd,Nat.reduceSub,xL,xK,xR,qM,l9,zw];have HA:=ah hA;clear hA;gi_wp2_with (refine⟨trivial,(λh=>by cases h),?_⟩;gi_at_call 15;refine(callsIn_wide.2 (HA.out W (aF _ W))).mono ?_;rintro e w1 ⟨A,N,c,rfl,hm,hb⟩;have HM:=ah hm;have HJ0:=ah (hJ _ _ _ none h0 (rE hb) (by simp));have sV:=ah hb.size;clear hm hb);have HN:=ah HM.out.len;have hN:=HM.out.small;gi_loopw [12] (λi wr=>∃(k:Nat),k<=N/\i= .int .i64 k/\J (L.take k) wr/\Ho wr A N L/\W.heap.size<=wr.heap.size) (λi _=>N-(RowKit.intOf i).toNat);case atStart=>exact⟨0,aH _,rfl,by rw[List.take_zero];exact HJ0.out,HM.out,sV.out⟩
 case round=>
  obtain⟨k,hk,rfl,hJs,hR,hsz⟩:=hrel;have HR:=ah hR;have HS:=ah hsz;clear hR hsz;by_cases hlt:k<N
  ·obtain⟨g,rfl,hg,hc⟩:=HR.out.at_ (by omega);obtain⟨c0,c1⟩:=hc k hlt;have hp:L[k]? =some (L.getD k Left.m0):=by rw[aM,aX (by rw[HN.out];exact hlt)];rfl
   obtain⟨⟨a,b⟩,hab⟩:∃p,L.getD k Left.m0=p:=⟨_,rfl⟩
   rw[hab]at c0 c1 hp;have hal:=(aF wr.heap.size wr).alloc (ay _) (.cells #[.int .i64 a, .int .i64 b] 33);have hJ2:=hJ _ _ _ none hJs (rE hal) (by simp);have HR2:=ah (HR.out.below hal);have HS2:=ah (aS HS.out hal.size);obtain⟨fn,tmps,assign,body,hy,hRo⟩:=hY k _ hJ2 (by rw[HN.out];exact hlt);rw[hab]at hy;simp only[aaP]at hy;clear hJs hJ2 hal hc hab hp HR;have hwk:wrap64 ((k:Int)+1)=((k+1:Nat):Int):=by unfold wrap64;omega
   have jX:=ah hwk;clear hwk;have hk0:(0:Int)<=k:=by omega
   have hk1:(k:Int)<N:=by omega
   gi_wp2;refine⟨(λh=>by cases h),hRo.mono ?_⟩;rintro x W3 (⟨rfl,hJ3,hk3⟩|⟨rfl,hJx3⟩)
   ·have HJ3:=ah hJ3;have HK3:=ah hk3;clear hJ3 hk3;gi_wp2;go_roundw;case rel=>exact⟨k+1,hlt,by first|rw[jX.out]|rfl,HJ3.out,HR2.out.keeps HK3.out,aS HS2.out HK3.out.1⟩
    case measure=>first|(rw[jX.out];simp[RowKit.intOf];omega)|(simp[RowKit.intOf];omega)
   ·gi_wp2;refine qZ (results_none rfl _ _ _) rfl ?_;exact⟨⟨_,rfl⟩, .inr ⟨L.take (k+1),List.take_prefix _ _,hJx3⟩⟩
  ·have hkn:k=N:=by omega
   gi_wp2;go_end0;exact⟨⟨_,rfl⟩, .inl ⟨L,rfl,by rw[nC (by rw[HN.out];omega)]at hJs;exact hJs⟩⟩
theorem aaR (s t:ByteArray) (fo le wo:Bool) (n:Nat) (w:World):
 CallsIn Fence.wide n Tryz.prog 20 #[.string s, .string t, .agg #[.bool fo, .bool le, .bool wo]] w λe w'=>e= .returned (.func (.func 74) #[] #[.pointer (some ⟨w.heap.size,0,none⟩), .pointer (some ⟨w.heap.size+1,0,none⟩), .pointer (some ⟨w.heap.size+2,0,none⟩)])/\
  w'=((w.alloc (.cells #[.string s] 9)).alloc (.cells #[.string t] 9)).alloc (.cells #[.bool fo, .bool le, .bool wo] 28):=by
 refine callsIn_of_wp Tryz.func20 rfl trivial ?_ rfl;simp only[Tryz.ntmps20,nZ,bK,gQ,Nat.reduceAdd,Nat.reduceSub,xL,xK,xR,qM,l9,zw];gi_wp2;go_ret;exact⟨rfl,rfl⟩
structure aeR (s t:ByteArray) (fo le wo:Bool) (B1 B2 B3:Nat) (w:World):Prop where
 l1:B1<w.heap.size
 l2:B2<w.heap.size
 l3:B3<w.heap.size
 c1:w.cell? ⟨B1,0,none⟩=some (.string s)
 c2:w.cell? ⟨B2,0,none⟩=some (.string t)
 c30:w.cell? ⟨B3,0,none⟩=some (.bool fo)
 c31:w.cell? ⟨B3,1,none⟩=some (.bool le)
 c32:w.cell? ⟨B3,2,none⟩=some (.bool wo)
end
section
open Go.RowKit Go.Shelf Go.Lib Go.Proofs.YtocaiijbhepnnaaGreatDoor.Am
attribute [local go_sem] Oper.semAt_some
def onward (B:Nat) (I:Nat->World->Prop) (k:Nat) (V:World):Exit->Act->World->Prop
 | .normal,_,V'=>KeepsFrom B V V'/\ko V V'/\I (k+1) V'
 |_,_,_=>False
section
variable {g:Operand} {ps:Array Tmp} {assign body:Code} {Q:Exit->Act->World->Prop} {a:Act} {w:World} {s t:ByteArray} {fo le wo:Bool} {L:List (Nat×Nat)} {E n:Nat} {a₁:Int->Int->Act}
theorem WI (h1:1<=n) (hg:a.eval g= .func (.func 74) #[] #[.pointer (some ⟨E,0,none⟩), .pointer (some ⟨E+1,0,none⟩), .pointer (some ⟨E+2,0,none⟩)]) (hS:aeR s t fo le wo E (E+1) (E+2) w) (hA:∀v,Below w.heap.size w v->WH s t fo le wo L v) (hps:ps.size=2)
 (I:Nat->World->Prop) (hI:∀k,OwnFrom w.heap.size (λ(_:Unit)=>I k)) (h0:I 0 w)
 (hassign:∀(l:Nat) (z:Nat×Nat) (V:World) (K:Act->World->Prop),K (a₁ z.1 z.2) V->assign.wpIn (Fence.wide.inRound l) (n-1-1) Tryz.prog (Exit.then K (λ_ _ _=>False)) {tmps:=(ps.zip (aaP z)).foldl (λt (p,v)=>t.setIfInBounds p v) a.tmps,defers:=[]} V)
 (hbody:∀(l k:Nat) (V:World),k<L.length->I k V->body.wpIn (Fence.wide.inRound l) (n-1-1) Tryz.prog (onward w.heap.size I k V) (a₁ (L.getD k Left.m0).1 (L.getD k Left.m0).2) V)
 (hdone:∀(D:Nat) (V:World),w.heap.size<=D->I L.length V->V.heap[D]? =some (.deferred (some []))->Q .normal {a with defers:={target:= .collected D,args:=#[]}::a.defers} V):
 (Code.rangeFunc g ps assign body).wpIn Fence.wide n Tryz.prog Q a w:=by
 refine wpIn_rangeFunc λfn hfn=> ?_;obtain⟨rc,hrc⟩:∃rc:LoopState->Loop,rc=λst=>{state:=st,pending:=none,fn:=fn,tmps:=a.tmps,params:=ps,assign:=assign,body:=body,defers:=w.heap.size}:=⟨_,rfl⟩
 obtain⟨X,hX⟩:∃X,w.alloc (.deferred (some []))=X:=⟨_,rfl⟩
 have sX:X.heap.size=w.heap.size+1:=by rw[<-hX];simp
 obtain⟨W1,hW1⟩:∃W1,X.alloc (.loop (rc .ready))=W1:=⟨_,rfl⟩
 have bX:Below w.heap.size w W1:=by rw[<-hW1,<-hX];exact((aF _ w).alloc (ay _) _).alloc (by simp) _
 have dX:X.heap[w.heap.size]? =some (.deferred (some [])):=by rw[<-hX];exact cO w _
 have dW:W1.heap[w.heap.size]? =some (.deferred (some [])):=by rw[<-hW1];exact(qY X _ _ (by omega)).trans dX
 have lW:W1.heap[w.heap.size+1]? =some (.loop (rc .ready)):=by rw[<-hW1,<-sX];exact cO X _
 have iW:I 0 W1:=by rw[<-hW1,<-hX];exact(hI 0).alloc (s:=()) _ ((hI 0).alloc (s:=()) _ h0)
 obtain⟨J,hJ⟩:∃J:Nat->World->Prop,J=λk V=>I k V/\V.heap[w.heap.size+1]? =some (.loop (rc .ready))/\V.heap[w.heap.size]? =some (.deferred (some [])):=⟨_,rfl⟩
 refine⟨w.heap.size+1,[{target:= .collected w.heap.size,args:=#[]}],W1,{target:= .fn (.func 74) #[.pointer (some ⟨E,0,none⟩), .pointer (some ⟨E+1,0,none⟩), .pointer (some ⟨E+2,0,none⟩)],args:=#[.func (.yield (w.heap.size+1)) #[] #[]]},W1,74,#[.func (.yield (w.heap.size+1)) #[] #[], .pointer (some ⟨E,0,none⟩), .pointer (some ⟨E+1,0,none⟩), .pointer (some ⟨E+2,0,none⟩)],W1,?_,?_,λ_ _=>trivial,?_,λ_=>h1,?_⟩;·rw[<-hW1,<-hX,hrc];exact run_enterLoop_outer _ _ _ _ _
 ·simp only[resolve,hg];simp[go_sem]
 ·simp[invoke,go_sem]
 have hB1:=bX.cell (p:=⟨E,0,none⟩) hS.l1;refine(aaQ (n-1) (w.heap.size+1) E (E+1) (E+2) s t fo le wo L (λpre V=>J pre.length V) (λ_ _=>False) W1 ?_ (λv hv=>hA v (bX.trans (hv.mono bX.size))) ?_ (hB1.trans hS.c1) ((bX.cell (p:=⟨E+1,0,none⟩) hS.l2).trans hS.c2)
  ((bX.cell (p:=⟨E+2,0,none⟩) hS.l3).trans hS.c30) ((bX.cell (p:=⟨E+2,1,none⟩) hS.l3).trans hS.c31) ((bX.cell (p:=⟨E+2,2,none⟩) hS.l3).trans hS.c32) (by subst hJ;exact⟨iW,lW,dW⟩)).mono ?_
 ·intro pre A B row hs hg' hr;subst hJ;have hr':∀r,row=some r->∃o:Obj,A.heap[r]? =some o/\o.isWalk=true:=λr e=>(hr r e).2;exact⟨(hI _) () A B row hs.1 hg' (λr e=>by obtain⟨h2,o,ho,hw⟩:=hr r e;exact⟨aS bX.size h2,o,ho,Obj.not_cells_of_walk hw⟩),(grownBy_keeps hg' hr' hs.2.1 rfl).trans hs.2.1,(grownBy_keeps hg' hr' hs.2.2 rfl).trans hs.2.2⟩
 ·intro k V hj hk;have hlk:(L.take k).length=k:=by rw[eU];omega
  have aoD:(L.take (k+1)).length=k+1:=by rw[eU];omega
  rw[hlk]at hj;rw[aoD];subst hJ;obtain⟨hi,hl,hd⟩:=hj;have hlt:=(dQ.1 hl).1;have hy:=run_yield (P:=Tryz.prog) (args:=aaP (L.getD k Left.m0)) hl (by rw[hrc];exact hps.symm);rw[hrc]at hy;refine⟨fn,_,assign,body,hy,roundIn_of_wpIn hfn (hassign _ _ V _ ⟨_,run_beginRound hl (by rw[hrc]),?_⟩)⟩;obtain⟨U,hU⟩:∃U,V.putObj (w.heap.size+1) (.loop {rc .ready with state:= .busy})=U:=⟨_,rfl⟩
  have lU:U.heap[w.heap.size+1]? =some (.loop {rc .ready with state:= .busy}):=by rw[<-hU];exact World.putObj_heap_same hlt
  have dU:U.heap[w.heap.size]? =some (.deferred (some [])):=by rw[<-hU];exact(World.putObj_heap_other (by omega)).trans hd
  have kU:ko V U:=by rw[<-hU];exact Ig (w:=w) _ _ _ _ (by omega) hl rfl rfl
  have iU:I k U:=by rw[<-hU];exact(hI k).putObj (s:=()) _ hi (by omega) hl rfl
  rw[hU];refine wpIn_mono (hbody _ k U hk iU) ?_;rintro ex a3 U' hp;cases ex with
  |normal=>obtain⟨h3,h4,h5⟩:=hp;have lU':=h3.same _ _ (by omega) lU rfl;have dU':=h3.same _ _ (ay _) dU rfl;have he:=run_endRound (P:=Tryz.prog) none lU';refine⟨_,_,he, .inl ⟨rfl,⟨(hI (k+1)).putObj (s:=()) _ h5 (by omega) lU' rfl,?_,(World.putObj_heap_other (by omega)).trans dU'⟩,uR (uR kU h4) (Ig (w:=w) _ _ _ _ (by omega) lU' rfl rfl)⟩⟩;rw[World.putObj_heap_same (dQ.1 lU').1,hrc];rfl
  |ret=>exact hp.elim
  |exit id=>exact hp.elim
  |goto t=>exact hp.elim
  |panic ch=>exact hp.elim
  |outgrown=>exact hp.elim
 ·rintro e W2 ⟨⟨v,rfl⟩,(⟨ys,rfl,hj⟩|⟨_,_,hf⟩)⟩
  ·subst hJ;obtain⟨hi,hl,hd⟩:=hj;have he:=run_endLoop (P:=Tryz.prog) hl (by rw[hrc];simp);obtain⟨o,ho⟩:∃o,Obj.loop {rc .ready with state:= .exhausted}=o:=⟨_,rfl⟩
   rw[ho,show(rc .ready).pending=none by rw[hrc]]at he;exact⟨none,_,he,hdone w.heap.size _ (ay _) ((hI _).putObj (s:=()) _ hi (by omega) hl rfl) ((World.putObj_heap_other (by omega)).trans hd)⟩
  ·exact hf.elim
end
end
section
open Go.RowKit Go.Shelf Go.Lib Go.Proofs.YtocaiijbhepnnaaGreatDoor.Am
attribute [local go_sem] Oper.semAt_some
def Bk (w:World) (g:Nat) (cs:Array Value) (T:TypeId):Prop:=w.heap[g]? =some (.cells cs T (0,0))
section
variable {w w':World} {g:Nat} {cs:Array Value} {T:TypeId}
theorem Bk.lt (h:Bk w g cs T):g<w.heap.size:=(dQ.1 h).1
theorem Bk.below (h:Bk w g cs T) (hb:Below w.heap.size w w'):Bk w' g cs T:=bM hb h
theorem Bk.c (h:Bk w g cs T) (i:Nat):w.cell? ⟨g,i,none⟩=cs[i]? :=bA _ _ _ _ _ _ h
theorem Bk.f (h:Bk w g cs T) (i:Nat):w.frozen? ⟨g,i,none⟩=false:=by simp[World.frozen?,show w.heap[g]? =_ from h]
theorem Bk.new (w:World) (cs:Array Value) (T:TypeId):Bk (w.alloc (.cells cs T)) w.heap.size cs T:=cO w _
theorem Bk.set (h:Bk w g cs T) (i:Nat) (v:Value):Bk (w.setCell ⟨g,i,none⟩ v) g (cs.setIfInBounds i v) T:=uF _ _ i _ _ _ h
theorem Bk.other {g':Nat} (h:Bk w g cs T) (hn:g≠g') (i:Nat) (v:Value):Bk (w.setCell ⟨g',i,none⟩ v) g cs T:=(heap_setCell_other w ⟨g',i,none⟩ g v hn).trans h
theorem Bk.ne {g':Nat} {cs':Array Value} {T':TypeId} (h:Bk w g cs T) (h':Bk w g' cs' T') (hT:T≠T'):g≠g':=Q8 h h' hT
theorem Bk.own {row:Option Nat} (h:Bk w g cs T) (hg:w.grownBy w' row) (hr:∀r,row=some r->∃o:Obj,w.heap[r]? =some o/\o.isCells=false):Bk w' g cs T:=
 (hg.block g h.lt (λe=>by obtain⟨o,ho,hc⟩:=hr g e.symm;rw[show w.heap[g]? =_ from h]at ho;injection ho with ho;subst ho;cases hc)).trans h
end
theorem Uw {B b:Nat} {bs:List Value} {w w':World} {row:Option Nat} (h:IsBuilderF 129 5 B b bs w) (hg:w.grownBy w' row) (hr:∀r,row=some r->r≠b/\∀cs fr,w.heap[r]? ≠some (.cells cs 5 fr)):IsBuilderF 129 5 B b bs w':=by
 have go:∀{p:Value},BuilderAtF 129 5 B b p bs w->BuilderAtF 129 5 B b p bs w':=by
  rintro p ⟨hB,v,hbk,hown,hne⟩;refine⟨hB,v,(hg.block b (bU hbk) (λe=>(hr b e.symm).1 rfl)).trans hbk,hown.kept hg ?_,hne⟩;rcases Option.eq_none_or_eq_some v.ownBlock with h0|⟨g,h0⟩
  ·exact .inl h0
  ·refine .inr (λe=> ?_);obtain⟨c,fz,hc⟩:=Lib.ownsRowF_kind hown g h0;exact(hr g (by rw[<-e,h0])).2 _ _ hc
 exact h.imp go go
theorem yH {B b:Nat} {bs:List Value} {w:World} (h:IsBuilderF 129 5 B b bs w):∃cs,w.heap[b]? =some (.cells cs 129 (0,0)):=by rcases h with⟨_,v,hbk,_⟩|⟨_,v,hbk,_⟩<;>exact⟨_,hbk⟩
theorem Fy {L:List (Nat×Nat)} {k:Nat} (h:k<L.length):L.drop k=L.getD k Left.m0::L.drop (k+1):=by rw[ny h,aM,aX h];rfl
structure RB (W0:World) (s u:List UInt8) (L:List (Nat×Nat)) (B Bu Bb Ba:Nat) (k:Nat) (acc:List UInt8) (e:Nat) (w:World):Prop where
 aB:Below W0.heap.size W0 w
 lo:W0.heap.size<=Bb/\W0.heap.size<=Ba
 bs:Bk w B #[.string ⟨s.toArray⟩] 9
 bu:Bk w Bu #[.string ⟨u.toArray⟩] 9
 at_:Bk w Ba #[.int .i64 e] 3
 bld:IsBuilderF 129 5 Bb Bb (byteCells acc) w
 all:acc++Left.gN s u e (L.drop k)=Left.gN s u 0 L
 fit:Left.fits s.length e (L.drop k)
section
variable {W0 w w':World} {s u:List UInt8} {L:List (Nat×Nat)} {B Bu Bb Ba k e:Nat} {acc:List UInt8}
theorem RB.own {row:Option Nat} (h:RB W0 s u L B Bu Bb Ba k acc e w) (hg:w.grownBy w' row) (hr:∀r,row=some r->W0.heap.size<=r/\∃o:Obj,w.heap[r]? =some o/\o.isCells=false):RB W0 s u L B Bu Bb Ba k acc e w':=by
 have hr':=λr e=>(hr r e).2;refine⟨h.aB.grown hg h.aB.size (λr e=>(hr r e).1),h.lo,h.bs.own hg hr',h.bu.own hg hr',h.at_.own hg hr',Uw h.bld hg (λr e=> ?_),h.all,h.fit⟩;obtain⟨o,ho,hc⟩:=hr' r e;refine⟨λeb=> ?_,λcs fr hx=> ?_⟩;·obtain⟨cs,hb⟩:=yH h.bld;rw[eb,hb]at ho;injection ho with ho;subst ho;cases hc
 ·rw[hx]at ho;injection ho with ho;subst ho;cases hc
theorem RB.step {x:List UInt8} {a b:Nat} {V2:World} (h:RB W0 s u L B Bu Bb Ba k acc e w) (hb:Below Bb w V2) (hk:GR Bb w V2) (hbl:IsBuilderF 129 5 Bb Bb (byteCells (acc++x)) V2)
 (hall:(acc++x)++Left.gN s u b (L.drop (k+1))=Left.gN s u 0 L) (hfit:Left.fits s.length b (L.drop (k+1))):
 RB W0 s u L B Bu Bb Ba (k+1) (acc++x) b (V2.setCell ⟨Ba,0,none⟩ (.int .i64 b))/\KeepsFrom a w (V2.setCell ⟨Ba,0,none⟩ (.int .i64 b))/\ko w (V2.setCell ⟨Ba,0,none⟩ (.int .i64 b))/\Bk V2 Ba #[.int .i64 e] 3:=by
 obtain⟨cb,hcb⟩:=yH h.bld;have kb (g:Nat) (cs:Array Value) (T:TypeId) (hg:Bk w g cs T) (h1:T≠129) (h2:T≠5):Bk V2 g cs T:=by
  refine hk g _ hg (λe=> ?_) (λcs' fr e=> ?_);·rw[e,Bk,hcb]at hg;injection hg with hg;injection hg with _ hg _;exact h1 hg.symm
  ·injection e with _ e _;exact h2 e
 have hat:=kb _ _ _ h.at_ (by decide) (by decide);have no (g:Nat) (cs:Array Value) (T:TypeId) (hg:Bk V2 g cs T) (hT:T≠3):Bk (V2.setCell ⟨Ba,0,none⟩ (.int .i64 b)) g cs T:=hg.other (hg.ne hat hT) 0 _;refine⟨⟨((h.aB.trans (hb.mono h.lo.1)).setCell (p:=⟨Ba,0,none⟩) h.lo.2 _),h.lo,no _ _ _ (kb _ _ _ h.bs (by decide) (by decide)) (by decide),no _ _ _ (kb _ _ _ h.bu (by decide) (by decide)) (by decide),hat.set 0 _,?_,hall,hfit⟩,?_,?_,hat⟩
 ·refine Uw hbl (grownBy_setCell' V2 Ba _) (λr er=> ?_);injection er with er;subst er;refine⟨λeb=> ?_,λcs fr hx=> ?_⟩
  ·obtain⟨c2,hc2⟩:=yH hbl;rw[<-eb,show V2.heap[Ba]? =_ from hat]at hc2;injection hc2 with hc2;injection hc2 with _ hc2 _;exact absurd hc2 (by decide)
  ·rw[show V2.heap[Ba]? =_ from hat]at hx;injection hx with hx;injection hx with _ hx _;exact absurd hx (by decide)
 ·refine KeepsFrom.trans ⟨hb.size,λi o _ hi ho=>hk i o hi (λe=> ?_) (λcs fr e=>by subst e;cases ho)⟩ ((KeepsOthers.setCell _ _ _).from _);rw[e,hcb]at hi;injection hi with hi;subst hi;cases ho
 ·refine uR ⟨hb.size,λi cs fr hi=>hk i _ hi (λe=> ?_) (λcs' fr' e=> ?_)⟩ (L9 ⟨_,_,hat⟩ (by decide))
  ·rw[e,hcb]at hi;injection hi with hi;injection hi with _ hi _;exact absurd hi (by decide)
  ·injection e with _ e _;exact absurd e (by decide)
end
theorem aaS (s t:ByteArray) (fo le wo:Bool) (w:World):
 Calls Tryz.prog 20 #[.string s, .string t, .agg #[.bool fo, .bool le, .bool wo]] w λe w'=>e= .returned (.func (.func 74) #[] #[.pointer (some ⟨w.heap.size,0,none⟩), .pointer (some ⟨w.heap.size+1,0,none⟩), .pointer (some ⟨w.heap.size+2,0,none⟩)])/\
  w'=((w.alloc (.cells #[.string s] 9)).alloc (.cells #[.string t] 9)).alloc (.cells #[.bool fo, .bool le, .bool wo] 28):=callsIn_wide.1 (aaR s t fo le wo 9 w)
theorem adE (s t:ByteArray) (fo le wo:Bool) (w:World):∃w',((w.alloc (.cells #[.string s] 9)).alloc (.cells #[.string t] 9)).alloc (.cells #[.bool fo, .bool le, .bool wo] 28)=w'/\Below w.heap.size w w'/\aeR s t fo le wo w.heap.size (w.heap.size+1) (w.heap.size+2) w':=by have k1:=((Bk.new w #[.string s] 9).below ((aF _ _).alloc (ay _) (.cells #[.string t] 9))).below ((aF _ _).alloc (ay _) (.cells #[.bool fo, .bool le, .bool wo] 28));have k2:=(Bk.new (w.alloc (.cells #[.string s] 9)) #[.string t] 9).below ((aF _ _).alloc (ay _) (.cells #[.bool fo, .bool le, .bool wo] 28));rw[fK]at k2;have k3:=Bk.new ((w.alloc (.cells #[.string s] 9)).alloc (.cells #[.string t] 9)) #[.bool fo, .bool le, .bool wo] 28;rw[fK,fK]at k3;exact⟨_,rfl,(((aF _ w).alloc (ay _) _).alloc (by simp) _).alloc (by simp;omega) _,k1.lt,k2.lt,k3.lt,(k1.c 0).trans rfl,(k2.c 0).trans rfl,(k3.c 0).trans rfl,(k3.c 1).trans rfl,(k3.c 2).trans rfl⟩
theorem Ma (sl tl ul:List UInt8) (L:List (Nat×Nat)) (fo le wo:Bool) (W:World) (hL:L.length<=100) (hs:sl.length<=100) (hu:ul.length<=2000) (hf:Left.fits sl.length 0 L)
 (hA:∀w,Below W.heap.size W w->WH ⟨sl.toArray⟩ ⟨tl.toArray⟩ fo le wo L w):
 Calls Tryz.prog 26 #[.string ⟨sl.toArray⟩, .string ⟨tl.toArray⟩, .string ⟨ul.toArray⟩, .agg #[.bool fo, .bool le, .bool wo]] W λe w'=>e= .returned (.string ⟨(Left.gN sl ul 0 L).toArray⟩)/\Below W.heap.size W w':=by
 obtain⟨s,hS⟩:∃s:ByteArray,(⟨sl.toArray⟩:ByteArray)=s:=⟨_,rfl⟩
 obtain⟨t,hT⟩:∃t:ByteArray,(⟨tl.toArray⟩:ByteArray)=t:=⟨_,rfl⟩
 obtain⟨u,hU⟩:∃u:ByteArray,(⟨ul.toArray⟩:ByteArray)=u:=⟨_,rfl⟩
 have sV:=ah (size_mk sl s hS);have HE2:=ah (λa b=>show s.extract a b=⟨((sl.take b).drop a).toArray⟩by rw[<-hS,oZ,List.drop_take]);have ag0:=ah (λe=>Da sl e s hS);have WJ:=ah (Left.Lx (s:=sl) (u:=ul) (l:=L) (e:=0));have WK:=ah (show sl.length+L.length*(sl.length+ul.length)<=1000000 from by
  have h1:sl.length+ul.length<=2100:=by omega
  have h2:=Nat.mul_le_mul hL h1;omega)
 obtain⟨X3,hX3⟩:∃X3,((W.alloc (.cells #[.string s] 9)).alloc (.cells #[.string u] 9)).alloc (.cells #[.bool fo, .bool le, .bool wo] 28)=X3:=⟨_,rfl⟩
 have sX3:X3.heap.size=W.heap.size+1+1+1:=by rw[<-hX3];simp
 obtain⟨X5,hX5⟩:∃X5,(X3.alloc (.cells #[.pointer none, .slice none 0 0] 129)).alloc (.cells #[.int .i64 0] 3)=X5:=⟨_,rfl⟩
 have b3:Below W.heap.size W X3:=by rw[<-hX3];exact(((aF _ W).alloc (ay _) _).alloc (by simp) _).alloc (by simp;omega) _
 have b5:Below X3.heap.size X3 X5:=by rw[<-hX5];exact((aF _ X3).alloc (ay _) _).alloc (by simp) _
 have k1:Bk X3 W.heap.size #[.string s] 9:=by rw[<-hX3];exact((Bk.new W _ _).below ((aF _ _).alloc (ay _) _)).below ((aF _ _).alloc (ay _) _)
 have k2:Bk X3 (W.heap.size+1) #[.string u] 9:=by rw[<-hX3,<-fK W];exact(Bk.new _ _ _).below ((aF _ _).alloc (ay _) _)
 have k3:Bk X3 (W.heap.size+1+1) #[.bool fo, .bool le, .bool wo] 28:=by have:=Bk.new ((W.alloc (.cells #[.string s] 9)).alloc (.cells #[.string u] 9)) #[.bool fo, .bool le, .bool wo] 28;rwa [fK,fK,hX3]at this
 have k5:Bk X5 (W.heap.size+1+1+1+1) #[.int .i64 0] 3:=by have:=Bk.new (X3.alloc (.cells #[.pointer none, .slice none 0 0] 129)) #[.int .i64 0] 3;rwa [fK,hX5,sX3]at this
 have kb:IsBuilderF 129 5 (W.heap.size+1+1+1) (W.heap.size+1+1+1) (byteCells []) X5:=by have:=(IsBuilderF.of (fresh_isBuilder 129 5 X3)).alloc (.cells #[.int .i64 0] 3);rwa [hX5,sX3]at this
 have HRB:RB W sl ul L W.heap.size (W.heap.size+1) (W.heap.size+1+1+1) (W.heap.size+1+1+1+1) 0 [] 0 X5:=⟨b3.trans (b5.mono b3.size),⟨by omega,by omega⟩,by rw[hS];exact k1.below b5,by rw[hU];exact k2.below b5,k5,kb,rfl,hf⟩
 have y5:=(k1.below b5).c 0;have y6:=(k2.below b5).c 0;have z0:=((k3.below b5).c 0).trans rfl;have z1:=((k3.below b5).c 1).trans rfl;have z2:=((k3.below b5).c 2).trans rfl;obtain⟨X8,hX8,b8,hSA⟩:=adE s t fo le wo X5;have LM:RB W sl ul L W.heap.size (W.heap.size+1) (W.heap.size+1+1+1) (W.heap.size+1+1+1+1) 0 [] 0 X8:=HRB.own (rE b8) (by simp);rw[hS,hT]at hA;rw[hS,hT,hU];have HA:=ah hA;have HB0:=ah LM;have HX3:=ah hX3;have HX5:=ah hX5;have HX8:=ah hX8;have HS:=ah hS;have HU:=ah hU;have HSA:=ah hSA;have HB8:=ah (HRB.aB.trans (b8.mono HRB.aB.size));clear hA hf HRB LM hX3 hX5 hX8 hSA k1 k2 k3 k5 kb b3 b5 b8 sX3 hS hT hU y5 y6;refine(callsIn_wide (n:=9)).1 ?_;refine callsIn_of_wp_marks Tryz.func26 rfl trivial ?_ rfl;simp only[Tryz.ntmps26,nZ,bK,gQ,Nat.reduceAdd,Nat.reduceSub,xL,xK,xR,qM,l9,zw];refine wpIn_wide.2 ?_;go_wp2_with (rw[HX3.out,HX5.out];go_at_call 20;refine(aaS s t fo le wo X5).mono ?_;rintro e w' ⟨rfl,rfl⟩;rw[HX8.out]);obtain⟨B,hB⟩:∃B,W.heap.size=B:=⟨_,rfl⟩
 obtain⟨Bu,hBu⟩:∃Bu,W.heap.size+1=Bu:=⟨_,rfl⟩
 obtain⟨Bb,hBb⟩:∃Bb,W.heap.size+1+1+1=Bb:=⟨_,rfl⟩
 obtain⟨Ba,hBa⟩:∃Ba,W.heap.size+1+1+1+1=Ba:=⟨_,rfl⟩
 obtain⟨E0,hE0⟩:∃E0,X5.heap.size=E0:=⟨_,rfl⟩
 rw[hBa,hBb,hBu]at HB0⊢;rw[hE0]at HSA⊢;have HB1:=ah (show RB W sl ul L B Bu Bb Ba 0 [] 0 X8 from hB▸HB0.out);rw[show(⟨W.heap.size,0,none⟩:Addr)=⟨B,0,none⟩by rw[hB]];clear HB0 hB hBu hBb hBa hE0 HX3 HX5 HX8 z0 z1 z2 X3 X5;have hA':∀v,Below X8.heap.size X8 v->WH s t fo le wo L v:=λv hv=>HA.out v (HB8.out.trans (hv.mono HB8.out.size));refine(wpIn_wide (n:=9)).1 ?_;apply WI (n:=9) (by omega) rfl HSA.out hA' rfl (λk V=>∃acc e,RB W sl ul L B Bu Bb Ba k acc e V)
  (λk _ X Y row hh hg hr=>by obtain⟨acc,e,h⟩:=hh;exact⟨acc,e,h.own hg (λr er=>⟨aS HB8.out.size (hr r er).1,(hr r er).2⟩)⟩) ⟨[],0,HB1.out⟩
 case hassign=>rintro l ⟨p,q⟩ V K hK;simp only[aaP]at hK⊢;generalize(p:Int)=pi,(q:Int)=qi at hK⊢;gi_wp2;exact hK
 case hdone=>
  rintro D V hD ⟨acc,e,hR⟩ hK;have hall:=hR.all;have hfit:=hR.fit;rw[kP (ay _)]at hall hfit;have hen:e<=sl.length:=hfit;obtain⟨x,hx⟩:∃x,sl.drop e=x:=⟨_,rfl⟩
  have hxe:=ag0.out e;rw[hx]at hxe;have Ng:acc++x=Left.gN sl ul 0 L:=by rw[<-hall,<-hx];rfl
  have hsz:=sV.out;have ha0:(0:Int)<=e:=by omega
  have ha1:(e:Int)<=s.size:=by omega
  have hap:(⟨acc.toArray⟩:ByteArray)++⟨x.toArray⟩=⟨(Left.gN sl ul 0 L).toArray⟩:=by rw[Rq,Ng]
  have hov:¬0x7fffffffffffffff<acc.length+x.length:=by have:=eO List.length Ng;rw[bG]at this;have h1:=WJ.out;have h2:=WK.out;omega
  have cs:=(hR.bs.c 0).trans rfl;have ca:=(hR.at_.c 0).trans rfl;rw[HS.out]at cs;have HB:=ah hR.bld;have HRR:=ah hR;have HKK:=ah hK;have HLE:=ah (show Bb<=V.heap.size by obtain⟨cb,hcb⟩:=yH hR.bld;exact dD (bU hcb));obtain⟨cb,hcb⟩:=yH hR.bld;have HNB:=ah (show B≠Bb/\Ba≠Bb from⟨Q8 hR.bs hcb (by decide),Q8 hR.at_ hcb (by decide)⟩);have HND:=ah (show D≠Bb from λe=>by rw[e,hcb]at hK;cases hK);clear hall hfit hen hx Ng hsz hR hK hcb cb;go_wp2_with fail;go_region_held3 (λw'=>w'.cell? ⟨B,0,none⟩=some (.string s)/\w'.cell? ⟨Ba,0,none⟩=some (.int .i64 e))
   (first
    |go_keep
    |exact HCC.out)
   ((go_at_call 82
     refine(Dc Bb acc V.drew HB.out HLE.out).mono ?_;rintro v w1 ⟨rfl,hb1,hk1⟩;have HCC:=ah (show w1.cell? ⟨B,0,none⟩=some (.string s)/\w1.cell? ⟨Ba,0,none⟩=some (.int .i64 e)from by
      have k1:=hk1 B _ HRR.out.bs HNB.out.1 (λcs fr he=>by injection he with _ he _;exact absurd he (by decide));have k2:=hk1 Ba _ HRR.out.at_ HNB.out.2 (λcs fr he=>by injection he with _ he _;exact absurd he (by decide));refine⟨(bA _ _ _ _ _ _ k1).trans ?_,(bA _ _ _ _ _ _ k2).trans rfl⟩;rw[<-HS.out];rfl)
     have HB1:=ah hb1;have HKD:=ah (hk1 D _ HKK.out HND.out (λcs fr he=>by cases he));clear hb1 hk1))
  all_goals go_wp2
  all_goals refine⟨by simp, .inl ⟨_,_,rfl,run_takeDeferred HKD.out,?_⟩⟩
  all_goals exact⟨_,results_tmp rfl _ _ _,rfl,(HRR.out.aB.drew.trans (HB1.out.mono HRR.out.lo.1)).trans (belowK_b (w:=X8) HB8.out.size _ D _ _ hD HKD.out rfl rfl)⟩
 case hbody=>
  rintro l k V hk ⟨acc,e,hR⟩;have hd:=Fy (L:=L) (k:=k) hk;obtain⟨⟨a,b⟩,hab⟩:∃p,L.getD k Left.m0=p:=⟨_,rfl⟩
  rw[hab]at hd⊢;dsimp only;have hfit:=hR.fit;have hall:=hR.all;rw[hd]at hfit hall;obtain⟨f1,f2,f3,f4⟩:=hfit;dsimp only at f1 f2 f3;have hur:Left.gN sl ul e ((a,b)::L.drop (k+1))=(sl.take a).drop e++(ul++Left.gN sl ul b (L.drop (k+1))):=rfl;rw[hur]at hall;obtain⟨x,hx⟩:∃x,(sl.take a).drop e=x:=⟨_,rfl⟩
  have hxe:s.extract e a=⟨x.toArray⟩:=by rw[HE2.out,hx]
  have hap:(⟨x.toArray⟩:ByteArray)++u=⟨(x++ul).toArray⟩:=by rw[<-HU.out,Rq]
  have hlen:acc.length+(x++ul).length<=0x800000000000:=by have:=eO List.length hall;rw[hx,bG,bG,bG]at this;rw[bG];have h1:=WJ.out;have h2:=WK.out;omega
  have Rw:=ah hlen;have WM:=ah (show(acc++(x++ul))++Left.gN sl ul b (L.drop (k+1))=Left.gN sl ul 0 L by rw[<-hall,hx];simp);have ag2:=ah f4;have cs:=(hR.bs.c 0).trans rfl;have cu:=(hR.bu.c 0).trans rfl;have ca:=(hR.at_.c 0).trans rfl;rw[HS.out]at cs;rw[HU.out]at cu;have HRD:=ah (hR.own (rE ((aF _ V).drew)) (by simp));have hsz:=sV.out;have ha0:(0:Int)<=e:=by omega
  have ha1:(e:Int)<=a:=by omega
  have ha2:(a:Int)<=s.size:=by omega
  have hov:¬0x7fffffffffffffff<x.length+u.size:=by
   have h1:x.length<=sl.length:=by rw[<-hx,bZ,eU];omega
   have h2:=size_mk ul u HU.out;omega
  have HV:=ah (show W.heap.size<=Bb/\Bb<=V.heap.size from⟨hR.lo.1,by obtain⟨cb,hcb⟩:=yH hR.bld;exact dD (bU hcb)⟩);clear hd hab hall f1 f2 f3 f4 hur hx hlen hR hsz hk;gi_wp2;have nA:Tryz.prog.follows .mixedOrders=true:=by kernel_rfl
  gi_region_with_o (refine⟨trivial,?_⟩;gi_at_call 81;refine(CallsIn.inRound l (callsIn_wide.2 (vZ Bb acc (x++ul) V.drew HRD.out.bld Rw.out HV.out.2))).mono ?_;rintro v w2 ⟨⟨vz,rfl⟩,hI2,hb2,hk2⟩;have HST:=ah (HRD.out.step (a:=X8.heap.size) hb2 hk2 hI2 WM.out ag2.out);have ca2:=(HST.out.2.2.2.c 0).trans rfl;have fa2:=HST.out.2.2.2.f 0;clear hI2 hb2 hk2);all_goals gi_wp2
  all_goals exact⟨((KeepsOthers.drew V).from _).trans HST.out.2.1,uR ⟨ay _,λ_ _ _ h=>h⟩ HST.out.2.2.1,_,_,HST.out.1⟩
end
structure RP (w1:World) (s u:List UInt8) (L:List (Nat×Nat)) (k:Nat) (acc:List UInt8) (e:Nat) (v:Value) (w:World):Prop where
 aB:Below w1.heap.size w1 w
 own:w.ownsRow w1.heap.size 5 1 v acc.length (kR acc)
 all:acc++Left.gN s u e (L.drop k)=Left.gN s u 0 L
 fit:Left.fits s.length e (L.drop k)
theorem aaT (sl t ul:List UInt8) (L:List (Nat×Nat)) (fo le wo:Bool) (W:World) (hL:L.length<=100) (hs:sl.length<=100) (hu:ul.length<=2000) (hf:Left.fits sl.length 0 L)
 (hA:∀w,Below W.heap.size W w->Calls Tryz.prog 18 #[.string ⟨sl.toArray⟩, .string ⟨t.toArray⟩, .agg #[.bool fo, .bool le, .bool wo]] w (qx L w)):
 Calls Tryz.prog 27 #[.string ⟨sl.toArray⟩, .string ⟨t.toArray⟩, .string ⟨ul.toArray⟩, .agg #[.bool fo, .bool le, .bool wo]] W λe w'=>e= .returned (.string ⟨(Left.gN sl ul 0 L).toArray⟩)/\Below W.heap.size W w':=by
 have hsz:(⟨sl.toArray⟩:ByteArray).size=sl.length:=size_mk sl _ rfl
 have hend:=Da sl
 obtain⟨s,hS⟩:∃s:ByteArray,(⟨sl.toArray⟩:ByteArray)=s:=⟨_,rfl⟩
 have hext:∀a b,s.extract a b=⟨((sl.take b).drop a).toArray⟩:=λa b=>by rw[<-hS,oZ,List.drop_take]
 rw[hS]at hsz hA⊢
 have HE2:=ah hext;have ag0:=ah (λe=>hend e s hS);have yM:=ah hA;have sV:=ah hsz
 have WJ:=ah (Left.Lx (s:=sl) (u:=ul) (l:=L) (e:=0))
 clear hA hext hend
 obtain⟨N,hN⟩:∃N,L.length=N:=⟨_,rfl⟩
 rw[hN]at hL WJ
 have HN:=ah hN;clear hN
 have HF:=ah hf;clear hf
 obtain⟨n,hn⟩:∃n,sl.length=n:=⟨_,rfl⟩
 have WK:=ah (show n+N*(n+ul.length)<=1000000 from by
  have h1:n+ul.length<=2100:=by omega
  have h2:=Nat.mul_le_mul hL h1
  omega)
 rw[hn]at hs hsz WJ
 obtain⟨i0,hi0,hz0,hz1,hz2⟩:=eD xZ
 go_enter Tryz.func27,Tryz.ntmps27
 go_wp2_with (go_at_call 18;refine(yM.out _ ((aF _ W).alloc (ay _) _)).mono ?_;rintro e w1 ⟨A,N',c,rfl,hm,hb1⟩;obtain rfl:N'=N:=hm.len.symm.trans HN.out;have HB1:=ah (((aF _ W).alloc (ay _) _).trans (hb1.mono (dD (by simp))));have HR:=ah hm;clear hm hb1)
 go_loopw [12,10,11] (λi vb ve wr=>∃(k:Nat) (acc:List UInt8) (e:Nat) (Ao:Option Addr) (m co:Nat),k<=N'/\i= .int .i64 k/\vb= .slice Ao m co/\m=acc.length/\ve= .int .i64 e/\RP w1 sl ul L k acc e (.slice Ao m co) wr) (λi _ _ _=>N'-(RowKit.intOf i).toNat)
 case atStart=>exact⟨0,[],0,none,0,0,aH _,rfl,rfl,rfl,rfl,aF _ _,⟨rfl, .inl ⟨rfl,rfl⟩⟩,rfl,HF.out⟩
 case round=>
  obtain⟨k,acc,e,Ao,m,co,hk,rfl,rfl,hm,rfl,hP⟩:=hrel
  have HP:=ah hP;clear hP
  have HM:=ah hm;clear hm
  have HLEN:=ah (show acc.length<=n+N'*(n+ul.length)from by
   have:=eO List.length HP.out.all
   rw[bG]at this
   have:=WJ.out
   omega)
  by_cases hlt:k<N'
  ·obtain⟨g,rfl,hg,hc⟩:=HR.out.at_ (by omega)
   obtain⟨c0,c1⟩:=hc k hlt
   have hd:=Fy (L:=L) (k:=k) (by rw[HN.out];exact hlt)
   obtain⟨⟨a,b⟩,hab⟩:∃p,L.getD k Left.m0=p:=⟨_,rfl⟩
   rw[hab]at c0 c1 hd
   have hfit:=HP.out.fit
   have hall:=HP.out.all
   rw[hd]at hfit hall
   rw[hn]at hfit
   obtain⟨f1,f2,f3,f4⟩:=hfit
   dsimp only at f1 f2 f3
   have hur:Left.gN sl ul e ((a,b)::L.drop (k+1))=(sl.take a).drop e++(ul++Left.gN sl ul b (L.drop (k+1))):=rfl
   rw[hur]at hall
   clear hur
   have d0:=(HP.out.aB.cell (p:=⟨g,k*2,none⟩) hg).trans c0
   have HD1:=ah (λ(w:World) (hb:Below w1.heap.size w1 w)=>(hb.cell (p:=⟨g,k*2+1,none⟩) hg).trans c1)
   obtain⟨x,hx⟩:∃x,(sl.take a).drop e=x:=⟨_,rfl⟩
   have hxe:s.extract e a=⟨x.toArray⟩:=by rw[HE2.out,hx]
   have hxl:x.length<=n:=by rw[<-hx,bZ,eU];omega
   have WM:=ah (show(acc++x)++ul++Left.gN sl ul b (L.drop (k+1))=Left.gN sl ul 0 L by rw[<-hall,hx];simp)
   have HX:=ah hxl
   have ag2:=ah f4
   have hwk:wrap64 ((k:Int)+1)=((k+1:Nat):Int):=by unfold wrap64;omega
   have jX:=ah hwk;clear hwk
   have hk0:(0:Int)<=k:=by omega
   have hk1:(k:Int)<N':=by omega
   have ha0:(0:Int)<=e:=by omega
   have ha1:(e:Int)<=a:=by omega
   have ha2:(a:Int)<=s.size:=by omega
   clear c0 c1 hc hab hg hd hall hx hxl f4 hsz f1 f2 f3
   go_wp2_with (first
    |(at_builtin
      (refine jF _ rfl (.tmp 23) (.tmp 31) 65 9 5 rfl Tryz.underlying65 Tryz.underlying9 w1.heap.size i0 hi0 hz0 hz1 hz2 _ _ _ rfl HP.out.own x _ rfl rfl ?_ ?_ ?_)
      ·have:=HLEN.out;have:=HX.out;have:=WK.out;have:=HM.out;omega
      ·exact HP.out.aB.size
      intro v2 w2 hown2 hgrow2 _
      obtain⟨A2,c2,rfl,_⟩:=jo hown2
      have HO2:=ah hown2
      have HB2:=ah (HP.out.aB.grown hgrow2 HP.out.aB.size (λk hk=>(bB HP.out.own hk).1))
      clear hown2 hgrow2)
    |(at_builtin
      (refine jF _ rfl (.tmp 32) (.tmp 33) 65 9 5 rfl Tryz.underlying65 Tryz.underlying9 w1.heap.size i0 hi0 hz0 hz1 hz2 _ _ _ rfl HO2.out ul _ rfl rfl ?_ ?_ ?_)
      ·have:=HLEN.out;have:=HX.out;have:=WK.out;have:=HM.out;omega
      ·exact HB2.out.size
      intro v3 w3 hown3 hgrow3 _
      obtain⟨A3,c3,rfl,_⟩:=jo hown3
      have HO3:=ah hown3
      have HB3:=ah (HB2.out.grown hgrow3 HB2.out.size (λk hk=>(bB HO2.out hk).1))
      have d1:=HD1.out _ HB3.out
      clear hown3 hgrow3))
   exact⟨⟨k+1,acc++x++ul,b,_,_,_,hlt,by first|rw[jX.out]|rfl,rfl,by rw[List.length_append,List.length_append],rfl,HB3.out,by rw[qg,qg,List.length_append,List.length_append];exact HO3.out,WM.out,by rw[hn];exact ag2.out⟩,by first|(rw[jX.out];simp[RowKit.intOf];omega)|(simp[RowKit.intOf];omega)⟩
  ·have hkn:k=N':=by omega
   have hall:=HP.out.all
   have hfit:=HP.out.fit
   rw[kP (by rw[HN.out,hkn];exact ay _)]at hall hfit
   have hen:e<=sl.length:=hfit
   have WM:=ah (show acc++sl.drop e=Left.gN sl ul 0 L from hall)
   have HXL:=ah (show(sl.drop e).length<=n by rw[bZ];omega)
   have ha0:(0:Int)<=e:=by omega
   have ha1:(e:Int)<=s.size:=by omega
   obtain⟨x,hx⟩:∃x,sl.drop e=x:=⟨_,rfl⟩
   have hxe:=ag0.out e
   rw[hx]at hxe WM HXL
   clear hall hfit hkn hx hsz hen
   go_wp2_with (at_builtin
                refine jF _ rfl (.tmp 40) (.tmp 43) 65 9 5 rfl Tryz.underlying65 Tryz.underlying9 w1.heap.size i0 hi0 hz0 hz1 hz2 _ _ _ rfl HP.out.own x _ rfl rfl ?_ ?_ ?_
                ·have:=HLEN.out;have:=HXL.out;have:=WK.out;have:=HM.out;omega
                ·exact HP.out.aB.size
                intro v2 w2 hown2 hgrow2 _
                have HB2:=ah (HP.out.aB.grown hgrow2 HP.out.aB.size (λk hk=>(bB HP.out.own hk).1))
                rw[<-qg]at hown2
                obtain⟨hl2,A2,c2,rfl,hbr,_⟩:=BR.QI hown2
                rw[WM.out]at hbr
                have Tn:=λc=>uH hbr c
                clear hown2 hgrow2 hbr)
   go_ret
   exact⟨rfl,HB1.out.trans (HB2.out.mono HB1.out.size)⟩
def aaU (w:World):Prop:=Calls Tryz.prog 14 #[] w λe w'=>e= .returned (.bool true)/\Below w.heap.size w w'
def Mc (W:World) (e:Ending) (w':World):Prop:=e= .returned (.bool true)/\Below W.heap.size W w'
theorem zL (s:ByteArray):(⟨s.data.toList.toArray⟩:ByteArray)=s:=by rw[Array.toArray_toList]
structure FW (W:World) (fo le wo:Bool) (g:Nat) (w:World):Prop where
 aB:Below W.heap.size W w
 o:Bk w g #[.bool fo, .bool le, .bool wo] 28
theorem FW.go {W w w':World} {fo le wo:Bool} {g:Nat} (h:FW W fo le wo g w) (hb:Below w.heap.size w w'):FW W fo le wo g w':=⟨h.aB.trans (hb.mono h.aB.size),h.o.below hb⟩
def adF (f:FuncId) (s t u r:ByteArray) (fo le wo:Bool) (w:World):Prop:=Calls Tryz.prog f #[.string s, .string t, .string u, .agg #[.bool fo, .bool le, .bool wo]] w λe w'=>e= .returned (.string r)/\Below w.heap.size w w'
theorem adG (s t u r1 r0 rt:ByteArray) (L:List (Nat×Nat)) (fo le wo:Bool) (x y:Int) (W:World)
 (hlive:∀w,Below W.heap.size W w->aaU w) (hL:s.size<=48->L.length<=100)
 (hA:s.size<=48->t.size<=40->∀w,Below W.heap.size W w->WH s t fo le wo L w)
 (h1:s.size<=48->t.size<=40->u.size<=2000->∀w,Below W.heap.size W w->adF 26 s t u r1 fo le wo w)
 (h2:s.size<=48->t.size<=40->u.size<=2000->∀w,Below W.heap.size W w->adF 27 s t u r1 fo le wo w)
 (h0:s.size<=48->t.size<=40->∀w,Below W.heap.size W w->adF 26 s t ⟨#[]⟩ r0 fo le wo w)
 (ht:s.size<=48->t.size<=40->∀w,Below W.heap.size W w->adF 26 s t t rt fo le wo w)
 (hr0:s.size<=48->r0.size+Left.total L=s.size/\∀m∈L,m.1<=m.2/\m.2<=s.size) (hrt:s.size<=48->fo=false->rt=s):
 Calls Tryz.prog 7 #[.agg #[.string s, .string t, .bool fo, .bool le, .bool wo, .int .i64 x, .int .i64 y], .string u] W (Mc W):=by
 have HL:=ah hlive;have yM:=ah hA;have V7:=ah hL;have H1:=ah h1;have H2:=ah h2;have H0:=ah h0;have HTT:=ah ht;have LM:=ah hr0;have HRT:=ah hrt
 clear hlive hA hL h1 h2 h0 ht hr0 hrt
 go_enter Tryz.func7,Tryz.ntmps7
 go_upto_region 1 with fail
 go_cut [5,6,7] (λa b p wx=>∃g,a= .string s/\b= .string t/\p= .pointer (some ⟨g,0,none⟩)/\FW W fo le wo g wx)
 case first=>
  obtain⟨v,hv⟩:∃v,W.alloc (.cells #[.string s, .string t, .bool fo, .bool le, .bool wo, .int .i64 x, .int .i64 y] 36)=v:=⟨_,rfl⟩
  have HQ:=ah (show Bk v W.heap.size #[.string s, .string t, .bool fo, .bool le, .bool wo, .int .i64 x, .int .i64 y] 36 from by rw[<-hv];exact Bk.new W _ _)
  have HB:=ah (show Below W.heap.size W v from by rw[<-hv];exact(aF _ W).alloc (ay _) _)
  rw[hv]
  clear hv
  have y0:=(HQ.out.c 0).trans rfl
  have y1:=(HQ.out.c 1).trans rfl
  have y2:=(HQ.out.c 2).trans rfl
  have y3:=(HQ.out.c 3).trans rfl
  have y4:=(HQ.out.c 4).trans rfl
  go_region_held3 (λw'=>w'.cell? ⟨W.heap.size,0,none⟩=some (.string s)/\w'.cell? ⟨W.heap.size,1,none⟩=some (.string t)/\w'.cell? ⟨W.heap.size,2,none⟩=some (.bool fo)/\w'.cell? ⟨W.heap.size,3,none⟩=some (.bool le)/\w'.cell? ⟨W.heap.size,4,none⟩=some (.bool wo))
   (first|go_keep)
   (first|fail)
  all_goals go_wp2_with fail
  all_goals go_meet
  all_goals exact⟨_,rfl,rfl,rfl,HB.out.trans (((aF v.heap.size v).alloc (ay _) _).drew.mono HB.out.size),Bk.new v _ _⟩
 case rest=>
  obtain⟨g,rfl,rfl,rfl,hE⟩:=hcut
  have HE:=ah hE;clear hE
  by_cases c1:48<s.size
  ·have h1i:(48:Int)<s.size:=by omega
   clear c1
   go_wp2_with (go_at_call 14;refine(HL.out _ HE.out.aB).mono ?_;rintro e w5 ⟨rfl,hb⟩;have Mr:=ah (HE.out.go hb);clear hb)
   go_ret
   exact⟨rfl,Mr.out.aB⟩
  by_cases c2:40<t.size
  ·have h1i:¬(48:Int)<s.size:=by omega
   have h2i:(40:Int)<t.size:=by omega
   clear c1 c2
   go_wp2_with (go_at_call 14;refine(HL.out _ HE.out.aB).mono ?_;rintro e w5 ⟨rfl,hb⟩;have Mr:=ah (HE.out.go hb);clear hb)
   go_ret
   exact⟨rfl,Mr.out.aB⟩
  by_cases c3:2000<u.size
  ·have h1i:¬(48:Int)<s.size:=by omega
   have h2i:¬(40:Int)<t.size:=by omega
   have h3i:(2000:Int)<u.size:=by omega
   clear c1 c2 c3
   go_wp2_with (go_at_call 14;refine(HL.out _ HE.out.aB).mono ?_;rintro e w5 ⟨rfl,hb⟩;have Mr:=ah (HE.out.go hb);clear hb)
   go_ret
   exact⟨rfl,Mr.out.aB⟩
  have hs1:¬(48:Int)<s.size:=by omega
  have ht1:¬(40:Int)<t.size:=by omega
  have hu1:¬(2000:Int)<u.size:=by omega
  have HS:=ah (show s.size<=48 by omega)
  have HA:=ah (yM.out (by omega) (by omega));have H1':=ah (H1.out (by omega) (by omega) (by omega));have H2':=ah (H2.out (by omega) (by omega) (by omega));have H0':=ah (H0.out (by omega) (by omega));have aoF:=ah (HTT.out (by omega) (by omega))
  have HLEN:=ah (V7.out (by omega));have ag3:=ah (LM.out (by omega));have aoG:=ah (HRT.out (by omega))
  clear c1 c2 c3 yM V7 H1 H2 H0 HTT LM HRT
  have y0:=(HE.out.o.c 0).trans rfl
  have y1:=(HE.out.o.c 1).trans rfl
  have y2:=(HE.out.o.c 2).trans rfl
  go_wp2_with (go_at_call 15;refine(HA.out _ HE.out.aB).mono ?_;rintro e w1 ⟨A,N,c,rfl,hm,hb⟩;have HM:=ah hm;have HE1:=ah (HE.out.go hb);clear hm hb)
  have HN:=ah HM.out.len
  have hN:=HM.out.small
  go_loopw [10,9] (λi vn wr=>∃(k tot:Nat),k<=N/\i= .int .i64 k/\vn= .int .i64 tot/\tot+Left.total (L.drop k)=Left.total L/\FW W fo le wo g wr/\Ho wr A N L) (λi _ _=>N-(RowKit.intOf i).toNat)
  case atStart=>exact⟨0,0,aH _,rfl,rfl,bL _,HE1.out,HM.out⟩
  case round=>
   obtain⟨k,tot,hk,rfl,rfl,htot,hF,hR⟩:=hrel
   have HF:=ah hF;have HR:=ah hR;clear hF hR
   by_cases hlt:k<N
   ·obtain⟨g1,rfl,hg,hc⟩:=HR.out.at_ (by omega)
    obtain⟨d0,d1⟩:=hc k hlt
    have hkl:k<L.length:=by rw[HN.out];exact hlt
    have hd:=Fy (L:=L) (k:=k) hkl
    have hmem:=ag3.out.2 _ (Left.Zr hkl)
    obtain⟨⟨a,b⟩,hab⟩:∃z,L.getD k Left.m0=z:=⟨_,rfl⟩
    rw[hab]at d0 d1 hd hmem
    rw[hd]at htot
    have hur:Left.total ((a,b)::L.drop (k+1))=(b-a)+Left.total (L.drop (k+1)):=rfl
    rw[hur]at htot
    dsimp only at hmem
    have aoH:=HS.out
    have htl:Left.total L<=s.size:=by have:=ag3.out.1;omega
    obtain⟨n2,hn2⟩:∃n2,tot+(b-a)=n2:=⟨_,rfl⟩
    have HTO:=ah (show n2+Left.total (L.drop (k+1))=Left.total L by omega)
    have e1:IntKind.i64.wrap ((tot:Int)+b)=(tot:Int)+b:=(IntWalk.i64_left _).trans (by unfold wrap64;omega)
    have e2:IntKind.i64.wrap ((tot:Int)+b-a)=(n2:Int):=(IntWalk.i64_left _).trans (by unfold wrap64;omega)
    have hwk:wrap64 ((k:Int)+1)=((k+1:Nat):Int):=by unfold wrap64;omega
    have jX:=ah hwk;clear hwk
    have hk0:(0:Int)<=k:=by omega
    have hk1:(k:Int)<N:=by omega
    have HFD:=ah (λn=>show FW W fo le wo g (wr.drewN n)from⟨⟨HF.out.aB.os,HF.out.aB.tape,HF.out.aB.output,HF.out.aB.size,HF.out.aB.block⟩,HF.out.o⟩)
    have HRD:=ah (λn=>show Ho (wr.drewN n) (some ⟨g1,0,none⟩) N L from⟨HR.out.len,HR.out.small,HR.out.at_,HR.out.ty⟩)
    clear hc hg hkl hd hab htot hur hmem htl aoH hn2
    go_wp2
    go_quiet (fail)
    go_wp2
    exact⟨⟨k+1,n2,hlt,by first|rw[jX.out]|rfl,rfl,HTO.out,HFD.out _,HRD.out _⟩,by first|(rw[jX.out];simp[RowKit.intOf];omega)|(simp[RowKit.intOf];omega)⟩
   ·have hkn:k=N:=by omega
    rw[kP (by rw[HN.out,hkn];exact ay _)]at htot
    have hsub:IntKind.i64.wrap ((s.size:Int)-tot)=(r0.size:Int):=by
     have:=ag3.out.1
     have:=HS.out
     have h3:tot=Left.total L:=htot
     exact(IntWalk.i64_left _).trans (by unfold wrap64;omega)
    clear htot hkn
    go_wp2_with fail
    have HW:=ah HF.out
    have hb:FW W fo le wo g (wr.drewN 1):=⟨⟨HF.out.aB.os,HF.out.aB.tape,HF.out.aB.output,HF.out.aB.size,HF.out.aB.block⟩,HF.out.o⟩
    clear HW HR hN HN HM HE1 HE HF
    refine iC (C:=FW W fo le wo g) (by kernel_rfl) (by kernel_rfl) hb ?_
    clear hb
    go_big_quiet_step (exact λ_=>rfl)
    go_big_quiet_step (exact λ_=>rfl)
    go_big_quiet_step (exact λ_=>rfl)
    refine dw (by kernel_rfl) (λK hK=> ?_)
    refine cZ (.agg #[.bool fo, .bool le, .bool wo]) (λw hw=> ?_) (hK _ ?_)
    ·have y2:=(hw.o.c 0).trans rfl;have y3:=(hw.o.c 1).trans rfl;have y4:=(hw.o.c 2).trans rfl;go_simp
    clear hK K
    (try simp only[Act.put]);(try simp only[bn]);(try simp only[aQ]);(try simp only[aP])
    refine dw (by kernel_rfl) (λK hK=> ?_)
    refine gL 26 #[.string s, .string t, .string u, .agg #[.bool fo, .bool le, .bool wo]] (.string r1) (λw hw=> ?_) (λw hw=> ?_) (hK _ ?_)
    ·go_simp
    ·refine(H1'.out w hw.aB).mono ?_
     rintro e w2 ⟨rfl,hb⟩
     exact⟨rfl,hw.go hb⟩
    clear hK K
    (try simp only[Act.put]);(try simp only[bn]);(try simp only[aQ]);(try simp only[aP])
    go_big_quiet_step (exact λ_=>rfl)
    go_big_quiet_step (exact λ_=>rfl)
    go_big_quiet_step (exact λ_=>rfl)
    refine dw (by kernel_rfl) (λK hK=> ?_)
    refine cZ (.agg #[.bool fo, .bool le, .bool wo]) (λw hw=> ?_) (hK _ ?_)
    ·have y2:=(hw.o.c 0).trans rfl;have y3:=(hw.o.c 1).trans rfl;have y4:=(hw.o.c 2).trans rfl;go_simp
    clear hK K
    (try simp only[Act.put]);(try simp only[bn]);(try simp only[aQ]);(try simp only[aP])
    refine dw (by kernel_rfl) (λK hK=> ?_)
    refine gL 27 #[.string s, .string t, .string u, .agg #[.bool fo, .bool le, .bool wo]] (.string r1) (λw hw=> ?_) (λw hw=> ?_) (hK _ ?_)
    ·go_simp
    ·refine(H2'.out w hw.aB).mono ?_
     rintro e w2 ⟨rfl,hb⟩
     exact⟨rfl,hw.go hb⟩
    clear hK K
    (try simp only[Act.put]);(try simp only[bn]);(try simp only[aQ]);(try simp only[aP])
    refine dw (by kernel_rfl) (λK hK=> ?_)
    refine cZ (.bool false) (λw hw=> ?_) (hK _ ?_)
    ·go_simp
    clear hK K
    (try simp only[Act.put]);(try simp only[bn]);(try simp only[aQ]);(try simp only[aP])
    go_big_quiet_step (exact λ_=>rfl)
    go_big_quiet_step (exact λ_=>rfl)
    go_big_quiet_step (exact λ_=>rfl)
    refine dw (by kernel_rfl) (λK hK=> ?_)
    refine cZ (.agg #[.bool fo, .bool le, .bool wo]) (λw hw=> ?_) (hK _ ?_)
    ·have y2:=(hw.o.c 0).trans rfl;have y3:=(hw.o.c 1).trans rfl;have y4:=(hw.o.c 2).trans rfl;go_simp
    clear hK K
    (try simp only[Act.put]);(try simp only[bn]);(try simp only[aQ]);(try simp only[aP])
    refine dw (by kernel_rfl) (λK hK=> ?_)
    refine gL 26 #[.string s, .string t, .string ⟨#[]⟩, .agg #[.bool fo, .bool le, .bool wo]] (.string r0) (λw hw=> ?_) (λw hw=> ?_) (hK _ ?_)
    ·go_simp
    ·refine(H0'.out w hw.aB).mono ?_
     rintro e w2 ⟨rfl,hb⟩
     exact⟨rfl,hw.go hb⟩
    clear hK K
    (try simp only[Act.put]);(try simp only[bn]);(try simp only[aQ]);(try simp only[aP])
    refine dw (by kernel_rfl) (λK hK=> ?_)
    refine cZ (.int .i64 r0.size) (λw hw=> ?_) (hK _ ?_)
    ·go_simp
    clear hK K
    (try simp only[Act.put]);(try simp only[bn]);(try simp only[aQ]);(try simp only[aP])
    go_big_quiet_step (exact λ_=>rfl)
    refine dw (by kernel_rfl) (λK hK=> ?_)
    refine cZ (.int .i64 s.size) (λw hw=> ?_) (hK _ ?_)
    ·go_simp
    clear hK K
    (try simp only[Act.put]);(try simp only[bn]);(try simp only[aQ]);(try simp only[aP])
    go_big_quiet_step (exact λ_=>rfl)
    refine dw (by kernel_rfl) (λK hK=> ?_)
    refine cZ (.int .i64 r0.size) (λw hw=> ?_) (hK _ ?_)
    ·go_simp
    clear hK K
    (try simp only[Act.put]);(try simp only[bn]);(try simp only[aQ]);(try simp only[aP])
    refine dw (by kernel_rfl) (λK hK=> ?_)
    refine cZ (.bool false) (λw hw=> ?_) (hK _ ?_)
    ·go_simp
    clear hK K
    (try simp only[Act.put]);(try simp only[bn]);(try simp only[aQ]);(try simp only[aP])
    go_big_quiet_step (exact λ_=>rfl)
    refine wpQuiet_nil ?_
    intro w' hw'
    have HW:=ah hw'
    clear hw'
    have y0:=(HW.out.o.c 0).trans rfl
    have y1:=(HW.out.o.c 1).trans rfl
    have y2:=(HW.out.o.c 2).trans rfl
    cases fo with
    |true=>
     go_wp2_with (go_at_call 14;refine(HL.out _ HW.out.aB).mono ?_;rintro e w5 ⟨rfl,hb⟩;have Mr:=ah (HW.out.go hb);clear hb)
     go_ret
     exact⟨rfl,Mr.out.aB⟩
    |false=>
     have hrs:=aoG.out rfl
     subst hrs
     go_wp2_with (first
      |(go_at_call 26;refine(aoF.out _ HW.out.aB).mono ?_;rintro e w4 ⟨rfl,hb⟩;have JU:=ah (HW.out.go hb);clear hb)
      |(go_at_call 14;refine(HL.out _ JU.out.aB).mono ?_;rintro e w5 ⟨rfl,hb⟩;have Mr:=ah (JU.out.go hb);clear hb))
     go_ret
     exact⟨rfl,Mr.out.aB⟩
theorem Ih {want:List UInt8} {part:Nat->Nat->List UInt8} {a:Nat}:∀{l:List Nat} {m:Nat×Nat},m∈EvL.inner want part a l->m.1=a/\part m.1 m.2=want
 |[],_,h=>by cases h
 |b::r,m,h=>by
  have one:m∈(if part a b=want then[(a,b)]else[])->m.1=a/\part m.1 m.2=want:=λh=>by
   split at h;·rename_i c;obtain rfl:=fD.1 h;exact⟨rfl,c⟩
   ·cases h
  unfold EvL.inner at h;split at h;·exact one h
  ·rcases jf.1 h with h|h
   ·exact one h
   ·exact Ih h
theorem Ii {want:List UInt8} {part:Nat->Nat->List UInt8}:∀{l:List Nat} {m:Nat×Nat},m∈EvL.outer want part l->part m.1 m.2=want
 |[],_,h=>by cases h
 |a::r,m,h=>by
  unfold EvL.outer at h;rcases jf.1 h with h|h;·exact(Ih h).2
  ·exact Ii h
theorem RY {s t:List UInt8} {le wo:Bool} {m:Nat×Nat} (h:m∈kW s t false le wo):(s.take m.2).drop m.1=t:=by
 unfold kW at h;split at h;·cases h
 ·rename_i hn;have ho:=OU false le wo s t (Dm s) (qm s) hn;rw[show Left.every (sZ false t) (kI s false le wo)=EvL.outer t (eY false s) (EvL.places (kI s false le wo))from ho.symm]at h;have:=Ii h;unfold eY sZ at this;rw[aj vU]at this;rw[List.drop_take,this]
theorem Ij:∀(l:List (Nat×Nat)) (e:Nat),(Left.kT e l).length<=l.length
 |[],_=>ay _
 |m::l,e=>by have h1:=Ij l e;have h2:=Ij l m.2;unfold Left.kT;split<;>simp only[bK]<;>omega
theorem Cj (s t:ByteArray) (fo le wo:Bool) (x y:Int) (u:ByteArray) (W:World) (h:Ask W) (hd:WG W) (hl:∀w,Below W.heap.size W w->aaU w):
 Calls Tryz.prog 7 #[.agg #[.string s, .string t, .bool fo, .bool le, .bool wo, .int .i64 x, .int .i64 y], .string u] W (Mc W):=by
 have ls:s.data.toList.length=s.size:=jv;have lt:t.data.toList.length=t.size:=jv;have lu:u.data.toList.length=u.size:=jv;obtain⟨sl,hs⟩:∃sl,s.data.toList=sl:=⟨_,rfl⟩
 obtain⟨tl,ht⟩:∃tl,t.data.toList=tl:=⟨_,rfl⟩
 obtain⟨ul,hu⟩:∃ul,u.data.toList=ul:=⟨_,rfl⟩
 have bs:=zL s;have bt:=zL t;have bu:=zL u;rw[hs]at ls bs;rw[ht]at lt bt;rw[hu]at lu bu;have hn:=zH sl tl fo le wo;have hri:=Ou sl tl fo le wo;have hln:=Ij (kW sl tl fo le wo) 0;have hfit:=Left.Dk hri (aH _);obtain⟨L,hLd⟩:∃L,Left.kT 0 (kW sl tl fo le wo)=L:=⟨_,rfl⟩
 have hsub:∀m∈L,m∈kW sl tl fo le wo/\m.1<=m.2:=λm hm=>by rw[<-hLd]at hm;obtain⟨h1,_,h3⟩:=Left.G5 hri hm;exact⟨h1,dD h3⟩
 have hA:s.size<=48->t.size<=40->∀w,Below W.heap.size W w->WH ⟨sl.toArray⟩ ⟨tl.toArray⟩ fo le wo L w:=λc1 c2 w hb=>by have:=acU sl tl fo le wo w (h.go hb) (by omega) (by omega);rwa [hLd]at this
 have hD:s.size<=48->t.size<=40->∀w,Below W.heap.size W w->Calls Tryz.prog 18 #[.string ⟨sl.toArray⟩, .string ⟨tl.toArray⟩, .agg #[.bool fo, .bool le, .bool wo]] w (qx L w):=λc1 c2 w hb=>by have:=aaO sl tl fo le wo w (hd.go hb) (by omega) (by omega);rwa [hLd]at this
 rw[hLd]at hln hfit;have hin:∀m∈L,m.2<=sl.length:=by
  have go:∀{l:List (Nat×Nat)} {e:Nat},Left.fits sl.length e l->∀m∈l,m.2<=sl.length:=by
   intro l;induction l with
   |nil=>intro _ _ m hm;cases hm
   |cons z r ih=>
    intro e hf m hm;rcases aU.1 hm with rfl|hm;·exact hf.2.2.1
    ·exact ih hf.2.2.2 m hm
  exact go hfit
 have q:∀{w v:World},Below W.heap.size W w->Below w.heap.size w v->Below W.heap.size W v:=λhb hv=>hb.trans (hv.mono hb.size);have hrl:=Left.Ol hfit;rw[<-bs,<-bt,<-bu];have sz (l:List UInt8):(⟨l.toArray⟩:ByteArray).size=l.length:=size_mk l _ rfl;rw[<-bs,sz]at hA hD;rw[<-bt,sz]at hA hD;refine adG ⟨sl.toArray⟩ ⟨tl.toArray⟩ ⟨ul.toArray⟩ ⟨(Left.gN sl ul 0 L).toArray⟩ ⟨(Left.gN sl [] 0 L).toArray⟩ ⟨(Left.gN sl tl 0 L).toArray⟩ L fo le wo x y W hl ?_ ?_ ?_ ?_ ?_ ?_ ?_ ?_;all_goals (try simp only[sz])
 ·intro c;omega
 ·exact hA
 ·exact λc1 c2 c3 w hb=>Ma sl tl ul L fo le wo w (by omega) (by omega) c3 hfit λv hv=>hA c1 c2 v (q hb hv)
 ·exact λc1 c2 c3 w hb=>aaT sl tl ul L fo le wo w (by omega) (by omega) c3 hfit λv hv=>hD c1 c2 v (q hb hv)
 ·exact λc1 c2 w hb=>Ma sl tl [] L fo le wo w (by omega) (by omega) (aH _) hfit λv hv=>hA c1 c2 v (q hb hv)
 ·exact λc1 c2 w hb=>Ma sl tl tl L fo le wo w (by omega) (by omega) (by omega) hfit λv hv=>hA c1 c2 v (q hb hv)
 ·exact λ_=>⟨by omega,λm hm=>⟨(hsub m hm).2,hin m hm⟩⟩
 ·intro _ hf;subst hf;rw[Left.JM hfit (λm hm=>RY (hsub m hm).1)];rfl
section
open Lr (PT)
noncomputable section
def isB (x:AV) (b:Bool):Bool:=match x with
 | .bool c=>IC c b
 |_=>false
theorem zM {x:AV} {b:Bool} (h:isB x b=true) {ι:bg} {v:Value} (hv:VR ι x v):v= .bool b:=by
 unfold isB at h;split at h;·have hv:v=_:=hv;rw[hv,xB h]
 ·cases h
def aaV (d:Nat) (t:E AV d):Nat->List Int->Bool
 |_,[]=>true
 |i,x::r=>aA (isInt .i64 (E.get d (path d i) t) x) (aaV d t (Nat.succ i) r)
theorem Pw {d:Nat} {t:E AV d}:∀{l:List Int} {i:Nat},aaV d t i l=true->∀j,j<l.length->isInt .i64 (E.get d (path d (i+j)) t) (l.getD j 0)=true
 |[],_,_,j,hj=>by simp at hj
 |x::r,i,e,j,hj=>by
  obtain⟨h1,h2⟩:=au e;cases j with
  |zero=>exact h1
  |succ j=>have:=Pw h2 j (by simpa using hj);rw[show i+(j+1)=Nat.succ i+j by omega];simpa using this
def WO (h:H) (x:AV) (n s:Nat) (f:(d:Nat)->E AV d->Nat->Bool):Bool:=match x with
 | .jY=>Nat.beq n (nat_lit 0)
 | .slice b off len es _=>aA (Nat.beq len n) (Bool.rec (match h.get b with
   |some (.cells _ _ m d t)=>aA (Nat.beq es s) (aA (Nat.ble (Nat.add off (Nat.mul len es)) m) (f d t off))
   |_=>false) true (Nat.beq n (nat_lit 0)))
 |_=>false
theorem Fz {h:H} {x:AV} {n s:Nat} {f:(d:Nat)->E AV d->Nat->Bool} (e:WO h x n s f=true) {ι:bg} {w:World} {v:Value} (k:WR ι h w) (hv:VR ι x v):
 ∃A c,v= .slice A n c/\(0<n->∃g o d,∃t:E AV d,∃off,A=some ⟨g,o,none⟩/\g<w.heap.size/\f d t off=true/\∀i,i<n*s->∃y,w.cell? ⟨g,o+i,none⟩=some y/\VR ι (E.get d (path d (off+i)) t) y):=by
 unfold WO at e;split at e;·have e:=aO e;subst e;have hv:v= .slice none 0 0:=hv;exact⟨none,0,hv,λc=>absurd c (dI _)⟩
 ·rename_i b off len es z;obtain⟨e1,e2⟩:=au e;have e1:=aO e1;subst e1;rcases kN len with h0|h0
  ·subst h0;obtain⟨m,y,cap,_,rfl,_⟩:=hv;exact⟨y,cap,rfl,λc=>absurd c (dI _)⟩
  ·have hz:Nat.beq len (nat_lit 0)=false:=by
    cases hq:Nat.beq len (nat_lit 0);·rfl
    ·have:=aO hq;exact absurd h0 (by rw[this];exact dI _)
   rw[hz]at e2;simp only at e2;split at e2
   ·rename_i el ro m d t hb;obtain⟨q1,q2⟩:=au e2;obtain⟨q3,q4⟩:=au q2;have q1:=aO q1;subst q1;obtain⟨B,o,cap,rfl,hc,hcell⟩:=ig k hv h0 hb (fU q3);refine⟨_,cap,rfl,λ_=>⟨B,o,d,t,off,rfl,?_,q4,hcell⟩⟩;rcases kN es with c|c
    ·obtain⟨m0,y0,cap0,hm0,e0,_,_,hy0⟩:=hv;obtain⟨arr,jI,lo,hi,hw,_⟩:=k.cells trivial hm0 hb;have hB:m0.B=B:=by
      injection e0 with e0 _ _;rcases hy0 with hy|⟨hy,_⟩
      ·omega
      ·rw[hy]at e0;injection e0 with e0;injection e0 with e0 _ _;exact e0.symm
     rw[<-hB];exact(dQ.1 hw).1
    ·obtain⟨y,hy,_⟩:=hcell 0 (Nat.mul_pos h0 c);exact dO hy
   ·cases e2
 ·cases e
def Ux (h:H) (x:AV) (l:List Int):Bool:=aA (Nat.ble l.length (nat_lit 100000)) (WO h x l.length (nat_lit 1) λd t off=>aaV d t off l)
theorem Ik {h:H} {x:AV} {l:List Int} (e:Ux h x l=true) {ι:bg} {w:World} {v:Value} (k:WR ι h w) (hv:VR ι x v):∃A n c,v= .slice A n c/\bQ w A n l:=by obtain⟨e1,e2⟩:=au e;obtain⟨A,c,rfl,h1⟩:=Fz e2 k hv;refine⟨A,_,c,rfl,rfl,fU e1,λh0=> ?_⟩;obtain⟨g,o,d,t,off,rfl,hg,q,hc⟩:=h1 h0;refine⟨g,o,rfl,hg,λj hj=> ?_⟩;obtain⟨y,hy,ry⟩:=hc j (by show j<l.length*1;omega);rw[hy,mE (Pw q j hj) ry]
mutual
def aaW (h:H):PT->AV->AV->AV->Bool
 | .node op cls kids,a,b,k=>aA (isInt .i64 a (Int.ofNat op)) (aA (Ux h b (cls.map λ(x:Nat)=>(x:Int))) (WO h k kids.length (nat_lit 3) λd t off=>Uy h kids d t off))
def Uy (h:H):List PT->(d:Nat)->E AV d->Nat->Bool
 |[],_,_,_=>true
 |p::r,d,t,i=>aA (aaW h p (E.get d (path d i) t) (E.get d (path d (Nat.add i (nat_lit 1))) t) (E.get d (path d (Nat.add i (nat_lit 2))) t)) (Uy h r d t (Nat.add i (nat_lit 3)))
end
mutual
theorem Md {h:H} {ι:bg} {w:World} (k:WR ι h w):∀(p:PT) {x y z:AV} {a b c:Value},aaW h p x y z=true->VR ι x a->VR ι y b->VR ι z c->fE w a b c p
 | .node op cls kids,x,y,z,a,b,c,e,ha,hb,hc=>by
   unfold aaW at e;obtain⟨e1,e2⟩:=au e;obtain⟨e3,e4⟩:=au e2;unfold fE;obtain⟨A,n,c1,rfl,hI⟩:=Ik e3 k hb;obtain⟨A2,c2,rfl,h1⟩:=Fz e4 k hc;refine⟨mE e1 ha,⟨A,n,c1,rfl,hI⟩,A2,c2,rfl,?_⟩;rcases kN kids.length with h0|h0;·rw[rO h0];exact trivial
   ·obtain⟨g,o,d,t,off,rfl,hg,q,hcl⟩:=h1 h0;exact Px k kids 0 kids.length (by omega) hg (by rw[kL,dA];exact q) hcl
theorem Px {h:H} {ι:bg} {w:World} (k:WR ι h w):∀(l:List PT) (i n:Nat) {d:Nat} {t:E AV d} {off g o:Nat},i+l.length<=n->g<w.heap.size->Uy h l d t (off+i*3)=true->
 (∀i,i<n*3->∃y,w.cell? ⟨g,o+i,none⟩=some y/\VR ι (E.get d (path d (off+i)) t) y)->nG w (some ⟨g,o,none⟩) i l
 |[],_,_,_,_,_,_,_,_,_,_,_=>trivial
 |p::r,i,n,d,t,off,g,o,hn,hg,e,hc=>by unfold Uy at e;obtain⟨e1,e2⟩:=au e;rw[bK]at hn;unfold nG;obtain⟨y0,z0,s0⟩:=hc (i*3) (by omega);obtain⟨y1,z1,s1⟩:=hc (i*3+1) (by omega);obtain⟨y2,z2,s2⟩:=hc (i*3+2) (by omega);exact⟨⟨g,o,y0,y1,y2,rfl,hg,z0,z1,z2,Md k p e1 s0 s1 s2⟩,Px k r (i+1) n (by omega) hg (by rw[fP,<-mY];exact e2) hc⟩
end
def fineP (p:PT):Bool:=aA (rV p) (aA (RF p) (Nat.ble (mM p) 2000))
theorem fineP_ok {p:PT} (h:fineP p=true):RL p:=by obtain⟨h1,h2⟩:=au h;obtain⟨h3,h4⟩:=au h2;exact⟨h1,h3,fU h4⟩
def qA (d:Nat) (t:E AV d) (i k:Nat):AV:=E.get d (path d (Nat.add i k)) t
def aeT (h:H) (d:Nat) (t:E AV d) (i:Nat) (r:PR):Bool:=
 aA (aA (isB (qA d t i 0) r.brk) (aA (isB (qA d t i 1) r.fst) (aA (isB (qA d t i 2) r.lst) (IC r.lst false)))) (aA (aA (aaW h r.left (qA d t i 3) (qA d t i 4) (qA d t i 5)) (aaW h r.right (qA d t i 6) (qA d t i 7) (qA d t i 8))) (aA (fineP r.left) (fineP r.right)))
def RZ (h:H) (d:Nat) (t:E AV d):Nat->List PR->Bool
 |_,[]=>true
 |i,r::l=>aA (aeT h d t i r) (RZ h d t (Nat.add i (nat_lit 9)) l)
theorem J9 {h:H} {d:Nat} {t:E AV d}:∀{l:List PR} {i:Nat},RZ h d t i l=true->∀j r,l[j]? =some r->aeT h d t (i+j*9) r=true
 |[],_,_,j,r,hj=>by simp at hj
 |x::l,i,e,j,r,hj=>by
  obtain⟨h1,h2⟩:=au e;cases j with
  |zero=>
   obtain rfl:x=r:=by simpa using hj
   rw[kL,dA];exact h1
  |succ j=>have:=J9 h2 j r (by simpa using hj);rw[show i+(j+1)*9=Nat.add i (nat_lit 9)+j*9 by rw[fP];show _=i+9+_;omega];exact this
def Il (h:H) (x:AV) (l:List PR):Bool:=aA (aA (Nat.ble (nat_lit 1) l.length) (Nat.ble l.length (nat_lit 64))) (WO h x l.length (nat_lit 9) λd t off=>RZ h d t off l)
theorem aaX {w:World} {a b c:Value} {p:PT} (h:fE w a b c p):(∃op:Nat,a= .int .i64 op)/\(∃A n d,b= .slice A n d)/\∃A n d,c= .slice A n d:=by cases p;unfold fE at h;obtain⟨h1,⟨A,n,c,h2,_⟩,A2,c2,h3,_⟩:=h;exact⟨⟨_,h1⟩,⟨A,n,c,h2⟩,A2,_,c2,h3⟩
theorem Ei {h:H} {x:AV} {l:List PR} (e:Il h x l=true) {ι:bg} {w:World} {v:Value} (k:WR ι h w) (hv:VR ι x v):∃g o c,v= .slice (some ⟨g,o,none⟩) l.length c/\kK w g o l:=by
 obtain⟨e1,e2⟩:=au e;obtain⟨e3,e4⟩:=au e1;obtain⟨A,c,rfl,h1⟩:=Fz e2 k hv;obtain⟨g,o,d,t,off,rfl,hg,q,hc⟩:=h1 (fU e3);refine⟨g,o,c,rfl,hg,fU e4,λi r hr=> ?_⟩;have hi:i<l.length:=(nX.1 hr).1;obtain⟨q1,q2⟩:=au (J9 q i r hr);obtain⟨b0,q1⟩:=au q1;obtain⟨b1,q1⟩:=au q1;obtain⟨b2,b3⟩:=au q1;obtain⟨q3,q4⟩:=au q2;obtain⟨pl,pr⟩:=au q3;obtain⟨fl,fr⟩:=au q4;have cell:∀j,j<9->∃y,w.cell? ⟨g,o+i*9+j,none⟩=some y/\VR ι (qA d t (off+i*9) j) y:=λj hj=>by obtain⟨y,hy,ry⟩:=hc (i*9+j) (by show i*9+j<l.length*9;omega);rw[<-mY]at hy ry;exact⟨y,hy,ry⟩
 obtain⟨y0,z0,s0⟩:=cell 0 (by omega);obtain⟨y1,z1,s1⟩:=cell 1 (by omega);obtain⟨y2,z2,s2⟩:=cell 2 (by omega);obtain⟨y3,z3,s3⟩:=cell 3 (by omega);obtain⟨y4,z4,s4⟩:=cell 4 (by omega);obtain⟨y5,z5,s5⟩:=cell 5 (by omega);obtain⟨y6,z6,s6⟩:=cell 6 (by omega);obtain⟨y7,z7,s7⟩:=cell 7 (by omega);obtain⟨y8,z8,s8⟩:=cell 8 (by omega);have hl:=Md k r.left pl s3 s4 s5;have hr:=Md k r.right pr s6 s7 s8;obtain⟨⟨o1,rfl⟩,⟨A4,n4,d4,rfl⟩,A5,n5,d5,rfl⟩:=aaX hl;obtain⟨⟨o2,rfl⟩,⟨A7,n7,d7,rfl⟩,A8,n8,d8,rfl⟩:=aaX hr;obtain rfl:=zM b0 s0;obtain rfl:=zM b1 s1;obtain rfl:=zM b2 s2;refine⟨xB b3,⟨o1,A4,n4,d4,A5,n5,d5,o2,A7,n7,d7,A8,n8,d8⟩,⟨hl,hr,fineP_ok fl,fineP_ok fr⟩,λj x hx=> ?_⟩;match j,hx with
 |0,hx=>cases hx;exact z0
 |1,hx=>cases hx;exact z1
 |2,hx=>cases hx;exact z2
 |3,hx=>cases hx;exact z3
 |4,hx=>cases hx;exact z4
 |5,hx=>cases hx;exact z5
 |6,hx=>cases hx;exact z6
 |7,hx=>cases hx;exact z7
 |8,hx=>cases hx;exact z8
 |j+9,hx=>simp[yZ.cells]at hx
def aeU (h:H) (d:Nat) (t:E AV d) (i:Nat) (s:SD):Bool:=
 aA (aA (Ux h (qA d t i 0) s.left) (Ux h (qA d t i 1) s.right)) (aA (isB (qA d t i 2) s.WY) (isB (qA d t i 3) s.WZ))
def R3 (h:H) (d:Nat) (t:E AV d):Nat->List SD->Bool
 |_,[]=>true
 |i,r::l=>aA (aeU h d t i r) (R3 h d t (Nat.add i (nat_lit 4)) l)
theorem Ka {h:H} {d:Nat} {t:E AV d}:∀{l:List SD} {i:Nat},R3 h d t i l=true->∀j r,l[j]? =some r->aeU h d t (i+j*4) r=true
 |[],_,_,j,r,hj=>by simp at hj
 |x::l,i,e,j,r,hj=>by
  obtain⟨h1,h2⟩:=au e;cases j with
  |zero=>
   obtain rfl:x=r:=by simpa using hj
   rw[kL,dA];exact h1
  |succ j=>have:=Ka h2 j r (by simpa using hj);rw[show i+(j+1)*4=Nat.add i (nat_lit 4)+j*4 by rw[fP];show _=i+4+_;omega];exact this
def Im (h:H) (x:AV) (l:List SD):Bool:=aA (Nat.ble (nat_lit 1) l.length) (WO h x l.length (nat_lit 4) λd t off=>R3 h d t off l)
theorem Py {h:H} {x:AV} {l:List SD} (e:Im h x l=true) {ι:bg} {w:World} {v:Value} (k:WR ι h w) (hv:VR ι x v):∃A c,v= .slice A l.length c/\Ul w A l.length l:=by
 obtain⟨e1,e2⟩:=au e;obtain⟨A,c,rfl,h1⟩:=Fz e2 k hv;obtain⟨g,o,d,t,off,rfl,hg,q,hc⟩:=h1 (fU e1);refine⟨_,c,rfl,rfl,λi s hs=> ?_⟩;have hi:i<l.length:=(nX.1 hs).1;obtain⟨q1,q2⟩:=au (Ka q i s hs);obtain⟨i0,i1⟩:=au q1;obtain⟨b2,b3⟩:=au q2;have cell:∀j,j<4->∃y,w.cell? ⟨g,o+i*4+j,none⟩=some y/\VR ι (qA d t (off+i*4) j) y:=λj hj=>by obtain⟨y,hy,ry⟩:=hc (i*4+j) (by show i*4+j<l.length*4;omega);rw[<-mY]at hy ry;exact⟨y,hy,ry⟩
 obtain⟨y0,z0,s0⟩:=cell 0 (by omega);obtain⟨y1,z1,s1⟩:=cell 1 (by omega);obtain⟨y2,z2,s2⟩:=cell 2 (by omega);obtain⟨y3,z3,s3⟩:=cell 3 (by omega);obtain⟨lA,ln,lc,rfl,hL⟩:=Ik i0 k s0;obtain⟨rA,rn,rc,rfl,hR⟩:=Ik i1 k s1;obtain rfl:=zM b2 s2;obtain rfl:=zM b3 s3;exact⟨g,o,lA,ln,lc,rA,rn,rc,rfl,hg,z0,z1,z2,z3,hL,hR⟩
end
end
noncomputable section
def aaY (v:AV) (h:H):Bool:=match v with
 | .ptr b off=>match h.get b with
   |some (.cells _ _ n d t)=>aA (Nat.ble (Nat.add off (nat_lit 3)) n) (aA (Bo h (E.get d (path d (Nat.add off (nat_lit 0))) t) (tq iw 13)) (aA (Il h (E.get d (path d (Nat.add off (nat_lit 1))) t) tC) (isB (E.get d (path d (Nat.add off (nat_lit 2))) t) true)))
   |_=>false
 |_=>false
theorem aaZ {ι:bg} {h:H} {w:World} {x:AV} {v:Value} (e:aaY x h=true) (k:WR ι h w) (hv:VR ι x v):aaD w v iw 13 tC true:=by
 unfold aaY at e;split at e
 ·rename_i b off;split at e
  ·rename_i el ro n d t hb;obtain⟨e0,e⟩:=au e;obtain⟨e1,e⟩:=au e;obtain⟨e2,e3⟩:=au e;obtain⟨B,o,rfl,hc⟩:=pE (c:=3) k hv hb (fU e0);obtain⟨y0,z0,s0⟩:=hc 0 (by omega);obtain⟨y1,z1,s1⟩:=hc 1 (by omega);obtain⟨y2,z2,s2⟩:=hc 2 (by omega);obtain⟨g,og,c,rfl,hR⟩:=Ei e2 k s1;obtain rfl:=zM e3 s2;exact⟨B,o,y0,g,og,c,rfl,dO z0,z0,z1,z2,GH e1 k s0,hR⟩
  ·cases e
 ·cases e
def Uz (v:AV) (h:H):Bool:=match v with
 | .iE (.cons (.agg (.cons x (.cons y .nil))) (.cons a (.cons b .nil)))=>aA (aA (Il h x dM) (isB y true)) (aA (isInt .i64 a 0) (isInt .i64 b 0))
 |_=>false
theorem aa0 {ι:bg} {h:H} {w:World} {x:AV} {v:Value} (e:Uz x h=true) (k:WR ι h w) (hv:VR ι x v):∃gr og cr,v= .tuple #[.agg #[.slice (some ⟨gr,og,none⟩) dM.length cr, .bool true], .int .i64 0, .int .i64 0]/\kK w gr og dM:=by
 unfold Uz at e;split at e;·obtain⟨e1,e2⟩:=au e;obtain⟨e3,e4⟩:=au e1;obtain⟨e5,e6⟩:=au e2;obtain⟨xs,rfl,u,l1,h1,⟨ys,rfl,p,l2,h2,hp,q,l3,h3,hq,h4⟩,a,l4,h5,ha,b,l5,h6,hb,h7⟩:=hv;obtain⟨g,og,c,rfl,hR⟩:=Ei e3 k hp;obtain rfl:=zM e4 hq;obtain rfl:=mE e5 ha;obtain rfl:=mE e6 hb;subst h4 h3 h7 h6 h5;refine⟨g,og,c,?_,hR⟩;rw[show xs=#[.agg ys, .int .i64 0, .int .i64 0]from Array.ext' h1,show ys=#[.slice (some ⟨g,og,none⟩) dM.length c, .bool true]from Array.ext' h2]
 ·cases e
theorem aa1 {ext:Nat->Nat} {Pz IW:Nat->AV->H->Option bI} {N:Nat} (nA:Tryz.prog.follows .mixedOrders=true) (hprog:gH Tryz.prog=true) (eA:pU Tryz.prog (dh Tryz.prog ext Pz)) (eB:pU Tryz.prog (dh Tryz.prog ext IW)) (oA:gG Tryz.prog (dh Tryz.prog ext Pz)) (oB:gG Tryz.prog (dh Tryz.prog ext IW))
 (d n p s:jc) (ag r:AV) (ss:List SD)
 (hf:(d.f=75/\n.f=77)/\p.f=76/\s.f=126) (ha:(d.args= .nil/\n.args= .cons d.v .nil)/\p.args= .cons (.str aaL) (.cons n.v .nil)/\s.args= .cons ag .nil/\p.v= .iE (.cons ag r))
 (hw:(d.ws=[]/\n.ws=[])/\p.ws=[]/\s.ws=[]) (hx:(64<=d.nx/\d.nx<=65536)/\d.bi=[]/\d.nx'=n.nx/\n.nx'=p.nx/\p.nx'=s.nx)
 (hd:aA (fnOf Tryz.prog d.f).isSome (aA (Pz d.f d.args (qP d)).isNone (aA (Vk d) (Bc d (λv h=>Bo h v (tq iy 19)) ((run (dh Tryz.prog ext Pz) (Nat.succ N)).call d.f d.args (qP d)))))=true)
 (hn:aA (fnOf Tryz.prog n.f).isSome (aA (Pz n.f n.args (qP n)).isNone (aA (Vk n) (Bc n (λ_ _=>true) ((run (dh Tryz.prog ext Pz) (Nat.succ N)).call n.f n.args (qP n)))))=true)
 (hp:aA (fnOf Tryz.prog p.f).isSome (aA (IW p.f p.args (qP p)).isNone (aA (Vk p) (Bc p Uz ((run (dh Tryz.prog ext IW) (Nat.succ N)).call p.f p.args (qP p)))))=true)
 (hs:aA (fnOf Tryz.prog s.f).isSome (aA (Pz s.f s.args (qP s)).isNone (aA (Vk s) (Bc s (λv h=>Im h v ss) ((run (dh Tryz.prog ext Pz) (Nat.succ N)).call s.f s.args (qP s)))))=true)
 (h1:jW (uz d (qP d)) n.bi=true) (h2:jW (uz n (uz d (qP d))) p.bi=true) (h3:jW (uz p (uz n (uz d (qP d)))) s.bi=true) (hk:yG dM ss=true) (W:World):Uv W:=by
 have hin:qP d=h0 d.nx:=by unfold qP h0;rw[hx.2.1];rfl
 refine(show Calls Tryz.prog 75 #[] W _ from ?_);rw[<-hf.1.1];refine(Bd nA hprog eA oA hw.1.1 hd (ι:=uy W) (w:=W) (h:=qP d) (by rw[hin];exact YO hx.1.1 hx.1.2 W) (ER W) (by rw[hin];rfl) (by rw[hx.2.1];rfl) (vs:=#[]) (by rw[ha.1.1];rfl)).mono ?_;rintro e w1 ⟨v,rfl,⟨v1,hh,ι1,q1,s1,k1⟩,⟨ι2,k2,g2,s2⟩,hb⟩;refine⟨v,rfl,hb,GH q1 k1 s1,λw2 hb2=> ?_⟩;rw[<-hf.1.2];refine(Bd nA hprog eA oA hw.1.2 hn (k2.below hb2) g2 hx.2.2.1 h1 (vs:=#[v]) (by rw[ha.1.2];exact⟨v,[],rfl,s2,rfl⟩)).mono ?_;rintro e w3 ⟨nv,rfl,_,⟨ι3,k3,g3,s3⟩,hb3⟩;refine⟨nv,rfl,hb3,λw4 hb4 b hS=> ?_⟩;rw[<-hf.2.1];refine(Bd nA hprog eB oB hw.2.1 hp (k3.below hb4) g3 hx.2.2.2.1 h2 (vs:=#[.string b,nv]) (by rw[ha.2.1];exact⟨_,_,rfl,⟨b,rfl,hS.symm⟩,nv,[],rfl,s3,rfl⟩)).mono ?_;rintro e w5 ⟨pv,rfl,⟨v5,hh5,ι5,q5,s5,k5⟩,⟨ι6,k6,g6,s6⟩,hb5⟩;obtain⟨gr,og,cr,rfl,hR⟩:=aa0 q5 k5 s5;refine⟨gr,og,cr,rfl,hb5,hR,ss,hk,λw6 hb6 w7 hb7=> ?_⟩;rw[ha.2.2.2]at s6;obtain⟨xs,e1,u,l,e2,hu,_⟩:=s6;injection e1 with e1;subst e1;injection e2 with e2 _;subst e2;rw[<-hf.2.2];refine(Bd nA hprog eA oA hw.2.2 hs ((k6.below hb6).below hb7) g6 hx.2.2.2.2 h3 (vs:=#[.agg #[.slice (some ⟨gr,og,none⟩) dM.length cr, .bool true]]) (by rw[ha.2.2.1];exact⟨_,[],rfl,hu,rfl⟩)).mono ?_;rintro e w8 ⟨sv,rfl,⟨v8,hh8,ι8,q8,s8,k8⟩,_,hb8⟩;obtain⟨A,c,rfl,hS⟩:=Py q8 k8 s8;exact⟨A,_,c,rfl,hS,hb8⟩
