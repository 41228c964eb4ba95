/- SearchReplaces, walked: the document's patterns. -/
import Derived.Test.YtocaiijbhepnnaaGreatDoorHB
set_option maxRecDepth 100000
set_option maxHeartbeats 8000000
namespace Go.Proofs.YtocaiijbhepnnaaGreatDoor.searchReplaces
open Go.Shelf Go.RowKit Go.Lib Go.Proofs.YtocaiijbhepnnaaGreatDoor.Am
def Wd (w:World) (b x:Nat):Prop:=w.heap[b]? =some (.cells #[.int .u64 (x:Int)] 308 (0,0))/\x<0x10000000000000000
def mK (b:Nat):Value:= .slice (some ⟨b,0,none⟩) 1 1
theorem Wd.cell {w:World} {b x:Nat} (h:Wd w b x):w.cell? ⟨b,0,none⟩=some (.int .u64 (x:Int)):=(bA w b 0 _ _ _ h.1).trans rfl
theorem Wd.fr {T:Nat->Prop} {w w':World} {b x:Nat} (h:Wd w b x) (hf:Fr T w w') (hn:¬T b):Wd w' b x:=⟨hf.blk h.1 hn,h.2⟩
theorem Wd.below {w w':World} {b x:Nat} (h:Wd w b x) (hb:Below w.heap.size w w'):Wd w' b x:=⟨bM hb h.1,h.2⟩
theorem Wd.lt {w:World} {b x:Nat} (h:Wd w b x):b<w.heap.size:=bU h.1
theorem adj (x i:Nat) (hx:x<0x10000000000000000):(bits .and .u64 ((x:Int)/2^i) 1==1)=x.testBit i:=by
 have e:((x:Int)/2^i)=((x/2^i:Nat):Int):=by simp
 have h1:x/2^i<0x10000000000000000:=Nat.lt_of_le_of_lt (Nat.div_le_self _ _) hx;rw[e,show(1:Int)=((1:Nat):Int)from rfl,u64_and_nat _ 1 h1 (by decide),Nat.and_one_is_mod,Nat.testBit_eq_decide_div_mod_eq];have h2:x/2^i%2<2:=Nat.mod_lt _ (by decide);by_cases c:x/2^i%2=1;·rw[c];rfl
 ·rw[show x/2^i%2=0 by omega];rfl
theorem Fp (b x i:Nat) (W:World) (h:Wd W b x) (hi:i<64):Calls Tryz.prog 239 #[mK b, .int .i64 i] W λe w'=>e= .returned (.bool (x.testBit i))/\w'=W:=by
 have hc:=h.cell;have HX:=ah h.2;unfold mK;have h0:(i:Int)/64=0:=by omega
 have h1:(i:Int)%64=i:=by omega
 clear h;go_enter Tryz.func239,Tryz.ntmps239;go_wp2;go_ret;exact⟨by rw[<-adj x i HX.out];rfl,rfl⟩
def Ry (b x:Nat) (W:World) (e:Ending) (w':World):Prop:=e= .returned (.tuple #[])/\Fr (λk=>k=b) W w'/\Wd w' b x
theorem fr_set (w:World) (b:Nat) (v:Value):Fr (λk=>k=b) w (w.setCell ⟨b,0,none⟩ v):=Fr.set _ _ _ (λ_=>rfl)
theorem aeK {x y:Nat} (hx:x<0x10000000000000000) (hy:y<0x10000000000000000):x|||y<0x10000000000000000:=Nat.or_lt_two_pow (n:=64) hx hy
theorem Z8 {i:Nat} (h:i<64):1<<<i<0x10000000000000000:=by rw[Nat.one_shiftLeft];exact Nat.pow_lt_pow_right (a:=2) (by decide) (show i<64 from h)
theorem Wd.set {w:World} {b x y:Nat} (h:Wd w b x) (hy:y<0x10000000000000000):Wd (w.setCell ⟨b,0,none⟩ (.int .u64 (y:Int))) b y:=⟨by rw[uF w b 0 _ _ _ h.1];rfl,hy⟩
theorem Ua (b x i:Nat) (W:World) (h:Wd W b x) (hi:i<64):Calls Tryz.prog 284 #[mK b, .int .i64 i] W (Ry b (x|||1<<<i) W):=by
 have hc:=h.cell;have HX:=ah h.2;have HH:=ah h;have hfz:W.frozen? ⟨b,0,none⟩=false:=by simp[World.frozen?,h.1]
 unfold mK;have h0:(i:Int)/64=0:=by omega
 have h1:(i:Int)%64=i:=by omega
 clear h;go_enter Tryz.func284,Tryz.ntmps284;go_wp2;refine bodyPost_end (results_none rfl _ _ _) rfl ⟨rfl,?_,?_⟩;·exact Fr.set _ _ _ (λ_=>rfl)
 ·have e:bits .or .u64 (x:Int) (IntKind.u64.wrap (2^i))=((x|||1<<<i:Nat):Int):=by
   have:=Z8 hi;rw[Nat.one_shiftLeft]at this⊢;rw[show((2:Int)^i)=((2^i:Nat):Int)by simp];generalize 2^i=p at*
   rw[IntWalk.u64_in _ ⟨by omega,by omega⟩,u64_or_nat _ _ HX.out this]
  rw[e];exact HH.out.set (aeK HX.out (Z8 hi))
theorem Fq (b c x y:Nat) (W:World) (h:Wd W b x) (h':Wd W c y):Calls Tryz.prog 324 #[mK b,mK c] W (Ry b (x|||y) W):=by
 have hc:=h.cell;have hc':=h'.cell;have HX:=ah h.2;have HY:=ah h'.2;have HH:=ah h;have HH':=ah h';have hfz:W.frozen? ⟨b,0,none⟩=false:=by simp[World.frozen?,h.1]
 unfold mK;clear h h';go_enter Tryz.func324,Tryz.ntmps324;go_wp2;go_loopw [4] (λvi wr=>(vi= .int .i64 0/\wr=W)\/(vi= .int .i64 1/\Fr (λk=>k=b) W wr/\Wd wr b (x|||y))) (λvi _=>1-(RowKit.intOf vi).toNat);case atStart=>exact .inl ⟨rfl,rfl⟩
 case round=>
  rcases hrel with⟨rfl,rfl⟩|⟨rfl,hf,hw⟩
  ·go_wp2;go_region;all_goals go_wp2
   rw[u64_or_nat _ _ HX.out HY.out];exact⟨.inr ⟨rfl,(fr_set _ _ _).trans (Fr.drew _ _),HH.out.set (aeK HX.out HY.out)⟩,by simp[RowKit.intOf]⟩
  ·have HF:=ah hf;have HW:=ah hw;go_wp2;exact bodyPost_end (results_none rfl _ _ _) rfl ⟨rfl,HF.out,HW.out⟩
section
open Lr (bit jC kV iX jk qp)
theorem Z9:(Tryz.prog.info? 292).map (λi=>(i.zero,i.size,i.bytes))=some (some (.slice none 0 0),1,24):=by kernel_rfl
theorem u64_info:(Tryz.prog.info? 308).map (λi=>(i.zero,i.size,i.bytes))=some (some (.int .u64 0),1,8):=by kernel_rfl
theorem aac (w:World):(Instr.makeSlice 292 (.int .i64 1) (.int .i64 1)).run Tryz.prog w= .ok (.slice (some ⟨w.heap.size,0,none⟩) 1 1) (w.alloc (.cells #[.int .u64 0] 308)):=by obtain⟨i,hi,hz0,hz1,hz2⟩:=eD u64_info;have h:=run_makeSlice w 292 308 i _ Tryz.underlying292 hi hz0 .i64 .i64 1 1 (by decide) (by decide) (by rw[hz1];decide) (by rw[hz2];decide) (by decide);rw[hz1,show madeCells (Value.int .u64 0).cells ((1:Int).toNat*1)=#[.int .u64 0]by simp[madeCells,Value.cells];exact⟨0,rfl,rfl⟩]at h;exact h
structure NS (W:World) (v:Value) (k:Nat) (bs:List Nat) (w:World):Prop where
 aB:Below W.heap.size W w
 len:bs.length=k
 own:w.ownsRow W.heap.size 292 1 v k (bs.map mK)
 wd:∀x∈bs,Wd w x 0/\W.heap.size<=x
 nd:bs.Nodup
theorem NS.nil (W:World):NS W (.slice none 0 0) 0 [] W:=⟨aF _ _,rfl,⟨rfl, .inl ⟨rfl,rfl⟩⟩,λx h=>(by cases h),List.nodup_nil⟩
theorem NS.grow {W w w':World} {v v':Value} {k:Nat} {bs:List Nat} {o:Obj} (h:NS W v k bs w) (ho:w'.ownsRow W.heap.size 292 1 v' (k+1) (bs.map mK++[mK w.heap.size])) (hg:((w.alloc (.cells #[.int .u64 0] 308)).alloc o).grownBy w' v.ownBlock):NS W v' (k+1) (bs++[w.heap.size]) w':=by
 have hb1:Below w.heap.size w (w.alloc (.cells #[.int .u64 0] 308)):=(aF _ w).alloc (ay _) _;have hb:Below w.heap.size w ((w.alloc (.cells #[.int .u64 0] 308)).alloc o):=hb1.alloc (by simp) _;have hne:∀{x:Nat},Wd ((w.alloc (.cells #[.int .u64 0] 308)).alloc o) x 0->v.ownBlock≠some x:=λ{x} hx c=>by obtain⟨_,_,cur,hc⟩:=bB (own_below hb h.own) c;rw[hx.1]at hc;injection hc with hc;injection hc with _ hc;exact absurd hc (by decide)
 have keep:∀{x:Nat},Wd ((w.alloc (.cells #[.int .u64 0] 308)).alloc o) x 0->Wd w' x 0:=λ{x} hx=>⟨by rw[hg.block x (bU hx.1) (λc=>hne hx (by first|exact c|exact c.symm))];exact hx.1,hx.2⟩
 refine⟨(h.aB.trans (hb.mono h.aB.size)).grown hg (aS h.aB.size hb.size) (λj hj=>(bB h.own hj).1),by rw[bG,h.len];rfl,by rw[Bj];exact ho,?_,?_⟩
 ·intro x hx;rcases jf.1 hx with hx|hx
  ·exact⟨keep ((h.wd x hx).1.below hb),(h.wd x hx).2⟩
  ·obtain rfl:=fD.1 hx;refine⟨keep ⟨?_,by decide⟩,h.aB.size⟩;exact(qY _ _ _ (by simp)).trans (cO w _)
 ·rw[List.nodup_append];refine⟨h.nd,by simp,λx hx y hy=> ?_⟩;obtain rfl:=fD.1 hy;have:=(h.wd x hx).1.lt;omega
structure Cm (w:World) (B g:Nat) (b:Nat->Nat) (n:Nat) (M:List Nat):Prop where
 len:M.length=n
 pos:0<n/\n<64
 og:B<=g/\g<w.heap.size
 cell:∀i,i<n->w.cell? ⟨g,i,none⟩=some (mK (b i))
 low:∀i,i<n->B<=b i/\b i≠g
 wd:∀i,i<n->Wd w (b i) (M.getD i 0)
 inj:∀i j,i<n->j<n->b i=b j->i=j
def yE (n:Nat) (M:List Nat) (W:World) (e:Ending) (w':World):Prop:=∃g c b,e= .returned (.slice (some ⟨g,0,none⟩) n c)/\Cm w' W.heap.size g b n M/\Below W.heap.size W w'
section
variable {w w':World} {B g n:Nat} {b:Nat->Nat} {M:List Nat}
theorem Cm.below (h:Cm w B g b n M) (hb:Below w.heap.size w w'):Cm w' B g b n M:=
 ⟨h.len,h.pos,⟨h.og.1,bH h.og.2 hb.size⟩,λi hi=>(hb.cell (p:=⟨g,i,none⟩) h.og.2).trans (h.cell i hi),h.low,λi hi=>(h.wd i hi).below hb,h.inj⟩
theorem Cm.set (h:Cm w B g b n M) {i x:Nat} (hi:i<n) (hf:Fr (λk=>k=b i) w w') (hx:Wd w' (b i) x):Cm w' B g b n (M.set i x):=by
 refine⟨by rw[List.length_set];exact h.len,h.pos,⟨h.og.1,bH h.og.2 hf.size⟩,λj hj=>(hf.cell (p:=⟨g,j,none⟩) h.og.2 (λc=>(h.low i hi).2 c.symm)).trans (h.cell j hj),h.low,λj hj=> ?_,h.inj⟩;rw[aM,List.getElem?_set];by_cases c:i=j;·subst c;rw[ak rfl,ak (by rw[h.len];exact hi)];exact hx
 ·rw[aj c,<-aM];exact(h.wd j hj).fr hf (λe=>c (h.inj i j hi hj e.symm))
theorem Cm.fr {T:Nat->Prop} (h:Cm w B g b n M) (hf:Fr T w w') (hT:∀k,T k->k<B):Cm w' B g b n M:=
 ⟨h.len,h.pos,⟨h.og.1,bH h.og.2 hf.size⟩,λi hi=>(hf.cell (p:=⟨g,i,none⟩) h.og.2 (λc=>absurd (hT _ c) (Nat.not_lt.2 h.og.1))).trans (h.cell i hi),h.low,λi hi=>(h.wd i hi).fr hf (λc=>absurd (hT _ c) (Nat.not_lt.2 (h.low i hi).1)),h.inj⟩
end
theorem NS.rws {W w:World} {g k c:Nat} {bs:List Nat} (h:NS W (.slice (some ⟨g,0,none⟩) k c) k bs w) (h0:0<k) (h64:k<64):Cm w W.heap.size g (λi=>bs.getD i 0) k (jC k):=by
 have hl:=bB h.own (g:=g) rfl;have hm:∀i,i<k->bs.getD i 0∈bs:=λi hi=>by rw[aM,aX (by rw[h.len];exact hi)];exact l6 _
 refine⟨Bf,⟨h0,h64⟩,⟨hl.1,hl.2.1⟩,λi hi=> ?_,λi hi=>⟨(h.wd _ (hm i hi)).2,λc=> ?_⟩,λi hi=> ?_,λi j hi hj e=> ?_⟩
 ·have:=qX (g:=g) h.own rfl i (mK (bs.getD i 0)) (by
   rw[fQ,aX (by rw[h.len];exact hi),aM,aX (by rw[h.len];exact hi)];rfl)
  rwa [iA,bL]at this
 ·obtain⟨_,_,cur,hc⟩:=hl;have:=(h.wd _ (hm i hi)).1.1;rw[show bs.getD i 0=g from c,hc]at this;injection this with this;injection this with _ this;exact absurd this (by decide)
 ·have:=(h.wd _ (hm i hi)).1;rwa [show(jC k).getD i 0=0 by unfold jC;rw[aM,List.getElem?_replicate,ak hi];rfl]
 ·rw[aM,aM,aX (by rw[h.len];exact hi),aX (by rw[h.len];exact hj)]at e;exact(List.getElem_inj h.nd).1 e
theorem wG (n:Nat) (W:World) (h0:0<n) (h64:n<64):Calls Tryz.prog 283 #[.int .i64 n] W (yE n (jC n) W):=by
 have hd:(n:Int)/64=0:=by omega
 obtain⟨i0,hI0,hz0,hz1,hz2⟩:=eD Z9;go_enter Tryz.func283,Tryz.ntmps283;go_wp2;go_loopw [3,4] (λvo vi wr=>∃(k:Nat) (A:Option Addr) (c:Nat) (bs:List Nat),k<=n/\vi= .int .i64 k/\vo= .slice A k c/\NS W (.slice A k c) k bs wr) (λ_ vi _=>n-(RowKit.intOf vi).toNat);case atStart=>exact⟨0,none,0,[],aH _,rfl,rfl,NS.nil W⟩
 case round=>
  obtain⟨k,A,c,bs,hk,rfl,rfl,hN⟩:=hrel;have HN:=ah hN;clear hN;by_cases hlt:k<n
  ·have hki:(k:Int)<n:=by omega
   have hwk:wrap64 ((k:Int)+1)=((k+1:Nat):Int):=by unfold wrap64;omega
   have jX:=ah hwk;have HL:=ah (show k+1<=maxLen/\(k+1)*24<=0x800000000000 by exact⟨by simp only[maxLen];omega,by omega⟩);clear hwk;have hmk:=aac;go_wp2_with (at_builtin;(refine aY _ rfl (.tmp 10) (.tmp 15) 289 rfl W.heap.size 292 i0 _ 24 Tryz.underlying289 hI0 hz0 hz1 hz2 rfl (.slice A k c) k (bs.map mK) rfl (dZ (dZ HN.out.own)) _ 1 1 [.slice (some ⟨wr.heap.size,0,none⟩) 1 1] rfl (Zg _ _ _ _ (by simp)) (by simp[Value.oneCell']) HL.out.1 HL.out.2 (by rw[World.size_alloc,World.size_alloc];have:=HN.out.aB.size;omega) ?_);intro v' wp ho hg hn;obtain⟨B1,d1,rfl,_⟩:=aL ho;have nT:=Lib.hid (HN.out.grow ho hg);clear ho hg hn);(try rw[jX.out]);exact⟨⟨k+1,_,_,_,hlt,rfl,rfl,nT.out⟩,by simp[RowKit.intOf];omega⟩
  ·obtain rfl:k=n:=by omega
   obtain⟨g,rfl⟩:=sO HN.out.own h0;go_wp2;go_ret;exact⟨g,c,_,rfl,HN.out.rws h0 h64,HN.out.aB⟩
end
section
open Lr (bit jC kV iX jk qp oC jU mG)
theorem jq {W w w1:World} {T:Nat->Prop} (h:Below W.heap.size W w) (hf:Fr T w w1) (hT:∀k,T k->W.heap.size<=k):Below W.heap.size W w1:=
 ⟨hf.os.trans h.os,hf.tape.trans h.tape,hf.output.trans h.output,aS h.size hf.size,λk hk=>(hf.block k (bH hk h.size) (λc=>by have:=hT k c;omega)).trans (h.block k hk)⟩
theorem BN {n i:Nat} {f:Nat->Nat} (hi:i<n) (x:Nat):((List.range n).map f).set i x=(List.range n).map λj=>if j=i then x else f j:=by
 refine Ac λj=> ?_;rw[List.getElem?_set,fQ,fQ];by_cases c:i=j;·subst c;simp[hi]
 ·rw[aj c];rcases aK j n with h|h
  ·rw[wX h];simp;exact λe=>absurd e.symm c
  ·rw[tT (by simpa using h)];rfl
theorem BO {n i:Nat} {f:Nat->Nat} (hi:i<n):((List.range n).map f).getD i 0=f i:=by rw[aM,fQ,wX hi];rfl
theorem dV {n:Nat} {f g:Nat->Nat} (h:∀j,j<n->f j=g j):(List.range n).map f=(List.range n).map g:=List.map_congr_left λj hj=>h j (mh.1 hj)
theorem BQ (n:Nat):jC n=(List.range n).map λ_=>0:=by unfold jC;rw[List.map_const',nY]
def O4 (n i:Nat):List Nat:=(List.range n).map λj=>if j<i then 1<<<j else 0
theorem V9 (n:Nat):O4 n 0=jC n:=by rw[BQ];exact dV λ_ _=>aj (jh _)
theorem aad (n:Nat):O4 n n=kV n:=dV λ_ hj=>ak hj
theorem aae {n i:Nat} (hi:i<n):(O4 n i).getD i 0=0:=by unfold O4;rw[BO hi,aj (dI i)]
theorem aaf {n i:Nat} (hi:i<n):(O4 n i).set i (0|||1<<<i)=O4 n (i+1):=by
 unfold O4;rw[BN hi];refine dV λj _=> ?_;by_cases c:j=i;·subst c;rw[ak rfl,ak (lX j),Nat.zero_or]
 ·rw[aj c];by_cases d:j<i
  ·rw[ak d,ak (by omega)]
  ·rw[aj d,aj (by omega)]
theorem LV (n:Nat) (W:World) (h0:0<n) (h64:n<64):Calls Tryz.prog 285 #[.int .i64 n] W (yE n (kV n) W):=by
 have HN:=ah (λw=>wG n w h0 h64);go_enter Tryz.func285,Tryz.ntmps285;go_wp2_with (go_at_call 283;refine(HN.out _).mono ?_;rintro e w1 ⟨g,c,b,rfl,hR,hb⟩;have HR:=ah hR;have HB:=ah hb;clear hR hb);go_loopw [4] (λvi wr=>∃i:Nat,i<=n/\vi= .int .i64 i/\Cm wr W.heap.size g b n (O4 n i)/\Below W.heap.size W wr) (λvi _=>n-(RowKit.intOf vi).toNat);case atStart=>exact⟨0,aH _,rfl,by rw[V9];exact HR.out,HB.out⟩
 case round=>
  obtain⟨i,hi,rfl,hR,hb⟩:=hrel;have HR:=ah hR;have HB:=ah hb;clear hR hb;by_cases hlt:i<n
  ·have hii:(i:Int)<n:=by omega
   have hc:=HR.out.cell i hlt;have hw:=HR.out.wd i hlt;rw[aae hlt]at hw;have HW:=ah hw;have rU:=ah (show wrap64 ((i:Int)+1)=((i+1:Nat):Int)by unfold wrap64;omega);clear hw;go_wp2_with (go_at_call 284;refine(Ua (b i) 0 i _ HW.out (by omega)).mono ?_;rintro e w2 ⟨rfl,hf,hw⟩;have HR2:=ah (HR.out.set hlt hf hw);have HB2:=ah (jq HB.out hf (λk e=>e▸(HR.out.low i hlt).1));clear hf hw);(try rw[rU.out]);exact⟨⟨i+1,hlt,rfl,by rw[<-aaf hlt];exact HR2.out,HB2.out⟩,by simp[RowKit.intOf];omega⟩
  ·obtain rfl:i=n:=by omega
   go_wp2;go_ret;exact⟨g,c,b,rfl,by rw[<-aad];exact HR.out,HB.out⟩
def Ea (A B:List Nat) (n i:Nat):List Nat:=(List.range n).map λj=>if j<i then A.getD j 0|||B.getD j 0 else 0
theorem Rz (A B:List Nat) (n:Nat):Ea A B n 0=jC n:=by rw[BQ];exact dV λ_ _=>aj (jh _)
theorem Wh (A B:List Nat) (n:Nat) (h:A.length=n):Ea A B n n=iX A B:=by unfold iX;rw[h];exact dV λ_ hj=>ak hj
theorem Wi {A B:List Nat} {n i:Nat} (hi:i<n):(Ea A B n i).getD i 0=0:=by unfold Ea;rw[BO hi,aj (dI i)]
theorem Wj {A B:List Nat} {n i:Nat} (hi:i<n):((Ea A B n i).set i (0|||A.getD i 0)).set i ((0|||A.getD i 0)|||B.getD i 0)=Ea A B n (i+1):=by
 rw[List.set_set];unfold Ea;rw[BN hi];refine dV λj _=> ?_;by_cases c:j=i;·subst c;rw[ak rfl,ak (lX j),Nat.zero_or]
 ·rw[aj c];by_cases d:j<i
  ·rw[ak d,ak (by omega)]
  ·rw[aj d,aj (by omega)]
theorem O5 (A B:List Nat) (n B1 g1 c1 B2 g2 c2:Nat) (b1 b2:Nat->Nat) (W:World) (h1:Cm W B1 g1 b1 n A) (h2:Cm W B2 g2 b2 n B):
 Calls Tryz.prog 287 #[.slice (some ⟨g1,0,none⟩) n c1, .slice (some ⟨g2,0,none⟩) n c2] W (yE n (iX A B) W):=by
 obtain⟨h0,h64⟩:=h1.pos;have HN:=ah (λw=>wG n w h0 h64);have H1:=ah h1;have H2:=ah h2;clear h1 h2;go_enter Tryz.func287,Tryz.ntmps287;go_wp2_with (go_at_call 283;refine(HN.out _).mono ?_;rintro e w1 ⟨g,c,b,rfl,hR,hb⟩;have HR:=ah hR;have HB:=ah hb;clear hR hb);go_loopw [6] (λvi wr=>∃i:Nat,i<=n/\vi= .int .i64 i/\Cm wr W.heap.size g b n (Ea A B n i)/\Below W.heap.size W wr) (λvi _=>n-(RowKit.intOf vi).toNat);case atStart=>exact⟨0,aH _,rfl,by rw[Rz];exact HR.out,HB.out⟩
 case round=>
  obtain⟨i,hi,rfl,hR,hb⟩:=hrel;have HR:=ah hR;have HB:=ah hb;clear hR hb;by_cases hlt:i<n
  ·have hii:(i:Int)<n:=by omega
   have hi0:(0:Int)<=i:=by omega
   have hc:=HR.out.cell i hlt;have hw:=HR.out.wd i hlt;rw[Wi hlt]at hw;have HW:=ah hw;have K1:=ah (H1.out.below HB.out);have hd:=K1.out.cell i hlt;have rU:=ah (show wrap64 ((i:Int)+1)=((i+1:Nat):Int)by unfold wrap64;omega);have HRd:=ah (HR.out.fr (Fr.drew (λ_=>False) wr) (λk h=>h.elim));have Fu:=ah (jq HB.out (Fr.drew (λ_=>False) wr) (λk h=>h.elim));have HWd:=ah (show Wd wr.drew (b i) 0 from hw);have HVd:=ah (show Wd wr.drew (b1 i) (A.getD i 0)from K1.out.wd i hlt);clear hw;go_wp2_with fail;go_region_law (go_simp;refine(Fq (b i) (b1 i) 0 (A.getD i 0) _ HWd.out HVd.out).mono ?_;rintro e w2 ⟨rfl,hf,hw⟩;have HR2:=Lib.hid (HRd.out.set hlt hf hw);have HB2:=Lib.hid (jq Fu.out hf (λk e=>e▸(HR.out.low i hlt).1));have HW2:=Lib.hid hw;clear hf hw;dsimp only);all_goals (
    have hc2:=HR2.out.cell i hlt;have K2:=ah (H2.out.below HB2.out);have hd2:=K2.out.cell i hlt;have HRe:=ah (HR2.out.fr (Fr.drew (λ_=>False) w2) (λk h=>h.elim));have HBe:=ah (jq HB2.out (Fr.drew (λ_=>False) w2) (λk h=>h.elim));have HWe:=ah (show Wd w2.drew (b i) (0|||A.getD i 0)from HW2.out);have HVe:=ah (show Wd w2.drew (b2 i) (B.getD i 0)from K2.out.wd i hlt))
   all_goals go_wp2_with fail
   all_goals (go_region_law (go_simp;refine(Fq (b i) (b2 i) (0|||A.getD i 0) (B.getD i 0) _ HWe.out HVe.out).mono ?_;rintro e w3 ⟨rfl,hf,hw⟩;have HR3:=Lib.hid (HRe.out.set hlt hf hw);have HB3:=Lib.hid (jq HBe.out hf (λk e=>e▸(HR.out.low i hlt).1));clear hf hw;dsimp only))
   all_goals go_wp2_with fail
   all_goals (try rw[rU.out])
   all_goals exact⟨⟨i+1,hlt,rfl,by rw[<-Wj hlt];exact HR3.out,HB3.out⟩,by simp[RowKit.intOf];omega⟩
  ·obtain rfl:i=n:=by omega
   go_wp2;go_ret;exact⟨g,c,b,rfl,by rw[<-Wh _ _ _ H1.out.len];exact HR.out,HB.out⟩
end
section
open Lr (bit jC kV iX jk qp oC jU mG)
def BU (A B:List Nat) (n i k:Nat):List Nat:=(List.range n).map λj=>if j<i then oC (A.getD j 0) B n else if j=i then oC (A.getD i 0) B k else 0
theorem Wm (A B:List Nat) (n:Nat):BU A B n 0 0=jC n:=by rw[BQ];refine dV λj _=> ?_;rw[aj (jh j)];split<;>rfl
theorem Wn (A B:List Nat) (n i:Nat):BU A B n i n=BU A B n (i+1) 0:=by
 refine dV λj _=> ?_;rcases lQ j i with c|rfl|c;·rw[ak c,ak (by omega)]
 ·rw[aj (dI j),ak rfl,ak (lX j)]
 ·rw[aj (by omega),aj (by omega),aj (by omega)];split<;>rfl
theorem aag (A B:List Nat) (n:Nat) (h:A.length=n):BU A B n n 0=jk A B:=by unfold jk;rw[h];exact dV λ_ hj=>ak hj
theorem aah {A B:List Nat} {n i k:Nat} (hi:i<n):(BU A B n i k).getD i 0=oC (A.getD i 0) B k:=by unfold BU;rw[BO hi,aj (dI i),ak rfl]
theorem aai {A B:List Nat} {n i k:Nat} (hi:i<n) (h:(A.getD i 0).testBit k=true):(BU A B n i k).set i (oC (A.getD i 0) B k|||B.getD k 0)=BU A B n i (k+1):=by
 unfold BU;rw[BN hi];refine dV λj _=> ?_;by_cases c:j=i;·subst c;rw[ak rfl,aj (dI j),ak rfl,oC,ak h]
 ·rw[aj c];by_cases d:j<i
  ·rw[ak d,ak d]
  ·rw[aj d,aj c,aj d,aj c]
theorem adk {A B:List Nat} {n i k:Nat} (h:(A.getD i 0).testBit k=false):BU A B n i k=BU A B n i (k+1):=by
 unfold BU;refine dV λj _=> ?_;by_cases c:j=i;·subst c;rw[aj (dI j),ak rfl,aj (dI j),ak rfl,oC,aj (by rw[h];decide)]
 ·rw[aj c,aj c]
theorem RA (A B:List Nat) (n B1 g1 c1 B2 g2 c2:Nat) (b1 b2:Nat->Nat) (W:World) (h1:Cm W B1 g1 b1 n A) (h2:Cm W B2 g2 b2 n B):
 Calls Tryz.prog 286 #[.slice (some ⟨g1,0,none⟩) n c1, .slice (some ⟨g2,0,none⟩) n c2] W (yE n (jk A B) W):=by
 obtain⟨h0,h64⟩:=h1.pos;have HN:=ah (λw=>wG n w h0 h64);have H1:=ah h1;have H2:=ah h2;clear h1 h2;go_enter Tryz.func286,Tryz.ntmps286;go_wp2_with (go_at_call 283;refine(HN.out _).mono ?_;rintro e w1 ⟨g,c,b,rfl,hR,hb⟩;have HR:=ah hR;have HB:=ah hb;clear hR hb);go_loopw [7,8] (λvi _ wr=>∃i:Nat,i<=n/\vi= .int .i64 i/\Cm wr W.heap.size g b n (BU A B n i 0)/\Below W.heap.size W wr) (λvi _ _=>n-(RowKit.intOf vi).toNat);case atStart=>exact⟨0,aH _,rfl,by rw[Wm];exact HR.out,HB.out⟩
 case round=>
  obtain⟨i,hi,rfl,hR,hb⟩:=hrel;have HR:=ah hR;have HB:=ah hb;clear hR hb;by_cases hlt:i<n
  ·have hii:(i:Int)<n:=by omega
   have hi0:(0:Int)<=i:=by omega
   have rU:=ah (show wrap64 ((i:Int)+1)=((i+1:Nat):Int)by unfold wrap64;omega);go_wp2_with fail;go_hide hQ;go_loopw [8] (λvk wr=>∃k:Nat,k<=n/\vk= .int .i64 k/\Cm wr W.heap.size g b n (BU A B n i k)/\Below W.heap.size W wr) (λvk _=>n-(RowKit.intOf vk).toNat);case atStart=>exact⟨0,aH _,rfl,HR.out,HB.out⟩
   case round=>
    obtain⟨k,hk,rfl,hR,hb⟩:=hrel;have HR:=ah hR;have HB:=ah hb;clear hR hb;by_cases hkl:k<n
    ·have hkk:(k:Int)<n:=by omega
     have hk0:(0:Int)<=k:=by omega
     have jX:=ah (show wrap64 ((k:Int)+1)=((k+1:Nat):Int)by unfold wrap64;omega);have K1:=ah (H1.out.below HB.out);have hd:=K1.out.cell i hlt;have hc:=HR.out.cell i hlt;have K2:=ah (H2.out.below HB.out);have hd2:=K2.out.cell k hkl;obtain⟨q,hq⟩:∃q,(A.getD i 0).testBit k=q:=⟨_,rfl⟩
     have HQ:=ah hq;have zJ:=ah (Fp (b1 i) (A.getD i 0) k wr (K1.out.wd i hlt) (by omega));rw[hq]at zJ;clear hq;cases q with
     |true=>
      have hw:=HR.out.wd i hlt;rw[aah hlt]at hw;have HRd:=ah (HR.out.fr (Fr.drew (λ_=>False) wr) (λk h=>h.elim));have Fu:=ah (jq HB.out (Fr.drew (λ_=>False) wr) (λk h=>h.elim));have HWd:=ah (show Wd wr.drew (b i) (oC (A.getD i 0) B k)from hw);have HVd:=ah (show Wd wr.drew (b2 k) (B.getD k 0)from K2.out.wd k hkl);clear hw;go_upto_region 10 with(go_at_call 239;refine zJ.out.mono ?_;rintro e w2 ⟨rfl,rfl⟩)
      subst hQ;go_region_law (go_simp;refine(Fq (b i) (b2 k) (oC (A.getD i 0) B k) (B.getD k 0) _ HWd.out HVd.out).mono ?_;rintro e w3 ⟨rfl,hf,hw⟩;have HR3:=Lib.hid (HRd.out.set hlt hf hw);have HB3:=Lib.hid (jq Fu.out hf (λk e=>e▸(HR.out.low i hlt).1));clear hf hw;dsimp only);all_goals go_wp2_with fail
      all_goals (try rw[jX.out])
      all_goals exact⟨⟨k+1,hkl,rfl,by rw[<-aai hlt HQ.out];exact HR3.out,HB3.out⟩,by simp[RowKit.intOf];omega⟩
     |false=>go_wp2_with (go_at_call 239;refine zJ.out.mono ?_;rintro e w2 ⟨rfl,rfl⟩);(try rw[jX.out]);exact⟨⟨k+1,hkl,rfl,by rw[<-adk HQ.out];exact HR.out,HB.out⟩,by simp[RowKit.intOf];omega⟩
    ·obtain rfl:k=n:=by omega
     go_wp2_with fail;subst hQ;go_wp2_with fail;(try rw[rU.out]);exact⟨⟨i+1,hlt,rfl,by rw[<-Wn];exact HR.out,HB.out⟩,by simp[RowKit.intOf];omega⟩
  ·obtain rfl:i=n:=by omega
   go_wp2;go_ret;exact⟨g,c,b,rfl,by rw[<-aag _ _ _ H1.out.len];exact HR.out,HB.out⟩
theorem Cm.base {w:World} {B B' g n:Nat} {b:Nat->Nat} {M:List Nat} (h:Cm w B g b n M) (hB:B'<=B):Cm w B' g b n M:=
 ⟨h.len,h.pos,⟨aS hB h.og.1,h.og.2⟩,h.cell,λi hi=>⟨aS hB (h.low i hi).1,(h.low i hi).2⟩,h.wd,h.inj⟩
theorem RD (M:List Nat) (k m:Nat):jU M k (m+1)=if bit (jU M k m) m k=true then(jU M k m).set m ((jU M k m).getD m 0|||(jU M k m).getD k 0)else jU M k m:=rfl
theorem aaj (A:List Nat) (n B1 g1 c1:Nat) (b1:Nat->Nat) (W:World) (h1:Cm W B1 g1 b1 n A):
 Calls Tryz.prog 288 #[.slice (some ⟨g1,0,none⟩) n c1] W (yE n (qp A) W):=by
 obtain⟨h0,h64⟩:=h1.pos;have HN:=ah (λw=>LV n w h0 h64);have H1:=ah h1;clear h1;obtain⟨M,hM⟩:∃M,iX A (kV n)=M:=⟨_,rfl⟩
 have HMM:=ah hM;have HE:=ah (show qp A=mG M n n by unfold qp;rw[H1.out.len,hM]);clear hM;go_enter Tryz.func288,Tryz.ntmps288;go_wp2_with (first
  |(go_at_call 285;refine(HN.out _).mono ?_;rintro e w1 ⟨g0,c0,b0,rfl,hR,hb⟩;have LM:=ah hR;have HB0:=ah hb;have K1:=ah (H1.out.below hb);clear hR hb)
  |(go_at_call 287;refine(O5 A (kV n) n _ _ _ _ _ _ _ _ _ K1.out LM.out).mono ?_;rintro e w2 ⟨g,c,b,rfl,hR,hb⟩;rw[HMM.out]at hR;have HB:=ah (HB0.out.trans (hb.mono HB0.out.size));have HS:=ah HB0.out.size;have HR:=ah hR;clear hR hb))
 go_loopw [5,6] (λvk _ wr=>∃k:Nat,k<=n/\vk= .int .i64 k/\Cm wr w1.heap.size g b n (mG M n k)/\Below W.heap.size W wr) (λvk _ _=>n-(RowKit.intOf vk).toNat);case atStart=>exact⟨0,aH _,rfl,HR.out,HB.out⟩
 case round=>
  obtain⟨k,hk,rfl,hR,hb⟩:=hrel;have HR:=ah hR;have HB:=ah hb;clear hR hb;by_cases hlt:k<n
  ·have hkk:(k:Int)<n:=by omega
   have hk0:(0:Int)<=k:=by omega
   have jX:=ah (show wrap64 ((k:Int)+1)=((k+1:Nat):Int)by unfold wrap64;omega);go_wp2_with fail;go_hide hQ;go_loopw [6] (λvi wr=>∃i:Nat,i<=n/\vi= .int .i64 i/\Cm wr w1.heap.size g b n (jU (mG M n k) k i)/\Below W.heap.size W wr) (λvi _=>n-(RowKit.intOf vi).toNat);case atStart=>exact⟨0,aH _,rfl,HR.out,HB.out⟩
   case round=>
    obtain⟨i,hi,rfl,hR,hb⟩:=hrel;have HR:=ah hR;have HB:=ah hb;clear hR hb;by_cases hil:i<n
    ·have hii:(i:Int)<n:=by omega
     have hi0:(0:Int)<=i:=by omega
     have rU:=ah (show wrap64 ((i:Int)+1)=((i+1:Nat):Int)by unfold wrap64;omega);have hst:=RD (mG M n k) k i;obtain⟨S,hS⟩:∃S,jU (mG M n k) k i=S:=⟨_,rfl⟩
     rw[hS]at HR hst;have hc:=HR.out.cell i hil;have hc2:=HR.out.cell k hlt;obtain⟨q,hq⟩:∃q,bit S i k=q:=⟨_,rfl⟩
     rw[hq]at hst;have HST:=ah hst;have zJ:=ah (Fp (b i) (S.getD i 0) k wr (HR.out.wd i hil) (by omega));rw[show(S.getD i 0).testBit k=q from hq]at zJ;clear hq hS hst;cases q with
     |true=>
      have HS2:=ah (HST.out.trans (ak rfl));clear HST;have HRd:=ah (HR.out.fr (Fr.drew (λ_=>False) wr) (λk h=>h.elim));have Fu:=ah (jq HB.out (Fr.drew (λ_=>False) wr) (λk h=>h.elim));have HWd:=ah (show Wd wr.drew (b i) (S.getD i 0)from HR.out.wd i hil);have HVd:=ah (show Wd wr.drew (b k) (S.getD k 0)from HR.out.wd k hlt);go_upto_region 10 with(go_at_call 239;refine zJ.out.mono ?_;rintro e w2 ⟨rfl,rfl⟩)
      subst hQ;go_region_law (go_simp;refine(Fq (b i) (b k) (S.getD i 0) (S.getD k 0) _ HWd.out HVd.out).mono ?_;rintro e w3 ⟨rfl,hf,hw⟩;have HR3:=Lib.hid (HRd.out.set hil hf hw);have HB3:=Lib.hid (jq Fu.out hf (λk e=>e▸Nat.le_trans HS.out (HR.out.low i hil).1));clear hf hw;dsimp only);all_goals go_wp2_with fail
      all_goals (try rw[rU.out])
      all_goals exact⟨⟨i+1,hil,rfl,by rw[HS2.out];exact HR3.out,HB3.out⟩,by simp[RowKit.intOf];omega⟩
     |false=>have HS2:=ah (HST.out.trans (aj (by decide)));clear HST;go_wp2_with (go_at_call 239;refine zJ.out.mono ?_;rintro e w2 ⟨rfl,rfl⟩);(try rw[rU.out]);exact⟨⟨i+1,hil,rfl,by rw[HS2.out];exact HR.out,HB.out⟩,by simp[RowKit.intOf];omega⟩
    ·obtain rfl:i=n:=by omega
     go_wp2_with fail;subst hQ;go_wp2_with fail;(try rw[jX.out]);exact⟨⟨k+1,hlt,rfl,HR.out,HB.out⟩,by simp[RowKit.intOf];omega⟩
  ·obtain rfl:k=n:=by omega
   go_wp2;go_ret;exact⟨g,c,b,rfl,by rw[HE.out];exact HR.out.base HS.out,HB.out⟩
end
section
open Lr (PT bit jC kV iX jk qp Ls Dg rows uY VI firstR)
mutual
def fE (w:World):Value->Value->Value->PT->Prop
 |a,b,k, .node op cls kids=>a= .int .i64 (op:Nat)/\(∃A n c,b= .slice A n c/\bQ w A n (cls.map λ(x:Nat)=>(x:Int)))/\∃A c,k= .slice A kids.length c/\nG w A 0 kids
def nG (w:World) (A:Option Addr):Nat->List PT->Prop
 |_,[]=>True
 |i,p::r=>(∃g o a b k,A=some ⟨g,o,none⟩/\g<w.heap.size/\w.cell? ⟨g,o+i*3,none⟩=some a/\w.cell? ⟨g,o+i*3+1,none⟩=some b/\w.cell? ⟨g,o+i*3+2,none⟩=some k/\fE w a b k p)/\nG w A (i+1) r
end
mutual
theorem fE.below {w w':World} (hb:Below w.heap.size w w'):∀{p:PT} {a b k:Value},fE w a b k p->fE w' a b k p
 | .node op cls kids,a,b,k,h=>by unfold fE at h⊢;obtain⟨h1,⟨A,n,c,h2,h3⟩,A2,c2,h4,h5⟩:=h;exact⟨h1,⟨A,n,c,h2,eu h3 hb⟩,A2,c2,h4,nG.below hb h5⟩
theorem nG.below {w w':World} (hb:Below w.heap.size w w'):∀{l:List PT} {A:Option Addr} {i:Nat},nG w A i l->nG w' A i l
 |[],_,_,_=>trivial
 |p::r,A,i,h=>by unfold nG at h⊢;obtain⟨⟨g,o,a,b,k,h1,h2,h3,h4,h5,h6⟩,h7⟩:=h;exact⟨⟨g,o,a,b,k,h1,bH h2 hb.size,(hb.cell (p:=⟨g,o+i*3,none⟩) h2).trans h3,(hb.cell (p:=⟨g,o+i*3+1,none⟩) h2).trans h4,(hb.cell (p:=⟨g,o+i*3+2,none⟩) h2).trans h5,fE.below hb h6⟩,nG.below hb h7⟩
end
theorem wH {w:World} {A:Option Addr}:∀{l:List PT} {i:Nat},nG w A i l->∀j q,l[j]? =some q->∃g o a b k,A=some ⟨g,o,none⟩/\g<w.heap.size/\w.cell? ⟨g,o+(i+j)*3,none⟩=some a/\w.cell? ⟨g,o+(i+j)*3+1,none⟩=some b/\w.cell? ⟨g,o+(i+j)*3+2,none⟩=some k/\fE w a b k q
 |[],_,_,_,_,hq=>by cases hq
 |p::r,i,h,0,q,hq=>by unfold nG at h;cases hq;exact h.1
 |p::r,i,h,j+1,q,hq=>by unfold nG at h;have:=wH h.2 j q hq;rwa [show i+1+j=i+(j+1)by omega]at this
mutual
def RF:PT->Bool
 | .node op _ kids=>(op==0||op==1||op==2||op==3||(op==4&&kids.length==1))&&decide (kids.length<=1000)&&Ub kids
def Ub:List PT->Bool
 |[]=>true
 |p::r=>RF p&&Ub r
end
structure tH (W:World) (a b k:Value) (w:World):Prop where
 aB:Below W.heap.size W w
 o:w.heap[W.heap.size]? =some (.cells #[a,b,k] 201 (0,0))
theorem tH.go {W w w':World} {a b k:Value} (h:tH W a b k w) (hb:Below w.heap.size w w'):tH W a b k w':=⟨h.aB.trans (hb.mono h.aB.size),bM hb h.o⟩
theorem tH.frr {W w w':World} {a b k:Value} {T:Nat->Prop} (h:tH W a b k w) (hf:Fr T w w') (hT:∀k,T k->W.heap.size<k):tH W a b k w':=⟨jq h.aB hf (λk hk=>dD (hT k hk)),hf.blk h.o (λc=>dI _ (hT _ c))⟩
theorem tH.start (W:World) (a b k:Value):tH W a b k (W.alloc (.cells #[a,b,k] 201)):=⟨(aF _ W).alloc (ay _) _,cO W _⟩
theorem tH.c0 {W w:World} {a b k:Value} (h:tH W a b k w):w.cell? ⟨W.heap.size,0,none⟩=some a:=(bA w W.heap.size 0 _ _ _ h.o).trans rfl
theorem tH.c1 {W w:World} {a b k:Value} (h:tH W a b k w):w.cell? ⟨W.heap.size,1,none⟩=some b:=(bA w W.heap.size 1 _ _ _ h.o).trans rfl
theorem tH.c2 {W w:World} {a b k:Value} (h:tH W a b k w):w.cell? ⟨W.heap.size,2,none⟩=some k:=(bA w W.heap.size 2 _ _ _ h.o).trans rfl
theorem tH.size {W w:World} {a b k:Value} (h:tH W a b k w):W.heap.size<w.heap.size:=bU h.o
def nM (p:PT):Prop:=∀(c:List Int) (a b k:Value) (A:Option Addr) (n cc:Nat) (W:World),fE W a b k p->bQ W A n c->n+1<64->
 Calls Tryz.prog 238 #[.agg #[a,b,k], .slice A n cc] W (yE (n+1) (rows p c) W)
theorem ajX (cls:List Nat) (kids:List PT) (c:List Int):rows (.node 0 cls kids) c=kV (c.length+1):=by rw[rows];rfl
theorem ajY (cls:List Nat) (kids:List PT) (c:List Int):rows (.node 1 cls kids) c=Ls cls c:=by rw[rows];rfl
theorem ajZ (cls:List Nat) (kids:List PT) (c:List Int):rows (.node 2 cls kids) c=uY kids c (kV (c.length+1)):=by rw[rows];rfl
theorem aj0 (cls:List Nat) (kids:List PT) (c:List Int):rows (.node 3 cls kids) c=VI kids c (jC (c.length+1)):=by rw[rows];rfl
theorem aj1 (cls:List Nat) (p:PT) (c:List Int):rows (.node 4 cls [p]) c=qp (rows p c):=by rw[rows,firstR];rfl
theorem adl (cls:List Nat) (kids:List PT):nM (.node 0 cls kids):=by intro c a b k A n cc W hP hI h64;unfold fE at hP;obtain⟨ha,_⟩:=hP;obtain rfl:a= .int .i64 0:=ha;rw[ajX,hI.len];have HB0:=ah (tH.start W (.int .i64 0) b k);have y0:=HB0.out.c0;have HWN:=ah (show wrap64 ((n:Int)+1)=((n+1:Nat):Int)by unfold wrap64;omega);have HO:=ah (λw=>LV (n+1) w (wY n) h64);clear hI;go_enter Tryz.func238,Tryz.ntmps238;go_wp2_with (go_at_call 285;refine(HO.out _).mono ?_;rintro e w2 ⟨g,c2,b2,rfl,hR,hb⟩;have HR:=ah (hR.base (dD HB0.out.size));have HB:=ah (HB0.out.go hb);clear hR hb);go_ret;exact⟨g,c2,b2,rfl,HR.out,HB.out.aB⟩
theorem adn (cls:List Nat) (p:PT) (IH:nM p):nM (.node 4 cls [p]):=by
 intro c a b k A n cc W hP hI h64;unfold fE at hP;obtain⟨ha,_,A2,c2,rfl,hK⟩:=hP;obtain rfl:a= .int .i64 4:=ha;have HKK:=ah hK;have HI:=ah hI;have HIH:=ah IH;rw[aj1];have HB0:=ah (tH.start W (.int .i64 4) b (.slice A2 1 c2));have y0:=HB0.out.c0;have y2:=HB0.out.c2;have HWN:=ah (show wrap64 ((n:Int)+1)=((n+1:Nat):Int)by unfold wrap64;omega);obtain⟨g,og,a0,b0,k0,rfl,hg,z0,z1,z2,hp⟩:=wH (HKK.out.below HB0.out.aB) 0 p rfl;have HP:=ah hp;simp only[kL,dA]at z0 z1 z2;clear hI hK IH hp hg;go_enter Tryz.func238,Tryz.ntmps238;go_wp2_with (first
  |(go_at_call 238;refine(HIH.out c a0 b0 k0 A n cc _ HP.out (eu HI.out HB0.out.aB) h64).mono ?_;rintro e w2 ⟨g2,d2,b2,rfl,hR,hb⟩;have HR:=ah hR;have HB:=ah (HB0.out.go hb);clear hR hb)
  |(go_at_call 288;refine(aaj _ _ _ _ _ _ _ HR.out).mono ?_;rintro e w3 ⟨g3,d3,b3,rfl,hR,hb⟩;have HR3:=ah (hR.base (aS (dD HB.out.size) (ay _)));have HB3:=ah (HB.out.go hb);clear hR hb))
 go_ret;exact⟨g3,d3,b3,rfl,HR3.out,HB3.out.aB⟩
theorem ado (cls:List Nat) (l:List PT) (IH:∀q∈l,nM q) (hl:l.length<=1000):nM (.node 2 cls l):=by
 intro c a b k A n cc W hP hI h64;unfold fE at hP;obtain⟨ha,_,A2,c2,rfl,hK⟩:=hP;obtain rfl:a= .int .i64 2:=ha;have HKK:=ah hK;have HI:=ah hI;have HIH:=ah IH;rw[ajZ,hI.len];obtain⟨N,hN⟩:∃N,l.length=N:=⟨_,rfl⟩
 rw[hN]at hl⊢;have HN:=ah hN;have HB0:=ah (tH.start W (.int .i64 2) b (.slice A2 N c2));have y0:=HB0.out.c0;have HWN:=ah (show wrap64 ((n:Int)+1)=((n+1:Nat):Int)by unfold wrap64;omega);have HO:=ah (λw=>LV (n+1) w (wY n) h64);clear hI hK IH hN;go_enter Tryz.func238,Tryz.ntmps238;go_wp2_with (go_at_call 285;refine(HO.out _).mono ?_;rintro e w2 ⟨g0,d0,b0,rfl,hR,hb⟩;have HR:=ah (hR.base (dD HB0.out.size));have HB:=ah (HB0.out.go hb);clear hR hb y0);go_loopw [8,9] (λvo vi wr=>∃(i:Nat) (acc:List Nat) (g d:Nat) (bb:Nat->Nat),i<=N/\vi= .int .i64 i/\vo= .slice (some ⟨g,0,none⟩) (n+1) d/\Cm wr W.heap.size g bb (n+1) acc/\uY (l.drop i) c acc=uY l c (kV (n+1))/\tH W (.int .i64 2) b (.slice A2 N c2) wr) (λ_ vi _=>N-(RowKit.intOf vi).toNat);case atStart=>exact⟨0,_,g0,d0,b0,aH _,rfl,rfl,HR.out,rfl,HB.out⟩
 case round=>
  obtain⟨i,acc,g,d,bb,hi,rfl,rfl,hR,hl2,hB⟩:=hrel;have HR:=ah hR;have HB:=ah hB;clear hR hB;have y2:=HB.out.c2;by_cases hlt:i<N
  ·obtain⟨q,hq⟩:∃q,l[i]? =some q:=⟨l[i]'(by rw[HN.out];exact hlt),aX _⟩
   have hd:l.drop i=q::l.drop (i+1):=by rw[ny (by rw[HN.out];exact hlt)];rw[aX (by rw[HN.out];exact hlt)]at hq;injection hq with hq;rw[hq]
   rw[hd]at hl2;have HL2:=ah (show uY (l.drop (i+1)) c (jk acc (rows q c))=uY l c (kV (n+1))from hl2);obtain⟨gk,ok,a0,b1,k0,rfl,hg,z0,z1,z2,hp⟩:=wH (HKK.out.below HB.out.aB) i q hq;have HP:=ah hp;have HQ:=ah (HIH.out q (tV hq));simp only[bL]at z0 z1 z2;have hii:(i:Int)<N:=by omega
   have hi0:(0:Int)<=i:=by omega
   have rU:=ah (show wrap64 ((i:Int)+1)=((i+1:Nat):Int)by unfold wrap64;omega);clear hp hg hq hd hl2;go_wp2_with (first
    |(go_at_call 238;refine(HQ.out c a0 b1 k0 A n cc _ HP.out (eu HI.out HB.out.aB) h64).mono ?_;rintro e w3 ⟨g3,d3,b3,rfl,hR3,hb⟩;have HR3:=ah hR3;have HB3:=ah (HB.out.go hb);have HRo:=ah (HR.out.below hb);clear hR3 hb)
    |(go_at_call 286;refine(RA acc (rows q c) (n+1) _ _ _ _ _ _ _ _ _ HRo.out HR3.out).mono ?_;rintro e w4 ⟨g4,d4,b4,rfl,hR4,hb⟩;have HR4:=ah (hR4.base (dD HB3.out.size));have JU:=ah (HB3.out.go hb);clear hR4 hb))
   (try rw[rU.out]);exact⟨⟨i+1,_,g4,d4,b4,hlt,rfl,rfl,HR4.out,HL2.out,JU.out⟩,by simp[RowKit.intOf];omega⟩
  ·obtain rfl:i=N:=by omega
   rw[kP (by rw[HN.out];exact ay _)]at hl2;have HL2:=ah (show acc=uY l c (kV (n+1))from hl2);clear hl2;go_wp2;go_ret;exact⟨g,d,bb,rfl,by rw[<-HL2.out];exact HR.out,HB.out.aB⟩
theorem adp (cls:List Nat) (l:List PT) (IH:∀q∈l,nM q) (hl:l.length<=1000):nM (.node 3 cls l):=by
 intro c a b k A n cc W hP hI h64;unfold fE at hP;obtain⟨ha,_,A2,c2,rfl,hK⟩:=hP;obtain rfl:a= .int .i64 3:=ha;have HKK:=ah hK;have HI:=ah hI;have HIH:=ah IH;rw[aj0,hI.len];obtain⟨N,hN⟩:∃N,l.length=N:=⟨_,rfl⟩
 rw[hN]at hl⊢;have HN:=ah hN;have HB0:=ah (tH.start W (.int .i64 3) b (.slice A2 N c2));have y0:=HB0.out.c0;have HWN:=ah (show wrap64 ((n:Int)+1)=((n+1:Nat):Int)by unfold wrap64;omega);have HO:=ah (λw=>wG (n+1) w (wY n) h64);clear hI hK IH hN;go_enter Tryz.func238,Tryz.ntmps238;go_wp2_with (go_at_call 283;refine(HO.out _).mono ?_;rintro e w2 ⟨g0,d0,b0,rfl,hR,hb⟩;have HR:=ah (hR.base (dD HB0.out.size));have HB:=ah (HB0.out.go hb);clear hR hb y0);go_loopw [10,11] (λvo vi wr=>∃(i:Nat) (acc:List Nat) (g d:Nat) (bb:Nat->Nat),i<=N/\vi= .int .i64 i/\vo= .slice (some ⟨g,0,none⟩) (n+1) d/\Cm wr W.heap.size g bb (n+1) acc/\VI (l.drop i) c acc=VI l c (jC (n+1))/\tH W (.int .i64 3) b (.slice A2 N c2) wr) (λ_ vi _=>N-(RowKit.intOf vi).toNat);case atStart=>exact⟨0,_,g0,d0,b0,aH _,rfl,rfl,HR.out,rfl,HB.out⟩
 case round=>
  obtain⟨i,acc,g,d,bb,hi,rfl,rfl,hR,hl2,hB⟩:=hrel;have HR:=ah hR;have HB:=ah hB;clear hR hB;have y2:=HB.out.c2;by_cases hlt:i<N
  ·obtain⟨q,hq⟩:∃q,l[i]? =some q:=⟨l[i]'(by rw[HN.out];exact hlt),aX _⟩
   have hd:l.drop i=q::l.drop (i+1):=by rw[ny (by rw[HN.out];exact hlt)];rw[aX (by rw[HN.out];exact hlt)]at hq;injection hq with hq;rw[hq]
   rw[hd]at hl2;have HL2:=ah (show VI (l.drop (i+1)) c (iX acc (rows q c))=VI l c (jC (n+1))from hl2);obtain⟨gk,ok,a0,b1,k0,rfl,hg,z0,z1,z2,hp⟩:=wH (HKK.out.below HB.out.aB) i q hq;have HP:=ah hp;have HQ:=ah (HIH.out q (tV hq));simp only[bL]at z0 z1 z2;have hii:(i:Int)<N:=by omega
   have hi0:(0:Int)<=i:=by omega
   have rU:=ah (show wrap64 ((i:Int)+1)=((i+1:Nat):Int)by unfold wrap64;omega);clear hp hg hq hd hl2;go_wp2_with (first
    |(go_at_call 238;refine(HQ.out c a0 b1 k0 A n cc _ HP.out (eu HI.out HB.out.aB) h64).mono ?_;rintro e w3 ⟨g3,d3,b3,rfl,hR3,hb⟩;have HR3:=ah hR3;have HB3:=ah (HB.out.go hb);have HRo:=ah (HR.out.below hb);clear hR3 hb)
    |(go_at_call 287;refine(O5 acc (rows q c) (n+1) _ _ _ _ _ _ _ _ _ HRo.out HR3.out).mono ?_;rintro e w4 ⟨g4,d4,b4,rfl,hR4,hb⟩;have HR4:=ah (hR4.base (dD HB3.out.size));have JU:=ah (HB3.out.go hb);clear hR4 hb))
   (try rw[rU.out]);exact⟨⟨i+1,_,g4,d4,b4,hlt,rfl,rfl,HR4.out,HL2.out,JU.out⟩,by simp[RowKit.intOf];omega⟩
  ·obtain rfl:i=N:=by omega
   rw[kP (by rw[HN.out];exact ay _)]at hl2;have HL2:=ah (show acc=VI l c (jC (n+1))from hl2);clear hl2;go_wp2;go_ret;exact⟨g,d,bb,rfl,by rw[<-HL2.out];exact HR.out,HB.out.aB⟩
def Hy (cls:List Nat) (c:List Int) (n i:Nat):List Nat:=(List.range (n+1)).map λj=>if(decide (j<i)&&Dg cls c j)=true then 1<<<(j+1)else 0
theorem Wo (cls:List Nat) (c:List Int) (n:Nat):Hy cls c n 0=jC (n+1):=by rw[BQ];exact dV λj _=>by simp
theorem aak (cls:List Nat) (c:List Int):Hy cls c c.length c.length=Ls cls c:=by
 unfold Ls;refine dV λj _=> ?_;by_cases h:Dg cls c j=true;·have:=h;unfold Dg at this;simp only[aR,iI]at this;simp[h,this.1]
 ·simp[h]
theorem aal (cls:List Nat) (c:List Int) {i:Nat} (hi:i<c.length):Dg cls c i=decide (c.getD i 0∈cls.map λ(x:Nat)=>(x:Int)):=by rw[fJ];unfold Dg;simp only[aR,iI,xS,dH];exact⟨λh=>h.2,λh=>⟨hi,h⟩⟩
theorem aam {cls:List Nat} {c:List Int} {n i:Nat} (hi:i<n+1):(Hy cls c n i).getD i 0=0:=by unfold Hy;rw[BO hi];simp
theorem aan {cls:List Nat} {c:List Int} {n i:Nat} (hi:i<n+1) (h:Dg cls c i=true):(Hy cls c n i).set i (0|||1<<<(i+1))=Hy cls c n (i+1):=by
 unfold Hy;rw[BN hi];refine dV λj _=> ?_;by_cases e:j=i;·subst e;simp[h]
 ·rw[aj e];have:decide (j<i)=decide (j<i+1):=by rw[fJ];simp;omega
  rw[this]
theorem adq {cls:List Nat} {c:List Int} {n i:Nat} (h:Dg cls c i=false):Hy cls c n i=Hy cls c n (i+1):=by
 unfold Hy;refine dV λj _=> ?_;by_cases e:j=i;·subst e;simp[h]
 ·have:decide (j<i)=decide (j<i+1):=by rw[fJ];simp;omega
  rw[this]
theorem adr (cls:List Nat) (l:List PT):nM (.node 1 cls l):=by
 intro c a b k A n cc W hP hI h64;unfold fE at hP;obtain⟨ha,⟨Ab,nb,cb,rfl,hC⟩,_⟩:=hP;obtain rfl:a= .int .i64 1:=ha;have HC:=ah hC;have HI:=ah hI;rw[ajY];have HB0:=ah (tH.start W (.int .i64 1) (.slice Ab nb cb) k);have y0:=HB0.out.c0;have HWN:=ah (show wrap64 ((n:Int)+1)=((n+1:Nat):Int)by unfold wrap64;omega);have HO:=ah (λw=>wG (n+1) w (wY n) h64);have Rw:=ah hI.len;clear hI hC;go_enter Tryz.func238,Tryz.ntmps238;go_wp2_with (go_at_call 283;refine(HO.out _).mono ?_;rintro e w2 ⟨g,d,bb,rfl,hR,hb⟩;have HR:=ah hR;have HB:=ah (HB0.out.go hb);clear hR hb y0);go_loopw [7] (λvi wr=>∃i:Nat,i<=n/\vi= .int .i64 i/\Cm wr (W.heap.size+1) g bb (n+1) (Hy cls c n i)/\tH W (.int .i64 1) (.slice Ab nb cb) k wr) (λvi _=>n-(RowKit.intOf vi).toNat);case atStart=>exact⟨0,aH _,rfl,by rw[Wo];exact HR.out.base (by simp),HB.out⟩
 case round=>
  obtain⟨i,hi,rfl,hR,hB⟩:=hrel;have HR:=ah hR;have HB:=ah hB;clear hR hB;have y1:=HB.out.c1;by_cases hlt:i<n
  ·obtain⟨gi,oi,rfl,hgi,hci⟩:=HI.out.at_ (by omega);have z:=(HB.out.aB.cell (p:=⟨gi,oi+i,none⟩) hgi).trans (hci i hlt);obtain⟨x,hx⟩:∃x,c.getD i 0=x:=⟨_,rfl⟩
   rw[hx]at z;have hsb:=aal cls c (i:=i) (by rw[Rw.out];exact hlt);rw[hx]at hsb;have HSB:=ah hsb;have hii:(i:Int)<n:=by omega
   have hi0:(0:Int)<=i:=by omega
   have rU:=ah (show wrap64 ((i:Int)+1)=((i+1:Nat):Int)by unfold wrap64;omega);have HCI:=ah (λq=>ada (cls.map λ(x:Nat)=>(x:Int)) x Ab nb cb (wr.drewN q) (by have:=eu HC.out HB.out.aB;exact⟨this.len,this.small,this.at_⟩));clear hci hgi hx;obtain⟨q,hq⟩:∃q,Dg cls c i=q:=⟨_,rfl⟩
   rw[<-hsb,hq]at HCI;have HSQ:=ah hq;clear hsb hq;cases q with
   |true=>
    have z5:=HR.out.cell i (by omega);have hwd:=HR.out.wd i (by omega);rw[aam (by omega)]at hwd;have HWD:=ah hwd;have HKY:=ah (aan (n:=n) (by omega) HSQ.out);clear hwd;go_wp2_with fail;go_quiet ((go_at_call 281;exact Calls.quiet_of_same (HCI.out _)));have HRq:=ah (HR.out.fr (Fr.drewN (λ_=>False) wr nq) (λk h=>h.elim));have HBq:=ah (HB.out.frr (Fr.drewN (λ_=>False) wr nq) (λk h=>h.elim));have HWq:=ah (show Wd (wr.drewN nq) (bb i) 0 from HWD.out);have HST:=ah (λw (hw:Wd w (bb i) 0)=>show Calls Tryz.prog 284 #[mK (bb i), .int .i64 ((i:Int)+1)] w (Ry (bb i) (0|||1<<<(i+1)) w)from by
     have:=Ua (bb i) 0 (i+1) w hw (by omega);rwa [show((i+1:Nat):Int)=(i:Int)+1 by omega]at this)
    have z6:=HRq.out.cell i (by omega);clear z5;go_wp2_with (go_at_call 284;refine(HST.out _ HWq.out).mono ?_;rintro e w3 ⟨rfl,hf,hw⟩;have HR3:=ah (HRq.out.set (by omega) hf hw);have HB3:=ah (HBq.out.frr hf (λk e=>e▸(HRq.out.low i (by omega)).1));clear hf hw);(try rw[rU.out]);exact⟨⟨i+1,hlt,rfl,by rw[<-HKY.out];exact HR3.out,HB3.out⟩,by simp[RowKit.intOf];omega⟩
   |false=>have HKN:=ah (adq (n:=n) HSQ.out);go_wp2_with fail;go_quiet ((go_at_call 281;exact Calls.quiet_of_same (HCI.out _)));have HRq:=ah (HR.out.fr (Fr.drewN (λ_=>False) wr nq) (λk h=>h.elim));have HBq:=ah (HB.out.frr (Fr.drewN (λ_=>False) wr nq) (λk h=>h.elim));go_wp2_with fail;(try rw[rU.out]);exact⟨⟨i+1,hlt,rfl,by rw[<-HKN.out];exact HRq.out,HBq.out⟩,by simp[RowKit.intOf];omega⟩
  ·obtain rfl:i=n:=by omega
   go_wp2;go_ret;exact⟨g,d,bb,rfl,by rw[<-Rw.out]at HR;rw[<-aak,<-Rw.out];exact HR.out.base (nJ _),HB.out.aB⟩
mutual
theorem Hz:∀p:PT,RF p=true->nM p
 | .node op cls kids,h=>by
   unfold RF at h;simp only[aR,cK,bV,iI]at h;obtain⟨⟨h1,hl⟩,h2⟩:=h;have IH:=JV kids h2;rcases h1 with(((rfl|rfl)|rfl)|rfl)|⟨rfl,hk⟩
   ·exact adl cls kids
   ·exact adr cls kids
   ·exact ado cls kids IH hl
   ·exact adp cls kids IH hl
   ·match kids,hk,IH with
    |[p],_,IH=>exact adn cls p (IH p pW)
theorem JV:∀l:List PT,Ub l=true->∀q∈l,nM q
 |[],_,q,hq=>by cases hq
 |p::r,h,q,hq=>by
  unfold Ub at h;rw[aR]at h;rcases aU.1 hq with e|hq;·rw[e];exact Hz p h.1
  ·exact JV r h.2 q hq
end
end
section
open Lr (PT)
def RG:List Nat->Bool
 |[]=>true
 |[x]=>decide (x<1000)
 |x::y::r=>decide (x<1000)&&decide (x<y)&&RG (y::r)
theorem Uc:∀{l:List Nat},RG l=true->∀i,i<l.length->l.getD i 0<1000/\(i+1<l.length->l.getD i 0<l.getD (i+1) 0)
 |[],_,i,hi=>absurd hi (jh i)
 |[x],h,0,_=>⟨by simpa[RG]using h,λh=>absurd h (by simp)⟩
 |[x],_,i+1,hi=>by simp at hi
 |x::y::r,h,0,_=>by unfold RG at h;simp only[aR,iI]at h;exact⟨h.1.1,λ_=>h.1.2⟩
 |x::y::r,h,i+1,hi=>by unfold RG at h;simp only[aR,iI]at h;have:=Uc h.2 i (by simpa using hi);exact⟨this.1,λhh=>this.2 (by simpa using hh)⟩
def zK (p:PT):Prop:=∀(a b k:Value) (W:World),fE W a b k p->Calls Tryz.prog 323 #[.agg #[a,b,k], .int .i64 2147483647] W λe w'=>e= .returned (.int .i64 0)/\Below W.heap.size W w'
theorem agH:zK (.node 0 [] []):=by
 intro a b k W hP;unfold fE at hP;obtain⟨ha,⟨Ab,nb,cb,rfl,hC⟩,A2,c2,rfl,_⟩:=hP;obtain rfl:a= .int .i64 0:=ha;obtain rfl:nb=0:=hC.len.symm;clear hC;have HB0:=ah (tH.start W (.int .i64 0) (.slice Ab 0 cb) (.slice A2 0 c2));have y0:=HB0.out.c0;have y1:=HB0.out.c1;have y2:=HB0.out.c2;go_enter Tryz.func323,Tryz.ntmps323;go_wp2;go_loopw [7] (λvi wr=>vi= .int .i64 0/\tH W (.int .i64 0) (.slice Ab 0 cb) (.slice A2 0 c2) wr) (λ_ _=>0);case atStart=>exact⟨rfl,HB0.out⟩
 case round=>obtain⟨rfl,hB⟩:=hrel;have HB:=ah hB;clear hB;clear y0 y1 y2;have y1:=HB.out.c1;go_wp2;go_ret;exact⟨rfl,HB.out.aB⟩
theorem agI (l:List PT) (hl:2<=l.length/\l.length<=1000):zK (.node 2 [] l):=by
 intro a b k W hP;unfold fE at hP;obtain⟨ha,⟨Ab,nb,cb,rfl,hC⟩,A2,c2,rfl,_⟩:=hP;obtain rfl:a= .int .i64 2:=ha;obtain rfl:nb=0:=hC.len.symm;obtain⟨N,hN⟩:∃N,l.length=N:=⟨_,rfl⟩
 rw[hN]at hl⊢;clear hC;have HB0:=ah (tH.start W (.int .i64 2) (.slice Ab 0 cb) (.slice A2 N c2));have y0:=HB0.out.c0;have y1:=HB0.out.c1;have y2:=HB0.out.c2;have hl1:¬(N:Int)=1:=by omega
 have hl2:(2:Int)<=N:=by omega
 go_enter Tryz.func323,Tryz.ntmps323;go_wp2;go_loopw [7] (λvi wr=>vi= .int .i64 0/\tH W (.int .i64 2) (.slice Ab 0 cb) (.slice A2 N c2) wr) (λ_ _=>0);case atStart=>exact⟨rfl,HB0.out⟩
 case round=>obtain⟨rfl,hB⟩:=hrel;have HB:=ah hB;clear hB;clear y0 y1 y2;have y1:=HB.out.c1;go_wp2;go_ret;exact⟨rfl,HB.out.aB⟩
theorem agJ (l:List PT) (hl:2<=l.length/\l.length<=1000):zK (.node 3 [] l):=by
 intro a b k W hP;unfold fE at hP;obtain⟨ha,⟨Ab,nb,cb,rfl,hC⟩,A2,c2,rfl,_⟩:=hP;obtain rfl:a= .int .i64 3:=ha;obtain rfl:nb=0:=hC.len.symm;obtain⟨N,hN⟩:∃N,l.length=N:=⟨_,rfl⟩
 rw[hN]at hl⊢;clear hC;have HB0:=ah (tH.start W (.int .i64 3) (.slice Ab 0 cb) (.slice A2 N c2));have y0:=HB0.out.c0;have y1:=HB0.out.c1;have y2:=HB0.out.c2;have hl1:¬(N:Int)=1:=by omega
 have hl2:(2:Int)<=N:=by omega
 go_enter Tryz.func323,Tryz.ntmps323;go_wp2;go_loopw [7] (λvi wr=>vi= .int .i64 0/\tH W (.int .i64 3) (.slice Ab 0 cb) (.slice A2 N c2) wr) (λ_ _=>0);case atStart=>exact⟨rfl,HB0.out⟩
 case round=>obtain⟨rfl,hB⟩:=hrel;have HB:=ah hB;clear hB;clear y0 y1 y2;have y1:=HB.out.c1;go_wp2;go_ret;exact⟨rfl,HB.out.aB⟩
theorem agK (p:PT):zK (.node 4 [] [p]):=by
 intro a b k W hP;unfold fE at hP;obtain⟨ha,⟨Ab,nb,cb,rfl,hC⟩,A2,c2,rfl,_⟩:=hP;obtain rfl:a= .int .i64 4:=ha;obtain rfl:nb=0:=hC.len.symm;clear hC;have HB0:=ah (tH.start W (.int .i64 4) (.slice Ab 0 cb) (.slice A2 1 c2));have y0:=HB0.out.c0;have y1:=HB0.out.c1;have y2:=HB0.out.c2;go_enter Tryz.func323,Tryz.ntmps323;go_wp2;go_loopw [7] (λvi wr=>vi= .int .i64 0/\tH W (.int .i64 4) (.slice Ab 0 cb) (.slice A2 1 c2) wr) (λ_ _=>0);case atStart=>exact⟨rfl,HB0.out⟩
 case round=>obtain⟨rfl,hB⟩:=hrel;have HB:=ah hB;clear hB;clear y0 y1 y2;have y1:=HB.out.c1;go_wp2;go_ret;exact⟨rfl,HB.out.aB⟩
theorem agL (cls:List Nat) (hc:RG cls=true):zK (.node 1 cls []):=by
 intro a b k W hP;unfold fE at hP;obtain⟨ha,⟨Ab,nb,cb,rfl,hC⟩,A2,c2,rfl,_⟩:=hP;obtain rfl:a= .int .i64 1:=ha;have hln:cls.length=nb:=by have:=hC.len;rwa [dG]at this
 have hsm:=hC.small;have HC:=ah hC;have HA:=ah (λi=>Uc hc i);have Rw:=ah hln;have HB0:=ah (tH.start W (.int .i64 1) (.slice Ab nb cb) (.slice A2 0 c2));have y0:=HB0.out.c0;have y1:=HB0.out.c1;have y2:=HB0.out.c2;clear hC hc hln;go_enter Tryz.func323,Tryz.ntmps323;go_wp2;go_loopw [7] (λvi wr=>∃i:Nat,i<=nb/\vi= .int .i64 i/\tH W (.int .i64 1) (.slice Ab nb cb) (.slice A2 0 c2) wr) (λvi _=>nb-(RowKit.intOf vi).toNat);case atStart=>exact⟨0,aH _,rfl,HB0.out⟩
 case round=>
  obtain⟨i,hi,rfl,hB⟩:=hrel;have HB:=ah hB;clear hB;clear y0 y1 y2;have y1:=HB.out.c1;by_cases hlt:i<nb
  ·obtain⟨g,o,rfl,hg,hcell⟩:=HC.out.at_ (by omega);have z:=(HB.out.aB.cell (p:=⟨g,o+i,none⟩) hg).trans (hcell i hlt);obtain⟨x,hx⟩:∃x,cls.getD i 0=x:=⟨_,rfl⟩
   have hm:∀j,j<nb->(cls.map λ(x:Nat)=>(x:Int)).getD j 0=((cls.getD j 0:Nat):Int):=λj hj=>by rw[aM,aM,fQ,aX (by rw[Rw.out];exact hj)];rfl
   obtain⟨hx1,_⟩:=HA.out i (by rw[Rw.out];exact hlt);rw[hm i hlt,hx]at z;rw[hx]at hx1;have hd1:decide ((x:Int)<0)=false:=aZ (by omega);have hd2:decide ((2147483647:Int)<=x)=false:=aZ (by omega);have hii:(i:Int)<nb:=by omega
   have hi0:(0:Int)<=i:=by omega
   have rU:=ah (show wrap64 ((i:Int)+1)=((i+1:Nat):Int)by unfold wrap64;omega);have hn1:¬(x:Int)<0:=by omega
   have hn2:¬(2147483647:Int)<=x:=by omega
   have hn3:¬2147483647<=x:=by omega
   cases i with
   |zero=>have hd3:decide ((0:Int)<((0:Nat):Int))=false:=rfl;have z':wr.cell? ⟨g,o,none⟩=some (.int .i64 (x:Nat)):=z;have asr:(0:Int)<nb:=hii;clear hm hcell hg hx z;go_wp2_with fail;go_quiet (fail);have HBq:=ah (HB.out.frr (Fr.drewN (λ_=>False) wr nq) (λk h=>h.elim));go_wp2_with fail;exact⟨⟨1,by omega,rfl,HBq.out⟩,by simp[RowKit.intOf];omega⟩
   |succ j=>
    have z2:=(HB.out.aB.cell (p:=⟨g,o+j,none⟩) hg).trans (hcell j (by omega));obtain⟨y,hy⟩:∃y,cls.getD j 0=y:=⟨_,rfl⟩
    obtain⟨_,hxy⟩:=HA.out j (by rw[Rw.out];omega);have hxy:=hxy (by rw[Rw.out];exact hlt);rw[hm j (by omega),hy]at z2;rw[hy,hx]at hxy;have hd3:decide ((0:Int)<((j+1:Nat):Int))=true:=bE (by omega);have hd4:decide ((x:Int)<=y)=false:=aZ (by omega);have hn4:¬(x:Int)<=y:=by omega
    have hn5:¬x<=y:=by omega
    have Qr:wrap64 (((j+1:Nat):Int)-1)=(j:Int):=by unfold wrap64;omega
    have asu:IntKind.i64.wrap (((j+1:Nat):Int)-1)=(j:Int):=(IntWalk.i64_left _).trans Qr;have hj0:(0:Int)<=j:=by omega
    have hj1:(j:Int)<nb:=by omega
    clear hm hcell hg hx hy hxy;go_wp2_with fail;go_quiet (fail);have HBq:=ah (HB.out.frr (Fr.drewN (λ_=>False) wr nq) (λk h=>h.elim));go_wp2_with fail;(try rw[rU.out]);exact⟨⟨j+1+1,by omega,rfl,HBq.out⟩,by simp[RowKit.intOf];omega⟩
  ·obtain rfl:i=nb:=by omega
   go_wp2;go_ret;exact⟨rfl,HB.out.aB⟩
mutual
def rV:PT->Bool
 | .node op cls kids=>((op==0&&cls.isEmpty&&kids.isEmpty)||(op==1&&kids.isEmpty&&RG cls)||((op==2||op==3)&&cls.isEmpty&&decide (2<=kids.length))||(op==4&&cls.isEmpty&&kids.length==1))&&decide (kids.length<=1000)&&BX kids
def BX:List PT->Bool
 |[]=>true
 |p::r=>rV p&&BX r
end
mutual
def mM:PT->Nat
 | .node _ _ kids=>o8 kids+1
def o8:List PT->Nat
 |[]=>0
 |p::r=>mM p+o8 r
end
theorem Wp {op:Nat} {cls:List Nat} {kids:List PT} (h:rV (.node op cls kids)=true):zK (.node op cls kids)/\kids.length<=1000/\BX kids=true:=by
 unfold rV at h;simp only[aR,cK,bV,iI,List.isEmpty_iff]at h;obtain⟨⟨h1,hl⟩,h2⟩:=h;refine⟨?_,hl,h2⟩;rcases h1 with((⟨⟨rfl,rfl⟩,rfl⟩|⟨⟨rfl,rfl⟩,hc⟩)|⟨⟨rfl|rfl,rfl⟩,hk⟩)|⟨⟨rfl,rfl⟩,hk⟩
 ·exact agH
 ·exact agL cls hc
 ·exact agI kids ⟨hk,hl⟩
 ·exact agJ kids ⟨hk,hl⟩
 ·match kids,hk with
  |[p],_=>exact agK p
def Fv (p:PT):Prop:=∀(a b k:Value) (ahead:Nat) (W:World),fE W a b k p->ahead+mM p<=2000->
 Calls Tryz.prog 282 #[.agg #[a,b,k], .int .i64 2147483647, .int .i64 ahead] W λe w'=>e= .returned (.tuple #[.int .i64 0, .int .i64 (ahead+mM p:Nat)])/\Below W.heap.size W w'
theorem size_cons (p:PT) (r:List PT):o8 (p::r)=mM p+o8 r:=by rw[o8]
theorem RH (op:Nat) (cls:List Nat) (l:List PT) (aeL:zK (.node op cls l)) (IH:∀q∈l,Fv q) (hl:l.length<=1000):Fv (.node op cls l):=by
 intro a b k ahead W hP hsz;have Mq:=hP;unfold fE at hP;obtain⟨rfl,⟨Ab,nb,cb,rfl,_⟩,A2,c2,rfl,hK⟩:=hP;have HKK:=ah hK;have HIH:=ah IH;have HP:=ah Mq;have HND:=ah aeL;obtain⟨S,hS⟩:∃S,o8 l=S:=⟨_,rfl⟩
 have hsp:mM (.node op cls l)=S+1:=by rw[mM,hS]
 rw[hsp]at hsz⊢;obtain⟨N,hN⟩:∃N,l.length=N:=⟨_,rfl⟩
 rw[hN]at hl HP⊢;have HN:=ah hN;have HS:=ah hS;have HB0:=ah (tH.start W (.int .i64 (op:Nat)) (.slice Ab nb cb) (.slice A2 N c2));have y0:=HB0.out.c0;have y1:=HB0.out.c1;have y2:=HB0.out.c2;have hah:¬(2048:Int)<=ahead:=by omega
 have HWA:=ah (show wrap64 ((ahead:Int)+1)=((ahead+1:Nat):Int)by unfold wrap64;omega);clear hK IH aeL hN hS hsp Mq;go_enter Tryz.func282,Tryz.ntmps282;go_wp2_with (go_at_call 323;refine(HND.out (.int .i64 (op:Nat)) (.slice Ab nb cb) (.slice A2 N c2) _ (HP.out.below HB0.out.aB)).mono ?_;rintro e w2 ⟨rfl,hb⟩;have HB:=ah (HB0.out.go hb);clear hb y0 y1 y2);go_loopw [8,9,10] (λve vn vi wr=>∃i m:Nat,i<=N/\ve= .int .i64 0/\vn= .int .i64 m/\vi= .int .i64 i/\m+o8 (l.drop i)=ahead+(S+1)/\tH W (.int .i64 (op:Nat)) (.slice Ab nb cb) (.slice A2 N c2) wr) (λ_ _ vi _=>N-(RowKit.intOf vi).toNat);case atStart=>exact⟨0,ahead+1,aH _,rfl,by first|rw[HWA.out]|rfl,rfl,by rw[oO,HS.out];omega,HB.out⟩
 case round=>
  obtain⟨i,m,hi,rfl,rfl,rfl,hm,hB⟩:=hrel;have HB:=ah hB;clear hB;have y2:=HB.out.c2;by_cases hlt:i<N
  ·obtain⟨q,hq⟩:∃q,l[i]? =some q:=⟨l[i]'(by rw[HN.out];exact hlt),aX _⟩
   have hd:l.drop i=q::l.drop (i+1):=by rw[ny (by rw[HN.out];exact hlt)];rw[aX (by rw[HN.out];exact hlt)]at hq;injection hq with hq;rw[hq]
   rw[hd,size_cons]at hm;obtain⟨gk,ok,a0,b1,k0,rfl,hg,z0,z1,z2,hp⟩:=wH (HKK.out.below HB.out.aB) i q hq;simp only[bL]at z0 z1 z2;have HQ:=ah (HIH.out q (tV hq) a0 b1 k0 m wr hp (by omega));have HM:=ah (show m+mM q+o8 (l.drop (i+1))=ahead+(S+1)by omega);have hii:(i:Int)<N:=by omega
   have hi0:(0:Int)<=i:=by omega
   have rU:=ah (show wrap64 ((i:Int)+1)=((i+1:Nat):Int)by unfold wrap64;omega);have hdi:decide ((i:Int)<N)=true:=bE hii;clear hp hg hq hd hm;go_wp2_with (go_at_call 282;refine HQ.out.mono ?_;rintro e w3 ⟨rfl,hb⟩;have HB3:=ah (HB.out.go hb);clear hb);(try rw[rU.out]);exact⟨⟨i+1,m+mM q,hlt,rfl,rfl,rfl,HM.out,HB3.out⟩,by simp[RowKit.intOf];omega⟩
  ·obtain rfl:i=N:=by omega
   rw[kP (by rw[HN.out];exact ay _)]at hm;have HM:=Lib.hid (show m=ahead+(S+1)by simpa[o8]using hm);have hdi:decide ((i:Int)<i)=false:=aZ (by omega);clear hm;go_wp2;exact qZ (results_tmp2 rfl _ _ _) rfl ⟨by rw[<-HM.out];rfl,HB.out.aB⟩
mutual
theorem JW:∀p:PT,rV p=true->Fv p
 | .node op cls kids,h=>by obtain⟨h1,h2,h3⟩:=Wp h;exact RH op cls kids h1 (H6 kids h3) h2
theorem H6:∀l:List PT,BX l=true->∀q∈l,Fv q
 |[],_,q,hq=>by cases hq
 |p::r,h,q,hq=>by
  unfold BX at h;rw[aR]at h;rcases aU.1 hq with e|hq;·rw[e];exact JW p h.1
  ·exact H6 r h.2 q hq
end
theorem Wq (p:PT) (hg:rV p=true) (hs:mM p<=2000) (a b k:Value) (W:World) (hP:fE W a b k p):Calls Tryz.prog 237 #[.agg #[a,b,k], .int .i64 2147483647] W λe w'=>e= .returned (.int .i64 0)/\Below W.heap.size W w':=by
 have Mq:=hP;cases p with
 |node op cls kids=>
 unfold fE at hP;obtain⟨rfl,⟨Ab,nb,cb,rfl,_⟩,A2,c2,rfl,_⟩:=hP;have HB0:=ah (tH.start W (.int .i64 (op:Nat)) (.slice Ab nb cb) (.slice A2 kids.length c2));have y0:=HB0.out.c0;have y1:=HB0.out.c1;have y2:=HB0.out.c2;have HC:=ah (JW _ hg _ _ _ 0 _ (Mq.below HB0.out.aB) (by omega));go_enter Tryz.func237,Tryz.ntmps237;go_wp2_with (go_at_call 282;refine HC.out.mono ?_;rintro e w2 ⟨rfl,hb⟩;have HB:=ah (HB0.out.go hb);clear hb);go_ret;exact⟨rfl,HB.out.aB⟩
theorem BZ (p:PT) (hg:rV p=true) (hs:mM p<=2000) (a b k:Value) (W:World) (hP:fE W a b k p):Calls Tryz.prog 180 #[.agg #[a,b,k]] W λe w'=>e= .returned (.bool true)/\Below W.heap.size W w':=by
 have Mq:=hP;cases p with
 |node op cls kids=>
 unfold fE at hP;obtain⟨rfl,⟨Ab,nb,cb,rfl,_⟩,A2,c2,rfl,_⟩:=hP;have HB0:=ah (tH.start W (.int .i64 (op:Nat)) (.slice Ab nb cb) (.slice A2 kids.length c2));have y0:=HB0.out.c0;have y1:=HB0.out.c1;have y2:=HB0.out.c2;have HC:=ah (Wq _ hg hs _ _ _ _ (Mq.below HB0.out.aB));go_enter Tryz.func180,Tryz.ntmps180;go_wp2_with (go_at_call 237;refine HC.out.mono ?_;rintro e w2 ⟨rfl,hb⟩;have HB:=ah (HB0.out.go hb);clear hb);go_ret;exact⟨rfl,HB.out.aB⟩
end
section
open Lr (PT bit rows)
def upF (f:Nat->Bool) (k:Nat):List Int:=((List.range k).filter f).map λ(x:Nat)=>(x:Int)
theorem up_succ (f:Nat->Bool) (k:Nat):upF f (k+1)=upF f k++if f k=true then[(k:Int)]else[]:=by
 unfold upF;rw[List.range_succ,List.filter_append,Bj];congr 1;by_cases c:f k=true;·simp[c]
 ·simp[c]
theorem up_mem (f:Nat->Bool) (k i:Nat):((i:Nat):Int)∈upF f k↔i<k/\f i=true:=by
 unfold upF;simp only[dH,oq,mh];constructor
 ·rintro⟨x,h,e⟩;obtain rfl:x=i:=by omega
  exact h
 ·intro h;exact⟨i,h,rfl⟩
theorem up_len (f:Nat->Bool) (k:Nat):(upF f k).length<=k:=by unfold upF;rw[dG];exact aS (EZ _ _) (by rw[nY];exact ay _)
def kJ (p:PT) (c:List Int):List Int:=upF (λi=>bit (rows p c) i c.length) (c.length+1)
def Dp (p:PT) (c:List Int):List Int:=upF (λi=>bit (rows p c) 0 i) (c.length+1)
theorem Ws (p:PT) (hg:rV p=true) (ho:RF p=true) (hsz:mM p<=2000) (c:List Int) (a b k:Value) (A:Option Addr) (n cc:Nat) (W:World) (hP:fE W a b k p) (hI:bQ W A n c) (h64:n+1<64):
 Calls Tryz.prog 181 #[.agg #[a,b,k], .slice A n cc] W (dL (kJ p c) W):=by
 have Mq:=hP;obtain⟨op,cls,kids⟩:=p;unfold fE at hP;obtain⟨rfl,⟨Ab,nb,cb,rfl,_⟩,A2,c2,rfl,_⟩:=hP;obtain⟨p,hp⟩:∃p,PT.node op cls kids=p:=⟨_,rfl⟩
 rw[hp]at Mq hg ho hsz⊢;obtain⟨N,hN⟩:∃N,kids.length=N:=⟨_,rfl⟩
 rw[hN]at Mq⊢;clear hp hN;have HB0:=ah (tH.start W (.int .i64 (op:Nat)) (.slice Ab nb cb) (.slice A2 N c2));have y0:=HB0.out.c0;have y1:=HB0.out.c1;have y2:=HB0.out.c2;have HI:=ah hI;have HG:=ah (BZ p hg hsz _ _ _ _ (Mq.below HB0.out.aB));have HL:=ah (λ(w:World) (hb:Below W.heap.size W w)=>Hz p ho c _ _ _ A n cc w (Mq.below hb) (eu HI.out hb) h64);have hF:kJ p c=upF (λi=>bit (rows p c) i n) (n+1):=by unfold kJ;rw[hI.len]
 obtain⟨f,hf⟩:∃f:Nat->Bool,(λi=>bit (rows p c) i n)=f:=⟨_,rfl⟩
 rw[hF,hf];have HFI:=ah (λi=>show bit (rows p c) i n=f i by rw[<-hf]);obtain⟨i0,hI0,hz0,hz1,hz2⟩:=eD gK;clear hI Mq hg ho hsz hF hf;go_enter Tryz.func181,Tryz.ntmps181;go_wp2_with (first
  |(go_at_call 180;refine HG.out.mono ?_;rintro e w2 ⟨rfl,hb⟩;have HB2:=ah (HB0.out.go hb);clear hb y0 y1 y2;have y0:=HB2.out.c0;have y1:=HB2.out.c1;have y2:=HB2.out.c2)
  |(go_at_call 238;refine(HL.out _ HB2.out.aB).mono ?_;rintro e w3 ⟨g,d,bb,rfl,hR,hb⟩;have HR:=ah hR;have HB3:=ah (HB2.out.go hb);clear hb hR y0 y1 y2;have h0p:=HR.out.pos;have z0:=HR.out.cell 0 h0p.1))
 go_loopw [6,7] (λvo vi wr=>∃(i m:Nat) (Ao:Option Addr) (co:Nat),i<=n+1/\m<=i/\vi= .int .i64 i/\vo= .slice Ao m co/\IA w3 (.slice Ao m co) m (upF f i) wr) (λ_ vi _=>n+1-(RowKit.intOf vi).toNat);case atStart=>exact⟨0,0,none,0,aH _,ay _,rfl,rfl,IA.nil w3⟩
 case round=>
  obtain⟨i,m,Ao,co,hi,O6,rfl,rfl,hA⟩:=hrel;have HA:=ah hA;clear hA;by_cases hlt:i<=n
  ·have HRw:=ah (HR.out.below HA.out.aB);have z:=HRw.out.cell i (by omega);have Eo:=up_succ f i;obtain⟨q,hq⟩:∃q,f i=q:=⟨_,rfl⟩
   rw[hq]at Eo;have zJ:=ah (Fp (bb i) ((rows p c).getD i 0) n wr (HRw.out.wd i (by omega)) (by omega));rw[show((rows p c).getD i 0).testBit n=q from(HFI.out i).trans hq]at zJ;have hii:(i:Int)<=n:=by omega
   have hii2:(i:Int)<(n:Int)+1:=by omega
   have hi0:(0:Int)<=i:=by omega
   have rU:=ah (show wrap64 ((i:Int)+1)=((i+1:Nat):Int)by unfold wrap64;omega);have HLEN:=ah (Ev (show m<=100000 by omega));have Ud:=ah O6;clear hq O6;cases q with
   |true=>
    have LW:=ah (show upF f (i+1)=upF f i++[(i:Int)]by rw[Eo,ak rfl]);clear Eo;go_wp2_with (first
     |(go_at_call 239;refine zJ.out.mono ?_;rintro e w4 ⟨rfl,rfl⟩)
     |(at_builtin;refine aY _ rfl (.tmp 27) (.tmp 29) 41 rfl w3.heap.size 3 i0 _ 8 Tryz.underlying41 hI0 hz0 hz1 hz2 rfl (.slice Ao m co) m (bD (upF f i)) rfl HA.out.eF _ 1 1 [.int .i64 i] rfl (bY _ _ _) (by simp[Value.oneCell']) HLEN.out.1 HLEN.out.2 (by rw[World.size_alloc];have:=HA.out.aB.size;omega) ?_;intro v' wp ho hg hn;obtain⟨B1,d1,rfl,_⟩:=aL ho;have nT:=Lib.hid (HA.out.grow ho hg);clear ho hg hn))
    (try rw[rU.out]);exact⟨⟨i+1,m+1,_,_,by omega,Nat.succ_le_succ Ud.out,rfl,rfl,by rw[LW.out];exact nT.out⟩,by simp[RowKit.intOf];omega⟩
   |false=>have LW:=ah (show upF f (i+1)=upF f i by rw[Eo,aj (by decide),fq]);clear Eo;go_wp2_with (go_at_call 239;refine zJ.out.mono ?_;rintro e w4 ⟨rfl,rfl⟩);(try rw[rU.out]);exact⟨⟨i+1,m,_,_,by omega,Nat.le_succ_of_le Ud.out,rfl,rfl,by rw[LW.out];exact HA.out⟩,by simp[RowKit.intOf];omega⟩
  ·obtain rfl:i=n+1:=by omega
   have HM:=ah (show m<=100000 by omega);have hii:¬((n+1:Nat):Int)<=n:=by omega
   clear O6;go_wp2;go_ret;exact⟨Ao,m,co,rfl,gM HA.out.own HM.out,HB3.out.aB.trans (HA.out.aB.mono HB3.out.aB.size)⟩
theorem ads (p:PT) (hg:rV p=true) (ho:RF p=true) (hsz:mM p<=2000) (c:List Int) (a b k:Value) (A:Option Addr) (n cc:Nat) (W:World) (hP:fE W a b k p) (hI:bQ W A n c) (h64:n+1<64):
 Calls Tryz.prog 182 #[.agg #[a,b,k], .slice A n cc] W (dL (Dp p c) W):=by
 have Mq:=hP;obtain⟨op,cls,kids⟩:=p;unfold fE at hP;obtain⟨rfl,⟨Ab,nb,cb,rfl,_⟩,A2,c2,rfl,_⟩:=hP;obtain⟨p,hp⟩:∃p,PT.node op cls kids=p:=⟨_,rfl⟩
 rw[hp]at Mq hg ho hsz⊢;obtain⟨N,hN⟩:∃N,kids.length=N:=⟨_,rfl⟩
 rw[hN]at Mq⊢;clear hp hN;have HB0:=ah (tH.start W (.int .i64 (op:Nat)) (.slice Ab nb cb) (.slice A2 N c2));have y0:=HB0.out.c0;have y1:=HB0.out.c1;have y2:=HB0.out.c2;have HI:=ah hI;have HG:=ah (BZ p hg hsz _ _ _ _ (Mq.below HB0.out.aB));have HL:=ah (λ(w:World) (hb:Below W.heap.size W w)=>Hz p ho c _ _ _ A n cc w (Mq.below hb) (eu HI.out hb) h64);have hF:Dp p c=upF (λi=>bit (rows p c) 0 i) (n+1):=by unfold Dp;rw[hI.len]
 obtain⟨f,hf⟩:∃f:Nat->Bool,(λi=>bit (rows p c) 0 i)=f:=⟨_,rfl⟩
 rw[hF,hf];have HFI:=ah (λi=>show bit (rows p c) 0 i=f i by rw[<-hf]);obtain⟨i0,hI0,hz0,hz1,hz2⟩:=eD gK;clear hI Mq hg ho hsz hF hf;go_enter Tryz.func182,Tryz.ntmps182;go_wp2_with (first
  |(go_at_call 180;refine HG.out.mono ?_;rintro e w2 ⟨rfl,hb⟩;have HB2:=ah (HB0.out.go hb);clear hb y0 y1 y2;have y0:=HB2.out.c0;have y1:=HB2.out.c1;have y2:=HB2.out.c2)
  |(go_at_call 238;refine(HL.out _ HB2.out.aB).mono ?_;rintro e w3 ⟨g,d,bb,rfl,hR,hb⟩;have HR:=ah hR;have HB3:=ah (HB2.out.go hb);clear hb hR y0 y1 y2;have h0p:=HR.out.pos;have z0:=HR.out.cell 0 h0p.1))
 go_loopw [6,7] (λvo vi wr=>∃(i m:Nat) (Ao:Option Addr) (co:Nat),i<=n+1/\m<=i/\vi= .int .i64 i/\vo= .slice Ao m co/\IA w3 (.slice Ao m co) m (upF f i) wr) (λ_ vi _=>n+1-(RowKit.intOf vi).toNat);case atStart=>exact⟨0,0,none,0,aH _,ay _,rfl,rfl,IA.nil w3⟩
 case round=>
  obtain⟨i,m,Ao,co,hi,O6,rfl,rfl,hA⟩:=hrel;have HA:=ah hA;clear hA;by_cases hlt:i<=n
  ·have HRw:=ah (HR.out.below HA.out.aB);have z:=HRw.out.cell i (by omega);have Eo:=up_succ f i;obtain⟨q,hq⟩:∃q,f i=q:=⟨_,rfl⟩
   rw[hq]at Eo;have zJ:=ah (Fp (bb 0) ((rows p c).getD 0 0) i wr (HRw.out.wd 0 (by omega)) (by omega));rw[show((rows p c).getD 0 0).testBit i=q from(HFI.out i).trans hq]at zJ;have hii:(i:Int)<=n:=by omega
   have hii2:(i:Int)<(n:Int)+1:=by omega
   have hi0:(0:Int)<=i:=by omega
   have rU:=ah (show wrap64 ((i:Int)+1)=((i+1:Nat):Int)by unfold wrap64;omega);have HLEN:=ah (Ev (show m<=100000 by omega));have Ud:=ah O6;clear hq O6;cases q with
   |true=>
    have LW:=ah (show upF f (i+1)=upF f i++[(i:Int)]by rw[Eo,ak rfl]);clear Eo;go_wp2_with (first
     |(go_at_call 239;refine zJ.out.mono ?_;rintro e w4 ⟨rfl,rfl⟩)
     |(at_builtin;refine aY _ rfl (.tmp 25) (.tmp 27) 41 rfl w3.heap.size 3 i0 _ 8 Tryz.underlying41 hI0 hz0 hz1 hz2 rfl (.slice Ao m co) m (bD (upF f i)) rfl HA.out.eF _ 1 1 [.int .i64 i] rfl (bY _ _ _) (by simp[Value.oneCell']) HLEN.out.1 HLEN.out.2 (by rw[World.size_alloc];have:=HA.out.aB.size;omega) ?_;intro v' wp ho hg hn;obtain⟨B1,d1,rfl,_⟩:=aL ho;have nT:=Lib.hid (HA.out.grow ho hg);clear ho hg hn))
    (try rw[rU.out]);exact⟨⟨i+1,m+1,_,_,by omega,Nat.succ_le_succ Ud.out,rfl,rfl,by rw[LW.out];exact nT.out⟩,by simp[RowKit.intOf];omega⟩
   |false=>have LW:=ah (show upF f (i+1)=upF f i by rw[Eo,aj (by decide),fq]);clear Eo;go_wp2_with (go_at_call 239;refine zJ.out.mono ?_;rintro e w4 ⟨rfl,rfl⟩);(try rw[rU.out]);exact⟨⟨i+1,m,_,_,by omega,Nat.le_succ_of_le Ud.out,rfl,rfl,by rw[LW.out];exact HA.out⟩,by simp[RowKit.intOf];omega⟩
  ·obtain rfl:i=n+1:=by omega
   have HM:=ah (show m<=100000 by omega);have hii:¬((n+1:Nat):Int)<=n:=by omega
   clear O6;go_wp2;go_ret;exact⟨Ao,m,co,rfl,gM HA.out.own HM.out,HB3.out.aB.trans (HA.out.aB.mono HB3.out.aB.size)⟩
