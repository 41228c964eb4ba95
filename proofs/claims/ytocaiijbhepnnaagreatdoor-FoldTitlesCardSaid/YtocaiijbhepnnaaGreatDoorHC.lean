/- FoldTitles, walked: the document's patterns. -/
import Derived.Test.YtocaiijbhepnnaaGreatDoorHB
set_option maxRecDepth 100000
set_option maxHeartbeats 8000000
namespace Go.Proofs.YtocaiijbhepnnaaGreatDoor.foldTitles
open Go.Shelf Go.RowKit Go.Lib Go.Proofs.YtocaiijbhepnnaaGreatDoor.Am
def Wd (w:World) (b x:Nat):Prop:=w.heap[b]? =some (.cells #[.int .u64 (x:Int)] 308 (0,0))/\x<0x10000000000000000
def kK (b:Nat):Value:= .slice (some ⟨b,0,none⟩) 1 1
theorem Wd.cell {w:World} {b x:Nat} (h:Wd w b x):w.cell? ⟨b,0,none⟩=some (.int .u64 (x:Int)):=(fu w b 0 _ _ _ h.1).trans rfl
theorem Wd.fr {T:Nat->Prop} {w w':World} {b x:Nat} (h:Wd w b x) (hf:Fr T w w') (hn:¬T b):Wd w' b x:=⟨hf.blk h.1 hn,h.2⟩
theorem Wd.below {w w':World} {b x:Nat} (h:Wd w b x) (hb:Below w.heap.size w w'):Wd w' b x:=⟨iZ hb h.1,h.2⟩
theorem Wd.lt {w:World} {b x:Nat} (h:Wd w b x):b<w.heap.size:=eH h.1
theorem YR (x i:Nat) (hx:x<0x10000000000000000):(bits .and .u64 ((x:Int)/2^i) 1==1)=x.testBit i:=by
 have e:((x:Int)/2^i)=((x/2^i:Nat):Int):=by simp
 have h1:x/2^i<0x10000000000000000:=Nat.lt_of_le_of_lt (Nat.div_le_self _ _) hx;rw[e,show(1:Int)=((1:Nat):Int)from rfl,u64_and_nat _ 1 h1 (by decide),Nat.and_one_is_mod,Nat.testBit_eq_decide_div_mod_eq];have h2:x/2^i%2<2:=Nat.mod_lt _ (by decide);by_cases c:x/2^i%2=1;·rw[c];rfl
 ·rw[show x/2^i%2=0 by omega];rfl
theorem CJ (b x i:Nat) (W:World) (h:Wd W b x) (hi:i<64):Calls Tryz.prog 239 #[kK b, .int .i64 i] W λe w'=>e= .returned (.bool (x.testBit i))/\w'=W:=by
 have hc:=h.cell;have HX:=ah h.2;unfold kK;have h0:(i:Int)/64=0:=by omega
 have h1:(i:Int)%64=i:=by omega
 clear h;go_enter Tryz.func239,Tryz.ntmps239;go_wp2;go_ret;exact⟨by rw[<-YR x i HX.out];rfl,rfl⟩
def NM (b x:Nat) (W:World) (e:Ending) (w':World):Prop:=e= .returned (.tuple #[])/\Fr (λk=>k=b) W w'/\Wd w' b x
theorem fr_set (w:World) (b:Nat) (v:Value):Fr (λk=>k=b) w (w.setCell ⟨b,0,none⟩ v):=Fr.set _ _ _ (λ_=>rfl)
theorem aaf {x y:Nat} (hx:x<0x10000000000000000) (hy:y<0x10000000000000000):x|||y<0x10000000000000000:=Nat.or_lt_two_pow (n:=64) hx hy
theorem VK {i:Nat} (h:i<64):1<<<i<0x10000000000000000:=by rw[Nat.one_shiftLeft];exact Nat.pow_lt_pow_right (a:=2) (by decide) (show i<64 from h)
theorem Wd.set {w:World} {b x y:Nat} (h:Wd w b x) (hy:y<0x10000000000000000):Wd (w.setCell ⟨b,0,none⟩ (.int .u64 (y:Int))) b y:=⟨by rw[vS w b 0 _ _ _ h.1];rfl,hy⟩
theorem PK (b x i:Nat) (W:World) (h:Wd W b x) (hi:i<64):Calls Tryz.prog 284 #[kK b, .int .i64 i] W (NM b (x|||1<<<i) W):=by
 have hc:=h.cell;have HX:=ah h.2;have HH:=ah h;have hfz:W.frozen? ⟨b,0,none⟩=false:=by simp[World.frozen?,h.1]
 unfold kK;have h0:(i:Int)/64=0:=by omega
 have h1:(i:Int)%64=i:=by omega
 clear h;go_enter Tryz.func284,Tryz.ntmps284;go_wp2;refine bodyPost_end (results_none rfl _ _ _) rfl ⟨rfl,?_,?_⟩;·exact Fr.set _ _ _ (λ_=>rfl)
 ·have e:bits .or .u64 (x:Int) (IntKind.u64.wrap (2^i))=((x|||1<<<i:Nat):Int):=by
   have:=VK hi;rw[Nat.one_shiftLeft]at this⊢;rw[show((2:Int)^i)=((2^i:Nat):Int)by simp];generalize 2^i=p at*
   rw[IntWalk.u64_in _ ⟨by omega,by omega⟩,u64_or_nat _ _ HX.out this]
  rw[e];exact HH.out.set (aaf HX.out (VK hi))
theorem CO (b c x y:Nat) (W:World) (h:Wd W b x) (h':Wd W c y):Calls Tryz.prog 324 #[kK b,kK c] W (NM b (x|||y) W):=by
 have hc:=h.cell;have hc':=h'.cell;have HX:=ah h.2;have HY:=ah h'.2;have HH:=ah h;have HH':=ah h';have hfz:W.frozen? ⟨b,0,none⟩=false:=by simp[World.frozen?,h.1]
 unfold kK;clear h h';go_enter Tryz.func324,Tryz.ntmps324;go_wp2;go_loopw [4] (λvi wr=>(vi= .int .i64 0/\wr=W)\/(vi= .int .i64 1/\Fr (λk=>k=b) W wr/\Wd wr b (x|||y))) (λvi _=>1-(RowKit.intOf vi).toNat);case atStart=>exact .inl ⟨rfl,rfl⟩
 case round=>
  rcases hrel with⟨rfl,rfl⟩|⟨rfl,hf,hw⟩
  ·go_wp2;go_region;all_goals go_wp2
   rw[u64_or_nat _ _ HX.out HY.out];exact⟨.inr ⟨rfl,(fr_set _ _ _).trans (Fr.drew _ _),HH.out.set (aaf HX.out HY.out)⟩,by simp[RowKit.intOf]⟩
  ·have HF:=ah hf;have HW:=ah hw;go_wp2;exact bodyPost_end (results_none rfl _ _ _) rfl ⟨rfl,HF.out,HW.out⟩
section
open Je (bit iT jI gN gZ nV)
theorem VL:(Tryz.prog.info? 292).map (λi=>(i.zero,i.size,i.bytes))=some (some (.slice none 0 0),1,24):=by kernel_rfl
theorem u64_info:(Tryz.prog.info? 308).map (λi=>(i.zero,i.size,i.bytes))=some (some (.int .u64 0),1,8):=by kernel_rfl
theorem VN (w:World):(Instr.makeSlice 292 (.int .i64 1) (.int .i64 1)).run Tryz.prog w= .ok (.slice (some ⟨w.heap.size,0,none⟩) 1 1) (w.alloc (.cells #[.int .u64 0] 308)):=by obtain⟨i,hi,hz0,hz1,hz2⟩:=gW u64_info;have h:=run_makeSlice w 292 308 i _ Tryz.underlying292 hi hz0 .i64 .i64 1 1 (by decide) (by decide) (by rw[hz1];decide) (by rw[hz2];decide) (by decide);rw[hz1,show madeCells (Value.int .u64 0).cells ((1:Int).toNat*1)=#[.int .u64 0]by simp[madeCells,Value.cells];exact⟨0,rfl,rfl⟩]at h;exact h
structure NS (W:World) (v:Value) (k:Nat) (bs:List Nat) (w:World):Prop where
 aN:Below W.heap.size W w
 len:bs.length=k
 own:w.ownsRow W.heap.size 292 1 v k (bs.map kK)
 wd:∀x∈bs,Wd w x 0/\W.heap.size<=x
 nd:bs.Nodup
theorem NS.nil (W:World):NS W (.slice none 0 0) 0 [] W:=⟨aK _ _,rfl,⟨rfl, .inl ⟨rfl,rfl⟩⟩,λx h=>(by cases h),List.nodup_nil⟩
theorem NS.grow {W w w':World} {v v':Value} {k:Nat} {bs:List Nat} {o:Obj} (h:NS W v k bs w) (ho:w'.ownsRow W.heap.size 292 1 v' (k+1) (bs.map kK++[kK w.heap.size])) (hg:((w.alloc (.cells #[.int .u64 0] 308)).alloc o).grownBy w' v.ownBlock):NS W v' (k+1) (bs++[w.heap.size]) w':=by
 have hb1:Below w.heap.size w (w.alloc (.cells #[.int .u64 0] 308)):=(aK _ w).alloc (ay _) _;have hb:Below w.heap.size w ((w.alloc (.cells #[.int .u64 0] 308)).alloc o):=hb1.alloc (by simp) _;have hne:∀{x:Nat},Wd ((w.alloc (.cells #[.int .u64 0] 308)).alloc o) x 0->v.ownBlock≠some x:=λ{x} hx c=>by obtain⟨_,_,cur,hc⟩:=dO (own_below hb h.own) c;rw[hx.1]at hc;injection hc with hc;injection hc with _ hc;exact absurd hc (by decide)
 have keep:∀{x:Nat},Wd ((w.alloc (.cells #[.int .u64 0] 308)).alloc o) x 0->Wd w' x 0:=λ{x} hx=>⟨by rw[hg.block x (eH hx.1) (λc=>hne hx (by first|exact c|exact c.symm))];exact hx.1,hx.2⟩
 refine⟨(h.aN.trans (hb.mono h.aN.size)).grown hg (bF h.aN.size hb.size) (λj hj=>(dO h.own hj).1),by rw[bV,h.len];rfl,by rw[List.map_append];exact ho,?_,?_⟩
 ·intro x hx;rcases iE.1 hx with hx|hx
  ·exact⟨keep ((h.wd x hx).1.below hb),(h.wd x hx).2⟩
  ·obtain rfl:=eG.1 hx;refine⟨keep ⟨?_,by decide⟩,h.aN.size⟩;exact(Below.heap_alloc _ _ _ (by simp)).trans (jl w _)
 ·rw[List.nodup_append];refine⟨h.nd,by simp,λx hx y hy=> ?_⟩;obtain rfl:=eG.1 hy;have:=(h.wd x hx).1.lt;omega
structure zI (w:World) (B g:Nat) (b:Nat->Nat) (n:Nat) (M:List Nat):Prop where
 len:M.length=n
 pos:0<n/\n<64
 og:B<=g/\g<w.heap.size
 cell:∀i,i<n->w.cell? ⟨g,i,none⟩=some (kK (b i))
 low:∀i,i<n->B<=b i/\b i≠g
 wd:∀i,i<n->Wd w (b i) (M.getD i 0)
 inj:∀i j,i<n->j<n->b i=b j->i=j
def wB (n:Nat) (M:List Nat) (W:World) (e:Ending) (w':World):Prop:=∃g c b,e= .returned (.slice (some ⟨g,0,none⟩) n c)/\zI w' W.heap.size g b n M/\Below W.heap.size W w'
section
variable {w w':World} {B g n:Nat} {b:Nat->Nat} {M:List Nat}
theorem zI.below (h:zI w B g b n M) (hb:Below w.heap.size w w'):zI w' B g b n M:=
 ⟨h.len,h.pos,⟨h.og.1,bJ h.og.2 hb.size⟩,λi hi=>(hb.cell (p:=⟨g,i,none⟩) h.og.2).trans (h.cell i hi),h.low,λi hi=>(h.wd i hi).below hb,h.inj⟩
theorem zI.set (h:zI w B g b n M) {i x:Nat} (hi:i<n) (hf:Fr (λk=>k=b i) w w') (hx:Wd w' (b i) x):zI w' B g b n (M.set i x):=by
 refine⟨by rw[List.length_set];exact h.len,h.pos,⟨h.og.1,bJ h.og.2 hf.size⟩,λj hj=>(hf.cell (p:=⟨g,j,none⟩) h.og.2 (λc=>(h.low i hi).2 c.symm)).trans (h.cell j hj),h.low,λj hj=> ?_,h.inj⟩;rw[aG,List.getElem?_set];by_cases c:i=j;·subst c;rw[au rfl,au (by rw[h.len];exact hi)];exact hx
 ·rw[aj c,<-aG];exact(h.wd j hj).fr hf (λe=>c (h.inj i j hi hj e.symm))
theorem zI.fr {T:Nat->Prop} (h:zI w B g b n M) (hf:Fr T w w') (hT:∀k,T k->k<B):zI w' B g b n M:=
 ⟨h.len,h.pos,⟨h.og.1,bJ h.og.2 hf.size⟩,λi hi=>(hf.cell (p:=⟨g,i,none⟩) h.og.2 (λc=>absurd (hT _ c) (Nat.not_lt.2 h.og.1))).trans (h.cell i hi),h.low,λi hi=>(h.wd i hi).fr hf (λc=>absurd (hT _ c) (Nat.not_lt.2 (h.low i hi).1)),h.inj⟩
end
theorem NS.rws {W w:World} {g k c:Nat} {bs:List Nat} (h:NS W (.slice (some ⟨g,0,none⟩) k c) k bs w) (h0:0<k) (h64:k<64):zI w W.heap.size g (λi=>bs.getD i 0) k (iT k):=by
 have hl:=dO h.own (g:=g) rfl;have hm:∀i,i<k->bs.getD i 0∈bs:=λi hi=>by rw[aG,aS (by rw[h.len];exact hi)];exact iN _
 refine⟨List.length_replicate,⟨h0,h64⟩,⟨hl.1,hl.2.1⟩,λi hi=> ?_,λi hi=>⟨(h.wd _ (hm i hi)).2,λc=> ?_⟩,λi hi=> ?_,λi j hi hj e=> ?_⟩
 ·have:=yZ (g:=g) h.own rfl i (kK (bs.getD i 0)) (by
   rw[fq,aS (by rw[h.len];exact hi),aG,aS (by rw[h.len];exact hi)];rfl)
  rwa [iQ,bI]at this
 ·obtain⟨_,_,cur,hc⟩:=hl;have:=(h.wd _ (hm i hi)).1.1;rw[show bs.getD i 0=g from c,hc]at this;injection this with this;injection this with _ this;exact absurd this (by decide)
 ·have:=(h.wd _ (hm i hi)).1;rwa [show(iT k).getD i 0=0 by unfold iT;rw[aG,List.getElem?_replicate,au hi];rfl]
 ·rw[aG,aG,aS (by rw[h.len];exact hi),aS (by rw[h.len];exact hj)]at e;exact(List.getElem_inj h.nd).1 e
theorem uL (n:Nat) (W:World) (h0:0<n) (h64:n<64):Calls Tryz.prog 283 #[.int .i64 n] W (wB n (iT n) W):=by
 have hd:(n:Int)/64=0:=by omega
 obtain⟨i0,hI0,hz0,hz1,hz2⟩:=gW VL;go_enter Tryz.func283,Tryz.ntmps283;go_wp2;go_loopw [3,4] (λvo vi wr=>∃(k:Nat) (A:Option Addr) (c:Nat) (bs:List Nat),k<=n/\vi= .int .i64 k/\vo= .slice A k c/\NS W (.slice A k c) k bs wr) (λ_ vi _=>n-(RowKit.intOf vi).toNat);case atStart=>exact⟨0,none,0,[],aL _,rfl,rfl,NS.nil W⟩
 case round=>
  obtain⟨k,A,c,bs,hk,rfl,rfl,hN⟩:=hrel;have HN:=ah hN;clear hN;by_cases hlt:k<n
  ·have hki:(k:Int)<n:=by omega
   have hwk:wrap64 ((k:Int)+1)=((k+1:Nat):Int):=by unfold wrap64;omega
   have Fg:=ah hwk;have HL:=ah (show k+1<=maxLen/\(k+1)*24<=0x800000000000 by exact⟨by simp only[maxLen];omega,by omega⟩);clear hwk;have hmk:=VN;go_wp2_with (at_builtin;(refine eD _ rfl (.tmp 10) (.tmp 15) 289 rfl W.heap.size 292 i0 _ 24 Tryz.underlying289 hI0 hz0 hz1 hz2 rfl (.slice A k c) k (bs.map kK) rfl (dX (dX HN.out.own)) _ 1 1 [.slice (some ⟨wr.heap.size,0,none⟩) 1 1] rfl (Vh _ _ _ _ (by simp)) (by simp[Value.oneCell']) HL.out.1 HL.out.2 (by rw[World.size_alloc,World.size_alloc];have:=HN.out.aN.size;omega) ?_);intro v' wp ho hg hn;obtain⟨B1,d1,rfl,_⟩:=bA ho;have Fe:=Lib.hid (HN.out.grow ho hg);clear ho hg hn);(try rw[Fg.out]);exact⟨⟨k+1,_,_,_,hlt,rfl,rfl,Fe.out⟩,by simp[RowKit.intOf];omega⟩
  ·obtain rfl:k=n:=by omega
   obtain⟨g,rfl⟩:=uz HN.out.own h0;go_wp2;go_ret;exact⟨g,c,_,rfl,HN.out.rws h0 h64,HN.out.aN⟩
end
section
open Je (bit iT jI gN gZ nV mH jg kG)
theorem iC {W w w1:World} {T:Nat->Prop} (h:Below W.heap.size W w) (hf:Fr T w w1) (hT:∀k,T k->W.heap.size<=k):Below W.heap.size W w1:=
 ⟨hf.os.trans h.os,hf.tape.trans h.tape,hf.output.trans h.output,bF h.size hf.size,λk hk=>(hf.block k (bJ hk h.size) (λc=>by have:=hT k c;omega)).trans (h.block k hk)⟩
theorem zi {n i:Nat} {f:Nat->Nat} (hi:i<n) (x:Nat):((List.range n).map f).set i x=(List.range n).map λj=>if j=i then x else f j:=by
 refine yw λj=> ?_;rw[List.getElem?_set,fq,fq];by_cases c:i=j;·subst c;simp[hi]
 ·rw[aj c];rcases aF j n with h|h
  ·rw[zV h];simp;exact λe=>absurd e.symm c
  ·rw[wV (by simpa using h)];rfl
theorem zk {n i:Nat} {f:Nat->Nat} (hi:i<n):((List.range n).map f).getD i 0=f i:=by rw[aG,fq,zV hi];rfl
theorem cK {n:Nat} {f g:Nat->Nat} (h:∀j,j<n->f j=g j):(List.range n).map f=(List.range n).map g:=List.map_congr_left λj hj=>h j (nO.1 hj)
theorem zl (n:Nat):iT n=(List.range n).map λ_=>0:=by unfold iT;rw[List.map_const',mq]
def Lh (n i:Nat):List Nat:=(List.range n).map λj=>if j<i then 1<<<j else 0
theorem Ry (n:Nat):Lh n 0=iT n:=by rw[zl];exact cK λ_ _=>aj (ko _)
theorem VO (n:Nat):Lh n n=jI n:=cK λ_ hj=>au hj
theorem VP {n i:Nat} (hi:i<n):(Lh n i).getD i 0=0:=by unfold Lh;rw[zk hi,aj (dA i)]
theorem VQ {n i:Nat} (hi:i<n):(Lh n i).set i (0|||1<<<i)=Lh n (i+1):=by
 unfold Lh;rw[zi hi];refine cK λj _=> ?_;by_cases c:j=i;·subst c;rw[au rfl,au (ow j),Nat.zero_or]
 ·rw[aj c];by_cases d:j<i
  ·rw[au d,au (by omega)]
  ·rw[aj d,aj (by omega)]
theorem Jj (n:Nat) (W:World) (h0:0<n) (h64:n<64):Calls Tryz.prog 285 #[.int .i64 n] W (wB n (jI n) W):=by
 have HN:=ah (λw=>uL n w h0 h64);go_enter Tryz.func285,Tryz.ntmps285;go_wp2_with (go_at_call 283;refine(HN.out _).mono ?_;rintro e w1 ⟨g,c,b,rfl,hR,hb⟩;have HR:=ah hR;have HB:=ah hb;clear hR hb);go_loopw [4] (λvi wr=>∃i:Nat,i<=n/\vi= .int .i64 i/\zI wr W.heap.size g b n (Lh n i)/\Below W.heap.size W wr) (λvi _=>n-(RowKit.intOf vi).toNat);case atStart=>exact⟨0,aL _,rfl,by rw[Ry];exact HR.out,HB.out⟩
 case round=>
  obtain⟨i,hi,rfl,hR,hb⟩:=hrel;have HR:=ah hR;have HB:=ah hb;clear hR hb;by_cases hlt:i<n
  ·have hii:(i:Int)<n:=by omega
   have hc:=HR.out.cell i hlt;have hw:=HR.out.wd i hlt;rw[VP hlt]at hw;have HW:=ah hw;have wI:=ah (show wrap64 ((i:Int)+1)=((i+1:Nat):Int)by unfold wrap64;omega);clear hw;go_wp2_with (go_at_call 284;refine(PK (b i) 0 i _ HW.out (by omega)).mono ?_;rintro e w2 ⟨rfl,hf,hw⟩;have HR2:=ah (HR.out.set hlt hf hw);have HB2:=ah (iC HB.out hf (λk e=>e▸(HR.out.low i hlt).1));clear hf hw);(try rw[wI.out]);exact⟨⟨i+1,hlt,rfl,by rw[<-VQ hlt];exact HR2.out,HB2.out⟩,by simp[RowKit.intOf];omega⟩
  ·obtain rfl:i=n:=by omega
   go_wp2;go_ret;exact⟨g,c,b,rfl,by rw[<-VO];exact HR.out,HB.out⟩
def Br (A B:List Nat) (n i:Nat):List Nat:=(List.range n).map λj=>if j<i then A.getD j 0|||B.getD j 0 else 0
theorem NP (A B:List Nat) (n:Nat):Br A B n 0=iT n:=by rw[zl];exact cK λ_ _=>aj (ko _)
theorem Rz (A B:List Nat) (n:Nat) (h:A.length=n):Br A B n n=gN A B:=by unfold gN;rw[h];exact cK λ_ hj=>au hj
theorem RA {A B:List Nat} {n i:Nat} (hi:i<n):(Br A B n i).getD i 0=0:=by unfold Br;rw[zk hi,aj (dA i)]
theorem RB {A B:List Nat} {n i:Nat} (hi:i<n):((Br A B n i).set i (0|||A.getD i 0)).set i ((0|||A.getD i 0)|||B.getD i 0)=Br A B n (i+1):=by
 rw[List.set_set];unfold Br;rw[zi hi];refine cK λj _=> ?_;by_cases c:j=i;·subst c;rw[au rfl,au (ow j),Nat.zero_or]
 ·rw[aj c];by_cases d:j<i
  ·rw[au d,au (by omega)]
  ·rw[aj d,aj (by omega)]
theorem Li (A B:List Nat) (n B1 g1 c1 B2 g2 c2:Nat) (b1 b2:Nat->Nat) (W:World) (h1:zI W B1 g1 b1 n A) (h2:zI W B2 g2 b2 n B):
 Calls Tryz.prog 287 #[.slice (some ⟨g1,0,none⟩) n c1, .slice (some ⟨g2,0,none⟩) n c2] W (wB n (gN A B) W):=by
 obtain⟨h0,h64⟩:=h1.pos;have HN:=ah (λw=>uL n w h0 h64);have H1:=ah h1;have H2:=ah h2;clear h1 h2;go_enter Tryz.func287,Tryz.ntmps287;go_wp2_with (go_at_call 283;refine(HN.out _).mono ?_;rintro e w1 ⟨g,c,b,rfl,hR,hb⟩;have HR:=ah hR;have HB:=ah hb;clear hR hb);go_loopw [6] (λvi wr=>∃i:Nat,i<=n/\vi= .int .i64 i/\zI wr W.heap.size g b n (Br A B n i)/\Below W.heap.size W wr) (λvi _=>n-(RowKit.intOf vi).toNat);case atStart=>exact⟨0,aL _,rfl,by rw[NP];exact HR.out,HB.out⟩
 case round=>
  obtain⟨i,hi,rfl,hR,hb⟩:=hrel;have HR:=ah hR;have HB:=ah hb;clear hR hb;by_cases hlt:i<n
  ·have hii:(i:Int)<n:=by omega
   have hi0:(0:Int)<=i:=by omega
   have hc:=HR.out.cell i hlt;have hw:=HR.out.wd i hlt;rw[RA hlt]at hw;have HW:=ah hw;have K1:=ah (H1.out.below HB.out);have hd:=K1.out.cell i hlt;have wI:=ah (show wrap64 ((i:Int)+1)=((i+1:Nat):Int)by unfold wrap64;omega);have HRd:=ah (HR.out.fr (Fr.drew (λ_=>False) wr) (λk h=>h.elim));have CP:=ah (iC HB.out (Fr.drew (λ_=>False) wr) (λk h=>h.elim));have HWd:=ah (show Wd wr.drew (b i) 0 from hw);have HVd:=ah (show Wd wr.drew (b1 i) (A.getD i 0)from K1.out.wd i hlt);clear hw;go_wp2_with fail;go_region_law (go_simp;refine(CO (b i) (b1 i) 0 (A.getD i 0) _ HWd.out HVd.out).mono ?_;rintro e w2 ⟨rfl,hf,hw⟩;have HR2:=Lib.hid (HRd.out.set hlt hf hw);have HB2:=Lib.hid (iC CP.out hf (λk e=>e▸(HR.out.low i hlt).1));have HW2:=Lib.hid hw;clear hf hw;dsimp only);all_goals (
    have hc2:=HR2.out.cell i hlt;have K2:=ah (H2.out.below HB2.out);have hd2:=K2.out.cell i hlt;have HRe:=ah (HR2.out.fr (Fr.drew (λ_=>False) w2) (λk h=>h.elim));have HBe:=ah (iC HB2.out (Fr.drew (λ_=>False) w2) (λk h=>h.elim));have HWe:=ah (show Wd w2.drew (b i) (0|||A.getD i 0)from HW2.out);have HVe:=ah (show Wd w2.drew (b2 i) (B.getD i 0)from K2.out.wd i hlt))
   all_goals go_wp2_with fail
   all_goals (go_region_law (go_simp;refine(CO (b i) (b2 i) (0|||A.getD i 0) (B.getD i 0) _ HWe.out HVe.out).mono ?_;rintro e w3 ⟨rfl,hf,hw⟩;have HR3:=Lib.hid (HRe.out.set hlt hf hw);have HB3:=Lib.hid (iC HBe.out hf (λk e=>e▸(HR.out.low i hlt).1));clear hf hw;dsimp only))
   all_goals go_wp2_with fail
   all_goals (try rw[wI.out])
   all_goals exact⟨⟨i+1,hlt,rfl,by rw[<-RB hlt];exact HR3.out,HB3.out⟩,by simp[RowKit.intOf];omega⟩
  ·obtain rfl:i=n:=by omega
   go_wp2;go_ret;exact⟨g,c,b,rfl,by rw[<-Rz _ _ _ H1.out.len];exact HR.out,HB.out⟩
end
section
open Je (bit iT jI gN gZ nV mH jg kG)
def zm (A B:List Nat) (n i k:Nat):List Nat:=(List.range n).map λj=>if j<i then mH (A.getD j 0) B n else if j=i then mH (A.getD i 0) B k else 0
theorem RD (A B:List Nat) (n:Nat):zm A B n 0 0=iT n:=by rw[zl];refine cK λj _=> ?_;rw[aj (ko j)];split<;>rfl
theorem RF (A B:List Nat) (n i:Nat):zm A B n i n=zm A B n (i+1) 0:=by
 refine cK λj _=> ?_;rcases kZ j i with c|rfl|c;·rw[au c,au (by omega)]
 ·rw[aj (dA j),au rfl,au (ow j)]
 ·rw[aj (by omega),aj (by omega),aj (by omega)];split<;>rfl
theorem VT (A B:List Nat) (n:Nat) (h:A.length=n):zm A B n n 0=gZ A B:=by unfold gZ;rw[h];exact cK λ_ hj=>au hj
theorem VU {A B:List Nat} {n i k:Nat} (hi:i<n):(zm A B n i k).getD i 0=mH (A.getD i 0) B k:=by unfold zm;rw[zk hi,aj (dA i),au rfl]
theorem VW {A B:List Nat} {n i k:Nat} (hi:i<n) (h:(A.getD i 0).testBit k=true):(zm A B n i k).set i (mH (A.getD i 0) B k|||B.getD k 0)=zm A B n i (k+1):=by
 unfold zm;rw[zi hi];refine cK λj _=> ?_;by_cases c:j=i;·subst c;rw[au rfl,aj (dA j),au rfl,mH,au h]
 ·rw[aj c];by_cases d:j<i
  ·rw[au d,au d]
  ·rw[aj d,aj c,aj d,aj c]
theorem YS {A B:List Nat} {n i k:Nat} (h:(A.getD i 0).testBit k=false):zm A B n i k=zm A B n i (k+1):=by
 unfold zm;refine cK λj _=> ?_;by_cases c:j=i;·subst c;rw[aj (dA j),au rfl,aj (dA j),au rfl,mH,aj (by rw[h];decide)]
 ·rw[aj c,aj c]
theorem NQ (A B:List Nat) (n B1 g1 c1 B2 g2 c2:Nat) (b1 b2:Nat->Nat) (W:World) (h1:zI W B1 g1 b1 n A) (h2:zI W B2 g2 b2 n B):
 Calls Tryz.prog 286 #[.slice (some ⟨g1,0,none⟩) n c1, .slice (some ⟨g2,0,none⟩) n c2] W (wB n (gZ A B) W):=by
 obtain⟨h0,h64⟩:=h1.pos;have HN:=ah (λw=>uL n w h0 h64);have H1:=ah h1;have H2:=ah h2;clear h1 h2;go_enter Tryz.func286,Tryz.ntmps286;go_wp2_with (go_at_call 283;refine(HN.out _).mono ?_;rintro e w1 ⟨g,c,b,rfl,hR,hb⟩;have HR:=ah hR;have HB:=ah hb;clear hR hb);go_loopw [7,8] (λvi _ wr=>∃i:Nat,i<=n/\vi= .int .i64 i/\zI wr W.heap.size g b n (zm A B n i 0)/\Below W.heap.size W wr) (λvi _ _=>n-(RowKit.intOf vi).toNat);case atStart=>exact⟨0,aL _,rfl,by rw[RD];exact HR.out,HB.out⟩
 case round=>
  obtain⟨i,hi,rfl,hR,hb⟩:=hrel;have HR:=ah hR;have HB:=ah hb;clear hR hb;by_cases hlt:i<n
  ·have hii:(i:Int)<n:=by omega
   have hi0:(0:Int)<=i:=by omega
   have wI:=ah (show wrap64 ((i:Int)+1)=((i+1:Nat):Int)by unfold wrap64;omega);go_wp2_with fail;go_hide hQ;go_loopw [8] (λvk wr=>∃k:Nat,k<=n/\vk= .int .i64 k/\zI wr W.heap.size g b n (zm A B n i k)/\Below W.heap.size W wr) (λvk _=>n-(RowKit.intOf vk).toNat);case atStart=>exact⟨0,aL _,rfl,HR.out,HB.out⟩
   case round=>
    obtain⟨k,hk,rfl,hR,hb⟩:=hrel;have HR:=ah hR;have HB:=ah hb;clear hR hb;by_cases hkl:k<n
    ·have hkk:(k:Int)<n:=by omega
     have hk0:(0:Int)<=k:=by omega
     have Fg:=ah (show wrap64 ((k:Int)+1)=((k+1:Nat):Int)by unfold wrap64;omega);have K1:=ah (H1.out.below HB.out);have hd:=K1.out.cell i hlt;have hc:=HR.out.cell i hlt;have K2:=ah (H2.out.below HB.out);have hd2:=K2.out.cell k hkl;obtain⟨q,hq⟩:∃q,(A.getD i 0).testBit k=q:=⟨_,rfl⟩
     have HQ:=ah hq;have xP:=ah (CJ (b1 i) (A.getD i 0) k wr (K1.out.wd i hlt) (by omega));rw[hq]at xP;clear hq;cases q with
     |true=>
      have hw:=HR.out.wd i hlt;rw[VU hlt]at hw;have HRd:=ah (HR.out.fr (Fr.drew (λ_=>False) wr) (λk h=>h.elim));have CP:=ah (iC HB.out (Fr.drew (λ_=>False) wr) (λk h=>h.elim));have HWd:=ah (show Wd wr.drew (b i) (mH (A.getD i 0) B k)from hw);have HVd:=ah (show Wd wr.drew (b2 k) (B.getD k 0)from K2.out.wd k hkl);clear hw;go_upto_region 10 with(go_at_call 239;refine xP.out.mono ?_;rintro e w2 ⟨rfl,rfl⟩)
      subst hQ;go_region_law (go_simp;refine(CO (b i) (b2 k) (mH (A.getD i 0) B k) (B.getD k 0) _ HWd.out HVd.out).mono ?_;rintro e w3 ⟨rfl,hf,hw⟩;have HR3:=Lib.hid (HRd.out.set hlt hf hw);have HB3:=Lib.hid (iC CP.out hf (λk e=>e▸(HR.out.low i hlt).1));clear hf hw;dsimp only);all_goals go_wp2_with fail
      all_goals (try rw[Fg.out])
      all_goals exact⟨⟨k+1,hkl,rfl,by rw[<-VW hlt HQ.out];exact HR3.out,HB3.out⟩,by simp[RowKit.intOf];omega⟩
     |false=>go_wp2_with (go_at_call 239;refine xP.out.mono ?_;rintro e w2 ⟨rfl,rfl⟩);(try rw[Fg.out]);exact⟨⟨k+1,hkl,rfl,by rw[<-YS HQ.out];exact HR.out,HB.out⟩,by simp[RowKit.intOf];omega⟩
    ·obtain rfl:k=n:=by omega
     go_wp2_with fail;subst hQ;go_wp2_with fail;(try rw[wI.out]);exact⟨⟨i+1,hlt,rfl,by rw[<-RF];exact HR.out,HB.out⟩,by simp[RowKit.intOf];omega⟩
  ·obtain rfl:i=n:=by omega
   go_wp2;go_ret;exact⟨g,c,b,rfl,by rw[<-VT _ _ _ H1.out.len];exact HR.out,HB.out⟩
theorem zI.base {w:World} {B B' g n:Nat} {b:Nat->Nat} {M:List Nat} (h:zI w B g b n M) (hB:B'<=B):zI w B' g b n M:=
 ⟨h.len,h.pos,⟨bF hB h.og.1,h.og.2⟩,h.cell,λi hi=>⟨bF hB (h.low i hi).1,(h.low i hi).2⟩,h.wd,h.inj⟩
theorem NR (M:List Nat) (k m:Nat):jg M k (m+1)=if bit (jg M k m) m k=true then(jg M k m).set m ((jg M k m).getD m 0|||(jg M k m).getD k 0)else jg M k m:=rfl
theorem VX (A:List Nat) (n B1 g1 c1:Nat) (b1:Nat->Nat) (W:World) (h1:zI W B1 g1 b1 n A):
 Calls Tryz.prog 288 #[.slice (some ⟨g1,0,none⟩) n c1] W (wB n (nV A) W):=by
 obtain⟨h0,h64⟩:=h1.pos;have HN:=ah (λw=>Jj n w h0 h64);have H1:=ah h1;clear h1;obtain⟨M,hM⟩:∃M,gN A (jI n)=M:=⟨_,rfl⟩
 have HMM:=ah hM;have HE:=ah (show nV A=kG M n n by unfold nV;rw[H1.out.len,hM]);clear hM;go_enter Tryz.func288,Tryz.ntmps288;go_wp2_with (first
  |(go_at_call 285;refine(HN.out _).mono ?_;rintro e w1 ⟨g0,c0,b0,rfl,hR,hb⟩;have Xf:=ah hR;have HB0:=ah hb;have K1:=ah (H1.out.below hb);clear hR hb)
  |(go_at_call 287;refine(Li A (jI n) n _ _ _ _ _ _ _ _ _ K1.out Xf.out).mono ?_;rintro e w2 ⟨g,c,b,rfl,hR,hb⟩;rw[HMM.out]at hR;have HB:=ah (HB0.out.trans (hb.mono HB0.out.size));have HS:=ah HB0.out.size;have HR:=ah hR;clear hR hb))
 go_loopw [5,6] (λvk _ wr=>∃k:Nat,k<=n/\vk= .int .i64 k/\zI wr w1.heap.size g b n (kG M n k)/\Below W.heap.size W wr) (λvk _ _=>n-(RowKit.intOf vk).toNat);case atStart=>exact⟨0,aL _,rfl,HR.out,HB.out⟩
 case round=>
  obtain⟨k,hk,rfl,hR,hb⟩:=hrel;have HR:=ah hR;have HB:=ah hb;clear hR hb;by_cases hlt:k<n
  ·have hkk:(k:Int)<n:=by omega
   have hk0:(0:Int)<=k:=by omega
   have Fg:=ah (show wrap64 ((k:Int)+1)=((k+1:Nat):Int)by unfold wrap64;omega);go_wp2_with fail;go_hide hQ;go_loopw [6] (λvi wr=>∃i:Nat,i<=n/\vi= .int .i64 i/\zI wr w1.heap.size g b n (jg (kG M n k) k i)/\Below W.heap.size W wr) (λvi _=>n-(RowKit.intOf vi).toNat);case atStart=>exact⟨0,aL _,rfl,HR.out,HB.out⟩
   case round=>
    obtain⟨i,hi,rfl,hR,hb⟩:=hrel;have HR:=ah hR;have HB:=ah hb;clear hR hb;by_cases hil:i<n
    ·have hii:(i:Int)<n:=by omega
     have hi0:(0:Int)<=i:=by omega
     have wI:=ah (show wrap64 ((i:Int)+1)=((i+1:Nat):Int)by unfold wrap64;omega);have hst:=NR (kG M n k) k i;obtain⟨S,hS⟩:∃S,jg (kG M n k) k i=S:=⟨_,rfl⟩
     rw[hS]at HR hst;have hc:=HR.out.cell i hil;have hc2:=HR.out.cell k hlt;obtain⟨q,hq⟩:∃q,bit S i k=q:=⟨_,rfl⟩
     rw[hq]at hst;have HST:=ah hst;have xP:=ah (CJ (b i) (S.getD i 0) k wr (HR.out.wd i hil) (by omega));rw[show(S.getD i 0).testBit k=q from hq]at xP;clear hq hS hst;cases q with
     |true=>
      have HS2:=ah (HST.out.trans (au rfl));clear HST;have HRd:=ah (HR.out.fr (Fr.drew (λ_=>False) wr) (λk h=>h.elim));have CP:=ah (iC HB.out (Fr.drew (λ_=>False) wr) (λk h=>h.elim));have HWd:=ah (show Wd wr.drew (b i) (S.getD i 0)from HR.out.wd i hil);have HVd:=ah (show Wd wr.drew (b k) (S.getD k 0)from HR.out.wd k hlt);go_upto_region 10 with(go_at_call 239;refine xP.out.mono ?_;rintro e w2 ⟨rfl,rfl⟩)
      subst hQ;go_region_law (go_simp;refine(CO (b i) (b k) (S.getD i 0) (S.getD k 0) _ HWd.out HVd.out).mono ?_;rintro e w3 ⟨rfl,hf,hw⟩;have HR3:=Lib.hid (HRd.out.set hil hf hw);have HB3:=Lib.hid (iC CP.out hf (λk e=>e▸Nat.le_trans HS.out (HR.out.low i hil).1));clear hf hw;dsimp only);all_goals go_wp2_with fail
      all_goals (try rw[wI.out])
      all_goals exact⟨⟨i+1,hil,rfl,by rw[HS2.out];exact HR3.out,HB3.out⟩,by simp[RowKit.intOf];omega⟩
     |false=>have HS2:=ah (HST.out.trans (aj (by decide)));clear HST;go_wp2_with (go_at_call 239;refine xP.out.mono ?_;rintro e w2 ⟨rfl,rfl⟩);(try rw[wI.out]);exact⟨⟨i+1,hil,rfl,by rw[HS2.out];exact HR.out,HB.out⟩,by simp[RowKit.intOf];omega⟩
    ·obtain rfl:i=n:=by omega
     go_wp2_with fail;subst hQ;go_wp2_with fail;(try rw[Fg.out]);exact⟨⟨k+1,hlt,rfl,HR.out,HB.out⟩,by simp[RowKit.intOf];omega⟩
  ·obtain rfl:k=n:=by omega
   go_wp2;go_ret;exact⟨g,c,b,rfl,by rw[HE.out];exact HR.out.base HS.out,HB.out⟩
end
section
open Je (PT bit iT jI gN gZ nV Jf Ar rows sP Xe firstR)
mutual
def dR (w:World):Value->Value->Value->PT->Prop
 |a,b,k, .node op cls kids=>a= .int .i64 (op:Nat)/\(∃A n c,b= .slice A n c/\dx w A n (cls.map λ(x:Nat)=>(x:Int)))/\∃A c,k= .slice A kids.length c/\lF w A 0 kids
def lF (w:World) (A:Option Addr):Nat->List PT->Prop
 |_,[]=>True
 |i,p::r=>(∃g o a b k,A=some ⟨g,o,none⟩/\g<w.heap.size/\w.cell? ⟨g,o+i*3,none⟩=some a/\w.cell? ⟨g,o+i*3+1,none⟩=some b/\w.cell? ⟨g,o+i*3+2,none⟩=some k/\dR w a b k p)/\lF w A (i+1) r
end
mutual
theorem dR.below {w w':World} (hb:Below w.heap.size w w'):∀{p:PT} {a b k:Value},dR w a b k p->dR w' a b k p
 | .node op cls kids,a,b,k,h=>by unfold dR at h⊢;obtain⟨h1,⟨A,n,c,h2,h3⟩,A2,c2,h4,h5⟩:=h;exact⟨h1,⟨A,n,c,h2,ig h3 hb⟩,A2,c2,h4,lF.below hb h5⟩
theorem lF.below {w w':World} (hb:Below w.heap.size w w'):∀{l:List PT} {A:Option Addr} {i:Nat},lF w A i l->lF w' A i l
 |[],_,_,_=>trivial
 |p::r,A,i,h=>by unfold lF at h⊢;obtain⟨⟨g,o,a,b,k,h1,h2,h3,h4,h5,h6⟩,h7⟩:=h;exact⟨⟨g,o,a,b,k,h1,bJ h2 hb.size,(hb.cell (p:=⟨g,o+i*3,none⟩) h2).trans h3,(hb.cell (p:=⟨g,o+i*3+1,none⟩) h2).trans h4,(hb.cell (p:=⟨g,o+i*3+2,none⟩) h2).trans h5,dR.below hb h6⟩,lF.below hb h7⟩
end
theorem uM {w:World} {A:Option Addr}:∀{l:List PT} {i:Nat},lF w A i l->∀j q,l[j]? =some q->∃g o a b k,A=some ⟨g,o,none⟩/\g<w.heap.size/\w.cell? ⟨g,o+(i+j)*3,none⟩=some a/\w.cell? ⟨g,o+(i+j)*3+1,none⟩=some b/\w.cell? ⟨g,o+(i+j)*3+2,none⟩=some k/\dR w a b k q
 |[],_,_,_,_,hq=>by cases hq
 |p::r,i,h,0,q,hq=>by unfold lF at h;cases hq;exact h.1
 |p::r,i,h,j+1,q,hq=>by unfold lF at h;have:=uM h.2 j q hq;rwa [show i+1+j=i+(j+1)by omega]at this
mutual
def NT:PT->Bool
 | .node op _ kids=>(op==0||op==1||op==2||op==3||(op==4&&kids.length==1))&&decide (kids.length<=1000)&&PL kids
def PL:List PT->Bool
 |[]=>true
 |p::r=>NT p&&PL r
end
structure qK (W:World) (a b k:Value) (w:World):Prop where
 aN:Below W.heap.size W w
 o:w.heap[W.heap.size]? =some (.cells #[a,b,k] 201 (0,0))
theorem qK.go {W w w':World} {a b k:Value} (h:qK W a b k w) (hb:Below w.heap.size w w'):qK W a b k w':=⟨h.aN.trans (hb.mono h.aN.size),iZ hb h.o⟩
theorem qK.frr {W w w':World} {a b k:Value} {T:Nat->Prop} (h:qK W a b k w) (hf:Fr T w w') (hT:∀k,T k->W.heap.size<k):qK W a b k w':=⟨iC h.aN hf (λk hk=>iG (hT k hk)),hf.blk h.o (λc=>dA _ (hT _ c))⟩
theorem qK.start (W:World) (a b k:Value):qK W a b k (W.alloc (.cells #[a,b,k] 201)):=⟨(aK _ W).alloc (ay _) _,jl W _⟩
theorem qK.c0 {W w:World} {a b k:Value} (h:qK W a b k w):w.cell? ⟨W.heap.size,0,none⟩=some a:=(fu w W.heap.size 0 _ _ _ h.o).trans rfl
theorem qK.c1 {W w:World} {a b k:Value} (h:qK W a b k w):w.cell? ⟨W.heap.size,1,none⟩=some b:=(fu w W.heap.size 1 _ _ _ h.o).trans rfl
theorem qK.c2 {W w:World} {a b k:Value} (h:qK W a b k w):w.cell? ⟨W.heap.size,2,none⟩=some k:=(fu w W.heap.size 2 _ _ _ h.o).trans rfl
theorem qK.size {W w:World} {a b k:Value} (h:qK W a b k w):W.heap.size<w.heap.size:=eH h.o
def lK (p:PT):Prop:=∀(c:List Int) (a b k:Value) (A:Option Addr) (n cc:Nat) (W:World),dR W a b k p->dx W A n c->n+1<64->
 Calls Tryz.prog 238 #[.agg #[a,b,k], .slice A n cc] W (wB (n+1) (rows p c) W)
theorem ae5 (cls:List Nat) (kids:List PT) (c:List Int):rows (.node 0 cls kids) c=jI (c.length+1):=by rw[rows];rfl
theorem ae6 (cls:List Nat) (kids:List PT) (c:List Int):rows (.node 1 cls kids) c=Jf cls c:=by rw[rows];rfl
theorem ae7 (cls:List Nat) (kids:List PT) (c:List Int):rows (.node 2 cls kids) c=sP kids c (jI (c.length+1)):=by rw[rows];rfl
theorem ae8 (cls:List Nat) (kids:List PT) (c:List Int):rows (.node 3 cls kids) c=Xe kids c (iT (c.length+1)):=by rw[rows];rfl
theorem ae9 (cls:List Nat) (p:PT) (c:List Int):rows (.node 4 cls [p]) c=nV (rows p c):=by rw[rows,firstR];rfl
theorem YT (cls:List Nat) (kids:List PT):lK (.node 0 cls kids):=by intro c a b k A n cc W hP hI h64;unfold dR at hP;obtain⟨ha,_⟩:=hP;obtain rfl:a= .int .i64 0:=ha;rw[ae5,hI.len];have HB0:=ah (qK.start W (.int .i64 0) b k);have y0:=HB0.out.c0;have HWN:=ah (show wrap64 ((n:Int)+1)=((n+1:Nat):Int)by unfold wrap64;omega);have HO:=ah (λw=>Jj (n+1) w (ru n) h64);clear hI;go_enter Tryz.func238,Tryz.ntmps238;go_wp2_with (go_at_call 285;refine(HO.out _).mono ?_;rintro e w2 ⟨g,c2,b2,rfl,hR,hb⟩;have HR:=ah (hR.base (iG HB0.out.size));have HB:=ah (HB0.out.go hb);clear hR hb);go_ret;exact⟨g,c2,b2,rfl,HR.out,HB.out.aN⟩
theorem YU (cls:List Nat) (p:PT) (IH:lK p):lK (.node 4 cls [p]):=by
 intro c a b k A n cc W hP hI h64;unfold dR at hP;obtain⟨ha,_,A2,c2,rfl,hK⟩:=hP;obtain rfl:a= .int .i64 4:=ha;have HKK:=ah hK;have HI:=ah hI;have HIH:=ah IH;rw[ae9];have HB0:=ah (qK.start W (.int .i64 4) b (.slice A2 1 c2));have y0:=HB0.out.c0;have y2:=HB0.out.c2;have HWN:=ah (show wrap64 ((n:Int)+1)=((n+1:Nat):Int)by unfold wrap64;omega);obtain⟨g,og,a0,b0,k0,rfl,hg,z0,z1,z2,hp⟩:=uM (HKK.out.below HB0.out.aN) 0 p rfl;have HP:=ah hp;simp only[jU,dG]at z0 z1 z2;clear hI hK IH hp hg;go_enter Tryz.func238,Tryz.ntmps238;go_wp2_with (first
  |(go_at_call 238;refine(HIH.out c a0 b0 k0 A n cc _ HP.out (ig HI.out HB0.out.aN) h64).mono ?_;rintro e w2 ⟨g2,d2,b2,rfl,hR,hb⟩;have HR:=ah hR;have HB:=ah (HB0.out.go hb);clear hR hb)
  |(go_at_call 288;refine(VX _ _ _ _ _ _ _ HR.out).mono ?_;rintro e w3 ⟨g3,d3,b3,rfl,hR,hb⟩;have HR3:=ah (hR.base (bF (iG HB.out.size) (ay _)));have HB3:=ah (HB.out.go hb);clear hR hb))
 go_ret;exact⟨g3,d3,b3,rfl,HR3.out,HB3.out.aN⟩
theorem YV (cls:List Nat) (l:List PT) (IH:∀q∈l,lK q) (hl:l.length<=1000):lK (.node 2 cls l):=by
 intro c a b k A n cc W hP hI h64;unfold dR at hP;obtain⟨ha,_,A2,c2,rfl,hK⟩:=hP;obtain rfl:a= .int .i64 2:=ha;have HKK:=ah hK;have HI:=ah hI;have HIH:=ah IH;rw[ae7,hI.len];obtain⟨N,hN⟩:∃N,l.length=N:=⟨_,rfl⟩
 rw[hN]at hl⊢;have HN:=ah hN;have HB0:=ah (qK.start W (.int .i64 2) b (.slice A2 N c2));have y0:=HB0.out.c0;have HWN:=ah (show wrap64 ((n:Int)+1)=((n+1:Nat):Int)by unfold wrap64;omega);have HO:=ah (λw=>Jj (n+1) w (ru n) h64);clear hI hK IH hN;go_enter Tryz.func238,Tryz.ntmps238;go_wp2_with (go_at_call 285;refine(HO.out _).mono ?_;rintro e w2 ⟨g0,d0,b0,rfl,hR,hb⟩;have HR:=ah (hR.base (iG HB0.out.size));have HB:=ah (HB0.out.go hb);clear hR hb y0);go_loopw [8,9] (λvo vi wr=>∃(i:Nat) (acc:List Nat) (g d:Nat) (bb:Nat->Nat),i<=N/\vi= .int .i64 i/\vo= .slice (some ⟨g,0,none⟩) (n+1) d/\zI wr W.heap.size g bb (n+1) acc/\sP (l.drop i) c acc=sP l c (jI (n+1))/\qK W (.int .i64 2) b (.slice A2 N c2) wr) (λ_ vi _=>N-(RowKit.intOf vi).toNat);case atStart=>exact⟨0,_,g0,d0,b0,aL _,rfl,rfl,HR.out,rfl,HB.out⟩
 case round=>
  obtain⟨i,acc,g,d,bb,hi,rfl,rfl,hR,hl2,hB⟩:=hrel;have HR:=ah hR;have HB:=ah hB;clear hR hB;have y2:=HB.out.c2;by_cases hlt:i<N
  ·obtain⟨q,hq⟩:∃q,l[i]? =some q:=⟨l[i]'(by rw[HN.out];exact hlt),aS _⟩
   have hd:l.drop i=q::l.drop (i+1):=by rw[pK (by rw[HN.out];exact hlt)];rw[aS (by rw[HN.out];exact hlt)]at hq;injection hq with hq;rw[hq]
   rw[hd]at hl2;have HL2:=ah (show sP (l.drop (i+1)) c (gZ acc (rows q c))=sP l c (jI (n+1))from hl2);obtain⟨gk,ok,a0,b1,k0,rfl,hg,z0,z1,z2,hp⟩:=uM (HKK.out.below HB.out.aN) i q hq;have HP:=ah hp;have HQ:=ah (HIH.out q (pI hq));simp only[bI]at z0 z1 z2;have hii:(i:Int)<N:=by omega
   have hi0:(0:Int)<=i:=by omega
   have wI:=ah (show wrap64 ((i:Int)+1)=((i+1:Nat):Int)by unfold wrap64;omega);clear hp hg hq hd hl2;go_wp2_with (first
    |(go_at_call 238;refine(HQ.out c a0 b1 k0 A n cc _ HP.out (ig HI.out HB.out.aN) h64).mono ?_;rintro e w3 ⟨g3,d3,b3,rfl,hR3,hb⟩;have HR3:=ah hR3;have HB3:=ah (HB.out.go hb);have HRo:=ah (HR.out.below hb);clear hR3 hb)
    |(go_at_call 286;refine(NQ acc (rows q c) (n+1) _ _ _ _ _ _ _ _ _ HRo.out HR3.out).mono ?_;rintro e w4 ⟨g4,d4,b4,rfl,hR4,hb⟩;have HR4:=ah (hR4.base (iG HB3.out.size));have YW:=ah (HB3.out.go hb);clear hR4 hb))
   (try rw[wI.out]);exact⟨⟨i+1,_,g4,d4,b4,hlt,rfl,rfl,HR4.out,HL2.out,YW.out⟩,by simp[RowKit.intOf];omega⟩
  ·obtain rfl:i=N:=by omega
   rw[Ch (by rw[HN.out];exact ay _)]at hl2;have HL2:=ah (show acc=sP l c (jI (n+1))from hl2);clear hl2;go_wp2;go_ret;exact⟨g,d,bb,rfl,by rw[<-HL2.out];exact HR.out,HB.out.aN⟩
theorem YX (cls:List Nat) (l:List PT) (IH:∀q∈l,lK q) (hl:l.length<=1000):lK (.node 3 cls l):=by
 intro c a b k A n cc W hP hI h64;unfold dR at hP;obtain⟨ha,_,A2,c2,rfl,hK⟩:=hP;obtain rfl:a= .int .i64 3:=ha;have HKK:=ah hK;have HI:=ah hI;have HIH:=ah IH;rw[ae8,hI.len];obtain⟨N,hN⟩:∃N,l.length=N:=⟨_,rfl⟩
 rw[hN]at hl⊢;have HN:=ah hN;have HB0:=ah (qK.start W (.int .i64 3) b (.slice A2 N c2));have y0:=HB0.out.c0;have HWN:=ah (show wrap64 ((n:Int)+1)=((n+1:Nat):Int)by unfold wrap64;omega);have HO:=ah (λw=>uL (n+1) w (ru n) h64);clear hI hK IH hN;go_enter Tryz.func238,Tryz.ntmps238;go_wp2_with (go_at_call 283;refine(HO.out _).mono ?_;rintro e w2 ⟨g0,d0,b0,rfl,hR,hb⟩;have HR:=ah (hR.base (iG HB0.out.size));have HB:=ah (HB0.out.go hb);clear hR hb y0);go_loopw [10,11] (λvo vi wr=>∃(i:Nat) (acc:List Nat) (g d:Nat) (bb:Nat->Nat),i<=N/\vi= .int .i64 i/\vo= .slice (some ⟨g,0,none⟩) (n+1) d/\zI wr W.heap.size g bb (n+1) acc/\Xe (l.drop i) c acc=Xe l c (iT (n+1))/\qK W (.int .i64 3) b (.slice A2 N c2) wr) (λ_ vi _=>N-(RowKit.intOf vi).toNat);case atStart=>exact⟨0,_,g0,d0,b0,aL _,rfl,rfl,HR.out,rfl,HB.out⟩
 case round=>
  obtain⟨i,acc,g,d,bb,hi,rfl,rfl,hR,hl2,hB⟩:=hrel;have HR:=ah hR;have HB:=ah hB;clear hR hB;have y2:=HB.out.c2;by_cases hlt:i<N
  ·obtain⟨q,hq⟩:∃q,l[i]? =some q:=⟨l[i]'(by rw[HN.out];exact hlt),aS _⟩
   have hd:l.drop i=q::l.drop (i+1):=by rw[pK (by rw[HN.out];exact hlt)];rw[aS (by rw[HN.out];exact hlt)]at hq;injection hq with hq;rw[hq]
   rw[hd]at hl2;have HL2:=ah (show Xe (l.drop (i+1)) c (gN acc (rows q c))=Xe l c (iT (n+1))from hl2);obtain⟨gk,ok,a0,b1,k0,rfl,hg,z0,z1,z2,hp⟩:=uM (HKK.out.below HB.out.aN) i q hq;have HP:=ah hp;have HQ:=ah (HIH.out q (pI hq));simp only[bI]at z0 z1 z2;have hii:(i:Int)<N:=by omega
   have hi0:(0:Int)<=i:=by omega
   have wI:=ah (show wrap64 ((i:Int)+1)=((i+1:Nat):Int)by unfold wrap64;omega);clear hp hg hq hd hl2;go_wp2_with (first
    |(go_at_call 238;refine(HQ.out c a0 b1 k0 A n cc _ HP.out (ig HI.out HB.out.aN) h64).mono ?_;rintro e w3 ⟨g3,d3,b3,rfl,hR3,hb⟩;have HR3:=ah hR3;have HB3:=ah (HB.out.go hb);have HRo:=ah (HR.out.below hb);clear hR3 hb)
    |(go_at_call 287;refine(Li acc (rows q c) (n+1) _ _ _ _ _ _ _ _ _ HRo.out HR3.out).mono ?_;rintro e w4 ⟨g4,d4,b4,rfl,hR4,hb⟩;have HR4:=ah (hR4.base (iG HB3.out.size));have YW:=ah (HB3.out.go hb);clear hR4 hb))
   (try rw[wI.out]);exact⟨⟨i+1,_,g4,d4,b4,hlt,rfl,rfl,HR4.out,HL2.out,YW.out⟩,by simp[RowKit.intOf];omega⟩
  ·obtain rfl:i=N:=by omega
   rw[Ch (by rw[HN.out];exact ay _)]at hl2;have HL2:=ah (show acc=Xe l c (iT (n+1))from hl2);clear hl2;go_wp2;go_ret;exact⟨g,d,bb,rfl,by rw[<-HL2.out];exact HR.out,HB.out.aN⟩
def EN (cls:List Nat) (c:List Int) (n i:Nat):List Nat:=(List.range (n+1)).map λj=>if(decide (j<i)&&Ar cls c j)=true then 1<<<(j+1)else 0
theorem RG (cls:List Nat) (c:List Int) (n:Nat):EN cls c n 0=iT (n+1):=by rw[zl];exact cK λj _=>by simp
theorem VY (cls:List Nat) (c:List Int):EN cls c c.length c.length=Jf cls c:=by
 unfold Jf;refine cK λj _=> ?_;by_cases h:Ar cls c j=true;·have:=h;unfold Ar at this;simp only[aQ,iH]at this;simp[h,this.1]
 ·simp[h]
theorem VZ (cls:List Nat) (c:List Int) {i:Nat} (hi:i<c.length):Ar cls c i=decide (c.getD i 0∈cls.map λ(x:Nat)=>(x:Int)):=by rw[dY];unfold Ar;simp only[aQ,iH,rR,bX];exact⟨λh=>h.2,λh=>⟨hi,h⟩⟩
theorem V3 {cls:List Nat} {c:List Int} {n i:Nat} (hi:i<n+1):(EN cls c n i).getD i 0=0:=by unfold EN;rw[zk hi];simp
theorem V4 {cls:List Nat} {c:List Int} {n i:Nat} (hi:i<n+1) (h:Ar cls c i=true):(EN cls c n i).set i (0|||1<<<(i+1))=EN cls c n (i+1):=by
 unfold EN;rw[zi hi];refine cK λj _=> ?_;by_cases e:j=i;·subst e;simp[h]
 ·rw[aj e];have:decide (j<i)=decide (j<i+1):=by rw[dY];simp;omega
  rw[this]
theorem YZ {cls:List Nat} {c:List Int} {n i:Nat} (h:Ar cls c i=false):EN cls c n i=EN cls c n (i+1):=by
 unfold EN;refine cK λj _=> ?_;by_cases e:j=i;·subst e;simp[h]
 ·have:decide (j<i)=decide (j<i+1):=by rw[dY];simp;omega
  rw[this]
theorem Y0 (cls:List Nat) (l:List PT):lK (.node 1 cls l):=by
 intro c a b k A n cc W hP hI h64;unfold dR at hP;obtain⟨ha,⟨Ab,nb,cb,rfl,hC⟩,_⟩:=hP;obtain rfl:a= .int .i64 1:=ha;have HC:=ah hC;have HI:=ah hI;rw[ae6];have HB0:=ah (qK.start W (.int .i64 1) (.slice Ab nb cb) k);have y0:=HB0.out.c0;have HWN:=ah (show wrap64 ((n:Int)+1)=((n+1:Nat):Int)by unfold wrap64;omega);have HO:=ah (λw=>uL (n+1) w (ru n) h64);have HLN:=ah hI.len;clear hI hC;go_enter Tryz.func238,Tryz.ntmps238;go_wp2_with (go_at_call 283;refine(HO.out _).mono ?_;rintro e w2 ⟨g,d,bb,rfl,hR,hb⟩;have HR:=ah hR;have HB:=ah (HB0.out.go hb);clear hR hb y0);go_loopw [7] (λvi wr=>∃i:Nat,i<=n/\vi= .int .i64 i/\zI wr (W.heap.size+1) g bb (n+1) (EN cls c n i)/\qK W (.int .i64 1) (.slice Ab nb cb) k wr) (λvi _=>n-(RowKit.intOf vi).toNat);case atStart=>exact⟨0,aL _,rfl,by rw[RG];exact HR.out.base (by simp),HB.out⟩
 case round=>
  obtain⟨i,hi,rfl,hR,hB⟩:=hrel;have HR:=ah hR;have HB:=ah hB;clear hR hB;have y1:=HB.out.c1;by_cases hlt:i<n
  ·obtain⟨gi,oi,rfl,hgi,hci⟩:=HI.out.at_ (by omega);have z:=(HB.out.aN.cell (p:=⟨gi,oi+i,none⟩) hgi).trans (hci i hlt);obtain⟨x,hx⟩:∃x,c.getD i 0=x:=⟨_,rfl⟩
   rw[hx]at z;have hsb:=VZ cls c (i:=i) (by rw[HLN.out];exact hlt);rw[hx]at hsb;have HSB:=ah hsb;have hii:(i:Int)<n:=by omega
   have hi0:(0:Int)<=i:=by omega
   have wI:=ah (show wrap64 ((i:Int)+1)=((i+1:Nat):Int)by unfold wrap64;omega);have HCI:=ah (λq=>YQ (cls.map λ(x:Nat)=>(x:Int)) x Ab nb cb (wr.drewN q) (by have:=ig HC.out HB.out.aN;exact⟨this.len,this.small,this.at_⟩));clear hci hgi hx;obtain⟨q,hq⟩:∃q,Ar cls c i=q:=⟨_,rfl⟩
   rw[<-hsb,hq]at HCI;have Yx:=ah hq;clear hsb hq;cases q with
   |true=>
    have z5:=HR.out.cell i (by omega);have hwd:=HR.out.wd i (by omega);rw[V3 (by omega)]at hwd;have HWD:=ah hwd;have HKY:=ah (V4 (n:=n) (by omega) Yx.out);clear hwd;go_wp2_with fail;go_quiet ((go_at_call 281;exact Calls.quiet_of_same (HCI.out _)));have HRq:=ah (HR.out.fr (Fr.drewN (λ_=>False) wr nq) (λk h=>h.elim));have HBq:=ah (HB.out.frr (Fr.drewN (λ_=>False) wr nq) (λk h=>h.elim));have HWq:=ah (show Wd (wr.drewN nq) (bb i) 0 from HWD.out);have HST:=ah (λw (hw:Wd w (bb i) 0)=>show Calls Tryz.prog 284 #[kK (bb i), .int .i64 ((i:Int)+1)] w (NM (bb i) (0|||1<<<(i+1)) w)from by
     have:=PK (bb i) 0 (i+1) w hw (by omega);rwa [show((i+1:Nat):Int)=(i:Int)+1 by omega]at this)
    have z6:=HRq.out.cell i (by omega);clear z5;go_wp2_with (go_at_call 284;refine(HST.out _ HWq.out).mono ?_;rintro e w3 ⟨rfl,hf,hw⟩;have HR3:=ah (HRq.out.set (by omega) hf hw);have HB3:=ah (HBq.out.frr hf (λk e=>e▸(HRq.out.low i (by omega)).1));clear hf hw);(try rw[wI.out]);exact⟨⟨i+1,hlt,rfl,by rw[<-HKY.out];exact HR3.out,HB3.out⟩,by simp[RowKit.intOf];omega⟩
   |false=>have HKN:=ah (YZ (n:=n) Yx.out);go_wp2_with fail;go_quiet ((go_at_call 281;exact Calls.quiet_of_same (HCI.out _)));have HRq:=ah (HR.out.fr (Fr.drewN (λ_=>False) wr nq) (λk h=>h.elim));have HBq:=ah (HB.out.frr (Fr.drewN (λ_=>False) wr nq) (λk h=>h.elim));go_wp2_with fail;(try rw[wI.out]);exact⟨⟨i+1,hlt,rfl,by rw[<-HKN.out];exact HRq.out,HBq.out⟩,by simp[RowKit.intOf];omega⟩
  ·obtain rfl:i=n:=by omega
   go_wp2;go_ret;exact⟨g,d,bb,rfl,by rw[<-HLN.out]at HR;rw[<-VY,<-HLN.out];exact HR.out.base (Nat.le_succ _),HB.out.aN⟩
mutual
theorem EO:∀p:PT,NT p=true->lK p
 | .node op cls kids,h=>by
   unfold NT at h;simp only[aQ,dI,cZ,iH]at h;obtain⟨⟨h1,hl⟩,h2⟩:=h;have IH:=GH kids h2;rcases h1 with(((rfl|rfl)|rfl)|rfl)|⟨rfl,hk⟩
   ·exact YT cls kids
   ·exact Y0 cls kids
   ·exact YV cls kids IH hl
   ·exact YX cls kids IH hl
   ·match kids,hk,IH with
    |[p],_,IH=>exact YU cls p (IH p oK)
theorem GH:∀l:List PT,PL l=true->∀q∈l,lK q
 |[],_,q,hq=>by cases hq
 |p::r,h,q,hq=>by
  unfold PL at h;rw[aQ]at h;rcases aR.1 hq with e|hq;·rw[e];exact EO p h.1
  ·exact GH r h.2 q hq
end
end
section
open Je (PT)
def NU:List Nat->Bool
 |[]=>true
 |[x]=>decide (x<1000)
 |x::y::r=>decide (x<1000)&&decide (x<y)&&NU (y::r)
theorem PN:∀{l:List Nat},NU l=true->∀i,i<l.length->l.getD i 0<1000/\(i+1<l.length->l.getD i 0<l.getD (i+1) 0)
 |[],_,i,hi=>absurd hi (ko i)
 |[x],h,0,_=>⟨by simpa[NU]using h,λh=>absurd h (by simp)⟩
 |[x],_,i+1,hi=>by simp at hi
 |x::y::r,h,0,_=>by unfold NU at h;simp only[aQ,iH]at h;exact⟨h.1.1,λ_=>h.1.2⟩
 |x::y::r,h,i+1,hi=>by unfold NU at h;simp only[aQ,iH]at h;have:=PN h.2 i (by simpa using hi);exact⟨this.1,λhh=>this.2 (by simpa using hh)⟩
def xQ (p:PT):Prop:=∀(a b k:Value) (W:World),dR W a b k p->Calls Tryz.prog 323 #[.agg #[a,b,k], .int .i64 2147483647] W λe w'=>e= .returned (.int .i64 0)/\Below W.heap.size W w'
theorem abW:xQ (.node 0 [] []):=by
 intro a b k W hP;unfold dR at hP;obtain⟨ha,⟨Ab,nb,cb,rfl,hC⟩,A2,c2,rfl,_⟩:=hP;obtain rfl:a= .int .i64 0:=ha;obtain rfl:nb=0:=hC.len.symm;clear hC;have HB0:=ah (qK.start W (.int .i64 0) (.slice Ab 0 cb) (.slice A2 0 c2));have y0:=HB0.out.c0;have y1:=HB0.out.c1;have y2:=HB0.out.c2;go_enter Tryz.func323,Tryz.ntmps323;go_wp2;go_loopw [7] (λvi wr=>vi= .int .i64 0/\qK W (.int .i64 0) (.slice Ab 0 cb) (.slice A2 0 c2) wr) (λ_ _=>0);case atStart=>exact⟨rfl,HB0.out⟩
 case round=>obtain⟨rfl,hB⟩:=hrel;have HB:=ah hB;clear hB;clear y0 y1 y2;have y1:=HB.out.c1;go_wp2;go_ret;exact⟨rfl,HB.out.aN⟩
theorem abX (l:List PT) (hl:2<=l.length/\l.length<=1000):xQ (.node 2 [] l):=by
 intro a b k W hP;unfold dR at hP;obtain⟨ha,⟨Ab,nb,cb,rfl,hC⟩,A2,c2,rfl,_⟩:=hP;obtain rfl:a= .int .i64 2:=ha;obtain rfl:nb=0:=hC.len.symm;obtain⟨N,hN⟩:∃N,l.length=N:=⟨_,rfl⟩
 rw[hN]at hl⊢;clear hC;have HB0:=ah (qK.start W (.int .i64 2) (.slice Ab 0 cb) (.slice A2 N c2));have y0:=HB0.out.c0;have y1:=HB0.out.c1;have y2:=HB0.out.c2;have hl1:¬(N:Int)=1:=by omega
 have hl2:(2:Int)<=N:=by omega
 go_enter Tryz.func323,Tryz.ntmps323;go_wp2;go_loopw [7] (λvi wr=>vi= .int .i64 0/\qK W (.int .i64 2) (.slice Ab 0 cb) (.slice A2 N c2) wr) (λ_ _=>0);case atStart=>exact⟨rfl,HB0.out⟩
 case round=>obtain⟨rfl,hB⟩:=hrel;have HB:=ah hB;clear hB;clear y0 y1 y2;have y1:=HB.out.c1;go_wp2;go_ret;exact⟨rfl,HB.out.aN⟩
theorem abY (l:List PT) (hl:2<=l.length/\l.length<=1000):xQ (.node 3 [] l):=by
 intro a b k W hP;unfold dR at hP;obtain⟨ha,⟨Ab,nb,cb,rfl,hC⟩,A2,c2,rfl,_⟩:=hP;obtain rfl:a= .int .i64 3:=ha;obtain rfl:nb=0:=hC.len.symm;obtain⟨N,hN⟩:∃N,l.length=N:=⟨_,rfl⟩
 rw[hN]at hl⊢;clear hC;have HB0:=ah (qK.start W (.int .i64 3) (.slice Ab 0 cb) (.slice A2 N c2));have y0:=HB0.out.c0;have y1:=HB0.out.c1;have y2:=HB0.out.c2;have hl1:¬(N:Int)=1:=by omega
 have hl2:(2:Int)<=N:=by omega
 go_enter Tryz.func323,Tryz.ntmps323;go_wp2;go_loopw [7] (λvi wr=>vi= .int .i64 0/\qK W (.int .i64 3) (.slice Ab 0 cb) (.slice A2 N c2) wr) (λ_ _=>0);case atStart=>exact⟨rfl,HB0.out⟩
 case round=>obtain⟨rfl,hB⟩:=hrel;have HB:=ah hB;clear hB;clear y0 y1 y2;have y1:=HB.out.c1;go_wp2;go_ret;exact⟨rfl,HB.out.aN⟩
theorem abZ (p:PT):xQ (.node 4 [] [p]):=by
 intro a b k W hP;unfold dR at hP;obtain⟨ha,⟨Ab,nb,cb,rfl,hC⟩,A2,c2,rfl,_⟩:=hP;obtain rfl:a= .int .i64 4:=ha;obtain rfl:nb=0:=hC.len.symm;clear hC;have HB0:=ah (qK.start W (.int .i64 4) (.slice Ab 0 cb) (.slice A2 1 c2));have y0:=HB0.out.c0;have y1:=HB0.out.c1;have y2:=HB0.out.c2;go_enter Tryz.func323,Tryz.ntmps323;go_wp2;go_loopw [7] (λvi wr=>vi= .int .i64 0/\qK W (.int .i64 4) (.slice Ab 0 cb) (.slice A2 1 c2) wr) (λ_ _=>0);case atStart=>exact⟨rfl,HB0.out⟩
 case round=>obtain⟨rfl,hB⟩:=hrel;have HB:=ah hB;clear hB;clear y0 y1 y2;have y1:=HB.out.c1;go_wp2;go_ret;exact⟨rfl,HB.out.aN⟩
theorem ab0 (cls:List Nat) (hc:NU cls=true):xQ (.node 1 cls []):=by
 intro a b k W hP;unfold dR at hP;obtain⟨ha,⟨Ab,nb,cb,rfl,hC⟩,A2,c2,rfl,_⟩:=hP;obtain rfl:a= .int .i64 1:=ha;have hln:cls.length=nb:=by have:=hC.len;rwa [bM]at this
 have hsm:=hC.small;have HC:=ah hC;have HA:=ah (λi=>PN hc i);have HLN:=ah hln;have HB0:=ah (qK.start W (.int .i64 1) (.slice Ab nb cb) (.slice A2 0 c2));have y0:=HB0.out.c0;have y1:=HB0.out.c1;have y2:=HB0.out.c2;clear hC hc hln;go_enter Tryz.func323,Tryz.ntmps323;go_wp2;go_loopw [7] (λvi wr=>∃i:Nat,i<=nb/\vi= .int .i64 i/\qK W (.int .i64 1) (.slice Ab nb cb) (.slice A2 0 c2) wr) (λvi _=>nb-(RowKit.intOf vi).toNat);case atStart=>exact⟨0,aL _,rfl,HB0.out⟩
 case round=>
  obtain⟨i,hi,rfl,hB⟩:=hrel;have HB:=ah hB;clear hB;clear y0 y1 y2;have y1:=HB.out.c1;by_cases hlt:i<nb
  ·obtain⟨g,o,rfl,hg,hcell⟩:=HC.out.at_ (by omega);have z:=(HB.out.aN.cell (p:=⟨g,o+i,none⟩) hg).trans (hcell i hlt);obtain⟨x,hx⟩:∃x,cls.getD i 0=x:=⟨_,rfl⟩
   have hm:∀j,j<nb->(cls.map λ(x:Nat)=>(x:Int)).getD j 0=((cls.getD j 0:Nat):Int):=λj hj=>by rw[aG,aG,fq,aS (by rw[HLN.out];exact hj)];rfl
   obtain⟨hx1,_⟩:=HA.out i (by rw[HLN.out];exact hlt);rw[hm i hlt,hx]at z;rw[hx]at hx1;have hd1:decide ((x:Int)<0)=false:=aP (by omega);have hd2:decide ((2147483647:Int)<=x)=false:=aP (by omega);have hii:(i:Int)<nb:=by omega
   have hi0:(0:Int)<=i:=by omega
   have wI:=ah (show wrap64 ((i:Int)+1)=((i+1:Nat):Int)by unfold wrap64;omega);have hn1:¬(x:Int)<0:=by omega
   have hn2:¬(2147483647:Int)<=x:=by omega
   have hn3:¬2147483647<=x:=by omega
   cases i with
   |zero=>have hd3:decide ((0:Int)<((0:Nat):Int))=false:=rfl;have z':wr.cell? ⟨g,o,none⟩=some (.int .i64 (x:Nat)):=z;have alP:(0:Int)<nb:=hii;clear hm hcell hg hx z;go_wp2_with fail;go_quiet (fail);have HBq:=ah (HB.out.frr (Fr.drewN (λ_=>False) wr nq) (λk h=>h.elim));go_wp2_with fail;exact⟨⟨1,by omega,rfl,HBq.out⟩,by simp[RowKit.intOf];omega⟩
   |succ j=>
    have z2:=(HB.out.aN.cell (p:=⟨g,o+j,none⟩) hg).trans (hcell j (by omega));obtain⟨y,hy⟩:∃y,cls.getD j 0=y:=⟨_,rfl⟩
    obtain⟨_,hxy⟩:=HA.out j (by rw[HLN.out];omega);have hxy:=hxy (by rw[HLN.out];exact hlt);rw[hm j (by omega),hy]at z2;rw[hy,hx]at hxy;have hd3:decide ((0:Int)<((j+1:Nat):Int))=true:=aO (by omega);have hd4:decide ((x:Int)<=y)=false:=aP (by omega);have hn4:¬(x:Int)<=y:=by omega
    have hn5:¬x<=y:=by omega
    have hwj:wrap64 (((j+1:Nat):Int)-1)=(j:Int):=by unfold wrap64;omega
    have alQ:IntKind.i64.wrap (((j+1:Nat):Int)-1)=(j:Int):=(IntWalk.i64_left _).trans hwj;have hj0:(0:Int)<=j:=by omega
    have hj1:(j:Int)<nb:=by omega
    clear hm hcell hg hx hy hxy;go_wp2_with fail;go_quiet (fail);have HBq:=ah (HB.out.frr (Fr.drewN (λ_=>False) wr nq) (λk h=>h.elim));go_wp2_with fail;(try rw[wI.out]);exact⟨⟨j+1+1,by omega,rfl,HBq.out⟩,by simp[RowKit.intOf];omega⟩
  ·obtain rfl:i=nb:=by omega
   go_wp2;go_ret;exact⟨rfl,HB.out.aN⟩
mutual
def p9:PT->Bool
 | .node op cls kids=>((op==0&&cls.isEmpty&&kids.isEmpty)||(op==1&&kids.isEmpty&&NU cls)||((op==2||op==3)&&cls.isEmpty&&decide (2<=kids.length))||(op==4&&cls.isEmpty&&kids.length==1))&&decide (kids.length<=1000)&&zn kids
def zn:List PT->Bool
 |[]=>true
 |p::r=>p9 p&&zn r
end
mutual
def kL:PT->Nat
 | .node _ _ kids=>ni kids+1
def ni:List PT->Nat
 |[]=>0
 |p::r=>kL p+ni r
end
theorem RH {op:Nat} {cls:List Nat} {kids:List PT} (h:p9 (.node op cls kids)=true):xQ (.node op cls kids)/\kids.length<=1000/\zn kids=true:=by
 unfold p9 at h;simp only[aQ,dI,cZ,iH,List.isEmpty_iff]at h;obtain⟨⟨h1,hl⟩,h2⟩:=h;refine⟨?_,hl,h2⟩;rcases h1 with((⟨⟨rfl,rfl⟩,rfl⟩|⟨⟨rfl,rfl⟩,hc⟩)|⟨⟨rfl|rfl,rfl⟩,hk⟩)|⟨⟨rfl,rfl⟩,hk⟩
 ·exact abW
 ·exact ab0 cls hc
 ·exact abX kids ⟨hk,hl⟩
 ·exact abY kids ⟨hk,hl⟩
 ·match kids,hk with
  |[p],_=>exact abZ p
def CQ (p:PT):Prop:=∀(a b k:Value) (ahead:Nat) (W:World),dR W a b k p->ahead+kL p<=2000->
 Calls Tryz.prog 282 #[.agg #[a,b,k], .int .i64 2147483647, .int .i64 ahead] W λe w'=>e= .returned (.tuple #[.int .i64 0, .int .i64 (ahead+kL p:Nat)])/\Below W.heap.size W w'
theorem size_cons (p:PT) (r:List PT):ni (p::r)=kL p+ni r:=by rw[ni]
theorem NV (op:Nat) (cls:List Nat) (l:List PT) (aah:xQ (.node op cls l)) (IH:∀q∈l,CQ q) (hl:l.length<=1000):CQ (.node op cls l):=by
 intro a b k ahead W hP hsz;have Jy:=hP;unfold dR at hP;obtain⟨rfl,⟨Ab,nb,cb,rfl,_⟩,A2,c2,rfl,hK⟩:=hP;have HKK:=ah hK;have HIH:=ah IH;have HP:=ah Jy;have HND:=ah aah;obtain⟨S,hS⟩:∃S,ni l=S:=⟨_,rfl⟩
 have hsp:kL (.node op cls l)=S+1:=by rw[kL,hS]
 rw[hsp]at hsz⊢;obtain⟨N,hN⟩:∃N,l.length=N:=⟨_,rfl⟩
 rw[hN]at hl HP⊢;have HN:=ah hN;have HS:=ah hS;have HB0:=ah (qK.start W (.int .i64 (op:Nat)) (.slice Ab nb cb) (.slice A2 N c2));have y0:=HB0.out.c0;have y1:=HB0.out.c1;have y2:=HB0.out.c2;have hah:¬(2048:Int)<=ahead:=by omega
 have HWA:=ah (show wrap64 ((ahead:Int)+1)=((ahead+1:Nat):Int)by unfold wrap64;omega);clear hK IH aah hN hS hsp Jy;go_enter Tryz.func282,Tryz.ntmps282;go_wp2_with (go_at_call 323;refine(HND.out (.int .i64 (op:Nat)) (.slice Ab nb cb) (.slice A2 N c2) _ (HP.out.below HB0.out.aN)).mono ?_;rintro e w2 ⟨rfl,hb⟩;have HB:=ah (HB0.out.go hb);clear hb y0 y1 y2);go_loopw [8,9,10] (λve vn vi wr=>∃i m:Nat,i<=N/\ve= .int .i64 0/\vn= .int .i64 m/\vi= .int .i64 i/\m+ni (l.drop i)=ahead+(S+1)/\qK W (.int .i64 (op:Nat)) (.slice Ab nb cb) (.slice A2 N c2) wr) (λ_ _ vi _=>N-(RowKit.intOf vi).toNat);case atStart=>exact⟨0,ahead+1,aL _,rfl,by first|rw[HWA.out]|rfl,rfl,by rw[List.drop_zero,HS.out];omega,HB.out⟩
 case round=>
  obtain⟨i,m,hi,rfl,rfl,rfl,hm,hB⟩:=hrel;have HB:=ah hB;clear hB;have y2:=HB.out.c2;by_cases hlt:i<N
  ·obtain⟨q,hq⟩:∃q,l[i]? =some q:=⟨l[i]'(by rw[HN.out];exact hlt),aS _⟩
   have hd:l.drop i=q::l.drop (i+1):=by rw[pK (by rw[HN.out];exact hlt)];rw[aS (by rw[HN.out];exact hlt)]at hq;injection hq with hq;rw[hq]
   rw[hd,size_cons]at hm;obtain⟨gk,ok,a0,b1,k0,rfl,hg,z0,z1,z2,hp⟩:=uM (HKK.out.below HB.out.aN) i q hq;simp only[bI]at z0 z1 z2;have HQ:=ah (HIH.out q (pI hq) a0 b1 k0 m wr hp (by omega));have HM:=ah (show m+kL q+ni (l.drop (i+1))=ahead+(S+1)by omega);have hii:(i:Int)<N:=by omega
   have hi0:(0:Int)<=i:=by omega
   have wI:=ah (show wrap64 ((i:Int)+1)=((i+1:Nat):Int)by unfold wrap64;omega);have hdi:decide ((i:Int)<N)=true:=aO hii;clear hp hg hq hd hm;go_wp2_with (go_at_call 282;refine HQ.out.mono ?_;rintro e w3 ⟨rfl,hb⟩;have HB3:=ah (HB.out.go hb);clear hb);(try rw[wI.out]);exact⟨⟨i+1,m+kL q,hlt,rfl,rfl,rfl,HM.out,HB3.out⟩,by simp[RowKit.intOf];omega⟩
  ·obtain rfl:i=N:=by omega
   rw[Ch (by rw[HN.out];exact ay _)]at hm;have HM:=Lib.hid (show m=ahead+(S+1)by simpa[ni]using hm);have hdi:decide ((i:Int)<i)=false:=aP (by omega);clear hm;go_wp2;exact rX (results_tmp2 rfl _ _ _) rfl ⟨by rw[<-HM.out];rfl,HB.out.aN⟩
mutual
theorem GJ:∀p:PT,p9 p=true->CQ p
 | .node op cls kids,h=>by obtain⟨h1,h2,h3⟩:=RH h;exact NV op cls kids h1 (EP kids h3) h2
theorem EP:∀l:List PT,zn l=true->∀q∈l,CQ q
 |[],_,q,hq=>by cases hq
 |p::r,h,q,hq=>by
  unfold zn at h;rw[aQ]at h;rcases aR.1 hq with e|hq;·rw[e];exact GJ p h.1
  ·exact EP r h.2 q hq
end
theorem RI (p:PT) (hg:p9 p=true) (hs:kL p<=2000) (a b k:Value) (W:World) (hP:dR W a b k p):Calls Tryz.prog 237 #[.agg #[a,b,k], .int .i64 2147483647] W λe w'=>e= .returned (.int .i64 0)/\Below W.heap.size W w':=by
 have Jy:=hP;cases p with
 |node op cls kids=>
 unfold dR at hP;obtain⟨rfl,⟨Ab,nb,cb,rfl,_⟩,A2,c2,rfl,_⟩:=hP;have HB0:=ah (qK.start W (.int .i64 (op:Nat)) (.slice Ab nb cb) (.slice A2 kids.length c2));have y0:=HB0.out.c0;have y1:=HB0.out.c1;have y2:=HB0.out.c2;have HC:=ah (GJ _ hg _ _ _ 0 _ (Jy.below HB0.out.aN) (by omega));go_enter Tryz.func237,Tryz.ntmps237;go_wp2_with (go_at_call 282;refine HC.out.mono ?_;rintro e w2 ⟨rfl,hb⟩;have HB:=ah (HB0.out.go hb);clear hb);go_ret;exact⟨rfl,HB.out.aN⟩
theorem zo (p:PT) (hg:p9 p=true) (hs:kL p<=2000) (a b k:Value) (W:World) (hP:dR W a b k p):Calls Tryz.prog 180 #[.agg #[a,b,k]] W λe w'=>e= .returned (.bool true)/\Below W.heap.size W w':=by
 have Jy:=hP;cases p with
 |node op cls kids=>
 unfold dR at hP;obtain⟨rfl,⟨Ab,nb,cb,rfl,_⟩,A2,c2,rfl,_⟩:=hP;have HB0:=ah (qK.start W (.int .i64 (op:Nat)) (.slice Ab nb cb) (.slice A2 kids.length c2));have y0:=HB0.out.c0;have y1:=HB0.out.c1;have y2:=HB0.out.c2;have HC:=ah (RI _ hg hs _ _ _ _ (Jy.below HB0.out.aN));go_enter Tryz.func180,Tryz.ntmps180;go_wp2_with (go_at_call 237;refine HC.out.mono ?_;rintro e w2 ⟨rfl,hb⟩;have HB:=ah (HB0.out.go hb);clear hb);go_ret;exact⟨rfl,HB.out.aN⟩
end
section
open Je (PT bit rows)
def upF (f:Nat->Bool) (k:Nat):List Int:=((List.range k).filter f).map λ(x:Nat)=>(x:Int)
theorem up_succ (f:Nat->Bool) (k:Nat):upF f (k+1)=upF f k++if f k=true then[(k:Int)]else[]:=by
 unfold upF;rw[List.range_succ,List.filter_append,List.map_append];congr 1;by_cases c:f k=true;·simp[c]
 ·simp[c]
theorem up_mem (f:Nat->Bool) (k i:Nat):((i:Nat):Int)∈upF f k↔i<k/\f i=true:=by
 unfold upF;simp only[bX,kg,nO];constructor
 ·rintro⟨x,h,e⟩;obtain rfl:x=i:=by omega
  exact h
 ·intro h;exact⟨i,h,rfl⟩
theorem up_len (f:Nat->Bool) (k:Nat):(upF f k).length<=k:=by unfold upF;rw[bM];exact bF (List.length_filter_le _ _) (by rw[mq];exact ay _)
def jB (p:PT) (c:List Int):List Int:=upF (λi=>bit (rows p c) i c.length) (c.length+1)
def Aw (p:PT) (c:List Int):List Int:=upF (λi=>bit (rows p c) 0 i) (c.length+1)
theorem RJ (p:PT) (hg:p9 p=true) (ho:NT p=true) (hsz:kL p<=2000) (c:List Int) (a b k:Value) (A:Option Addr) (n cc:Nat) (W:World) (hP:dR W a b k p) (hI:dx W A n c) (h64:n+1<64):
 Calls Tryz.prog 181 #[.agg #[a,b,k], .slice A n cc] W (jO (jB p c) W):=by
 have Jy:=hP;obtain⟨op,cls,kids⟩:=p;unfold dR at hP;obtain⟨rfl,⟨Ab,nb,cb,rfl,_⟩,A2,c2,rfl,_⟩:=hP;obtain⟨p,hp⟩:∃p,PT.node op cls kids=p:=⟨_,rfl⟩
 rw[hp]at Jy hg ho hsz⊢;obtain⟨N,hN⟩:∃N,kids.length=N:=⟨_,rfl⟩
 rw[hN]at Jy⊢;clear hp hN;have HB0:=ah (qK.start W (.int .i64 (op:Nat)) (.slice Ab nb cb) (.slice A2 N c2));have y0:=HB0.out.c0;have y1:=HB0.out.c1;have y2:=HB0.out.c2;have HI:=ah hI;have HG:=ah (zo p hg hsz _ _ _ _ (Jy.below HB0.out.aN));have HL:=ah (λ(w:World) (hb:Below W.heap.size W w)=>EO p ho c _ _ _ A n cc w (Jy.below hb) (ig HI.out hb) h64);have hF:jB p c=upF (λi=>bit (rows p c) i n) (n+1):=by unfold jB;rw[hI.len]
 obtain⟨f,hf⟩:∃f:Nat->Bool,(λi=>bit (rows p c) i n)=f:=⟨_,rfl⟩
 rw[hF,hf];have HFI:=ah (λi=>show bit (rows p c) i n=f i by rw[<-hf]);obtain⟨i0,hI0,hz0,hz1,hz2⟩:=gW lY;clear hI Jy hg ho hsz hF hf;go_enter Tryz.func181,Tryz.ntmps181;go_wp2_with (first
  |(go_at_call 180;refine HG.out.mono ?_;rintro e w2 ⟨rfl,hb⟩;have HB2:=ah (HB0.out.go hb);clear hb y0 y1 y2;have y0:=HB2.out.c0;have y1:=HB2.out.c1;have y2:=HB2.out.c2)
  |(go_at_call 238;refine(HL.out _ HB2.out.aN).mono ?_;rintro e w3 ⟨g,d,bb,rfl,hR,hb⟩;have HR:=ah hR;have HB3:=ah (HB2.out.go hb);clear hb hR y0 y1 y2;have h0p:=HR.out.pos;have z0:=HR.out.cell 0 h0p.1))
 go_loopw [6,7] (λvo vi wr=>∃(i m:Nat) (Ao:Option Addr) (co:Nat),i<=n+1/\m<=i/\vi= .int .i64 i/\vo= .slice Ao m co/\IA w3 (.slice Ao m co) m (upF f i) wr) (λ_ vi _=>n+1-(RowKit.intOf vi).toNat);case atStart=>exact⟨0,0,none,0,aL _,ay _,rfl,rfl,IA.nil w3⟩
 case round=>
  obtain⟨i,m,Ao,co,hi,V5,rfl,rfl,hA⟩:=hrel;have HA:=ah hA;clear hA;by_cases hlt:i<=n
  ·have HRw:=ah (HR.out.below HA.out.aN);have z:=HRw.out.cell i (by omega);have BD:=up_succ f i;obtain⟨q,hq⟩:∃q,f i=q:=⟨_,rfl⟩
   rw[hq]at BD;have xP:=ah (CJ (bb i) ((rows p c).getD i 0) n wr (HRw.out.wd i (by omega)) (by omega));rw[show((rows p c).getD i 0).testBit n=q from(HFI.out i).trans hq]at xP;have hii:(i:Int)<=n:=by omega
   have hii2:(i:Int)<(n:Int)+1:=by omega
   have hi0:(0:Int)<=i:=by omega
   have wI:=ah (show wrap64 ((i:Int)+1)=((i+1:Nat):Int)by unfold wrap64;omega);have HLEN:=ah (NK (show m<=100000 by omega));have HMI:=ah V5;clear hq V5;cases q with
   |true=>
    have V6:=ah (show upF f (i+1)=upF f i++[(i:Int)]by rw[BD,au rfl]);clear BD;go_wp2_with (first
     |(go_at_call 239;refine xP.out.mono ?_;rintro e w4 ⟨rfl,rfl⟩)
     |(at_builtin;refine eD _ rfl (.tmp 27) (.tmp 29) 41 rfl w3.heap.size 3 i0 _ 8 Tryz.underlying41 hI0 hz0 hz1 hz2 rfl (.slice Ao m co) m (dF (upF f i)) rfl HA.out.kE _ 1 1 [.int .i64 i] rfl (gX _ _ _) (by simp[Value.oneCell']) HLEN.out.1 HLEN.out.2 (by rw[World.size_alloc];have:=HA.out.aN.size;omega) ?_;intro v' wp ho hg hn;obtain⟨B1,d1,rfl,_⟩:=bA ho;have Fe:=Lib.hid (HA.out.grow ho hg);clear ho hg hn))
    (try rw[wI.out]);exact⟨⟨i+1,m+1,_,_,by omega,Nat.succ_le_succ HMI.out,rfl,rfl,by rw[V6.out];exact Fe.out⟩,by simp[RowKit.intOf];omega⟩
   |false=>have V6:=ah (show upF f (i+1)=upF f i by rw[BD,aj (by decide),ji]);clear BD;go_wp2_with (go_at_call 239;refine xP.out.mono ?_;rintro e w4 ⟨rfl,rfl⟩);(try rw[wI.out]);exact⟨⟨i+1,m,_,_,by omega,Nat.le_succ_of_le HMI.out,rfl,rfl,by rw[V6.out];exact HA.out⟩,by simp[RowKit.intOf];omega⟩
  ·obtain rfl:i=n+1:=by omega
   have HM:=ah (show m<=100000 by omega);have hii:¬((n+1:Nat):Int)<=n:=by omega
   clear V5;go_wp2;go_ret;exact⟨Ao,m,co,rfl,kF HA.out.own HM.out,HB3.out.aN.trans (HA.out.aN.mono HB3.out.aN.size)⟩
theorem Y1 (p:PT) (hg:p9 p=true) (ho:NT p=true) (hsz:kL p<=2000) (c:List Int) (a b k:Value) (A:Option Addr) (n cc:Nat) (W:World) (hP:dR W a b k p) (hI:dx W A n c) (h64:n+1<64):
 Calls Tryz.prog 182 #[.agg #[a,b,k], .slice A n cc] W (jO (Aw p c) W):=by
 have Jy:=hP;obtain⟨op,cls,kids⟩:=p;unfold dR at hP;obtain⟨rfl,⟨Ab,nb,cb,rfl,_⟩,A2,c2,rfl,_⟩:=hP;obtain⟨p,hp⟩:∃p,PT.node op cls kids=p:=⟨_,rfl⟩
 rw[hp]at Jy hg ho hsz⊢;obtain⟨N,hN⟩:∃N,kids.length=N:=⟨_,rfl⟩
 rw[hN]at Jy⊢;clear hp hN;have HB0:=ah (qK.start W (.int .i64 (op:Nat)) (.slice Ab nb cb) (.slice A2 N c2));have y0:=HB0.out.c0;have y1:=HB0.out.c1;have y2:=HB0.out.c2;have HI:=ah hI;have HG:=ah (zo p hg hsz _ _ _ _ (Jy.below HB0.out.aN));have HL:=ah (λ(w:World) (hb:Below W.heap.size W w)=>EO p ho c _ _ _ A n cc w (Jy.below hb) (ig HI.out hb) h64);have hF:Aw p c=upF (λi=>bit (rows p c) 0 i) (n+1):=by unfold Aw;rw[hI.len]
 obtain⟨f,hf⟩:∃f:Nat->Bool,(λi=>bit (rows p c) 0 i)=f:=⟨_,rfl⟩
 rw[hF,hf];have HFI:=ah (λi=>show bit (rows p c) 0 i=f i by rw[<-hf]);obtain⟨i0,hI0,hz0,hz1,hz2⟩:=gW lY;clear hI Jy hg ho hsz hF hf;go_enter Tryz.func182,Tryz.ntmps182;go_wp2_with (first
  |(go_at_call 180;refine HG.out.mono ?_;rintro e w2 ⟨rfl,hb⟩;have HB2:=ah (HB0.out.go hb);clear hb y0 y1 y2;have y0:=HB2.out.c0;have y1:=HB2.out.c1;have y2:=HB2.out.c2)
  |(go_at_call 238;refine(HL.out _ HB2.out.aN).mono ?_;rintro e w3 ⟨g,d,bb,rfl,hR,hb⟩;have HR:=ah hR;have HB3:=ah (HB2.out.go hb);clear hb hR y0 y1 y2;have h0p:=HR.out.pos;have z0:=HR.out.cell 0 h0p.1))
 go_loopw [6,7] (λvo vi wr=>∃(i m:Nat) (Ao:Option Addr) (co:Nat),i<=n+1/\m<=i/\vi= .int .i64 i/\vo= .slice Ao m co/\IA w3 (.slice Ao m co) m (upF f i) wr) (λ_ vi _=>n+1-(RowKit.intOf vi).toNat);case atStart=>exact⟨0,0,none,0,aL _,ay _,rfl,rfl,IA.nil w3⟩
 case round=>
  obtain⟨i,m,Ao,co,hi,V5,rfl,rfl,hA⟩:=hrel;have HA:=ah hA;clear hA;by_cases hlt:i<=n
  ·have HRw:=ah (HR.out.below HA.out.aN);have z:=HRw.out.cell i (by omega);have BD:=up_succ f i;obtain⟨q,hq⟩:∃q,f i=q:=⟨_,rfl⟩
   rw[hq]at BD;have xP:=ah (CJ (bb 0) ((rows p c).getD 0 0) i wr (HRw.out.wd 0 (by omega)) (by omega));rw[show((rows p c).getD 0 0).testBit i=q from(HFI.out i).trans hq]at xP;have hii:(i:Int)<=n:=by omega
   have hii2:(i:Int)<(n:Int)+1:=by omega
   have hi0:(0:Int)<=i:=by omega
   have wI:=ah (show wrap64 ((i:Int)+1)=((i+1:Nat):Int)by unfold wrap64;omega);have HLEN:=ah (NK (show m<=100000 by omega));have HMI:=ah V5;clear hq V5;cases q with
   |true=>
    have V6:=ah (show upF f (i+1)=upF f i++[(i:Int)]by rw[BD,au rfl]);clear BD;go_wp2_with (first
     |(go_at_call 239;refine xP.out.mono ?_;rintro e w4 ⟨rfl,rfl⟩)
     |(at_builtin;refine eD _ rfl (.tmp 25) (.tmp 27) 41 rfl w3.heap.size 3 i0 _ 8 Tryz.underlying41 hI0 hz0 hz1 hz2 rfl (.slice Ao m co) m (dF (upF f i)) rfl HA.out.kE _ 1 1 [.int .i64 i] rfl (gX _ _ _) (by simp[Value.oneCell']) HLEN.out.1 HLEN.out.2 (by rw[World.size_alloc];have:=HA.out.aN.size;omega) ?_;intro v' wp ho hg hn;obtain⟨B1,d1,rfl,_⟩:=bA ho;have Fe:=Lib.hid (HA.out.grow ho hg);clear ho hg hn))
    (try rw[wI.out]);exact⟨⟨i+1,m+1,_,_,by omega,Nat.succ_le_succ HMI.out,rfl,rfl,by rw[V6.out];exact Fe.out⟩,by simp[RowKit.intOf];omega⟩
   |false=>have V6:=ah (show upF f (i+1)=upF f i by rw[BD,aj (by decide),ji]);clear BD;go_wp2_with (go_at_call 239;refine xP.out.mono ?_;rintro e w4 ⟨rfl,rfl⟩);(try rw[wI.out]);exact⟨⟨i+1,m,_,_,by omega,Nat.le_succ_of_le HMI.out,rfl,rfl,by rw[V6.out];exact HA.out⟩,by simp[RowKit.intOf];omega⟩
  ·obtain rfl:i=n+1:=by omega
   have HM:=ah (show m<=100000 by omega);have hii:¬((n+1:Nat):Int)<=n:=by omega
   clear V5;go_wp2;go_ret;exact⟨Ao,m,co,rfl,kF HA.out.own HM.out,HB3.out.aN.trans (HA.out.aN.mono HB3.out.aN.size)⟩
