/- SearchEach, walked: the document's patterns. -/
import Derived.Test.YtocaiijbhepnnaaGreatDoorHB
import Derived.Test.YtocaiijbhepnnaaGreatDoorFP
import Derived.IntWalk
import Derived.Laws.BitsAllLaws
import Derived.Test.YtocaiijbhepnnaaGreatDoorFJ
import Derived.BigQuiet
import Derived.Deep.RegionLaw
import Derived.Test.YtocaiijbhepnnaaGreatDoorGA
set_option maxRecDepth 100000
set_option maxHeartbeats 8000000
namespace Go.Proofs.YtocaiijbhepnnaaGreatDoor.searchEach
open Go.Shelf Go.RowKit Go.Lib Go.Proofs.YtocaiijbhepnnaaGreatDoor.Am
def Wd (w:World) (b x:Nat):Prop:=w.heap[b]? =some (.cells #[.int .u64 (x:Int)] 308 (0,0))∧x<18446744073709551616
def lV (b:Nat):Value:= .slice (some ⟨b,0,none⟩) 1 1
theorem Wd.cell {w:World} {b x:Nat} (h:Wd w b x):w.cell? ⟨b,0,none⟩=some (.int .u64 (x:Int)):=(bC w b 0 _ _ _ h.1).trans rfl
theorem Wd.fr {T:Nat→Prop} {w w':World} {b x:Nat} (h:Wd w b x) (hf:Fr T w w') (hn:¬T b):Wd w' b x:=⟨hf.blk h.1 hn,h.2⟩
theorem Wd.below {w w':World} {b x:Nat} (h:Wd w b x) (hb:Below w.heap.size w w'):Wd w' b x:=⟨bM hb h.1,h.2⟩
theorem Wd.lt {w:World} {b x:Nat} (h:Wd w b x):b<w.heap.size:=bZ h.1
theorem acE (x i:Nat) (hx:x<18446744073709551616):(bits .and .u64 ((x:Int)/2^i) 1==1)=x.testBit i:=by
 have e:((x:Int)/2^i)=((x/2^i:Nat):Int):=by simp
 have h1:x/2^i<18446744073709551616:=Nat.lt_of_le_of_lt (Nat.div_le_self _ _) hx;rw[e,show(1:Int)=((1:Nat):Int)from rfl,u64_and_nat _ 1 h1 (by decide),Nat.and_one_is_mod,Nat.testBit_eq_decide_div_mod_eq];have h2:x/2^i%2<2:=Nat.mod_lt _ (by decide);by_cases c:x/2^i%2=1;·rw[c];rfl
 ·rw[show x/2^i%2=0 by omega];rfl
theorem EM (b x i:Nat) (W:World) (h:Wd W b x) (hi:i<64):Calls Tryz.prog 239 #[lV b, .int .i64 i] W fun e w'=>e= .returned (.bool (x.testBit i))∧w'=W:=by
 have hc:=h.cell;have HX:=ah h.2;unfold lV;have h0:(i:Int)/64=0:=by omega
 have h1:(i:Int)%64=i:=by omega
 clear h;go_enter Tryz.func239,Tryz.ntmps239;go_wp2;go_ret;exact⟨by rw[←acE x i HX.out];rfl,rfl⟩
def QU (b x:Nat) (W:World) (e:Ending) (w':World):Prop:=e= .returned (.tuple #[])∧Fr (fun k=>k=b) W w'∧Wd w' b x
theorem fr_set (w:World) (b:Nat) (v:Value):Fr (fun k=>k=b) w (w.setCell ⟨b,0,none⟩ v):=Fr.set _ _ _ (fun _=>rfl)
theorem ad5 {x y:Nat} (hx:x<18446744073709551616) (hy:y<18446744073709551616):x|||y<18446744073709551616:=Nat.or_lt_two_pow (n:=64) hx hy
theorem Zp {i:Nat} (h:i<64):1<<<i<18446744073709551616:=by rw[Nat.one_shiftLeft];exact Nat.pow_lt_pow_right (a:=2) (by decide) (show i<64 from h)
theorem Wd.set {w:World} {b x y:Nat} (h:Wd w b x) (hy:y<18446744073709551616):Wd (w.setCell ⟨b,0,none⟩ (.int .u64 (y:Int))) b y:=⟨by rw[tT w b 0 _ _ _ h.1];rfl,hy⟩
theorem Tg (b x i:Nat) (W:World) (h:Wd W b x) (hi:i<64):Calls Tryz.prog 284 #[lV b, .int .i64 i] W (QU b (x|||1<<<i) W):=by
 have hc:=h.cell;have HX:=ah h.2;have HH:=ah h;have hfz:W.frozen? ⟨b,0,none⟩=false:=by simp[World.frozen?,h.1]
 unfold lV;have h0:(i:Int)/64=0:=by omega
 have h1:(i:Int)%64=i:=by omega
 clear h;go_enter Tryz.func284,Tryz.ntmps284;go_wp2;refine bodyPost_end (results_none rfl _ _ _) rfl ⟨rfl,?_,?_⟩;·exact Fr.set _ _ _ (fun _=>rfl)
 ·have e:bits .or .u64 (x:Int) (IntKind.u64.wrap (2^i))=((x|||1<<<i:Nat):Int):=by
   have:=Zp hi;rw[Nat.one_shiftLeft]at this⊢;rw[show((2:Int)^i)=((2^i:Nat):Int)by simp];generalize 2^i=p at*
   rw[IntWalk.u64_in _ ⟨by omega,by omega⟩,u64_or_nat _ _ HX.out this]
  rw[e];exact HH.out.set (ad5 HX.out (Zp hi))
theorem EN (b c x y:Nat) (W:World) (h:Wd W b x) (h':Wd W c y):Calls Tryz.prog 324 #[lV b,lV c] W (QU b (x|||y) W):=by
 have hc:=h.cell;have hc':=h'.cell;have HX:=ah h.2;have HY:=ah h'.2;have HH:=ah h;have HH':=ah h';have hfz:W.frozen? ⟨b,0,none⟩=false:=by simp[World.frozen?,h.1]
 unfold lV;clear h h';go_enter Tryz.func324,Tryz.ntmps324;go_wp2;go_loopw [4] (fun vi wr=>(vi= .int .i64 0∧wr=W)∨(vi= .int .i64 1∧Fr (fun k=>k=b) W wr∧Wd wr b (x|||y))) (fun vi _=>1-(RowKit.intOf vi).toNat);case atStart=>exact .inl ⟨rfl,rfl⟩
 case round=>
  rcases hrel with⟨rfl,rfl⟩|⟨rfl,hf,hw⟩
  ·go_wp2;go_region;all_goals go_wp2
   rw[u64_or_nat _ _ HX.out HY.out];exact⟨.inr ⟨rfl,(fr_set _ _ _).trans (Fr.drew _ _),HH.out.set (ad5 HX.out HY.out)⟩,by simp[RowKit.intOf]⟩
  ·have HF:=ah hf;have HW:=ah hw;go_wp2;exact bodyPost_end (results_none rfl _ _ _) rfl ⟨rfl,HF.out,HW.out⟩
section
open KX (bit jg kF iO iX pQ)
theorem Zq:(Tryz.prog.info? 292).map (fun i=>(i.zero,i.size,i.bytes))=some (some (.slice none 0 0),1,24):=by kernel_rfl
theorem u64_info:(Tryz.prog.info? 308).map (fun i=>(i.zero,i.size,i.bytes))=some (some (.int .u64 0),1,8):=by kernel_rfl
theorem Zr (w:World):(Instr.makeSlice 292 (.int .i64 1) (.int .i64 1)).run Tryz.prog w= .ok (.slice (some ⟨w.heap.size,0,none⟩) 1 1) (w.alloc (.cells #[.int .u64 0] 308)):=by obtain⟨i,hi,hz0,hz1,hz2⟩:=dY u64_info;have h:=run_makeSlice w 292 308 i _ Tryz.underlying292 hi hz0 .i64 .i64 1 1 (by decide) (by decide) (by rw[hz1];decide) (by rw[hz2];decide) (by decide);rw[hz1,show madeCells (Value.int .u64 0).cells ((1:Int).toNat*1)=#[.int .u64 0]by simp[madeCells,Value.cells];exact⟨0,rfl,rfl⟩]at h;exact h
structure NS (W:World) (v:Value) (k:Nat) (bs:List Nat) (w:World):Prop where
 aB:Below W.heap.size W w
 len:bs.length=k
 own:w.ownsRow W.heap.size 292 1 v k (bs.map lV)
 wd:∀x∈bs,Wd w x 0∧W.heap.size≤x
 nd:bs.Nodup
theorem NS.nil (W:World):NS W (.slice none 0 0) 0 [] W:=⟨aF _ _,rfl,⟨rfl, .inl ⟨rfl,rfl⟩⟩,fun x h=>(by cases h),List.nodup_nil⟩
theorem NS.grow {W w w':World} {v v':Value} {k:Nat} {bs:List Nat} {o:Obj} (h:NS W v k bs w) (ho:w'.ownsRow W.heap.size 292 1 v' (k+1) (bs.map lV++[lV w.heap.size])) (hg:((w.alloc (.cells #[.int .u64 0] 308)).alloc o).grownBy w' v.ownBlock):NS W v' (k+1) (bs++[w.heap.size]) w':=by
 have hb1:Below w.heap.size w (w.alloc (.cells #[.int .u64 0] 308)):=(aF _ w).alloc (ay _) _;have hb:Below w.heap.size w ((w.alloc (.cells #[.int .u64 0] 308)).alloc o):=hb1.alloc (by simp) _;have hne:∀{x:Nat},Wd ((w.alloc (.cells #[.int .u64 0] 308)).alloc o) x 0→v.ownBlock≠some x:=fun{x} hx c=>by obtain⟨_,_,cur,hc⟩:=bD (own_below hb h.own) c;rw[hx.1]at hc;injection hc with hc;injection hc with _ hc;exact absurd hc (by decide)
 have keep:∀{x:Nat},Wd ((w.alloc (.cells #[.int .u64 0] 308)).alloc o) x 0→Wd w' x 0:=fun{x} hx=>⟨by rw[hg.block x (bZ hx.1) (fun c=>hne hx (by first|exact c|exact c.symm))];exact hx.1,hx.2⟩
 refine⟨(h.aB.trans (hb.mono h.aB.size)).grown hg (aQ h.aB.size hb.size) (fun j hj=>(bD h.own hj).1),by rw[bf,h.len];rfl,by rw[Av];exact ho,?_,?_⟩
 ·intro x hx;rcases jk.1 hx with hx|hx
  ·exact⟨keep ((h.wd x hx).1.below hb),(h.wd x hx).2⟩
  ·obtain rfl:=fE.1 hx;refine⟨keep ⟨?_,by decide⟩,h.aB.size⟩;exact(tV _ _ _ (by simp)).trans (dh w _)
 ·rw[List.nodup_append];refine⟨h.nd,by simp,fun x hx y hy=> ?_⟩;obtain rfl:=fE.1 hy;have:=(h.wd x hx).1.lt;omega
structure BH (w:World) (B g:Nat) (b:Nat→Nat) (n:Nat) (M:List Nat):Prop where
 len:M.length=n
 pos:0<n∧n<64
 og:B≤g∧g<w.heap.size
 cell:∀i,i<n→w.cell? ⟨g,i,none⟩=some (lV (b i))
 low:∀i,i<n→B≤b i∧b i≠g
 wd:∀i,i<n→Wd w (b i) (M.getD i 0)
 inj:∀i j,i<n→j<n→b i=b j→i=j
def xU (n:Nat) (M:List Nat) (W:World) (e:Ending) (w':World):Prop:=∃g c b,e= .returned (.slice (some ⟨g,0,none⟩) n c)∧BH w' W.heap.size g b n M∧Below W.heap.size W w'
section
variable {w w':World} {B g n:Nat} {b:Nat→Nat} {M:List Nat}
theorem BH.below (h:BH w B g b n M) (hb:Below w.heap.size w w'):BH w' B g b n M:=
 ⟨h.len,h.pos,⟨h.og.1,bH h.og.2 hb.size⟩,fun i hi=>(hb.cell (p:=⟨g,i,none⟩) h.og.2).trans (h.cell i hi),h.low,fun i hi=>(h.wd i hi).below hb,h.inj⟩
theorem BH.set (h:BH w B g b n M) {i x:Nat} (hi:i<n) (hf:Fr (fun k=>k=b i) w w') (hx:Wd w' (b i) x):BH w' B g b n (M.set i x):=by
 refine⟨by rw[List.length_set];exact h.len,h.pos,⟨h.og.1,bH h.og.2 hf.size⟩,fun j hj=>(hf.cell (p:=⟨g,j,none⟩) h.og.2 (fun c=>(h.low i hi).2 c.symm)).trans (h.cell j hj),h.low,fun j hj=> ?_,h.inj⟩;rw[aM,List.getElem?_set];by_cases c:i=j;·subst c;rw[ak rfl,ak (by rw[h.len];exact hi)];exact hx
 ·rw[aj c,←aM];exact(h.wd j hj).fr hf (fun e=>c (h.inj i j hi hj e.symm))
theorem BH.fr {T:Nat→Prop} (h:BH w B g b n M) (hf:Fr T w w') (hT:∀k,T k→k<B):BH w' B g b n M:=
 ⟨h.len,h.pos,⟨h.og.1,bH h.og.2 hf.size⟩,fun i hi=>(hf.cell (p:=⟨g,i,none⟩) h.og.2 (fun c=>absurd (hT _ c) (Nat.not_lt.2 h.og.1))).trans (h.cell i hi),h.low,fun i hi=>(h.wd i hi).fr hf (fun c=>absurd (hT _ c) (Nat.not_lt.2 (h.low i hi).1)),h.inj⟩
end
theorem NS.rws {W w:World} {g k c:Nat} {bs:List Nat} (h:NS W (.slice (some ⟨g,0,none⟩) k c) k bs w) (h0:0<k) (h64:k<64):BH w W.heap.size g (fun i=>bs.getD i 0) k (jg k):=by
 have hl:=bD h.own (g:=g) rfl;have hm:∀i,i<k→bs.getD i 0∈bs:=fun i hi=>by rw[aM,aY (by rw[h.len];exact hi)];exact mG _
 refine⟨Ar,⟨h0,h64⟩,⟨hl.1,hl.2.1⟩,fun i hi=> ?_,fun i hi=>⟨(h.wd _ (hm i hi)).2,fun c=> ?_⟩,fun i hi=> ?_,fun i j hi hj e=> ?_⟩
 ·have:=qD (g:=g) h.own rfl i (lV (bs.getD i 0)) (by
   rw[fF,aY (by rw[h.len];exact hi),aM,aY (by rw[h.len];exact hi)];rfl)
  rwa [gX,bK]at this
 ·obtain⟨_,_,cur,hc⟩:=hl;have:=(h.wd _ (hm i hi)).1.1;rw[show bs.getD i 0=g from c,hc]at this;injection this with this;injection this with _ this;exact absurd this (by decide)
 ·have:=(h.wd _ (hm i hi)).1;rwa [show(jg k).getD i 0=0 by unfold jg;rw[aM,List.getElem?_replicate,ak hi];rfl]
 ·rw[aM,aM,aY (by rw[h.len];exact hi),aY (by rw[h.len];exact hj)]at e;exact(List.getElem_inj h.nd).1 e
theorem vS (n:Nat) (W:World) (h0:0<n) (h64:n<64):Calls Tryz.prog 283 #[.int .i64 n] W (xU n (jg n) W):=by
 have hd:(n:Int)/64=0:=by omega
 obtain⟨i0,hI0,hz0,hz1,hz2⟩:=dY Zq;go_enter Tryz.func283,Tryz.ntmps283;go_wp2;go_loopw [3,4] (fun vo vi wr=>∃(k:Nat) (A:Option Addr) (c:Nat) (bs:List Nat),k≤n∧vi= .int .i64 k∧vo= .slice A k c∧NS W (.slice A k c) k bs wr) (fun _ vi _=>n-(RowKit.intOf vi).toNat);case atStart=>exact⟨0,none,0,[],aH _,rfl,rfl,NS.nil W⟩
 case round=>
  obtain⟨k,A,c,bs,hk,rfl,rfl,hN⟩:=hrel;have HN:=ah hN;clear hN;by_cases hlt:k<n
  ·have hki:(k:Int)<n:=by omega
   have hwk:wrap64 ((k:Int)+1)=((k+1:Nat):Int):=by unfold wrap64;omega
   have j5:=ah hwk;have HL:=ah (show k+1≤maxLen∧(k+1)*24≤140737488355328 by exact⟨by simp only[maxLen];omega,by omega⟩);clear hwk;have hmk:=Zr;go_wp2_with (at_builtin;(refine aT _ rfl (.tmp 10) (.tmp 15) 289 rfl W.heap.size 292 i0 _ 24 Tryz.underlying289 hI0 hz0 hz1 hz2 rfl (.slice A k c) k (bs.map lV) rfl (dN (dN HN.out.own)) _ 1 1 [.slice (some ⟨wr.heap.size,0,none⟩) 1 1] rfl (YF _ _ _ _ (by simp)) (by simp[Value.oneCell']) HL.out.1 HL.out.2 (by rw[World.size_alloc,World.size_alloc];have:=HN.out.aB.size;omega) ?_);intro v' wp ho hg hn;obtain⟨B1,d1,rfl,_⟩:=aL ho;have ny:=Lib.hid (HN.out.grow ho hg);clear ho hg hn);(try rw[j5.out]);exact⟨⟨k+1,_,_,_,hlt,rfl,rfl,ny.out⟩,by simp[RowKit.intOf];omega⟩
  ·obtain rfl:k=n:=by omega
   obtain⟨g,rfl⟩:=rQ HN.out.own h0;go_wp2;go_ret;exact⟨g,c,_,rfl,HN.out.rws h0 h64,HN.out.aB⟩
end
section
open KX (bit jg kF iO iX pQ nO jL lN)
theorem jc {W w w1:World} {T:Nat→Prop} (h:Below W.heap.size W w) (hf:Fr T w w1) (hT:∀k,T k→W.heap.size≤k):Below W.heap.size W w1:=
 ⟨hf.os.trans h.os,hf.tape.trans h.tape,hf.output.trans h.output,aQ h.size hf.size,fun k hk=>(hf.block k (bH hk h.size) (fun c=>by have:=hT k c;omega)).trans (h.block k hk)⟩
theorem Bj {n i:Nat} {f:Nat→Nat} (hi:i<n) (x:Nat):((List.range n).map f).set i x=(List.range n).map fun j=>if j=i then x else f j:=by
 refine zI fun j=> ?_;rw[List.getElem?_set,fF,fF];by_cases c:i=j;·subst c;simp[hi]
 ·rw[aj c];rcases aK j n with h|h
  ·rw[wH h];simp;exact fun e=>absurd e.symm c
  ·rw[sM (by simpa using h)];rfl
theorem Bl {n i:Nat} {f:Nat→Nat} (hi:i<n):((List.range n).map f).getD i 0=f i:=by rw[aM,fF,wH hi];rfl
theorem dL {n:Nat} {f g:Nat→Nat} (h:∀j,j<n→f j=g j):(List.range n).map f=(List.range n).map g:=List.map_congr_left fun j hj=>h j (lF.1 hj)
theorem Bn (n:Nat):jg n=(List.range n).map fun _=>0:=by unfold jg;rw[List.map_const',nI]
def Ol (n i:Nat):List Nat:=(List.range n).map fun j=>if j<i then 1<<<j else 0
theorem Vv (n:Nat):Ol n 0=jg n:=by rw[Bn];exact dL fun _ _=>aj (iN _)
theorem Zt (n:Nat):Ol n n=kF n:=dL fun _ hj=>ak hj
theorem Zu {n i:Nat} (hi:i<n):(Ol n i).getD i 0=0:=by unfold Ol;rw[Bl hi,aj (dA i)]
theorem Zv {n i:Nat} (hi:i<n):(Ol n i).set i (0|||1<<<i)=Ol n (i+1):=by
 unfold Ol;rw[Bj hi];refine dL fun j _=> ?_;by_cases c:j=i;·subst c;rw[ak rfl,ak (kD j),Nat.zero_or]
 ·rw[aj c];by_cases d:j<i
  ·rw[ak d,ak (by omega)]
  ·rw[aj d,aj (by omega)]
theorem Lg (n:Nat) (W:World) (h0:0<n) (h64:n<64):Calls Tryz.prog 285 #[.int .i64 n] W (xU n (kF n) W):=by
 have HN:=ah (fun w=>vS n w h0 h64);go_enter Tryz.func285,Tryz.ntmps285;go_wp2_with (go_at_call 283;refine(HN.out _).mono ?_;rintro e w1 ⟨g,c,b,rfl,hR,hb⟩;have HR:=ah hR;have HB:=ah hb;clear hR hb);go_loopw [4] (fun vi wr=>∃i:Nat,i≤n∧vi= .int .i64 i∧BH wr W.heap.size g b n (Ol n i)∧Below W.heap.size W wr) (fun vi _=>n-(RowKit.intOf vi).toNat);case atStart=>exact⟨0,aH _,rfl,by rw[Vv];exact HR.out,HB.out⟩
 case round=>
  obtain⟨i,hi,rfl,hR,hb⟩:=hrel;have HR:=ah hR;have HB:=ah hb;clear hR hb;by_cases hlt:i<n
  ·have hii:(i:Int)<n:=by omega
   have hc:=HR.out.cell i hlt;have hw:=HR.out.wd i hlt;rw[Zu hlt]at hw;have HW:=ah hw;have qU:=ah (show wrap64 ((i:Int)+1)=((i+1:Nat):Int)by unfold wrap64;omega);clear hw;go_wp2_with (go_at_call 284;refine(Tg (b i) 0 i _ HW.out (by omega)).mono ?_;rintro e w2 ⟨rfl,hf,hw⟩;have HR2:=ah (HR.out.set hlt hf hw);have HB2:=ah (jc HB.out hf (fun k e=>e▸(HR.out.low i hlt).1));clear hf hw);(try rw[qU.out]);exact⟨⟨i+1,hlt,rfl,by rw[←Zv hlt];exact HR2.out,HB2.out⟩,by simp[RowKit.intOf];omega⟩
  ·obtain rfl:i=n:=by omega
   go_wp2;go_ret;exact⟨g,c,b,rfl,by rw[←Zt];exact HR.out,HB.out⟩
def Dz (A B:List Nat) (n i:Nat):List Nat:=(List.range n).map fun j=>if j<i then A.getD j 0|||B.getD j 0 else 0
theorem QV (A B:List Nat) (n:Nat):Dz A B n 0=jg n:=by rw[Bn];exact dL fun _ _=>aj (iN _)
theorem Vw (A B:List Nat) (n:Nat) (h:A.length=n):Dz A B n n=iO A B:=by unfold iO;rw[h];exact dL fun _ hj=>ak hj
theorem Vx {A B:List Nat} {n i:Nat} (hi:i<n):(Dz A B n i).getD i 0=0:=by unfold Dz;rw[Bl hi,aj (dA i)]
theorem Vy {A B:List Nat} {n i:Nat} (hi:i<n):((Dz A B n i).set i (0|||A.getD i 0)).set i ((0|||A.getD i 0)|||B.getD i 0)=Dz A B n (i+1):=by
 rw[List.set_set];unfold Dz;rw[Bj hi];refine dL fun j _=> ?_;by_cases c:j=i;·subst c;rw[ak rfl,ak (kD j),Nat.zero_or]
 ·rw[aj c];by_cases d:j<i
  ·rw[ak d,ak (by omega)]
  ·rw[aj d,aj (by omega)]
theorem Om (A B:List Nat) (n B1 g1 c1 B2 g2 c2:Nat) (b1 b2:Nat→Nat) (W:World) (h1:BH W B1 g1 b1 n A) (h2:BH W B2 g2 b2 n B):
 Calls Tryz.prog 287 #[.slice (some ⟨g1,0,none⟩) n c1, .slice (some ⟨g2,0,none⟩) n c2] W (xU n (iO A B) W):=by
 obtain⟨h0,h64⟩:=h1.pos;have HN:=ah (fun w=>vS n w h0 h64);have H1:=ah h1;have H2:=ah h2;clear h1 h2;go_enter Tryz.func287,Tryz.ntmps287;go_wp2_with (go_at_call 283;refine(HN.out _).mono ?_;rintro e w1 ⟨g,c,b,rfl,hR,hb⟩;have HR:=ah hR;have HB:=ah hb;clear hR hb);go_loopw [6] (fun vi wr=>∃i:Nat,i≤n∧vi= .int .i64 i∧BH wr W.heap.size g b n (Dz A B n i)∧Below W.heap.size W wr) (fun vi _=>n-(RowKit.intOf vi).toNat);case atStart=>exact⟨0,aH _,rfl,by rw[QV];exact HR.out,HB.out⟩
 case round=>
  obtain⟨i,hi,rfl,hR,hb⟩:=hrel;have HR:=ah hR;have HB:=ah hb;clear hR hb;by_cases hlt:i<n
  ·have hii:(i:Int)<n:=by omega
   have hi0:(0:Int)≤i:=by omega
   have hc:=HR.out.cell i hlt;have hw:=HR.out.wd i hlt;rw[Vx hlt]at hw;have HW:=ah hw;have K1:=ah (H1.out.below HB.out);have hd:=K1.out.cell i hlt;have qU:=ah (show wrap64 ((i:Int)+1)=((i+1:Nat):Int)by unfold wrap64;omega);have HRd:=ah (HR.out.fr (Fr.drew (fun _=>False) wr) (fun k h=>h.elim));have EO:=ah (jc HB.out (Fr.drew (fun _=>False) wr) (fun k h=>h.elim));have HWd:=ah (show Wd wr.drew (b i) 0 from hw);have HVd:=ah (show Wd wr.drew (b1 i) (A.getD i 0)from K1.out.wd i hlt);clear hw;go_wp2_with fail;go_region_law (go_simp;refine(EN (b i) (b1 i) 0 (A.getD i 0) _ HWd.out HVd.out).mono ?_;rintro e w2 ⟨rfl,hf,hw⟩;have HR2:=Lib.hid (HRd.out.set hlt hf hw);have HB2:=Lib.hid (jc EO.out hf (fun k e=>e▸(HR.out.low i hlt).1));have HW2:=Lib.hid hw;clear hf hw;dsimp only);all_goals (
    have hc2:=HR2.out.cell i hlt;have K2:=ah (H2.out.below HB2.out);have hd2:=K2.out.cell i hlt;have HRe:=ah (HR2.out.fr (Fr.drew (fun _=>False) w2) (fun k h=>h.elim));have HBe:=ah (jc HB2.out (Fr.drew (fun _=>False) w2) (fun k h=>h.elim));have HWe:=ah (show Wd w2.drew (b i) (0|||A.getD i 0)from HW2.out);have HVe:=ah (show Wd w2.drew (b2 i) (B.getD i 0)from K2.out.wd i hlt))
   all_goals go_wp2_with fail
   all_goals (go_region_law (go_simp;refine(EN (b i) (b2 i) (0|||A.getD i 0) (B.getD i 0) _ HWe.out HVe.out).mono ?_;rintro e w3 ⟨rfl,hf,hw⟩;have HR3:=Lib.hid (HRe.out.set hlt hf hw);have HB3:=Lib.hid (jc HBe.out hf (fun k e=>e▸(HR.out.low i hlt).1));clear hf hw;dsimp only))
   all_goals go_wp2_with fail
   all_goals (try rw[qU.out])
   all_goals exact⟨⟨i+1,hlt,rfl,by rw[←Vy hlt];exact HR3.out,HB3.out⟩,by simp[RowKit.intOf];omega⟩
  ·obtain rfl:i=n:=by omega
   go_wp2;go_ret;exact⟨g,c,b,rfl,by rw[←Vw _ _ _ H1.out.len];exact HR.out,HB.out⟩
end
section
open KX (bit jg kF iO iX pQ nO jL lN)
def Bo (A B:List Nat) (n i k:Nat):List Nat:=(List.range n).map fun j=>if j<i then nO (A.getD j 0) B n else if j=i then nO (A.getD i 0) B k else 0
theorem Vz (A B:List Nat) (n:Nat):Bo A B n 0 0=jg n:=by rw[Bn];refine dL fun j _=> ?_;rw[aj (iN j)];split<;>rfl
theorem VA (A B:List Nat) (n i:Nat):Bo A B n i n=Bo A B n (i+1) 0:=by
 refine dL fun j _=> ?_;rcases kW j i with c|rfl|c;·rw[ak c,ak (by omega)]
 ·rw[aj (dA j),ak rfl,ak (kD j)]
 ·rw[aj (by omega),aj (by omega),aj (by omega)];split<;>rfl
theorem Zw (A B:List Nat) (n:Nat) (h:A.length=n):Bo A B n n 0=iX A B:=by unfold iX;rw[h];exact dL fun _ hj=>ak hj
theorem Zx {A B:List Nat} {n i k:Nat} (hi:i<n):(Bo A B n i k).getD i 0=nO (A.getD i 0) B k:=by unfold Bo;rw[Bl hi,aj (dA i),ak rfl]
theorem Zy {A B:List Nat} {n i k:Nat} (hi:i<n) (h:(A.getD i 0).testBit k=true):(Bo A B n i k).set i (nO (A.getD i 0) B k|||B.getD k 0)=Bo A B n i (k+1):=by
 unfold Bo;rw[Bj hi];refine dL fun j _=> ?_;by_cases c:j=i;·subst c;rw[ak rfl,aj (dA j),ak rfl,nO,ak h]
 ·rw[aj c];by_cases d:j<i
  ·rw[ak d,ak d]
  ·rw[aj d,aj c,aj d,aj c]
theorem acF {A B:List Nat} {n i k:Nat} (h:(A.getD i 0).testBit k=false):Bo A B n i k=Bo A B n i (k+1):=by
 unfold Bo;refine dL fun j _=> ?_;by_cases c:j=i;·subst c;rw[aj (dA j),ak rfl,aj (dA j),ak rfl,nO,aj (by rw[h];decide)]
 ·rw[aj c,aj c]
theorem QW (A B:List Nat) (n B1 g1 c1 B2 g2 c2:Nat) (b1 b2:Nat→Nat) (W:World) (h1:BH W B1 g1 b1 n A) (h2:BH W B2 g2 b2 n B):
 Calls Tryz.prog 286 #[.slice (some ⟨g1,0,none⟩) n c1, .slice (some ⟨g2,0,none⟩) n c2] W (xU n (iX A B) W):=by
 obtain⟨h0,h64⟩:=h1.pos;have HN:=ah (fun w=>vS n w h0 h64);have H1:=ah h1;have H2:=ah h2;clear h1 h2;go_enter Tryz.func286,Tryz.ntmps286;go_wp2_with (go_at_call 283;refine(HN.out _).mono ?_;rintro e w1 ⟨g,c,b,rfl,hR,hb⟩;have HR:=ah hR;have HB:=ah hb;clear hR hb);go_loopw [7,8] (fun vi _ wr=>∃i:Nat,i≤n∧vi= .int .i64 i∧BH wr W.heap.size g b n (Bo A B n i 0)∧Below W.heap.size W wr) (fun vi _ _=>n-(RowKit.intOf vi).toNat);case atStart=>exact⟨0,aH _,rfl,by rw[Vz];exact HR.out,HB.out⟩
 case round=>
  obtain⟨i,hi,rfl,hR,hb⟩:=hrel;have HR:=ah hR;have HB:=ah hb;clear hR hb;by_cases hlt:i<n
  ·have hii:(i:Int)<n:=by omega
   have hi0:(0:Int)≤i:=by omega
   have qU:=ah (show wrap64 ((i:Int)+1)=((i+1:Nat):Int)by unfold wrap64;omega);go_wp2_with fail;go_hide hQ;go_loopw [8] (fun vk wr=>∃k:Nat,k≤n∧vk= .int .i64 k∧BH wr W.heap.size g b n (Bo A B n i k)∧Below W.heap.size W wr) (fun vk _=>n-(RowKit.intOf vk).toNat);case atStart=>exact⟨0,aH _,rfl,HR.out,HB.out⟩
   case round=>
    obtain⟨k,hk,rfl,hR,hb⟩:=hrel;have HR:=ah hR;have HB:=ah hb;clear hR hb;by_cases hkl:k<n
    ·have hkk:(k:Int)<n:=by omega
     have hk0:(0:Int)≤k:=by omega
     have j5:=ah (show wrap64 ((k:Int)+1)=((k+1:Nat):Int)by unfold wrap64;omega);have K1:=ah (H1.out.below HB.out);have hd:=K1.out.cell i hlt;have hc:=HR.out.cell i hlt;have K2:=ah (H2.out.below HB.out);have hd2:=K2.out.cell k hkl;obtain⟨q,hq⟩:∃q,(A.getD i 0).testBit k=q:=⟨_,rfl⟩
     have HQ:=ah hq;have zk:=ah (EM (b1 i) (A.getD i 0) k wr (K1.out.wd i hlt) (by omega));rw[hq]at zk;clear hq;cases q with
     |true=>
      have hw:=HR.out.wd i hlt;rw[Zx hlt]at hw;have HRd:=ah (HR.out.fr (Fr.drew (fun _=>False) wr) (fun k h=>h.elim));have EO:=ah (jc HB.out (Fr.drew (fun _=>False) wr) (fun k h=>h.elim));have HWd:=ah (show Wd wr.drew (b i) (nO (A.getD i 0) B k)from hw);have HVd:=ah (show Wd wr.drew (b2 k) (B.getD k 0)from K2.out.wd k hkl);clear hw;go_upto_region 10 with(go_at_call 239;refine zk.out.mono ?_;rintro e w2 ⟨rfl,rfl⟩)
      subst hQ;go_region_law (go_simp;refine(EN (b i) (b2 k) (nO (A.getD i 0) B k) (B.getD k 0) _ HWd.out HVd.out).mono ?_;rintro e w3 ⟨rfl,hf,hw⟩;have HR3:=Lib.hid (HRd.out.set hlt hf hw);have HB3:=Lib.hid (jc EO.out hf (fun k e=>e▸(HR.out.low i hlt).1));clear hf hw;dsimp only);all_goals go_wp2_with fail
      all_goals (try rw[j5.out])
      all_goals exact⟨⟨k+1,hkl,rfl,by rw[←Zy hlt HQ.out];exact HR3.out,HB3.out⟩,by simp[RowKit.intOf];omega⟩
     |false=>go_wp2_with (go_at_call 239;refine zk.out.mono ?_;rintro e w2 ⟨rfl,rfl⟩);(try rw[j5.out]);exact⟨⟨k+1,hkl,rfl,by rw[←acF HQ.out];exact HR.out,HB.out⟩,by simp[RowKit.intOf];omega⟩
    ·obtain rfl:k=n:=by omega
     go_wp2_with fail;subst hQ;go_wp2_with fail;(try rw[qU.out]);exact⟨⟨i+1,hlt,rfl,by rw[←VA];exact HR.out,HB.out⟩,by simp[RowKit.intOf];omega⟩
  ·obtain rfl:i=n:=by omega
   go_wp2;go_ret;exact⟨g,c,b,rfl,by rw[←Zw _ _ _ H1.out.len];exact HR.out,HB.out⟩
theorem BH.base {w:World} {B B' g n:Nat} {b:Nat→Nat} {M:List Nat} (h:BH w B g b n M) (hB:B'≤B):BH w B' g b n M:=
 ⟨h.len,h.pos,⟨aQ hB h.og.1,h.og.2⟩,h.cell,fun i hi=>⟨aQ hB (h.low i hi).1,(h.low i hi).2⟩,h.wd,h.inj⟩
theorem QX (M:List Nat) (k m:Nat):jL M k (m+1)=if bit (jL M k m) m k=true then(jL M k m).set m ((jL M k m).getD m 0|||(jL M k m).getD k 0)else jL M k m:=rfl
theorem Zz (A:List Nat) (n B1 g1 c1:Nat) (b1:Nat→Nat) (W:World) (h1:BH W B1 g1 b1 n A):
 Calls Tryz.prog 288 #[.slice (some ⟨g1,0,none⟩) n c1] W (xU n (pQ A) W):=by
 obtain⟨h0,h64⟩:=h1.pos;have HN:=ah (fun w=>Lg n w h0 h64);have H1:=ah h1;clear h1;obtain⟨M,hM⟩:∃M,iO A (kF n)=M:=⟨_,rfl⟩
 have HMM:=ah hM;have HE:=ah (show pQ A=lN M n n by unfold pQ;rw[H1.out.len,hM]);clear hM;go_enter Tryz.func288,Tryz.ntmps288;go_wp2_with (first
  |(go_at_call 285;refine(HN.out _).mono ?_;rintro e w1 ⟨g0,c0,b0,rfl,hR,hb⟩;have Vi:=ah hR;have HB0:=ah hb;have K1:=ah (H1.out.below hb);clear hR hb)
  |(go_at_call 287;refine(Om A (kF n) n _ _ _ _ _ _ _ _ _ K1.out Vi.out).mono ?_;rintro e w2 ⟨g,c,b,rfl,hR,hb⟩;rw[HMM.out]at hR;have HB:=ah (HB0.out.trans (hb.mono HB0.out.size));have HS:=ah HB0.out.size;have HR:=ah hR;clear hR hb))
 go_loopw [5,6] (fun vk _ wr=>∃k:Nat,k≤n∧vk= .int .i64 k∧BH wr w1.heap.size g b n (lN M n k)∧Below W.heap.size W wr) (fun vk _ _=>n-(RowKit.intOf vk).toNat);case atStart=>exact⟨0,aH _,rfl,HR.out,HB.out⟩
 case round=>
  obtain⟨k,hk,rfl,hR,hb⟩:=hrel;have HR:=ah hR;have HB:=ah hb;clear hR hb;by_cases hlt:k<n
  ·have hkk:(k:Int)<n:=by omega
   have hk0:(0:Int)≤k:=by omega
   have j5:=ah (show wrap64 ((k:Int)+1)=((k+1:Nat):Int)by unfold wrap64;omega);go_wp2_with fail;go_hide hQ;go_loopw [6] (fun vi wr=>∃i:Nat,i≤n∧vi= .int .i64 i∧BH wr w1.heap.size g b n (jL (lN M n k) k i)∧Below W.heap.size W wr) (fun vi _=>n-(RowKit.intOf vi).toNat);case atStart=>exact⟨0,aH _,rfl,HR.out,HB.out⟩
   case round=>
    obtain⟨i,hi,rfl,hR,hb⟩:=hrel;have HR:=ah hR;have HB:=ah hb;clear hR hb;by_cases hil:i<n
    ·have hii:(i:Int)<n:=by omega
     have hi0:(0:Int)≤i:=by omega
     have qU:=ah (show wrap64 ((i:Int)+1)=((i+1:Nat):Int)by unfold wrap64;omega);have hst:=QX (lN M n k) k i;obtain⟨S,hS⟩:∃S,jL (lN M n k) k i=S:=⟨_,rfl⟩
     rw[hS]at HR hst;have hc:=HR.out.cell i hil;have hc2:=HR.out.cell k hlt;obtain⟨q,hq⟩:∃q,bit S i k=q:=⟨_,rfl⟩
     rw[hq]at hst;have HST:=ah hst;have zk:=ah (EM (b i) (S.getD i 0) k wr (HR.out.wd i hil) (by omega));rw[show(S.getD i 0).testBit k=q from hq]at zk;clear hq hS hst;cases q with
     |true=>
      have HS2:=ah (HST.out.trans (ak rfl));clear HST;have HRd:=ah (HR.out.fr (Fr.drew (fun _=>False) wr) (fun k h=>h.elim));have EO:=ah (jc HB.out (Fr.drew (fun _=>False) wr) (fun k h=>h.elim));have HWd:=ah (show Wd wr.drew (b i) (S.getD i 0)from HR.out.wd i hil);have HVd:=ah (show Wd wr.drew (b k) (S.getD k 0)from HR.out.wd k hlt);go_upto_region 10 with(go_at_call 239;refine zk.out.mono ?_;rintro e w2 ⟨rfl,rfl⟩)
      subst hQ;go_region_law (go_simp;refine(EN (b i) (b k) (S.getD i 0) (S.getD k 0) _ HWd.out HVd.out).mono ?_;rintro e w3 ⟨rfl,hf,hw⟩;have HR3:=Lib.hid (HRd.out.set hil hf hw);have HB3:=Lib.hid (jc EO.out hf (fun k e=>e▸Nat.le_trans HS.out (HR.out.low i hil).1));clear hf hw;dsimp only);all_goals go_wp2_with fail
      all_goals (try rw[qU.out])
      all_goals exact⟨⟨i+1,hil,rfl,by rw[HS2.out];exact HR3.out,HB3.out⟩,by simp[RowKit.intOf];omega⟩
     |false=>have HS2:=ah (HST.out.trans (aj (by decide)));clear HST;go_wp2_with (go_at_call 239;refine zk.out.mono ?_;rintro e w2 ⟨rfl,rfl⟩);(try rw[qU.out]);exact⟨⟨i+1,hil,rfl,by rw[HS2.out];exact HR.out,HB.out⟩,by simp[RowKit.intOf];omega⟩
    ·obtain rfl:i=n:=by omega
     go_wp2_with fail;subst hQ;go_wp2_with fail;(try rw[j5.out]);exact⟨⟨k+1,hlt,rfl,HR.out,HB.out⟩,by simp[RowKit.intOf];omega⟩
  ·obtain rfl:k=n:=by omega
   go_wp2;go_ret;exact⟨g,c,b,rfl,by rw[HE.out];exact HR.out.base HS.out,HB.out⟩
end
section
open KX (PT bit jg kF iO iX pQ KY Cw rows uH U8 firstR)
mutual
def eX (w:World):Value→Value→Value→PT→Prop
 |a,b,k, .node op cls kids=>a= .int .i64 (op:Nat)∧(∃A n c,b= .slice A n c∧bQ w A n (cls.map fun(x:Nat)=>(x:Int)))∧∃A c,k= .slice A kids.length c∧mM w A 0 kids
def mM (w:World) (A:Option Addr):Nat→List PT→Prop
 |_,[]=>True
 |i,p::r=>(∃g o a b k,A=some ⟨g,o,none⟩∧g<w.heap.size∧w.cell? ⟨g,o+i*3,none⟩=some a∧w.cell? ⟨g,o+i*3+1,none⟩=some b∧w.cell? ⟨g,o+i*3+2,none⟩=some k∧eX w a b k p)∧mM w A (i+1) r
end
mutual
theorem eX.below {w w':World} (hb:Below w.heap.size w w'):∀{p:PT} {a b k:Value},eX w a b k p→eX w' a b k p
 | .node op cls kids,a,b,k,h=>by unfold eX at h⊢;obtain⟨h1,⟨A,n,c,h2,h3⟩,A2,c2,h4,h5⟩:=h;exact⟨h1,⟨A,n,c,h2,dO h3 hb⟩,A2,c2,h4,mM.below hb h5⟩
theorem mM.below {w w':World} (hb:Below w.heap.size w w'):∀{l:List PT} {A:Option Addr} {i:Nat},mM w A i l→mM w' A i l
 |[],_,_,_=>trivial
 |p::r,A,i,h=>by unfold mM at h⊢;obtain⟨⟨g,o,a,b,k,h1,h2,h3,h4,h5,h6⟩,h7⟩:=h;exact⟨⟨g,o,a,b,k,h1,bH h2 hb.size,(hb.cell (p:=⟨g,o+i*3,none⟩) h2).trans h3,(hb.cell (p:=⟨g,o+i*3+1,none⟩) h2).trans h4,(hb.cell (p:=⟨g,o+i*3+2,none⟩) h2).trans h5,eX.below hb h6⟩,mM.below hb h7⟩
end
theorem vT {w:World} {A:Option Addr}:∀{l:List PT} {i:Nat},mM w A i l→∀j q,l[j]? =some q→∃g o a b k,A=some ⟨g,o,none⟩∧g<w.heap.size∧w.cell? ⟨g,o+(i+j)*3,none⟩=some a∧w.cell? ⟨g,o+(i+j)*3+1,none⟩=some b∧w.cell? ⟨g,o+(i+j)*3+2,none⟩=some k∧eX w a b k q
 |[],_,_,_,_,hq=>by cases hq
 |p::r,i,h,0,q,hq=>by unfold mM at h;cases hq;exact h.1
 |p::r,i,h,j+1,q,hq=>by unfold mM at h;have:=vT h.2 j q hq;rwa [show i+1+j=i+(j+1)by omega]at this
mutual
def QY:PT→Bool
 | .node op _ kids=>(op==0||op==1||op==2||op==3||(op==4&&kids.length==1))&&decide (kids.length≤1000)&&Ti kids
def Ti:List PT→Bool
 |[]=>true
 |p::r=>QY p&&Ti r
end
structure sD (W:World) (a b k:Value) (w:World):Prop where
 aB:Below W.heap.size W w
 o:w.heap[W.heap.size]? =some (.cells #[a,b,k] 201 (0,0))
theorem sD.go {W w w':World} {a b k:Value} (h:sD W a b k w) (hb:Below w.heap.size w w'):sD W a b k w':=⟨h.aB.trans (hb.mono h.aB.size),bM hb h.o⟩
theorem sD.frr {W w w':World} {a b k:Value} {T:Nat→Prop} (h:sD W a b k w) (hf:Fr T w w') (hT:∀k,T k→W.heap.size<k):sD W a b k w':=⟨jc h.aB hf (fun k hk=>dJ (hT k hk)),hf.blk h.o (fun c=>dA _ (hT _ c))⟩
theorem sD.start (W:World) (a b k:Value):sD W a b k (W.alloc (.cells #[a,b,k] 201)):=⟨(aF _ W).alloc (ay _) _,dh W _⟩
theorem sD.c0 {W w:World} {a b k:Value} (h:sD W a b k w):w.cell? ⟨W.heap.size,0,none⟩=some a:=(bC w W.heap.size 0 _ _ _ h.o).trans rfl
theorem sD.c1 {W w:World} {a b k:Value} (h:sD W a b k w):w.cell? ⟨W.heap.size,1,none⟩=some b:=(bC w W.heap.size 1 _ _ _ h.o).trans rfl
theorem sD.c2 {W w:World} {a b k:Value} (h:sD W a b k w):w.cell? ⟨W.heap.size,2,none⟩=some k:=(bC w W.heap.size 2 _ _ _ h.o).trans rfl
theorem sD.size {W w:World} {a b k:Value} (h:sD W a b k w):W.heap.size<w.heap.size:=bZ h.o
def mX (p:PT):Prop:=∀(c:List Int) (a b k:Value) (A:Option Addr) (n cc:Nat) (W:World),eX W a b k p→bQ W A n c→n+1<64→
 Calls Tryz.prog 238 #[.agg #[a,b,k], .slice A n cc] W (xU (n+1) (rows p c) W)
theorem ajf (cls:List Nat) (kids:List PT) (c:List Int):rows (.node 0 cls kids) c=kF (c.length+1):=by rw[rows];rfl
theorem ajg (cls:List Nat) (kids:List PT) (c:List Int):rows (.node 1 cls kids) c=KY cls c:=by rw[rows];rfl
theorem ajh (cls:List Nat) (kids:List PT) (c:List Int):rows (.node 2 cls kids) c=uH kids c (kF (c.length+1)):=by rw[rows];rfl
theorem aji (cls:List Nat) (kids:List PT) (c:List Int):rows (.node 3 cls kids) c=U8 kids c (jg (c.length+1)):=by rw[rows];rfl
theorem ajj (cls:List Nat) (p:PT) (c:List Int):rows (.node 4 cls [p]) c=pQ (rows p c):=by rw[rows,firstR];rfl
theorem acG (cls:List Nat) (kids:List PT):mX (.node 0 cls kids):=by intro c a b k A n cc W hP hI h64;unfold eX at hP;obtain⟨ha,_⟩:=hP;obtain rfl:a= .int .i64 0:=ha;rw[ajf,hI.len];have HB0:=ah (sD.start W (.int .i64 0) b k);have y0:=HB0.out.c0;have HWN:=ah (show wrap64 ((n:Int)+1)=((n+1:Nat):Int)by unfold wrap64;omega);have HO:=ah (fun w=>Lg (n+1) w (wI n) h64);clear hI;go_enter Tryz.func238,Tryz.ntmps238;go_wp2_with (go_at_call 285;refine(HO.out _).mono ?_;rintro e w2 ⟨g,c2,b2,rfl,hR,hb⟩;have HR:=ah (hR.base (dJ HB0.out.size));have HB:=ah (HB0.out.go hb);clear hR hb);go_ret;exact⟨g,c2,b2,rfl,HR.out,HB.out.aB⟩
theorem acH (cls:List Nat) (p:PT) (IH:mX p):mX (.node 4 cls [p]):=by
 intro c a b k A n cc W hP hI h64;unfold eX at hP;obtain⟨ha,_,A2,c2,rfl,hK⟩:=hP;obtain rfl:a= .int .i64 4:=ha;have HKK:=ah hK;have HI:=ah hI;have HIH:=ah IH;rw[ajj];have HB0:=ah (sD.start W (.int .i64 4) b (.slice A2 1 c2));have y0:=HB0.out.c0;have y2:=HB0.out.c2;have HWN:=ah (show wrap64 ((n:Int)+1)=((n+1:Nat):Int)by unfold wrap64;omega);obtain⟨g,og,a0,b0,k0,rfl,hg,z0,z1,z2,hp⟩:=vT (HKK.out.below HB0.out.aB) 0 p rfl;have HP:=ah hp;simp only[ko,cZ]at z0 z1 z2;clear hI hK IH hp hg;go_enter Tryz.func238,Tryz.ntmps238;go_wp2_with (first
  |(go_at_call 238;refine(HIH.out c a0 b0 k0 A n cc _ HP.out (dO HI.out HB0.out.aB) h64).mono ?_;rintro e w2 ⟨g2,d2,b2,rfl,hR,hb⟩;have HR:=ah hR;have HB:=ah (HB0.out.go hb);clear hR hb)
  |(go_at_call 288;refine(Zz _ _ _ _ _ _ _ HR.out).mono ?_;rintro e w3 ⟨g3,d3,b3,rfl,hR,hb⟩;have HR3:=ah (hR.base (aQ (dJ HB.out.size) (ay _)));have HB3:=ah (HB.out.go hb);clear hR hb))
 go_ret;exact⟨g3,d3,b3,rfl,HR3.out,HB3.out.aB⟩
theorem acI (cls:List Nat) (l:List PT) (IH:∀q∈l,mX q) (hl:l.length≤1000):mX (.node 2 cls l):=by
 intro c a b k A n cc W hP hI h64;unfold eX at hP;obtain⟨ha,_,A2,c2,rfl,hK⟩:=hP;obtain rfl:a= .int .i64 2:=ha;have HKK:=ah hK;have HI:=ah hI;have HIH:=ah IH;rw[ajh,hI.len];obtain⟨N,hN⟩:∃N,l.length=N:=⟨_,rfl⟩
 rw[hN]at hl⊢;have HN:=ah hN;have HB0:=ah (sD.start W (.int .i64 2) b (.slice A2 N c2));have y0:=HB0.out.c0;have HWN:=ah (show wrap64 ((n:Int)+1)=((n+1:Nat):Int)by unfold wrap64;omega);have HO:=ah (fun w=>Lg (n+1) w (wI n) h64);clear hI hK IH hN;go_enter Tryz.func238,Tryz.ntmps238;go_wp2_with (go_at_call 285;refine(HO.out _).mono ?_;rintro e w2 ⟨g0,d0,b0,rfl,hR,hb⟩;have HR:=ah (hR.base (dJ HB0.out.size));have HB:=ah (HB0.out.go hb);clear hR hb y0);go_loopw [8,9] (fun vo vi wr=>∃(i:Nat) (acc:List Nat) (g d:Nat) (bb:Nat→Nat),i≤N∧vi= .int .i64 i∧vo= .slice (some ⟨g,0,none⟩) (n+1) d∧BH wr W.heap.size g bb (n+1) acc∧uH (l.drop i) c acc=uH l c (kF (n+1))∧sD W (.int .i64 2) b (.slice A2 N c2) wr) (fun _ vi _=>N-(RowKit.intOf vi).toNat);case atStart=>exact⟨0,_,g0,d0,b0,aH _,rfl,rfl,HR.out,rfl,HB.out⟩
 case round=>
  obtain⟨i,acc,g,d,bb,hi,rfl,rfl,hR,hl2,hB⟩:=hrel;have HR:=ah hR;have HB:=ah hB;clear hR hB;have y2:=HB.out.c2;by_cases hlt:i<N
  ·obtain⟨q,hq⟩:∃q,l[i]? =some q:=⟨l[i]'(by rw[HN.out];exact hlt),aY _⟩
   have hd:l.drop i=q::l.drop (i+1):=by rw[oV (by rw[HN.out];exact hlt)];rw[aY (by rw[HN.out];exact hlt)]at hq;injection hq with hq;rw[hq]
   rw[hd]at hl2;have HL2:=ah (show uH (l.drop (i+1)) c (iX acc (rows q c))=uH l c (kF (n+1))from hl2);obtain⟨gk,ok,a0,b1,k0,rfl,hg,z0,z1,z2,hp⟩:=vT (HKK.out.below HB.out.aB) i q hq;have HP:=ah hp;have HQ:=ah (HIH.out q (sO hq));simp only[bK]at z0 z1 z2;have hii:(i:Int)<N:=by omega
   have hi0:(0:Int)≤i:=by omega
   have qU:=ah (show wrap64 ((i:Int)+1)=((i+1:Nat):Int)by unfold wrap64;omega);clear hp hg hq hd hl2;go_wp2_with (first
    |(go_at_call 238;refine(HQ.out c a0 b1 k0 A n cc _ HP.out (dO HI.out HB.out.aB) h64).mono ?_;rintro e w3 ⟨g3,d3,b3,rfl,hR3,hb⟩;have HR3:=ah hR3;have HB3:=ah (HB.out.go hb);have HRo:=ah (HR.out.below hb);clear hR3 hb)
    |(go_at_call 286;refine(QW acc (rows q c) (n+1) _ _ _ _ _ _ _ _ _ HRo.out HR3.out).mono ?_;rintro e w4 ⟨g4,d4,b4,rfl,hR4,hb⟩;have HR4:=ah (hR4.base (dJ HB3.out.size));have Ea:=ah (HB3.out.go hb);clear hR4 hb))
   (try rw[qU.out]);exact⟨⟨i+1,_,g4,d4,b4,hlt,rfl,rfl,HR4.out,HL2.out,Ea.out⟩,by simp[RowKit.intOf];omega⟩
  ·obtain rfl:i=N:=by omega
   rw[nK (by rw[HN.out];exact ay _)]at hl2;have HL2:=ah (show acc=uH l c (kF (n+1))from hl2);clear hl2;go_wp2;go_ret;exact⟨g,d,bb,rfl,by rw[←HL2.out];exact HR.out,HB.out.aB⟩
theorem acJ (cls:List Nat) (l:List PT) (IH:∀q∈l,mX q) (hl:l.length≤1000):mX (.node 3 cls l):=by
 intro c a b k A n cc W hP hI h64;unfold eX at hP;obtain⟨ha,_,A2,c2,rfl,hK⟩:=hP;obtain rfl:a= .int .i64 3:=ha;have HKK:=ah hK;have HI:=ah hI;have HIH:=ah IH;rw[aji,hI.len];obtain⟨N,hN⟩:∃N,l.length=N:=⟨_,rfl⟩
 rw[hN]at hl⊢;have HN:=ah hN;have HB0:=ah (sD.start W (.int .i64 3) b (.slice A2 N c2));have y0:=HB0.out.c0;have HWN:=ah (show wrap64 ((n:Int)+1)=((n+1:Nat):Int)by unfold wrap64;omega);have HO:=ah (fun w=>vS (n+1) w (wI n) h64);clear hI hK IH hN;go_enter Tryz.func238,Tryz.ntmps238;go_wp2_with (go_at_call 283;refine(HO.out _).mono ?_;rintro e w2 ⟨g0,d0,b0,rfl,hR,hb⟩;have HR:=ah (hR.base (dJ HB0.out.size));have HB:=ah (HB0.out.go hb);clear hR hb y0);go_loopw [10,11] (fun vo vi wr=>∃(i:Nat) (acc:List Nat) (g d:Nat) (bb:Nat→Nat),i≤N∧vi= .int .i64 i∧vo= .slice (some ⟨g,0,none⟩) (n+1) d∧BH wr W.heap.size g bb (n+1) acc∧U8 (l.drop i) c acc=U8 l c (jg (n+1))∧sD W (.int .i64 3) b (.slice A2 N c2) wr) (fun _ vi _=>N-(RowKit.intOf vi).toNat);case atStart=>exact⟨0,_,g0,d0,b0,aH _,rfl,rfl,HR.out,rfl,HB.out⟩
 case round=>
  obtain⟨i,acc,g,d,bb,hi,rfl,rfl,hR,hl2,hB⟩:=hrel;have HR:=ah hR;have HB:=ah hB;clear hR hB;have y2:=HB.out.c2;by_cases hlt:i<N
  ·obtain⟨q,hq⟩:∃q,l[i]? =some q:=⟨l[i]'(by rw[HN.out];exact hlt),aY _⟩
   have hd:l.drop i=q::l.drop (i+1):=by rw[oV (by rw[HN.out];exact hlt)];rw[aY (by rw[HN.out];exact hlt)]at hq;injection hq with hq;rw[hq]
   rw[hd]at hl2;have HL2:=ah (show U8 (l.drop (i+1)) c (iO acc (rows q c))=U8 l c (jg (n+1))from hl2);obtain⟨gk,ok,a0,b1,k0,rfl,hg,z0,z1,z2,hp⟩:=vT (HKK.out.below HB.out.aB) i q hq;have HP:=ah hp;have HQ:=ah (HIH.out q (sO hq));simp only[bK]at z0 z1 z2;have hii:(i:Int)<N:=by omega
   have hi0:(0:Int)≤i:=by omega
   have qU:=ah (show wrap64 ((i:Int)+1)=((i+1:Nat):Int)by unfold wrap64;omega);clear hp hg hq hd hl2;go_wp2_with (first
    |(go_at_call 238;refine(HQ.out c a0 b1 k0 A n cc _ HP.out (dO HI.out HB.out.aB) h64).mono ?_;rintro e w3 ⟨g3,d3,b3,rfl,hR3,hb⟩;have HR3:=ah hR3;have HB3:=ah (HB.out.go hb);have HRo:=ah (HR.out.below hb);clear hR3 hb)
    |(go_at_call 287;refine(Om acc (rows q c) (n+1) _ _ _ _ _ _ _ _ _ HRo.out HR3.out).mono ?_;rintro e w4 ⟨g4,d4,b4,rfl,hR4,hb⟩;have HR4:=ah (hR4.base (dJ HB3.out.size));have Ea:=ah (HB3.out.go hb);clear hR4 hb))
   (try rw[qU.out]);exact⟨⟨i+1,_,g4,d4,b4,hlt,rfl,rfl,HR4.out,HL2.out,Ea.out⟩,by simp[RowKit.intOf];omega⟩
  ·obtain rfl:i=N:=by omega
   rw[nK (by rw[HN.out];exact ay _)]at hl2;have HL2:=ah (show acc=U8 l c (jg (n+1))from hl2);clear hl2;go_wp2;go_ret;exact⟨g,d,bb,rfl,by rw[←HL2.out];exact HR.out,HB.out.aB⟩
def GQ (cls:List Nat) (c:List Int) (n i:Nat):List Nat:=(List.range (n+1)).map fun j=>if(decide (j<i)&&Cw cls c j)=true then 1<<<(j+1)else 0
theorem VB (cls:List Nat) (c:List Int) (n:Nat):GQ cls c n 0=jg (n+1):=by rw[Bn];exact dL fun j _=>by simp
theorem ZA (cls:List Nat) (c:List Int):GQ cls c c.length c.length=KY cls c:=by
 unfold KY;refine dL fun j _=> ?_;by_cases h:Cw cls c j=true;·have:=h;unfold Cw at this;simp only[aP,iB]at this;simp[h,this.1]
 ·simp[h]
theorem ZB (cls:List Nat) (c:List Int) {i:Nat} (hi:i<c.length):Cw cls c i=decide (c.getD i 0∈cls.map fun(x:Nat)=>(x:Int)):=by rw[fA];unfold Cw;simp only[aP,iB,xB,dz];exact⟨fun h=>h.2,fun h=>⟨hi,h⟩⟩
theorem ZC {cls:List Nat} {c:List Int} {n i:Nat} (hi:i<n+1):(GQ cls c n i).getD i 0=0:=by unfold GQ;rw[Bl hi];simp
theorem ZE {cls:List Nat} {c:List Int} {n i:Nat} (hi:i<n+1) (h:Cw cls c i=true):(GQ cls c n i).set i (0|||1<<<(i+1))=GQ cls c n (i+1):=by
 unfold GQ;rw[Bj hi];refine dL fun j _=> ?_;by_cases e:j=i;·subst e;simp[h]
 ·rw[aj e];have:decide (j<i)=decide (j<i+1):=by rw[fA];simp;omega
  rw[this]
theorem acK {cls:List Nat} {c:List Int} {n i:Nat} (h:Cw cls c i=false):GQ cls c n i=GQ cls c n (i+1):=by
 unfold GQ;refine dL fun j _=> ?_;by_cases e:j=i;·subst e;simp[h]
 ·have:decide (j<i)=decide (j<i+1):=by rw[fA];simp;omega
  rw[this]
theorem acL (cls:List Nat) (l:List PT):mX (.node 1 cls l):=by
 intro c a b k A n cc W hP hI h64;unfold eX at hP;obtain⟨ha,⟨Ab,nb,cb,rfl,hC⟩,_⟩:=hP;obtain rfl:a= .int .i64 1:=ha;have HC:=ah hC;have HI:=ah hI;rw[ajg];have HB0:=ah (sD.start W (.int .i64 1) (.slice Ab nb cb) k);have y0:=HB0.out.c0;have HWN:=ah (show wrap64 ((n:Int)+1)=((n+1:Nat):Int)by unfold wrap64;omega);have HO:=ah (fun w=>vS (n+1) w (wI n) h64);have Vr:=ah hI.len;clear hI hC;go_enter Tryz.func238,Tryz.ntmps238;go_wp2_with (go_at_call 283;refine(HO.out _).mono ?_;rintro e w2 ⟨g,d,bb,rfl,hR,hb⟩;have HR:=ah hR;have HB:=ah (HB0.out.go hb);clear hR hb y0);go_loopw [7] (fun vi wr=>∃i:Nat,i≤n∧vi= .int .i64 i∧BH wr (W.heap.size+1) g bb (n+1) (GQ cls c n i)∧sD W (.int .i64 1) (.slice Ab nb cb) k wr) (fun vi _=>n-(RowKit.intOf vi).toNat);case atStart=>exact⟨0,aH _,rfl,by rw[VB];exact HR.out.base (by simp),HB.out⟩
 case round=>
  obtain⟨i,hi,rfl,hR,hB⟩:=hrel;have HR:=ah hR;have HB:=ah hB;clear hR hB;have y1:=HB.out.c1;by_cases hlt:i<n
  ·obtain⟨gi,oi,rfl,hgi,hci⟩:=HI.out.at_ (by omega);have z:=(HB.out.aB.cell (p:=⟨gi,oi+i,none⟩) hgi).trans (hci i hlt);obtain⟨x,hx⟩:∃x,c.getD i 0=x:=⟨_,rfl⟩
   rw[hx]at z;have hsb:=ZB cls c (i:=i) (by rw[Vr.out];exact hlt);rw[hx]at hsb;have HSB:=ah hsb;have hii:(i:Int)<n:=by omega
   have hi0:(0:Int)≤i:=by omega
   have qU:=ah (show wrap64 ((i:Int)+1)=((i+1:Nat):Int)by unfold wrap64;omega);have HCI:=ah (fun q=>acw (cls.map fun(x:Nat)=>(x:Int)) x Ab nb cb (wr.drewN q) (by have:=dO HC.out HB.out.aB;exact⟨this.len,this.small,this.at_⟩));clear hci hgi hx;obtain⟨q,hq⟩:∃q,Cw cls c i=q:=⟨_,rfl⟩
   rw[←hsb,hq]at HCI;have HSQ:=ah hq;clear hsb hq;cases q with
   |true=>
    have z5:=HR.out.cell i (by omega);have hwd:=HR.out.wd i (by omega);rw[ZC (by omega)]at hwd;have HWD:=ah hwd;have HKY:=ah (ZE (n:=n) (by omega) HSQ.out);clear hwd;go_wp2_with fail;go_quiet ((go_at_call 281;exact Calls.quiet_of_same (HCI.out _)));have HRq:=ah (HR.out.fr (Fr.drewN (fun _=>False) wr nq) (fun k h=>h.elim));have HBq:=ah (HB.out.frr (Fr.drewN (fun _=>False) wr nq) (fun k h=>h.elim));have HWq:=ah (show Wd (wr.drewN nq) (bb i) 0 from HWD.out);have HST:=ah (fun w (hw:Wd w (bb i) 0)=>show Calls Tryz.prog 284 #[lV (bb i), .int .i64 ((i:Int)+1)] w (QU (bb i) (0|||1<<<(i+1)) w)from by
     have:=Tg (bb i) 0 (i+1) w hw (by omega);rwa [show((i+1:Nat):Int)=(i:Int)+1 by omega]at this)
    have z6:=HRq.out.cell i (by omega);clear z5;go_wp2_with (go_at_call 284;refine(HST.out _ HWq.out).mono ?_;rintro e w3 ⟨rfl,hf,hw⟩;have HR3:=ah (HRq.out.set (by omega) hf hw);have HB3:=ah (HBq.out.frr hf (fun k e=>e▸(HRq.out.low i (by omega)).1));clear hf hw);(try rw[qU.out]);exact⟨⟨i+1,hlt,rfl,by rw[←HKY.out];exact HR3.out,HB3.out⟩,by simp[RowKit.intOf];omega⟩
   |false=>have HKN:=ah (acK (n:=n) HSQ.out);go_wp2_with fail;go_quiet ((go_at_call 281;exact Calls.quiet_of_same (HCI.out _)));have HRq:=ah (HR.out.fr (Fr.drewN (fun _=>False) wr nq) (fun k h=>h.elim));have HBq:=ah (HB.out.frr (Fr.drewN (fun _=>False) wr nq) (fun k h=>h.elim));go_wp2_with fail;(try rw[qU.out]);exact⟨⟨i+1,hlt,rfl,by rw[←HKN.out];exact HRq.out,HBq.out⟩,by simp[RowKit.intOf];omega⟩
  ·obtain rfl:i=n:=by omega
   go_wp2;go_ret;exact⟨g,d,bb,rfl,by rw[←Vr.out]at HR;rw[←ZA,←Vr.out];exact HR.out.base (mR _),HB.out.aB⟩
mutual
theorem GR:∀p:PT,QY p=true→mX p
 | .node op cls kids,h=>by
   unfold QY at h;simp only[aP,cu,bL,iB]at h;obtain⟨⟨h1,hl⟩,h2⟩:=h;have IH:=Ju kids h2;rcases h1 with(((rfl|rfl)|rfl)|rfl)|⟨rfl,hk⟩
   ·exact acG cls kids
   ·exact acL cls kids
   ·exact acI cls kids IH hl
   ·exact acJ cls kids IH hl
   ·match kids,hk,IH with
    |[p],_,IH=>exact acH cls p (IH p tC)
theorem Ju:∀l:List PT,Ti l=true→∀q∈l,mX q
 |[],_,q,hq=>by cases hq
 |p::r,h,q,hq=>by
  unfold Ti at h;rw[aP]at h;rcases aU.1 hq with e|hq;·rw[e];exact GR p h.1
  ·exact Ju r h.2 q hq
end
end
section
open KX (PT)
def QZ:List Nat→Bool
 |[]=>true
 |[x]=>decide (x<1000)
 |x::y::r=>decide (x<1000)&&decide (x<y)&&QZ (y::r)
theorem Tj:∀{l:List Nat},QZ l=true→∀i,i<l.length→l.getD i 0<1000∧(i+1<l.length→l.getD i 0<l.getD (i+1) 0)
 |[],_,i,hi=>absurd hi (iN i)
 |[x],h,0,_=>⟨by simpa[QZ]using h,fun h=>absurd h (by simp)⟩
 |[x],_,i+1,hi=>by simp at hi
 |x::y::r,h,0,_=>by unfold QZ at h;simp only[aP,iB]at h;exact⟨h.1.1,fun _=>h.1.2⟩
 |x::y::r,h,i+1,hi=>by unfold QZ at h;simp only[aP,iB]at h;have:=Tj h.2 i (by simpa using hi);exact⟨this.1,fun hh=>this.2 (by simpa using hh)⟩
def zl (p:PT):Prop:=∀(a b k:Value) (W:World),eX W a b k p→Calls Tryz.prog 323 #[.agg #[a,b,k], .int .i64 2147483647] W fun e w'=>e= .returned (.int .i64 0)∧Below W.heap.size W w'
theorem afZ:zl (.node 0 [] []):=by
 intro a b k W hP;unfold eX at hP;obtain⟨ha,⟨Ab,nb,cb,rfl,hC⟩,A2,c2,rfl,_⟩:=hP;obtain rfl:a= .int .i64 0:=ha;obtain rfl:nb=0:=hC.len.symm;clear hC;have HB0:=ah (sD.start W (.int .i64 0) (.slice Ab 0 cb) (.slice A2 0 c2));have y0:=HB0.out.c0;have y1:=HB0.out.c1;have y2:=HB0.out.c2;go_enter Tryz.func323,Tryz.ntmps323;go_wp2;go_loopw [7] (fun vi wr=>vi= .int .i64 0∧sD W (.int .i64 0) (.slice Ab 0 cb) (.slice A2 0 c2) wr) (fun _ _=>0);case atStart=>exact⟨rfl,HB0.out⟩
 case round=>obtain⟨rfl,hB⟩:=hrel;have HB:=ah hB;clear hB;clear y0 y1 y2;have y1:=HB.out.c1;go_wp2;go_ret;exact⟨rfl,HB.out.aB⟩
theorem af0 (l:List PT) (hl:2≤l.length∧l.length≤1000):zl (.node 2 [] l):=by
 intro a b k W hP;unfold eX at hP;obtain⟨ha,⟨Ab,nb,cb,rfl,hC⟩,A2,c2,rfl,_⟩:=hP;obtain rfl:a= .int .i64 2:=ha;obtain rfl:nb=0:=hC.len.symm;obtain⟨N,hN⟩:∃N,l.length=N:=⟨_,rfl⟩
 rw[hN]at hl⊢;clear hC;have HB0:=ah (sD.start W (.int .i64 2) (.slice Ab 0 cb) (.slice A2 N c2));have y0:=HB0.out.c0;have y1:=HB0.out.c1;have y2:=HB0.out.c2;have hl1:¬(N:Int)=1:=by omega
 have hl2:(2:Int)≤N:=by omega
 go_enter Tryz.func323,Tryz.ntmps323;go_wp2;go_loopw [7] (fun vi wr=>vi= .int .i64 0∧sD W (.int .i64 2) (.slice Ab 0 cb) (.slice A2 N c2) wr) (fun _ _=>0);case atStart=>exact⟨rfl,HB0.out⟩
 case round=>obtain⟨rfl,hB⟩:=hrel;have HB:=ah hB;clear hB;clear y0 y1 y2;have y1:=HB.out.c1;go_wp2;go_ret;exact⟨rfl,HB.out.aB⟩
theorem af2 (l:List PT) (hl:2≤l.length∧l.length≤1000):zl (.node 3 [] l):=by
 intro a b k W hP;unfold eX at hP;obtain⟨ha,⟨Ab,nb,cb,rfl,hC⟩,A2,c2,rfl,_⟩:=hP;obtain rfl:a= .int .i64 3:=ha;obtain rfl:nb=0:=hC.len.symm;obtain⟨N,hN⟩:∃N,l.length=N:=⟨_,rfl⟩
 rw[hN]at hl⊢;clear hC;have HB0:=ah (sD.start W (.int .i64 3) (.slice Ab 0 cb) (.slice A2 N c2));have y0:=HB0.out.c0;have y1:=HB0.out.c1;have y2:=HB0.out.c2;have hl1:¬(N:Int)=1:=by omega
 have hl2:(2:Int)≤N:=by omega
 go_enter Tryz.func323,Tryz.ntmps323;go_wp2;go_loopw [7] (fun vi wr=>vi= .int .i64 0∧sD W (.int .i64 3) (.slice Ab 0 cb) (.slice A2 N c2) wr) (fun _ _=>0);case atStart=>exact⟨rfl,HB0.out⟩
 case round=>obtain⟨rfl,hB⟩:=hrel;have HB:=ah hB;clear hB;clear y0 y1 y2;have y1:=HB.out.c1;go_wp2;go_ret;exact⟨rfl,HB.out.aB⟩
theorem af3 (p:PT):zl (.node 4 [] [p]):=by
 intro a b k W hP;unfold eX at hP;obtain⟨ha,⟨Ab,nb,cb,rfl,hC⟩,A2,c2,rfl,_⟩:=hP;obtain rfl:a= .int .i64 4:=ha;obtain rfl:nb=0:=hC.len.symm;clear hC;have HB0:=ah (sD.start W (.int .i64 4) (.slice Ab 0 cb) (.slice A2 1 c2));have y0:=HB0.out.c0;have y1:=HB0.out.c1;have y2:=HB0.out.c2;go_enter Tryz.func323,Tryz.ntmps323;go_wp2;go_loopw [7] (fun vi wr=>vi= .int .i64 0∧sD W (.int .i64 4) (.slice Ab 0 cb) (.slice A2 1 c2) wr) (fun _ _=>0);case atStart=>exact⟨rfl,HB0.out⟩
 case round=>obtain⟨rfl,hB⟩:=hrel;have HB:=ah hB;clear hB;clear y0 y1 y2;have y1:=HB.out.c1;go_wp2;go_ret;exact⟨rfl,HB.out.aB⟩
theorem af4 (cls:List Nat) (hc:QZ cls=true):zl (.node 1 cls []):=by
 intro a b k W hP;unfold eX at hP;obtain⟨ha,⟨Ab,nb,cb,rfl,hC⟩,A2,c2,rfl,_⟩:=hP;obtain rfl:a= .int .i64 1:=ha;have hln:cls.length=nb:=by have:=hC.len;rwa [dx]at this
 have hsm:=hC.small;have HC:=ah hC;have HA:=ah (fun i=>Tj hc i);have Vr:=ah hln;have HB0:=ah (sD.start W (.int .i64 1) (.slice Ab nb cb) (.slice A2 0 c2));have y0:=HB0.out.c0;have y1:=HB0.out.c1;have y2:=HB0.out.c2;clear hC hc hln;go_enter Tryz.func323,Tryz.ntmps323;go_wp2;go_loopw [7] (fun vi wr=>∃i:Nat,i≤nb∧vi= .int .i64 i∧sD W (.int .i64 1) (.slice Ab nb cb) (.slice A2 0 c2) wr) (fun vi _=>nb-(RowKit.intOf vi).toNat);case atStart=>exact⟨0,aH _,rfl,HB0.out⟩
 case round=>
  obtain⟨i,hi,rfl,hB⟩:=hrel;have HB:=ah hB;clear hB;clear y0 y1 y2;have y1:=HB.out.c1;by_cases hlt:i<nb
  ·obtain⟨g,o,rfl,hg,hcell⟩:=HC.out.at_ (by omega);have z:=(HB.out.aB.cell (p:=⟨g,o+i,none⟩) hg).trans (hcell i hlt);obtain⟨x,hx⟩:∃x,cls.getD i 0=x:=⟨_,rfl⟩
   have hm:∀j,j<nb→(cls.map fun(x:Nat)=>(x:Int)).getD j 0=((cls.getD j 0:Nat):Int):=fun j hj=>by rw[aM,aM,fF,aY (by rw[Vr.out];exact hj)];rfl
   obtain⟨hx1,_⟩:=HA.out i (by rw[Vr.out];exact hlt);rw[hm i hlt,hx]at z;rw[hx]at hx1;have hd1:decide ((x:Int)<0)=false:=aX (by omega);have hd2:decide ((2147483647:Int)≤x)=false:=aX (by omega);have hii:(i:Int)<nb:=by omega
   have hi0:(0:Int)≤i:=by omega
   have qU:=ah (show wrap64 ((i:Int)+1)=((i+1:Nat):Int)by unfold wrap64;omega);have hn1:¬(x:Int)<0:=by omega
   have hn2:¬(2147483647:Int)≤x:=by omega
   have hn3:¬2147483647≤x:=by omega
   cases i with
   |zero=>have hd3:decide ((0:Int)<((0:Nat):Int))=false:=rfl;have z':wr.cell? ⟨g,o,none⟩=some (.int .i64 (x:Nat)):=z;have arB:(0:Int)<nb:=hii;clear hm hcell hg hx z;go_wp2_with fail;go_quiet (fail);have HBq:=ah (HB.out.frr (Fr.drewN (fun _=>False) wr nq) (fun k h=>h.elim));go_wp2_with fail;exact⟨⟨1,by omega,rfl,HBq.out⟩,by simp[RowKit.intOf];omega⟩
   |succ j=>
    have z2:=(HB.out.aB.cell (p:=⟨g,o+j,none⟩) hg).trans (hcell j (by omega));obtain⟨y,hy⟩:∃y,cls.getD j 0=y:=⟨_,rfl⟩
    obtain⟨_,hxy⟩:=HA.out j (by rw[Vr.out];omega);have hxy:=hxy (by rw[Vr.out];exact hlt);rw[hm j (by omega),hy]at z2;rw[hy,hx]at hxy;have hd3:decide ((0:Int)<((j+1:Nat):Int))=true:=bB (by omega);have hd4:decide ((x:Int)≤y)=false:=aX (by omega);have hn4:¬(x:Int)≤y:=by omega
    have hn5:¬x≤y:=by omega
    have PY:wrap64 (((j+1:Nat):Int)-1)=(j:Int):=by unfold wrap64;omega
    have arC:IntKind.i64.wrap (((j+1:Nat):Int)-1)=(j:Int):=(IntWalk.i64_left _).trans PY;have hj0:(0:Int)≤j:=by omega
    have hj1:(j:Int)<nb:=by omega
    clear hm hcell hg hx hy hxy;go_wp2_with fail;go_quiet (fail);have HBq:=ah (HB.out.frr (Fr.drewN (fun _=>False) wr nq) (fun k h=>h.elim));go_wp2_with fail;(try rw[qU.out]);exact⟨⟨j+1+1,by omega,rfl,HBq.out⟩,by simp[RowKit.intOf];omega⟩
  ·obtain rfl:i=nb:=by omega
   go_wp2;go_ret;exact⟨rfl,HB.out.aB⟩
mutual
def qV:PT→Bool
 | .node op cls kids=>((op==0&&cls.isEmpty&&kids.isEmpty)||(op==1&&kids.isEmpty&&QZ cls)||((op==2||op==3)&&cls.isEmpty&&decide (2≤kids.length))||(op==4&&cls.isEmpty&&kids.length==1))&&decide (kids.length≤1000)&&Bp kids
def Bp:List PT→Bool
 |[]=>true
 |p::r=>qV p&&Bp r
end
mutual
def lW:PT→Nat
 | .node _ _ kids=>oC kids+1
def oC:List PT→Nat
 |[]=>0
 |p::r=>lW p+oC r
end
theorem VD {op:Nat} {cls:List Nat} {kids:List PT} (h:qV (.node op cls kids)=true):zl (.node op cls kids)∧kids.length≤1000∧Bp kids=true:=by
 unfold qV at h;simp only[aP,cu,bL,iB,List.isEmpty_iff]at h;obtain⟨⟨h1,hl⟩,h2⟩:=h;refine⟨?_,hl,h2⟩;rcases h1 with((⟨⟨rfl,rfl⟩,rfl⟩|⟨⟨rfl,rfl⟩,hc⟩)|⟨⟨rfl|rfl,rfl⟩,hk⟩)|⟨⟨rfl,rfl⟩,hk⟩
 ·exact afZ
 ·exact af4 cls hc
 ·exact af0 kids ⟨hk,hl⟩
 ·exact af2 kids ⟨hk,hl⟩
 ·match kids,hk with
  |[p],_=>exact af3 p
def EP (p:PT):Prop:=∀(a b k:Value) (ahead:Nat) (W:World),eX W a b k p→ahead+lW p≤2000→
 Calls Tryz.prog 282 #[.agg #[a,b,k], .int .i64 2147483647, .int .i64 ahead] W fun e w'=>e= .returned (.tuple #[.int .i64 0, .int .i64 (ahead+lW p:Nat)])∧Below W.heap.size W w'
theorem size_cons (p:PT) (r:List PT):oC (p::r)=lW p+oC r:=by rw[oC]
theorem Q0 (op:Nat) (cls:List Nat) (l:List PT) (ad6:zl (.node op cls l)) (IH:∀q∈l,EP q) (hl:l.length≤1000):EP (.node op cls l):=by
 intro a b k ahead W hP hsz;have LJ:=hP;unfold eX at hP;obtain⟨rfl,⟨Ab,nb,cb,rfl,_⟩,A2,c2,rfl,hK⟩:=hP;have HKK:=ah hK;have HIH:=ah IH;have HP:=ah LJ;have HND:=ah ad6;obtain⟨S,hS⟩:∃S,oC l=S:=⟨_,rfl⟩
 have hsp:lW (.node op cls l)=S+1:=by rw[lW,hS]
 rw[hsp]at hsz⊢;obtain⟨N,hN⟩:∃N,l.length=N:=⟨_,rfl⟩
 rw[hN]at hl HP⊢;have HN:=ah hN;have HS:=ah hS;have HB0:=ah (sD.start W (.int .i64 (op:Nat)) (.slice Ab nb cb) (.slice A2 N c2));have y0:=HB0.out.c0;have y1:=HB0.out.c1;have y2:=HB0.out.c2;have hah:¬(2048:Int)≤ahead:=by omega
 have HWA:=ah (show wrap64 ((ahead:Int)+1)=((ahead+1:Nat):Int)by unfold wrap64;omega);clear hK IH ad6 hN hS hsp LJ;go_enter Tryz.func282,Tryz.ntmps282;go_wp2_with (go_at_call 323;refine(HND.out (.int .i64 (op:Nat)) (.slice Ab nb cb) (.slice A2 N c2) _ (HP.out.below HB0.out.aB)).mono ?_;rintro e w2 ⟨rfl,hb⟩;have HB:=ah (HB0.out.go hb);clear hb y0 y1 y2);go_loopw [8,9,10] (fun ve vn vi wr=>∃i m:Nat,i≤N∧ve= .int .i64 0∧vn= .int .i64 m∧vi= .int .i64 i∧m+oC (l.drop i)=ahead+(S+1)∧sD W (.int .i64 (op:Nat)) (.slice Ab nb cb) (.slice A2 N c2) wr) (fun _ _ vi _=>N-(RowKit.intOf vi).toNat);case atStart=>exact⟨0,ahead+1,aH _,rfl,by first|rw[HWA.out]|rfl,rfl,by rw[tJ,HS.out];omega,HB.out⟩
 case round=>
  obtain⟨i,m,hi,rfl,rfl,rfl,hm,hB⟩:=hrel;have HB:=ah hB;clear hB;have y2:=HB.out.c2;by_cases hlt:i<N
  ·obtain⟨q,hq⟩:∃q,l[i]? =some q:=⟨l[i]'(by rw[HN.out];exact hlt),aY _⟩
   have hd:l.drop i=q::l.drop (i+1):=by rw[oV (by rw[HN.out];exact hlt)];rw[aY (by rw[HN.out];exact hlt)]at hq;injection hq with hq;rw[hq]
   rw[hd,size_cons]at hm;obtain⟨gk,ok,a0,b1,k0,rfl,hg,z0,z1,z2,hp⟩:=vT (HKK.out.below HB.out.aB) i q hq;simp only[bK]at z0 z1 z2;have HQ:=ah (HIH.out q (sO hq) a0 b1 k0 m wr hp (by omega));have HM:=ah (show m+lW q+oC (l.drop (i+1))=ahead+(S+1)by omega);have hii:(i:Int)<N:=by omega
   have hi0:(0:Int)≤i:=by omega
   have qU:=ah (show wrap64 ((i:Int)+1)=((i+1:Nat):Int)by unfold wrap64;omega);have hdi:decide ((i:Int)<N)=true:=bB hii;clear hp hg hq hd hm;go_wp2_with (go_at_call 282;refine HQ.out.mono ?_;rintro e w3 ⟨rfl,hb⟩;have HB3:=ah (HB.out.go hb);clear hb);(try rw[qU.out]);exact⟨⟨i+1,m+lW q,hlt,rfl,rfl,rfl,HM.out,HB3.out⟩,by simp[RowKit.intOf];omega⟩
  ·obtain rfl:i=N:=by omega
   rw[nK (by rw[HN.out];exact ay _)]at hm;have HM:=Lib.hid (show m=ahead+(S+1)by simpa[oC]using hm);have hdi:decide ((i:Int)<i)=false:=aX (by omega);clear hm;go_wp2;exact qE (results_tmp2 rfl _ _ _) rfl ⟨by rw[←HM.out];rfl,HB.out.aB⟩
mutual
theorem Jv:∀p:PT,qV p=true→EP p
 | .node op cls kids,h=>by obtain⟨h1,h2,h3⟩:=VD h;exact Q0 op cls kids h1 (GU kids h3) h2
theorem GU:∀l:List PT,Bp l=true→∀q∈l,EP q
 |[],_,q,hq=>by cases hq
 |p::r,h,q,hq=>by
  unfold Bp at h;rw[aP]at h;rcases aU.1 hq with e|hq;·rw[e];exact Jv p h.1
  ·exact GU r h.2 q hq
end
theorem VE (p:PT) (hg:qV p=true) (hs:lW p≤2000) (a b k:Value) (W:World) (hP:eX W a b k p):Calls Tryz.prog 237 #[.agg #[a,b,k], .int .i64 2147483647] W fun e w'=>e= .returned (.int .i64 0)∧Below W.heap.size W w':=by
 have LJ:=hP;cases p with
 |node op cls kids=>
 unfold eX at hP;obtain⟨rfl,⟨Ab,nb,cb,rfl,_⟩,A2,c2,rfl,_⟩:=hP;have HB0:=ah (sD.start W (.int .i64 (op:Nat)) (.slice Ab nb cb) (.slice A2 kids.length c2));have y0:=HB0.out.c0;have y1:=HB0.out.c1;have y2:=HB0.out.c2;have HC:=ah (Jv _ hg _ _ _ 0 _ (LJ.below HB0.out.aB) (by omega));go_enter Tryz.func237,Tryz.ntmps237;go_wp2_with (go_at_call 282;refine HC.out.mono ?_;rintro e w2 ⟨rfl,hb⟩;have HB:=ah (HB0.out.go hb);clear hb);go_ret;exact⟨rfl,HB.out.aB⟩
theorem Bq (p:PT) (hg:qV p=true) (hs:lW p≤2000) (a b k:Value) (W:World) (hP:eX W a b k p):Calls Tryz.prog 180 #[.agg #[a,b,k]] W fun e w'=>e= .returned (.bool true)∧Below W.heap.size W w':=by
 have LJ:=hP;cases p with
 |node op cls kids=>
 unfold eX at hP;obtain⟨rfl,⟨Ab,nb,cb,rfl,_⟩,A2,c2,rfl,_⟩:=hP;have HB0:=ah (sD.start W (.int .i64 (op:Nat)) (.slice Ab nb cb) (.slice A2 kids.length c2));have y0:=HB0.out.c0;have y1:=HB0.out.c1;have y2:=HB0.out.c2;have HC:=ah (VE _ hg hs _ _ _ _ (LJ.below HB0.out.aB));go_enter Tryz.func180,Tryz.ntmps180;go_wp2_with (go_at_call 237;refine HC.out.mono ?_;rintro e w2 ⟨rfl,hb⟩;have HB:=ah (HB0.out.go hb);clear hb);go_ret;exact⟨rfl,HB.out.aB⟩
end
section
open KX (PT bit rows)
def upF (f:Nat→Bool) (k:Nat):List Int:=((List.range k).filter f).map fun(x:Nat)=>(x:Int)
theorem up_succ (f:Nat→Bool) (k:Nat):upF f (k+1)=upF f k++if f k=true then[(k:Int)]else[]:=by
 unfold upF;rw[List.range_succ,List.filter_append,Av];congr 1;by_cases c:f k=true;·simp[c]
 ·simp[c]
theorem up_mem (f:Nat→Bool) (k i:Nat):((i:Nat):Int)∈upF f k↔i<k∧f i=true:=by
 unfold upF;simp only[dz,nL,lF];constructor
 ·rintro⟨x,h,e⟩;obtain rfl:x=i:=by omega
  exact h
 ·intro h;exact⟨i,h,rfl⟩
theorem up_len (f:Nat→Bool) (k:Nat):(upF f k).length≤k:=by unfold upF;rw[dx];exact aQ (EC _ _) (by rw[nI];exact ay _)
def j6 (p:PT) (c:List Int):List Int:=upF (fun i=>bit (rows p c) i c.length) (c.length+1)
def CP (p:PT) (c:List Int):List Int:=upF (fun i=>bit (rows p c) 0 i) (c.length+1)
theorem VF (p:PT) (hg:qV p=true) (ho:QY p=true) (hsz:lW p≤2000) (c:List Int) (a b k:Value) (A:Option Addr) (n cc:Nat) (W:World) (hP:eX W a b k p) (hI:bQ W A n c) (h64:n+1<64):
 Calls Tryz.prog 181 #[.agg #[a,b,k], .slice A n cc] W (dF (j6 p c) W):=by
 have LJ:=hP;obtain⟨op,cls,kids⟩:=p;unfold eX at hP;obtain⟨rfl,⟨Ab,nb,cb,rfl,_⟩,A2,c2,rfl,_⟩:=hP;obtain⟨p,hp⟩:∃p,PT.node op cls kids=p:=⟨_,rfl⟩
 rw[hp]at LJ hg ho hsz⊢;obtain⟨N,hN⟩:∃N,kids.length=N:=⟨_,rfl⟩
 rw[hN]at LJ⊢;clear hp hN;have HB0:=ah (sD.start W (.int .i64 (op:Nat)) (.slice Ab nb cb) (.slice A2 N c2));have y0:=HB0.out.c0;have y1:=HB0.out.c1;have y2:=HB0.out.c2;have HI:=ah hI;have HG:=ah (Bq p hg hsz _ _ _ _ (LJ.below HB0.out.aB));have HL:=ah (fun(w:World) (hb:Below W.heap.size W w)=>GR p ho c _ _ _ A n cc w (LJ.below hb) (dO HI.out hb) h64);have hF:j6 p c=upF (fun i=>bit (rows p c) i n) (n+1):=by unfold j6;rw[hI.len]
 obtain⟨f,hf⟩:∃f:Nat→Bool,(fun i=>bit (rows p c) i n)=f:=⟨_,rfl⟩
 rw[hF,hf];have HFI:=ah (fun i=>show bit (rows p c) i n=f i by rw[←hf]);obtain⟨i0,hI0,hz0,hz1,hz2⟩:=dY gB;clear hI LJ hg ho hsz hF hf;go_enter Tryz.func181,Tryz.ntmps181;go_wp2_with (first
  |(go_at_call 180;refine HG.out.mono ?_;rintro e w2 ⟨rfl,hb⟩;have HB2:=ah (HB0.out.go hb);clear hb y0 y1 y2;have y0:=HB2.out.c0;have y1:=HB2.out.c1;have y2:=HB2.out.c2)
  |(go_at_call 238;refine(HL.out _ HB2.out.aB).mono ?_;rintro e w3 ⟨g,d,bb,rfl,hR,hb⟩;have HR:=ah hR;have HB3:=ah (HB2.out.go hb);clear hb hR y0 y1 y2;have h0p:=HR.out.pos;have z0:=HR.out.cell 0 h0p.1))
 go_loopw [6,7] (fun vo vi wr=>∃(i m:Nat) (Ao:Option Addr) (co:Nat),i≤n+1∧m≤i∧vi= .int .i64 i∧vo= .slice Ao m co∧IA w3 (.slice Ao m co) m (upF f i) wr) (fun _ vi _=>n+1-(RowKit.intOf vi).toNat);case atStart=>exact⟨0,0,none,0,aH _,ay _,rfl,rfl,IA.nil w3⟩
 case round=>
  obtain⟨i,m,Ao,co,hi,Oo,rfl,rfl,hA⟩:=hrel;have HA:=ah hA;clear hA;by_cases hlt:i≤n
  ·have HRw:=ah (HR.out.below HA.out.aB);have z:=HRw.out.cell i (by omega);have DY:=up_succ f i;obtain⟨q,hq⟩:∃q,f i=q:=⟨_,rfl⟩
   rw[hq]at DY;have zk:=ah (EM (bb i) ((rows p c).getD i 0) n wr (HRw.out.wd i (by omega)) (by omega));rw[show((rows p c).getD i 0).testBit n=q from(HFI.out i).trans hq]at zk;have hii:(i:Int)≤n:=by omega
   have hii2:(i:Int)<(n:Int)+1:=by omega
   have hi0:(0:Int)≤i:=by omega
   have qU:=ah (show wrap64 ((i:Int)+1)=((i+1:Nat):Int)by unfold wrap64;omega);have HLEN:=ah (D9 (show m≤100000 by omega));have Tk:=ah Oo;clear hq Oo;cases q with
   |true=>
    have Lh:=ah (show upF f (i+1)=upF f i++[(i:Int)]by rw[DY,ak rfl]);clear DY;go_wp2_with (first
     |(go_at_call 239;refine zk.out.mono ?_;rintro e w4 ⟨rfl,rfl⟩)
     |(at_builtin;refine aT _ rfl (.tmp 27) (.tmp 29) 41 rfl w3.heap.size 3 i0 _ 8 Tryz.underlying41 hI0 hz0 hz1 hz2 rfl (.slice Ao m co) m (bA (upF f i)) rfl HA.out.dU _ 1 1 [.int .i64 i] rfl (bX _ _ _) (by simp[Value.oneCell']) HLEN.out.1 HLEN.out.2 (by rw[World.size_alloc];have:=HA.out.aB.size;omega) ?_;intro v' wp ho hg hn;obtain⟨B1,d1,rfl,_⟩:=aL ho;have ny:=Lib.hid (HA.out.grow ho hg);clear ho hg hn))
    (try rw[qU.out]);exact⟨⟨i+1,m+1,_,_,by omega,Nat.succ_le_succ Tk.out,rfl,rfl,by rw[Lh.out];exact ny.out⟩,by simp[RowKit.intOf];omega⟩
   |false=>have Lh:=ah (show upF f (i+1)=upF f i by rw[DY,aj (by decide),eD]);clear DY;go_wp2_with (go_at_call 239;refine zk.out.mono ?_;rintro e w4 ⟨rfl,rfl⟩);(try rw[qU.out]);exact⟨⟨i+1,m,_,_,by omega,Nat.le_succ_of_le Tk.out,rfl,rfl,by rw[Lh.out];exact HA.out⟩,by simp[RowKit.intOf];omega⟩
  ·obtain rfl:i=n+1:=by omega
   have HM:=ah (show m≤100000 by omega);have hii:¬((n+1:Nat):Int)≤n:=by omega
   clear Oo;go_wp2;go_ret;exact⟨Ao,m,co,rfl,gD HA.out.own HM.out,HB3.out.aB.trans (HA.out.aB.mono HB3.out.aB.size)⟩
theorem acM (p:PT) (hg:qV p=true) (ho:QY p=true) (hsz:lW p≤2000) (c:List Int) (a b k:Value) (A:Option Addr) (n cc:Nat) (W:World) (hP:eX W a b k p) (hI:bQ W A n c) (h64:n+1<64):
 Calls Tryz.prog 182 #[.agg #[a,b,k], .slice A n cc] W (dF (CP p c) W):=by
 have LJ:=hP;obtain⟨op,cls,kids⟩:=p;unfold eX at hP;obtain⟨rfl,⟨Ab,nb,cb,rfl,_⟩,A2,c2,rfl,_⟩:=hP;obtain⟨p,hp⟩:∃p,PT.node op cls kids=p:=⟨_,rfl⟩
 rw[hp]at LJ hg ho hsz⊢;obtain⟨N,hN⟩:∃N,kids.length=N:=⟨_,rfl⟩
 rw[hN]at LJ⊢;clear hp hN;have HB0:=ah (sD.start W (.int .i64 (op:Nat)) (.slice Ab nb cb) (.slice A2 N c2));have y0:=HB0.out.c0;have y1:=HB0.out.c1;have y2:=HB0.out.c2;have HI:=ah hI;have HG:=ah (Bq p hg hsz _ _ _ _ (LJ.below HB0.out.aB));have HL:=ah (fun(w:World) (hb:Below W.heap.size W w)=>GR p ho c _ _ _ A n cc w (LJ.below hb) (dO HI.out hb) h64);have hF:CP p c=upF (fun i=>bit (rows p c) 0 i) (n+1):=by unfold CP;rw[hI.len]
 obtain⟨f,hf⟩:∃f:Nat→Bool,(fun i=>bit (rows p c) 0 i)=f:=⟨_,rfl⟩
 rw[hF,hf];have HFI:=ah (fun i=>show bit (rows p c) 0 i=f i by rw[←hf]);obtain⟨i0,hI0,hz0,hz1,hz2⟩:=dY gB;clear hI LJ hg ho hsz hF hf;go_enter Tryz.func182,Tryz.ntmps182;go_wp2_with (first
  |(go_at_call 180;refine HG.out.mono ?_;rintro e w2 ⟨rfl,hb⟩;have HB2:=ah (HB0.out.go hb);clear hb y0 y1 y2;have y0:=HB2.out.c0;have y1:=HB2.out.c1;have y2:=HB2.out.c2)
  |(go_at_call 238;refine(HL.out _ HB2.out.aB).mono ?_;rintro e w3 ⟨g,d,bb,rfl,hR,hb⟩;have HR:=ah hR;have HB3:=ah (HB2.out.go hb);clear hb hR y0 y1 y2;have h0p:=HR.out.pos;have z0:=HR.out.cell 0 h0p.1))
 go_loopw [6,7] (fun vo vi wr=>∃(i m:Nat) (Ao:Option Addr) (co:Nat),i≤n+1∧m≤i∧vi= .int .i64 i∧vo= .slice Ao m co∧IA w3 (.slice Ao m co) m (upF f i) wr) (fun _ vi _=>n+1-(RowKit.intOf vi).toNat);case atStart=>exact⟨0,0,none,0,aH _,ay _,rfl,rfl,IA.nil w3⟩
 case round=>
  obtain⟨i,m,Ao,co,hi,Oo,rfl,rfl,hA⟩:=hrel;have HA:=ah hA;clear hA;by_cases hlt:i≤n
  ·have HRw:=ah (HR.out.below HA.out.aB);have z:=HRw.out.cell i (by omega);have DY:=up_succ f i;obtain⟨q,hq⟩:∃q,f i=q:=⟨_,rfl⟩
   rw[hq]at DY;have zk:=ah (EM (bb 0) ((rows p c).getD 0 0) i wr (HRw.out.wd 0 (by omega)) (by omega));rw[show((rows p c).getD 0 0).testBit i=q from(HFI.out i).trans hq]at zk;have hii:(i:Int)≤n:=by omega
   have hii2:(i:Int)<(n:Int)+1:=by omega
   have hi0:(0:Int)≤i:=by omega
   have qU:=ah (show wrap64 ((i:Int)+1)=((i+1:Nat):Int)by unfold wrap64;omega);have HLEN:=ah (D9 (show m≤100000 by omega));have Tk:=ah Oo;clear hq Oo;cases q with
   |true=>
    have Lh:=ah (show upF f (i+1)=upF f i++[(i:Int)]by rw[DY,ak rfl]);clear DY;go_wp2_with (first
     |(go_at_call 239;refine zk.out.mono ?_;rintro e w4 ⟨rfl,rfl⟩)
     |(at_builtin;refine aT _ rfl (.tmp 25) (.tmp 27) 41 rfl w3.heap.size 3 i0 _ 8 Tryz.underlying41 hI0 hz0 hz1 hz2 rfl (.slice Ao m co) m (bA (upF f i)) rfl HA.out.dU _ 1 1 [.int .i64 i] rfl (bX _ _ _) (by simp[Value.oneCell']) HLEN.out.1 HLEN.out.2 (by rw[World.size_alloc];have:=HA.out.aB.size;omega) ?_;intro v' wp ho hg hn;obtain⟨B1,d1,rfl,_⟩:=aL ho;have ny:=Lib.hid (HA.out.grow ho hg);clear ho hg hn))
    (try rw[qU.out]);exact⟨⟨i+1,m+1,_,_,by omega,Nat.succ_le_succ Tk.out,rfl,rfl,by rw[Lh.out];exact ny.out⟩,by simp[RowKit.intOf];omega⟩
   |false=>have Lh:=ah (show upF f (i+1)=upF f i by rw[DY,aj (by decide),eD]);clear DY;go_wp2_with (go_at_call 239;refine zk.out.mono ?_;rintro e w4 ⟨rfl,rfl⟩);(try rw[qU.out]);exact⟨⟨i+1,m,_,_,by omega,Nat.le_succ_of_le Tk.out,rfl,rfl,by rw[Lh.out];exact HA.out⟩,by simp[RowKit.intOf];omega⟩
  ·obtain rfl:i=n+1:=by omega
   have HM:=ah (show m≤100000 by omega);have hii:¬((n+1:Nat):Int)≤n:=by omega
   clear Oo;go_wp2;go_ret;exact⟨Ao,m,co,rfl,gD HA.out.own HM.out,HB3.out.aB.trans (HA.out.aB.mono HB3.out.aB.size)⟩
end
end Go.Proofs.YtocaiijbhepnnaaGreatDoor.searchEach
