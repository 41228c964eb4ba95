/- SearchAsks, walked: the law itself, where what it calls is given; rules, breakers in the machine's heap. -/
import Derived.Test.YtocaiijbhepnnaaGreatDoorGB
import Derived.Test.YtocaiijbhepnnaaGreatDoorFP
import Derived.Laws.ResultCell
import Derived.BigQuiet
import Derived.Test.YtocaiijbhepnnaaGreatDoorHE
import Derived.Test.YtocaiijbhepnnaaGreatDoorFA
import Derived.Test.YtocaiijbhepnnaaGreatDoorHF
set_option maxRecDepth 100000
set_option maxHeartbeats 8000000
namespace Go.Proofs.YtocaiijbhepnnaaGreatDoor.searchAsks
open Go.Shelf Go.RowKit Go.Lib Go.Proofs.YtocaiijbhepnnaaGreatDoor.Am
def afY:Option (Nat×Nat)→Value
 |some m=> .tuple #[.agg #[.int .i64 m.1, .int .i64 m.2], .bool true]
 |none=> .tuple #[.agg #[.int .i64 0, .int .i64 0], .bool false]
def oh (q:Option (Nat×Nat)) (W:World) (e:Ending) (w':World):Prop:=e= .returned (afY q)∧Below W.heap.size W w'
structure RX (W:World) (a b:Int) (w:World):Prop where
 aB:Below W.heap.size W w
 box:w.heap[W.heap.size+1]? =some (.cells #[.int .i64 a, .int .i64 b] 33 (0,0))
section
variable {W w w':World} {a b:Int}
theorem RX.go (h:RX W a b w) (hb:Below w.heap.size w w'):RX W a b w':=⟨h.aB.trans (hb.mono h.aB.size),bI hb h.box⟩
theorem RX.new (o:Obj):RX W 0 0 ((W.alloc o).alloc (.cells #[.int .i64 0, .int .i64 0] 33)):=⟨((aG _ W).alloc (ay _) _).alloc (by simp) _,by rw[←jO W];exact dw _ _⟩
theorem RX.c0 (h:RX W a b w):w.cell? ⟨W.heap.size+1,0,none⟩=some (.int .i64 a):=(bq _ _ _ _ _ _ h.box).trans rfl
theorem RX.c1 (h:RX W a b w):w.cell? ⟨W.heap.size+1,1,none⟩=some (.int .i64 b):=(bq _ _ _ _ _ _ h.box).trans rfl
theorem RX.f (h:RX W a b w) (i:Nat):w.frozen? ⟨W.heap.size+1,i,none⟩=false:=by simp[World.frozen?,h.box]
theorem RX.s0 (h:RX W a b w) (p:Int):RX W p b (w.setCell ⟨W.heap.size+1,0,none⟩ (.int .i64 p)):=⟨h.aB.setCell (p:=⟨W.heap.size+1,0,none⟩) (jX _) _,qx _ _ 0 _ _ _ h.box⟩
theorem RX.s1 (h:RX W a b w) (p:Int):RX W a p (w.setCell ⟨W.heap.size+1,1,none⟩ (.int .i64 p)):=⟨h.aB.setCell (p:=⟨W.heap.size+1,1,none⟩) (jX _) _,qx _ _ 1 _ _ _ h.box⟩
end
theorem ug {fn:Func} {p u:Tmp} (h:fn.results=#[.cell p 33, .tmp u]) (tmps:Array Value) (w:World) (g:Nat) (a b:Value) (hp:tmps.getD p undef= .pointer (some ⟨g,0,none⟩)) (hg:w.heap[g]? =some (.cells #[a,b] 33 (0,0))):
 (results fn tmps).run Tryz.prog w= .ok (.tuple #[.agg #[a,b],tmps.getD u undef]) w:=by
 rw[results_cell_tmp h,hp];have hl:=run_loadVar_row w g _ 33 _ _ _ hg Tryz.underlying33 rfl (by kernel_rfl);simp only[asAddr,Sem.run_pure,Result.andThen_ok,hl]
theorem Hz.set {w:World} {A:Option Addr} {n:Nat} {l:List (Nat×Nat)} (h:Hz w A n l) {B:Nat} (hB:∀g,A=some ⟨g,0,none⟩→g≠B) (i:Nat) (v:Value):Hz (w.setCell ⟨B,i,none⟩ v) A n l:=
 ⟨h.len,h.small,fun h0=>by
  obtain⟨g,e,hg,hc⟩:=h.at_ h0;have hn:=hB g e;have hq:=fun(j:Nat)=>World.cell?_of_block (w:=w) (a:=⟨g,j,none⟩) (heap_setCell_other w ⟨B,i,none⟩ g v hn);exact⟨g,e,by simpa using hg,fun j hj=>⟨(hq _).trans (hc j hj).1,(hq _).trans (hc j hj).2⟩⟩⟩
theorem Ra (s t:ByteArray) (L:List (Nat×Nat)) (fo le wo:Bool) (x:Int) (W:World) (hL:L.length≤1000)
 (hE:∀w,Below W.heap.size W w→Calls Tryz.prog 16 #[.string s, .string t, .agg #[.bool fo, .bool le, .bool wo]] w (fQ L w)):
 Calls Tryz.prog 28 #[.string s, .string t, .agg #[.bool fo, .bool le, .bool wo], .int .i64 x] W (oh (Left.vN x L) W):=by
 have HE:=ah hE;clear hE;obtain⟨N,hN⟩:∃N,L.length=N:=⟨_,rfl⟩
 rw[hN]at hL;have HN:=ah hN;clear hN;go_enter Tryz.func28,Tryz.ntmps28;go_wp2_with (go_at_call 16;refine(HE.out _ (RX.new _).aB).mono ?_;rintro e w1 ⟨v,rfl,hb1,hown1⟩;rw[HN.out]at hown1;obtain⟨A,c,rfl,_⟩:=gK hown1;have HB1:=ah ((RX.new (W:=W) _).go hb1);have HR:=ah (rQ HN.out hown1 (by omega));clear hb1 hown1);go_loopw [17] (fun i wr=>∃(k:Nat),k≤N∧i= .int .i64 k∧RX W 0 0 wr∧Below w1.heap.size w1 wr∧Left.vN x (L.drop k)=Left.vN x L) (fun i _=>N-(RowKit.intOf i).toNat);case atStart=>exact⟨0,aH _,rfl,HB1.out,aG _ _,rfl⟩
 case round=>
  obtain⟨k,hk,rfl,hA,hbw,hl⟩:=hrel;have HA:=ah hA;clear hA;have VG:=ah hbw;clear hbw;by_cases hlt:k<N
  ·obtain⟨g,rfl,hg,hc⟩:=HR.out.at_ (by omega);obtain⟨c0,c1⟩:=hc k hlt;have hp:L[k]? =some (L.getD k Left.m0):=by rw[aN,bf (by rw[HN.out];exact hlt)];rfl
   obtain⟨⟨a,b⟩,hab⟩:∃p,L.getD k Left.m0=p:=⟨_,rfl⟩
   rw[hab]at c0 c1 hp;rw[drop_at hp,Left.vN]at hl;dsimp only at hl;have d0:=(VG.out.cell (p:=⟨g,k*2,none⟩) hg).trans c0;have d1:=(VG.out.cell (p:=⟨g,k*2+1,none⟩) hg).trans c1;clear c0 c1 hc hab hp hg;have hwk:wrap64 ((k:Int)+1)=((k+1:Nat):Int):=by unfold wrap64;omega
   have jr:=ah hwk;clear hwk;have hk0:(0:Int)≤k:=by omega
   have hk1:(k:Int)<N:=by omega
   have hal:=(aG wr.heap.size wr).alloc (ay _) (.cells #[.int .i64 a, .int .i64 b] 33);have HA2:=ah (HA.out.go hal);have acB:=ah (VG.out.trans (hal.mono VG.out.size));clear hal;by_cases hae:x≤(a:Int);·rw[ak hae]at hl;have HL:=ah hl;clear hl;have e0:=HA2.out.c0;have f0:=HA2.out.f 0;have tZ:=ah (HA2.out.s0 a);have e1:=tZ.out.c1;have f1:=tZ.out.f 1;have rY:=ah (tZ.out.s1 b);go_wp2;refine ji (ug rfl _ _ _ _ _ rfl rY.out.box) rfl ?_;exact⟨by rw[←HL.out];rfl,rY.out.aB⟩
   ·rw[aj hae]at hl;have HL:=ah hl;clear hl;go_wp2;exact⟨⟨k+1,hlt,by first|rw[jr.out]|rfl,HA2.out,acB.out,HL.out⟩,by first|(rw[jr.out];simp[RowKit.intOf];omega)|(simp[RowKit.intOf];omega)⟩
  ·have hkn:k=N:=by omega
   rw[jM (by rw[HN.out,hkn];exact ay _)]at hl;have HL:=ah (show none=Left.vN x L from hl);clear hl hkn;have e0:=HA.out.c0;have f0:=HA.out.f 0;have tZ:=ah (HA.out.s0 0);have e1:=tZ.out.c1;have f1:=tZ.out.f 1;have rY:=ah (tZ.out.s1 0);go_wp2;refine ji (ug rfl _ _ _ _ _ rfl rY.out.box) rfl ?_;exact⟨by rw[←HL.out];rfl,rY.out.aB⟩
theorem aly (s t:ByteArray) (L:List (Nat×Nat)) (fo le wo:Bool) (x:Int) (W:World) (hL:L.length≤1000)
 (hE:∀w,Below W.heap.size W w→Calls Tryz.prog 16 #[.string s, .string t, .agg #[.bool fo, .bool le, .bool wo]] w (fQ L w)):
 Calls Tryz.prog 30 #[.string s, .string t, .agg #[.bool fo, .bool le, .bool wo], .int .i64 x] W (oh (Left.pI x none L) W):=by
 have HE:=ah hE;clear hE;obtain⟨N,hN⟩:∃N,L.length=N:=⟨_,rfl⟩
 rw[hN]at hL;have HN:=ah hN;clear hN;go_enter Tryz.func30,Tryz.ntmps30;go_wp2_with (go_at_call 16;refine(HE.out _ (RX.new _).aB).mono ?_;rintro e w1 ⟨v,rfl,hb1,hown1⟩;rw[HN.out]at hown1;obtain⟨A,c,rfl,_⟩:=gK hown1;have HB1:=ah ((RX.new (W:=W) _).go hb1);have HR:=ah (rQ HN.out hown1 (by omega));have HG:=ah (fun(g:Nat) (he:A=some ⟨g,0,none⟩)=>show g≠W.heap.size+1 from by have:=(bL hown1 (g:=g) (by subst he;rfl)).1;simp at this;omega);clear hb1 hown1);go_loopw [17,9] (fun i vo wr=>∃(k:Nat) (p r:Int) (o:Bool) (q:Option (Nat×Nat)),k≤N∧i= .int .i64 k∧vo= .bool o∧RX W p r wr∧Hz wr A N L∧afY q= .tuple #[.agg #[.int .i64 p, .int .i64 r], .bool o]∧Left.pI x q (L.drop k)=Left.pI x none L) (fun i _ _=>N-(RowKit.intOf i).toNat);case atStart=>exact⟨0,0,0,false,none,aH _,rfl,rfl,HB1.out,HR.out,rfl,rfl⟩
 case round=>
  obtain⟨k,p,r,o,q,hk,rfl,rfl,hA,hbw,hv,hl⟩:=hrel;have HV:=ah hv;clear hv;have HA:=ah hA;clear hA;have VG:=ah hbw;clear hbw;by_cases hlt:k<N
  ·obtain⟨g,rfl,hg,hc⟩:=VG.out.at_ (by omega);obtain⟨c0,c1⟩:=hc k hlt;have hp:L[k]? =some (L.getD k Left.m0):=by rw[aN,bf (by rw[HN.out];exact hlt)];rfl
   obtain⟨⟨a,b⟩,hab⟩:∃p,L.getD k Left.m0=p:=⟨_,rfl⟩
   rw[hab]at c0 c1 hp;rw[drop_at hp,Left.pI]at hl;dsimp only at hl;clear hc hab hp hg;have hwk:wrap64 ((k:Int)+1)=((k+1:Nat):Int):=by unfold wrap64;omega
   have jr:=ah hwk;clear hwk;have hk0:(0:Int)≤k:=by omega
   have hk1:(k:Int)<N:=by omega
   have hal:=(aG wr.heap.size wr).alloc (ay _) (.cells #[.int .i64 a, .int .i64 b] 33);have HA2:=ah (HA.out.go hal);have acB:=ah (VG.out.below hal);clear hal;by_cases hae:(b:Int)≤x;·rw[ak hae]at hl;have HL:=ah hl;clear hl;have e0:=HA2.out.c0;have f0:=HA2.out.f 0;have tZ:=ah (HA2.out.s0 a);have e1:=tZ.out.c1;have f1:=tZ.out.f 1;have rY:=ah (tZ.out.s1 b);have anA:=ah ((acB.out.set HG.out 0 (.int .i64 a)).set HG.out 1 (.int .i64 b));go_wp2;exact⟨⟨k+1,a,b,true,some (a,b),hlt,by first|rw[jr.out]|rfl,rfl,rY.out,anA.out,rfl,HL.out⟩,by first|(rw[jr.out];simp[RowKit.intOf];omega)|(simp[RowKit.intOf];omega)⟩
   ·rw[aj hae]at hl;have HL:=ah hl;clear hl;go_wp2;exact⟨⟨k+1,p,r,o,q,hlt,by first|rw[jr.out]|rfl,rfl,HA2.out,acB.out,HV.out,HL.out⟩,by first|(rw[jr.out];simp[RowKit.intOf];omega)|(simp[RowKit.intOf];omega)⟩
  ·have hkn:k=N:=by omega
   rw[jM (by rw[HN.out,hkn];exact ay _)]at hl;have HL:=ah (show q=Left.pI x none L from hl);clear hl hkn;have e0:=HA.out.c0;have f0:=HA.out.f 0;have e1:=HA.out.c1;have tZ:=ah (HA.out.s0 p);have e1':=tZ.out.c1;have f1:=tZ.out.f 1;have rY:=ah (tZ.out.s1 r);go_wp2;refine ji (ug rfl _ _ _ _ _ rfl rY.out.box) rfl ?_;exact⟨by rw[←HL.out,HV.out];rfl,rY.out.aB⟩
def Ox (l:List (Nat×Nat)) (a b:Int) (W:World) (e:Ending) (w':World):Prop:=(∃i,e= .returned (.int .i64 i)∧decide (0≤i)=Left.Au a b l)∧Below W.heap.size W w'
structure IY (W:World) (a b:Int) (w:World):Prop where
 aB:Below W.heap.size W w
 box:w.heap[W.heap.size]? =some (.cells #[.int .i64 a, .int .i64 b] 33 (0,0))
theorem IY.drewN {W w:World} {a b:Int} (h:IY W a b w) (n:Nat):IY W a b (w.drewN n):=⟨⟨h.aB.os,h.aB.tape,h.aB.output,h.aB.size,h.aB.block⟩,h.box⟩
theorem VB (l:List (Nat×Nat)) (a b:Int) (A:Option Addr) (n c:Nat) (W:World) (hR:Hz W A n l):
 Calls Tryz.prog 130 #[.slice A n c, .agg #[.int .i64 a, .int .i64 b]] W (Ox l a b W):=by
 have hsm:=hR.small;have HR:=ah hR;clear hR;go_enter Tryz.func130,Tryz.ntmps130;go_wp2;go_loopw [8] (fun i wr=>∃k:Nat,k≤n∧i= .int .i64 k∧Left.Au a b (l.drop k)=Left.Au a b l∧IY W a b wr) (fun i _=>n-(RowKit.intOf i).toNat);case atStart=>exact⟨0,aH _,rfl,rfl,(aG _ W).alloc (ay _) _,dw W _⟩
 case round=>
  obtain⟨k,hk,rfl,hlo,hI⟩:=hrel;have HI:=ah hI;clear hI;have b0:=(bq wr W.heap.size 0 _ _ _ HI.out.box).trans rfl;have b1:=(bq wr W.heap.size 1 _ _ _ HI.out.box).trans rfl;by_cases hlt:k<n
  ·obtain⟨g,rfl,hg,hc⟩:=HR.out.at_ (by omega);obtain⟨c0,c1⟩:=hc k hlt;rw[Left.drop_one (by rw[HR.out.len];exact hlt),Left.Au]at hlo;obtain⟨⟨x,y⟩,hxy⟩:∃p,l.getD k Left.m0=p:=⟨_,rfl⟩
   rw[hxy]at c0 c1 hlo;dsimp only at hlo;have d0:=(HI.out.aB.cell (p:=⟨g,k*2,none⟩) hg).trans c0;have d1:=(HI.out.aB.cell (p:=⟨g,k*2+1,none⟩) hg).trans c1;clear c0 c1 hc hg hxy;have hk0:(0:Int)≤k:=by omega
   have hk1:(k:Int)<n:=by omega
   have HID:=ah HI.out.drewN;have hwk:wrap64 ((k:Int)+1)=((k+1:Nat):Int):=by unfold wrap64;omega
   have jr:=ah hwk;clear hwk;by_cases hx:(x:Int)=a
   ·subst hx;by_cases hy:(y:Int)=b
    ·subst hy;rw[ak ⟨rfl,rfl⟩]at hlo;have uD:=ah hlo;clear hlo;go_wp2;go_quiet (fail);go_wp2;go_ret;exact⟨⟨_,rfl,by rw[←uD.out];exact bD (tC k)⟩,(HID.out _).aB⟩
    ·have hyi:¬b=(y:Int):=fun c=>hy c.symm;have hyb:(b==(y:Int))=false:=bW.2 hyi;rw[aj (fun c=>hy c.2)]at hlo;have uD:=ah hlo;clear hlo;go_wp2;go_quiet (fail);go_wp2;exact⟨⟨k+1,hlt,by first|rw[jr.out]|rfl,uD.out,HID.out _⟩,by first|(rw[jr.out];simp[RowKit.intOf];omega)|(simp[RowKit.intOf];omega)⟩
   ·have hxi:¬a=(x:Int):=fun c=>hx c.symm;have hxb:(a==(x:Int))=false:=bW.2 hxi;rw[aj (fun c=>hx c.1)]at hlo;have uD:=ah hlo;clear hlo;go_wp2;go_quiet (fail);go_wp2;exact⟨⟨k+1,hlt,by first|rw[jr.out]|rfl,uD.out,HID.out _⟩,by first|(rw[jr.out];simp[RowKit.intOf];omega)|(simp[RowKit.intOf];omega)⟩
  ·obtain rfl:k=n:=by omega
   rw[jM (tF HR.out.len),Left.Au]at hlo;have uD:=ah hlo;clear hlo;go_wp2;go_ret;exact⟨⟨_,rfl,by rw[←uD.out];rfl⟩,HI.out.aB⟩
theorem Lc (l:List (Nat×Nat)) (a b:Int) (A:Option Addr) (n c:Nat) (W:World) (hR:Hz W A n l):
 Calls Tryz.prog 80 #[.slice A n c, .agg #[.int .i64 a, .int .i64 b]] W fun e w'=>e= .returned (.bool (Left.Au a b l))∧Below W.heap.size W w':=by
 have hb0:Below W.heap.size W (W.alloc (.cells #[.int .i64 a, .int .i64 b] 33)):=(aG _ W).alloc (ay _) _;have H:=ah (VB l a b A n c _ (hR.below hb0));have HB0:=ah hb0;obtain⟨q,hq⟩:∃q,Left.Au a b l=q:=⟨_,rfl⟩
 unfold Ox at H;rw[hq]at H;rw[hq];clear hq hb0 hR;go_enter Tryz.func80,Tryz.ntmps80;go_wp2_with (go_at_call 130;refine H.out.mono ?_;rintro e w1 ⟨⟨i,rfl,hi⟩,hb⟩;have HB:=ah hb;have HII:=ah hi;clear hb hi);go_ret;refine⟨?_,HB0.out.trans (HB.out.mono (by simp))⟩;rw[←HII.out];rfl
theorem anC (s t:ByteArray) (L:List (Nat×Nat)) (fo le wo:Bool) (a b:Int) (W:World) (hL:L.length≤1000)
 (hE:∀w,Below W.heap.size W w→Calls Tryz.prog 16 #[.string s, .string t, .agg #[.bool fo, .bool le, .bool wo]] w (fQ L w)):
 Calls Tryz.prog 25 #[.string s, .string t, .agg #[.bool fo, .bool le, .bool wo], .int .i64 a, .int .i64 b] W fun e w'=>e= .returned (.bool (Left.Au a b L))∧Below W.heap.size W w':=by
 have HE:=ah hE;clear hE;have HL:=ah hL;clear hL;go_enter Tryz.func25,Tryz.ntmps25;go_wp2_with (first|(go_at_call 16;refine(HE.out _ ((aG _ W).alloc (ay _) _)).mono ?_;rintro e w1 ⟨v,rfl,hb1,hown1⟩;obtain⟨A,c,rfl,_⟩:=gK hown1;have HB1:=ah (((aG _ W).alloc (ay _) _).trans (hb1.mono (dX (by simp))));have HR:=ah (rQ rfl hown1 (aX HL.out (by decide)));clear hb1 hown1)|(go_at_call 80;refine(Lc L a b _ _ _ _ HR.out).mono ?_;rintro e w2 ⟨rfl,hb⟩;have HB2:=ah (HB1.out.trans (hb.mono HB1.out.size));clear hb));go_ret;exact⟨rfl,HB2.out⟩
theorem anD (s t:ByteArray) (L:List (Nat×Nat)) (fo le wo:Bool) (a b:Int) (W:World) (hL:L.length≤1000)
 (hE:∀w,Below W.heap.size W w→Calls Tryz.prog 19 #[.string s, .string t, .agg #[.bool fo, .bool le, .bool wo]] w (fQ L w)):
 Calls Tryz.prog 32 #[.string s, .string t, .agg #[.bool fo, .bool le, .bool wo], .int .i64 a, .int .i64 b] W fun e w'=>e= .returned (.bool (Left.Au a b L))∧Below W.heap.size W w':=by
 have HE:=ah hE;clear hE;obtain⟨N,hN⟩:∃N,L.length=N:=⟨_,rfl⟩
 rw[hN]at hL;have HN:=ah hN;clear hN;go_enter Tryz.func32,Tryz.ntmps32;go_wp2_with (go_at_call 19;refine(HE.out _ ((aG _ W).alloc (ay _) _)).mono ?_;rintro e w1 ⟨v,rfl,hb1,hown1⟩;rw[HN.out]at hown1;obtain⟨A,c,rfl,_⟩:=gK hown1;have HB1:=ah (((aG _ W).alloc (ay _) _).trans (hb1.mono (dX (by simp))));have HR:=ah (rQ HN.out hown1 (by omega));clear hb1 hown1);go_loopw [12] (fun i wr=>∃(k:Nat),k≤N∧i= .int .i64 k∧wr=w1∧Left.Au a b (L.drop k)=Left.Au a b L) (fun i _=>N-(RowKit.intOf i).toNat);case atStart=>exact⟨0,aH _,rfl,rfl,rfl⟩
 case round=>
  obtain⟨k,hk,rfl,rfl,hl⟩:=hrel;by_cases hlt:k<N
  ·obtain⟨g,rfl,hg,hc⟩:=HR.out.at_ (by omega);obtain⟨c0,c1⟩:=hc k hlt;rw[Left.drop_one (by rw[HN.out];exact hlt),Left.Au]at hl;obtain⟨⟨x,y⟩,hab⟩:∃p,L.getD k Left.m0=p:=⟨_,rfl⟩
   rw[hab]at c0 c1 hl;dsimp only at hl;clear hc hab hg;have hwk:wrap64 ((k:Int)+1)=((k+1:Nat):Int):=by unfold wrap64;omega
   have jr:=ah hwk;clear hwk;have hk0:(0:Int)≤k:=by omega
   have hk1:(k:Int)<N:=by omega
   by_cases hx:(x:Int)=a
   ·subst hx;by_cases hy:(y:Int)=b
    ·subst hy;rw[ak ⟨rfl,rfl⟩]at hl;have HL:=ah hl;clear hl;go_wp2;go_ret;exact⟨by rw[←HL.out];rfl,HB1.out⟩
    ·have hyb:((y:Int)==b)=false:=bW.2 hy;rw[aj (fun c=>hy c.2)]at hl;have HL:=ah hl;clear hl;go_wp2;exact⟨⟨k+1,hlt,by first|rw[jr.out]|rfl,by trivial,HL.out⟩,by first|(rw[jr.out];simp[RowKit.intOf];omega)|(simp[RowKit.intOf];omega)⟩
   ·have hxb:((x:Int)==a)=false:=bW.2 hx;rw[aj (fun c=>hx c.1)]at hl;have HL:=ah hl;clear hl;go_wp2;exact⟨⟨k+1,hlt,by first|rw[jr.out]|rfl,by trivial,HL.out⟩,by first|(rw[jr.out];simp[RowKit.intOf];omega)|(simp[RowKit.intOf];omega)⟩
  ·obtain rfl:k=N:=by omega
   rw[jM (tF HN.out),Left.Au]at hl;have HL:=ah hl;clear hl;go_wp2;go_ret;exact⟨by rw[←HL.out];rfl,HB1.out⟩
theorem ajk (s t:ByteArray) (L:List (Nat×Nat)) (fo le wo:Bool) (x:Int) (W:World) (hL:L.length≤1000)
 (hE:∀w,Below W.heap.size W w→Calls Tryz.prog 19 #[.string s, .string t, .agg #[.bool fo, .bool le, .bool wo]] w (fQ L w)):
 Calls Tryz.prog 29 #[.string s, .string t, .agg #[.bool fo, .bool le, .bool wo], .int .i64 x] W (oh (Left.vN x L) W):=by
 have HE:=ah hE;clear hE;obtain⟨N,hN⟩:∃N,L.length=N:=⟨_,rfl⟩
 rw[hN]at hL;have HN:=ah hN;clear hN;go_enter Tryz.func29,Tryz.ntmps29;go_wp2_with (go_at_call 19;refine(HE.out _ (RX.new _).aB).mono ?_;rintro e w1 ⟨v,rfl,hb1,hown1⟩;rw[HN.out]at hown1;obtain⟨A,c,rfl,_⟩:=gK hown1;have HB1:=ah ((RX.new (W:=W) _).go hb1);have HR:=ah (rQ HN.out hown1 (by omega));clear hb1 hown1);go_loopw [11] (fun i wr=>∃(k:Nat),k≤N∧i= .int .i64 k∧wr=w1∧Left.vN x (L.drop k)=Left.vN x L) (fun i _=>N-(RowKit.intOf i).toNat);case atStart=>exact⟨0,aH _,rfl,rfl,rfl⟩
 case round=>
  obtain⟨k,hk,rfl,rfl,hl⟩:=hrel;by_cases hlt:k<N
  ·obtain⟨g,rfl,hg,hc⟩:=HR.out.at_ (by omega);obtain⟨c0,c1⟩:=hc k hlt;have hp:L[k]? =some (L.getD k Left.m0):=by rw[aN,bf (by rw[HN.out];exact hlt)];rfl
   obtain⟨⟨a,b⟩,hab⟩:∃p,L.getD k Left.m0=p:=⟨_,rfl⟩
   rw[hab]at c0 c1 hp;rw[drop_at hp,Left.vN]at hl;dsimp only at hl;clear hc hab hp hg;have hwk:wrap64 ((k:Int)+1)=((k+1:Nat):Int):=by unfold wrap64;omega
   have jr:=ah hwk;clear hwk;have hk0:(0:Int)≤k:=by omega
   have hk1:(k:Int)<N:=by omega
   by_cases hae:x≤(a:Int);·rw[ak hae]at hl;have HL:=ah hl;clear hl;have e0:=HB1.out.c0;have f0:=HB1.out.f 0;have tZ:=ah (HB1.out.s0 a);have e1:=tZ.out.c1;have f1:=tZ.out.f 1;have rY:=ah (tZ.out.s1 b);go_wp2;refine ji (ug rfl _ _ _ _ _ rfl rY.out.box) rfl ?_;exact⟨by rw[←HL.out];rfl,rY.out.aB⟩
   ·rw[aj hae]at hl;have HL:=ah hl;clear hl;go_wp2;exact⟨⟨k+1,hlt,by first|rw[jr.out]|rfl,by trivial,HL.out⟩,by first|(rw[jr.out];simp[RowKit.intOf];omega)|(simp[RowKit.intOf];omega)⟩
  ·have hkn:k=N:=by omega
   rw[jM (by rw[HN.out,hkn];exact ay _)]at hl;have HL:=ah (show none=Left.vN x L from hl);clear hl hkn;have e0:=HB1.out.c0;have f0:=HB1.out.f 0;have tZ:=ah (HB1.out.s0 0);have e1:=tZ.out.c1;have f1:=tZ.out.f 1;have rY:=ah (tZ.out.s1 0);go_wp2;refine ji (ug rfl _ _ _ _ _ rfl rY.out.box) rfl ?_;exact⟨by rw[←HL.out];rfl,rY.out.aB⟩
theorem ajl (s t:ByteArray) (L:List (Nat×Nat)) (fo le wo:Bool) (x:Int) (W:World) (hL:L.length≤1000)
 (hE:∀w,Below W.heap.size W w→Calls Tryz.prog 19 #[.string s, .string t, .agg #[.bool fo, .bool le, .bool wo]] w (fQ L w)):
 Calls Tryz.prog 31 #[.string s, .string t, .agg #[.bool fo, .bool le, .bool wo], .int .i64 x] W (oh (Left.pI x none L) W):=by
 have HE:=ah hE;clear hE;obtain⟨N,hN⟩:∃N,L.length=N:=⟨_,rfl⟩
 rw[hN]at hL;have HN:=ah hN;clear hN;have hw0:wrap64 ((N:Int)-1)=(N:Int)-1:=by unfold wrap64;omega
 go_enter Tryz.func31,Tryz.ntmps31;go_wp2_with (go_at_call 19;refine(HE.out _ (RX.new _).aB).mono ?_;rintro e w1 ⟨v,rfl,hb1,hown1⟩;rw[HN.out]at hown1;obtain⟨A,c,rfl,_⟩:=gK hown1;have HB1:=ah ((RX.new (W:=W) _).go hb1);have HR:=ah (rQ HN.out hown1 (by omega));clear hb1 hown1);clear hw0;go_loopw [11] (fun i wr=>∃(k:Nat),k≤N∧i= .int .i64 ((k:Int)-1)∧wr=w1∧∀m∈L.drop k,¬(m.2:Int)≤x) (fun i _=>(RowKit.intOf i+1).toNat);case atStart=>exact⟨N,ay _,rfl,rfl,by rw[jM (tF HN.out)];exact fun _ h=>by cases h⟩
 case round=>
  obtain⟨k,hk,rfl,rfl,hl⟩:=hrel;have HL:=ah hl;clear hl;by_cases hlt:0<k
  ·obtain⟨j,rfl⟩:∃j,k=j+1:=⟨k-1,by omega⟩
   rw[show((j+1:Nat):Int)-1=(j:Int)by omega];obtain⟨g,rfl,hg,hc⟩:=HR.out.at_ (by omega);obtain⟨c0,c1⟩:=hc j (by omega);have hj:j<L.length:=by rw[HN.out];omega
   have HIT:=ah (Left.UO (x:=x) hj HL.out);have MIS:=ah (Left.UQ (x:=x) hj HL.out);obtain⟨⟨a,b⟩,hab⟩:∃p,L.getD j Left.m0=p:=⟨_,rfl⟩
   rw[hab]at c0 c1 HIT MIS;clear hc hab hg hj;have hwk:wrap64 ((j:Int)-1)=(j:Int)-1:=by unfold wrap64;omega
   have jr:=ah hwk;clear hwk;have hk0:(0:Int)≤j:=by omega
   have hk1:(j:Int)<N:=by omega
   by_cases hae:(b:Int)≤x;·have HQ:=ah (HIT.out hae);have e0:=HB1.out.c0;have f0:=HB1.out.f 0;have tZ:=ah (HB1.out.s0 a);have e1:=tZ.out.c1;have f1:=tZ.out.f 1;have rY:=ah (tZ.out.s1 b);go_wp2;refine ji (ug rfl _ _ _ _ _ rfl rY.out.box) rfl ?_;exact⟨by rw[HQ.out];rfl,rY.out.aB⟩
   ·have HQ:=ah (MIS.out hae);go_wp2;exact⟨⟨j,by omega,by first|rw[jr.out]|rfl,by trivial,HQ.out⟩,by show((j:Int)-1+1).toNat<((j:Int)+1).toNat;omega⟩
  ·obtain rfl:k=0:=by omega
   have HQ:=ah (show Left.pI x none L=none from Left.yT x L none HL.out);have hn:¬(0:Int)≤((0:Nat):Int)-1:=by omega
   have e0:=HB1.out.c0;have f0:=HB1.out.f 0;have tZ:=ah (HB1.out.s0 0);have e1:=tZ.out.c1;have f1:=tZ.out.f 1;have rY:=ah (tZ.out.s1 0);go_wp2;refine ji (ug rfl _ _ _ _ _ rfl rY.out.box) rfl ?_;exact⟨by rw[HQ.out];rfl,rY.out.aB⟩
def ZO (w:World):Prop:=Calls Tryz.prog 14 #[] w fun e w'=>e= .returned (.bool true)∧Below w.heap.size w w'
def Ld (W:World) (e:Ending) (w':World):Prop:=e= .returned (.bool true)∧Below W.heap.size W w'
theorem afZ (s:ByteArray):(⟨s.data.toList.toArray⟩:ByteArray)=s:=by rw[Array.toArray_toList]
structure QW (W:World) (C:Array Value) (w:World):Prop where
 aB:Below W.heap.size W w
 o:w.heap[W.heap.size]? =some (.cells C 36 (0,0))
section
variable {W w w':World} {C:Array Value}
theorem QW.new (W:World) (C:Array Value):QW W C (W.alloc (.cells C 36)):=⟨(aG _ W).alloc (ay _) _,dw W _⟩
theorem QW.go (h:QW W C w) (hb:Below w.heap.size w w'):QW W C w':=⟨h.aB.trans (hb.mono h.aB.size),bI hb h.o⟩
theorem QW.alloc (h:QW W C w) (o:Obj):QW W C (w.alloc o):=h.go ((aG _ w).alloc (ay _) o)
theorem QW.drew (h:QW W C w):QW W C w.drew:=⟨⟨h.aB.os,h.aB.tape,h.aB.output,h.aB.size,h.aB.block⟩,h.o⟩
theorem QW.c (h:QW W C w) (i:Nat):w.cell? ⟨W.heap.size,i,none⟩=C[i]? :=bq _ _ _ _ _ _ h.o
end
def BX (g:Nat) (p r:Int) (w:World):Prop:=w.heap[g]? =some (.cells #[.int .i64 p, .int .i64 r] 33 (0,0))
theorem BX.c0 {g:Nat} {p r:Int} {w:World} (h:BX g p r w):w.cell? ⟨g,0,none⟩=some (.int .i64 p):=(bq _ _ _ _ _ _ h).trans rfl
theorem BX.c1 {g:Nat} {p r:Int} {w:World} (h:BX g p r w):w.cell? ⟨g,1,none⟩=some (.int .i64 r):=(bq _ _ _ _ _ _ h).trans rfl
theorem BX.go {g:Nat} {p r:Int} {w w':World} (h:BX g p r w) (hb:Below w.heap.size w w'):BX g p r w':=bI hb h
theorem BX.new (w:World) (p r:Int):BX w.heap.size p r (w.alloc (.cells #[.int .i64 p, .int .i64 r] 33)):=dw w _
theorem BX.alloc {g:Nat} {p r:Int} {w:World} (h:BX g p r w) (o:Obj):BX g p r (w.alloc o):=h.go ((aG _ w).alloc (ay _) o)
structure QC (W:World) (C:Array Value) (g1 g2 g3 g4:Nat) (p1 r1 p2 r2:Int) (w:World):Prop where
 q:QW W C w
 a:BX g1 p1 r1 w
 b:BX g2 p1 r1 w
 c:BX g3 p2 r2 w
 d:BX g4 p2 r2 w
theorem QC.go {W w w':World} {C:Array Value} {g1 g2 g3 g4:Nat} {p1 r1 p2 r2:Int} (h:QC W C g1 g2 g3 g4 p1 r1 p2 r2 w) (hb:Below w.heap.size w w'):QC W C g1 g2 g3 g4 p1 r1 p2 r2 w':=⟨h.q.go hb,h.a.go hb,h.b.go hb,h.c.go hb,h.d.go hb⟩
theorem agT (s t:ByteArray) (fo le wo:Bool) (x y:Int) (W:World) (hl:∀w,Below W.heap.size W w→ZO w) (h:48<s.size∨40<t.size):
 Calls Tryz.prog 8 #[.agg #[.string s, .string t, .bool fo, .bool le, .bool wo, .int .i64 x, .int .i64 y]] W (Ld W):=by
 have HL:=ah hl;clear hl;have HB0:=ah (QW.new W #[.string s, .string t, .bool fo, .bool le, .bool wo, .int .i64 x, .int .i64 y]);rcases(by omega:48<s.size∨(¬48<s.size∧40<t.size))with h1|⟨h1,h2⟩
 ·have h1i:(48:Int)<s.size:=by omega
  clear h;go_enter Tryz.func8,Tryz.ntmps8;go_wp2_with (go_at_call 14;refine(HL.out _ HB0.out.aB).mono ?_;rintro e w1 ⟨rfl,hb⟩;have HB1:=ah (HB0.out.go hb);clear hb);go_ret;exact⟨rfl,HB1.out.aB⟩
 ·have h1i:¬(48:Int)<s.size:=by omega
  have h2i:(40:Int)<t.size:=by omega
  clear h;go_enter Tryz.func8,Tryz.ntmps8;go_wp2_with (go_at_call 14;refine(HL.out _ HB0.out.aB).mono ?_;rintro e w1 ⟨rfl,hb⟩;have HB1:=ah (HB0.out.go hb);clear hb);go_ret;exact⟨rfl,HB1.out.aB⟩
theorem GR (q:Option (Nat×Nat)):∃p r o,afY q= .tuple #[.agg #[.int .i64 p, .int .i64 r], .bool o]:=by
 cases q with
 |none=>exact⟨0,0,false,rfl⟩
 |some m=>exact⟨m.1,m.2,true,rfl⟩
theorem af0 (s t:ByteArray) (q1 q2:Option (Nat×Nat)) (m:Bool) (fo le wo:Bool) (x y:Int) (W:World) (hs:s.size≤48) (ht:t.size≤40)
 (hlive:∀w,Below W.heap.size W w→ZO w)
 (hN:∀w,Below W.heap.size W w→Calls Tryz.prog 28 #[.string s, .string t, .agg #[.bool fo, .bool le, .bool wo], .int .i64 x] w (oh q1 w))
 (hdN:∀w,Below W.heap.size W w→Calls Tryz.prog 29 #[.string s, .string t, .agg #[.bool fo, .bool le, .bool wo], .int .i64 x] w (oh q1 w))
 (hP:∀w,Below W.heap.size W w→Calls Tryz.prog 30 #[.string s, .string t, .agg #[.bool fo, .bool le, .bool wo], .int .i64 x] w (oh q2 w))
 (hdP:∀w,Below W.heap.size W w→Calls Tryz.prog 31 #[.string s, .string t, .agg #[.bool fo, .bool le, .bool wo], .int .i64 x] w (oh q2 w))
 (hI:∀w,Below W.heap.size W w→Calls Tryz.prog 25 #[.string s, .string t, .agg #[.bool fo, .bool le, .bool wo], .int .i64 x, .int .i64 y] w fun e w'=>e= .returned (.bool m)∧Below w.heap.size w w')
 (hdI:∀w,Below W.heap.size W w→Calls Tryz.prog 32 #[.string s, .string t, .agg #[.bool fo, .bool le, .bool wo], .int .i64 x, .int .i64 y] w fun e w'=>e= .returned (.bool m)∧Below w.heap.size w w'):
 Calls Tryz.prog 8 #[.agg #[.string s, .string t, .bool fo, .bool le, .bool wo, .int .i64 x, .int .i64 y]] W (Ld W):=by
 obtain⟨p1,r1,o1,e1⟩:=GR q1;obtain⟨p2,r2,o2,e2⟩:=GR q2;unfold oh at hN hdN hP hdP;rw[e1]at hN hdN;rw[e2]at hP hdP;have HL:=ah hlive;have HNE:=ah hN;have HDN:=ah hdN;have HPR:=ah hP;have HDP:=ah hdP;have HIS:=ah hI;have HDI:=ah hdI;have hs1:¬(48:Int)<s.size:=by omega
 have ht1:¬(40:Int)<t.size:=by omega
 have HB0:=ah (QW.new W #[.string s, .string t, .bool fo, .bool le, .bool wo, .int .i64 x, .int .i64 y]);clear hlive hN hdN hP hdP hI hdI hs ht e1 e2;go_enter Tryz.func8,Tryz.ntmps8;go_upto_region 7 with(first
  |(go_at_call 28;refine(HNE.out _ HB0.out.aB).mono ?_;rintro e w1 ⟨rfl,hb⟩;have HB1:=ah ((HB0.out.go hb).alloc (.cells #[.int .i64 p1, .int .i64 r1] 33));have HA:=ah (BX.new w1 p1 r1);clear hb;have y0:=(HB1.out.c 0).trans rfl;have y1:=(HB1.out.c 1).trans rfl;have y2:=(HB1.out.c 2).trans rfl;have y3:=(HB1.out.c 3).trans rfl;have y4:=(HB1.out.c 4).trans rfl;have y5:=(HB1.out.c 5).trans rfl)
  |(go_at_call 29;refine(HDN.out _ HB1.out.aB).mono ?_;rintro e w2 ⟨rfl,hb⟩;have HB2:=ah ((HB1.out.go hb).alloc (.cells #[.int .i64 p1, .int .i64 r1] 33));have HA2:=ah ((HA.out.go hb).alloc (.cells #[.int .i64 p1, .int .i64 r1] 33));have HC2:=ah (BX.new w2 p1 r1);clear hb y0 y1 y2 y3 y4 y5;have y0:=(HB2.out.c 0).trans rfl;have y1:=(HB2.out.c 1).trans rfl;have y2:=(HB2.out.c 2).trans rfl;have y3:=(HB2.out.c 3).trans rfl;have y4:=(HB2.out.c 4).trans rfl;have y5:=(HB2.out.c 5).trans rfl)
  |(go_at_call 30;refine(HPR.out _ HB2.out.aB).mono ?_;rintro e w3 ⟨rfl,hb⟩;have HB3:=ah ((HB2.out.go hb).alloc (.cells #[.int .i64 p2, .int .i64 r2] 33));have tZ:=ah ((HA2.out.go hb).alloc (.cells #[.int .i64 p2, .int .i64 r2] 33));have HC3:=ah ((HC2.out.go hb).alloc (.cells #[.int .i64 p2, .int .i64 r2] 33));have HD3:=ah (BX.new w3 p2 r2);clear hb y0 y1 y2 y3 y4 y5;have y0:=(HB3.out.c 0).trans rfl;have y1:=(HB3.out.c 1).trans rfl;have y2:=(HB3.out.c 2).trans rfl;have y3:=(HB3.out.c 3).trans rfl;have y4:=(HB3.out.c 4).trans rfl;have y5:=(HB3.out.c 5).trans rfl)
  |(go_at_call 31;refine(HDP.out _ HB3.out.aB).mono ?_;rintro e w4 ⟨rfl,hb⟩;have H6:=ah ((HB3.out.go hb).alloc (.cells #[.int .i64 p2, .int .i64 r2] 33));have rY:=ah ((tZ.out.go hb).alloc (.cells #[.int .i64 p2, .int .i64 r2] 33));have HC4:=ah ((HC3.out.go hb).alloc (.cells #[.int .i64 p2, .int .i64 r2] 33));have HD4:=ah ((HD3.out.go hb).alloc (.cells #[.int .i64 p2, .int .i64 r2] 33));have HE4:=ah (BX.new w4 p2 r2);clear hb y0 y1 y2 y3 y4 y5))
 obtain⟨u,hu⟩:∃u,w4.alloc (.cells #[.int .i64 p2, .int .i64 r2] 33)=u:=⟨_,rfl⟩
 rw[hu]at H6 rY HC4 HD4 HE4⊢;have HQ:QC W #[.string s, .string t, .bool fo, .bool le, .bool wo, .int .i64 x, .int .i64 y] w1.heap.size w2.heap.size w3.heap.size w4.heap.size p1 r1 p2 r2 (u.drewN 1):=⟨H6.out.drew,rY.out,HC4.out,HD4.out,HE4.out⟩
 clear hu HB0 HB1 HB2 HB3 H6 HA HA2 tZ rY HC2 HC3 HC4 HD3 HD4 HE4 HNE HDN HPR HDP;refine gZ (C:=QC W #[.string s, .string t, .bool fo, .bool le, .bool wo, .int .i64 x, .int .i64 y] w1.heap.size w2.heap.size w3.heap.size w4.heap.size p1 r1 p2 r2) (by kernel_rfl) (by kernel_rfl) HQ ?_;go_big_quiet_step (exact fun _=>rfl);refine bG (by kernel_rfl) (fun K hK=> ?_);refine aZ (.string s) (fun w hw=> ?_) (hK _ ?_);·have y:=(hw.q.c 0).trans rfl;go_simp
 clear hK K;(try simp only[Act.put]);(try simp only[aS]);(try simp only[aU]);(try simp only[aT]);go_big_quiet_step (exact fun _=>rfl);refine bG (by kernel_rfl) (fun K hK=> ?_);refine aZ (.string t) (fun w hw=> ?_) (hK _ ?_);·have y:=(hw.q.c 1).trans rfl;go_simp
 clear hK K;(try simp only[Act.put]);(try simp only[aS]);(try simp only[aU]);(try simp only[aT]);go_big_quiet_step (exact fun _=>rfl);refine bG (by kernel_rfl) (fun K hK=> ?_);refine aZ (.agg #[.bool fo, .bool le, .bool wo]) (fun w hw=> ?_) (hK _ ?_);·have y2:=(hw.q.c 2).trans rfl;have y3:=(hw.q.c 3).trans rfl;have y4:=(hw.q.c 4).trans rfl;go_simp
 clear hK K;(try simp only[Act.put]);(try simp only[aS]);(try simp only[aU]);(try simp only[aT]);go_big_quiet_step (exact fun _=>rfl);refine bG (by kernel_rfl) (fun K hK=> ?_);refine aZ (.int .i64 x) (fun w hw=> ?_) (hK _ ?_);·have y:=(hw.q.c 5).trans rfl;go_simp
 clear hK K;(try simp only[Act.put]);(try simp only[aS]);(try simp only[aU]);(try simp only[aT]);go_big_quiet_step (exact fun _=>rfl);refine bG (by kernel_rfl) (fun K hK=> ?_);refine aZ (.int .i64 y) (fun w hw=> ?_) (hK _ ?_);·have y:=(hw.q.c 6).trans rfl;go_simp
 clear hK K;(try simp only[Act.put]);(try simp only[aS]);(try simp only[aU]);(try simp only[aT]);refine bG (by kernel_rfl) (fun K hK=> ?_);refine gF 25 #[.string s, .string t, .agg #[.bool fo, .bool le, .bool wo], .int .i64 x, .int .i64 y] (.bool m) (fun w hw=> ?_) (fun w hw=> ?_) (hK _ ?_);·go_simp
 ·refine(HIS.out w hw.q.aB).mono ?_;rintro e w2 ⟨rfl,hb⟩;exact⟨rfl,hw.go hb⟩
 clear hK K;(try simp only[Act.put]);(try simp only[aS]);(try simp only[aU]);(try simp only[aT]);go_big_quiet_step (exact fun _=>rfl);refine bG (by kernel_rfl) (fun K hK=> ?_);refine aZ (.string s) (fun w hw=> ?_) (hK _ ?_);·have y:=(hw.q.c 0).trans rfl;go_simp
 clear hK K;(try simp only[Act.put]);(try simp only[aS]);(try simp only[aU]);(try simp only[aT]);go_big_quiet_step (exact fun _=>rfl);refine bG (by kernel_rfl) (fun K hK=> ?_);refine aZ (.string t) (fun w hw=> ?_) (hK _ ?_);·have y:=(hw.q.c 1).trans rfl;go_simp
 clear hK K;(try simp only[Act.put]);(try simp only[aS]);(try simp only[aU]);(try simp only[aT]);go_big_quiet_step (exact fun _=>rfl);refine bG (by kernel_rfl) (fun K hK=> ?_);refine aZ (.agg #[.bool fo, .bool le, .bool wo]) (fun w hw=> ?_) (hK _ ?_);·have y2:=(hw.q.c 2).trans rfl;have y3:=(hw.q.c 3).trans rfl;have y4:=(hw.q.c 4).trans rfl;go_simp
 clear hK K;(try simp only[Act.put]);(try simp only[aS]);(try simp only[aU]);(try simp only[aT]);go_big_quiet_step (exact fun _=>rfl);refine bG (by kernel_rfl) (fun K hK=> ?_);refine aZ (.int .i64 x) (fun w hw=> ?_) (hK _ ?_);·have y:=(hw.q.c 5).trans rfl;go_simp
 clear hK K;(try simp only[Act.put]);(try simp only[aS]);(try simp only[aU]);(try simp only[aT]);go_big_quiet_step (exact fun _=>rfl);refine bG (by kernel_rfl) (fun K hK=> ?_);refine aZ (.int .i64 y) (fun w hw=> ?_) (hK _ ?_);·have y:=(hw.q.c 6).trans rfl;go_simp
 clear hK K;(try simp only[Act.put]);(try simp only[aS]);(try simp only[aU]);(try simp only[aT]);refine bG (by kernel_rfl) (fun K hK=> ?_);refine gF 32 #[.string s, .string t, .agg #[.bool fo, .bool le, .bool wo], .int .i64 x, .int .i64 y] (.bool m) (fun w hw=> ?_) (fun w hw=> ?_) (hK _ ?_);·go_simp
 ·refine(HDI.out w hw.q.aB).mono ?_;rintro e w2 ⟨rfl,hb⟩;exact⟨rfl,hw.go hb⟩
 clear hK K;(try simp only[Act.put]);(try simp only[aS]);(try simp only[aU]);(try simp only[aT]);refine bG (by kernel_rfl) (fun K hK=> ?_);refine aZ (.bool true) (fun w hw=> ?_) (hK _ ?_);·go_simp
 clear hK K;(try simp only[Act.put]);(try simp only[aS]);(try simp only[aU]);(try simp only[aT]);go_big_quiet_step (exact fun _=>rfl);refine bG (by kernel_rfl) (fun K hK=> ?_);refine aZ (.agg #[.int .i64 p1, .int .i64 r1]) (fun w hw=> ?_) (hK _ ?_);·have y0:=hw.a.c0;have y1:=hw.a.c1;go_simp
 clear hK K;(try simp only[Act.put]);(try simp only[aS]);(try simp only[aU]);(try simp only[aT]);refine bG (by kernel_rfl) (fun K hK=> ?_);refine aZ (.agg #[.int .i64 p1, .int .i64 r1]) (fun w hw=> ?_) (hK _ ?_);·have y0:=hw.b.c0;have y1:=hw.b.c1;go_simp
 clear hK K;(try simp only[Act.put]);(try simp only[aS]);(try simp only[aU]);(try simp only[aT]);refine bG (by kernel_rfl) (fun K hK=> ?_);refine aZ (.bool true) (fun w hw=> ?_) (hK _ ?_);·go_simp
 clear hK K;(try simp only[Act.put]);(try simp only[aS]);(try simp only[aU]);(try simp only[aT]);go_big_quiet_step (exact fun _=>rfl);go_big_quiet_step (exact fun _=>rfl);go_big_quiet_step (exact fun _=>rfl);go_big_quiet_step (exact fun _=>rfl);refine bG (by kernel_rfl) (fun K hK=> ?_);refine aZ (.bool true) (fun w hw=> ?_) (hK _ ?_);·go_simp
 clear hK K;(try simp only[Act.put]);(try simp only[aS]);(try simp only[aU]);(try simp only[aT]);go_big_quiet_step (exact fun _=>rfl);go_big_quiet_step (exact fun _=>rfl);refine bG (by kernel_rfl) (fun K hK=> ?_);refine aZ (.agg #[.int .i64 p2, .int .i64 r2]) (fun w hw=> ?_) (hK _ ?_);·have y0:=hw.c.c0;have y1:=hw.c.c1;go_simp
 clear hK K;(try simp only[Act.put]);(try simp only[aS]);(try simp only[aU]);(try simp only[aT]);refine bG (by kernel_rfl) (fun K hK=> ?_);refine aZ (.agg #[.int .i64 p2, .int .i64 r2]) (fun w hw=> ?_) (hK _ ?_);·have y0:=hw.d.c0;have y1:=hw.d.c1;go_simp
 clear hK K;(try simp only[Act.put]);(try simp only[aS]);(try simp only[aU]);(try simp only[aT]);refine bG (by kernel_rfl) (fun K hK=> ?_);refine aZ (.bool true) (fun w hw=> ?_) (hK _ ?_);·go_simp
 clear hK K;(try simp only[Act.put]);(try simp only[aS]);(try simp only[aU]);(try simp only[aT]);go_big_quiet_step (exact fun _=>rfl);go_big_quiet_step (exact fun _=>rfl);go_big_quiet_step (exact fun _=>rfl);go_big_quiet_step (exact fun _=>rfl);refine bG (by kernel_rfl) (fun K hK=> ?_);refine aZ (.bool true) (fun w hw=> ?_) (hK _ ?_);·go_simp
 clear hK K;(try simp only[Act.put]);(try simp only[aS]);(try simp only[aU]);(try simp only[aT]);go_big_quiet_step (exact fun _=>rfl);go_big_quiet_step (exact fun _=>rfl);refine bG (by kernel_rfl) (fun K hK=> ?_);refine gF 14 #[] (.bool true) (fun w hw=> ?_) (fun w hw=> ?_) (hK _ ?_);·go_simp
 ·refine(HL.out w hw.q.aB).mono ?_;rintro e w2 ⟨rfl,hb⟩;exact⟨rfl,hw.go hb⟩
 clear hK K;(try simp only[Act.put]);(try simp only[aS]);(try simp only[aU]);(try simp only[aT]);go_big_quiet_step (exact fun _=>rfl);go_big_quiet_step (exact fun _=>rfl);refine wpQuiet_nil ?_;intro w' hw';go_wp2_with fail;go_ret;exact⟨rfl,hw'.q.aB⟩
theorem aam (s t:ByteArray) (fo le wo:Bool) (x y:Int) (W:World) (h:Ask W) (hd:acA W) (hl:∀w,Below W.heap.size W w→ZO w):
 Calls Tryz.prog 8 #[.agg #[.string s, .string t, .bool fo, .bool le, .bool wo, .int .i64 x, .int .i64 y]] W (Ld W):=by
 have ls:s.data.toList.length=s.size:=Array.length_toList;have lt:t.data.toList.length=t.size:=Array.length_toList
 rcases (by omega:(48<s.size∨40<t.size)∨(s.size≤48∧t.size≤40)) with c|⟨c1,c2⟩
 · exact agT s t fo le wo x y W hl c
 · have hn:=afo s.data.toList t.data.toList fo le wo
   have hE:∀w,Below W.heap.size W w→Calls Tryz.prog 16 #[.string s, .string t, .agg #[.bool fo, .bool le, .bool wo]] w (fQ (Ct s.data.toList t.data.toList fo le wo) w):=fun w hb=>by
    have:=agK s.data.toList t.data.toList fo le wo w (h.go hb) (by omega) (by omega)
    rwa[afZ,afZ]at this
   have hD:∀w,Below W.heap.size W w→Calls Tryz.prog 19 #[.string s, .string t, .agg #[.bool fo, .bool le, .bool wo]] w (fQ (Ct s.data.toList t.data.toList fo le wo) w):=fun w hb=>by
    have:=afX s.data.toList t.data.toList fo le wo w (hd.go hb) (by omega) (by omega)
    rwa[afZ,afZ]at this
   have hq:∀{w v:World},Below W.heap.size W w→Below w.heap.size w v→Below W.heap.size W v:=fun hb hv=>hb.trans (hv.mono hb.size)
   exact af0 s t _ _ _ fo le wo x y W c1 c2 hl (fun w hb=>Ra s t _ fo le wo x w (by omega) fun v hv=>hE v (hq hb hv)) (fun w hb=>ajk s t _ fo le wo x w (by omega) fun v hv=>hD v (hq hb hv)) (fun w hb=>aly s t _ fo le wo x w (by omega) fun v hv=>hE v (hq hb hv)) (fun w hb=>ajl s t _ fo le wo x w (by omega) fun v hv=>hD v (hq hb hv)) (fun w hb=>anC s t _ fo le wo x y w (by omega) fun v hv=>hE v (hq hb hv)) (fun w hb=>anD s t _ fo le wo x y w (by omega) fun v hv=>hD v (hq hb hv))
section
open KO (PT)
noncomputable section
def isB (x:AV) (b:Bool):Bool:=match x with
 | .bool c=>Hg c b
 |_=>false
theorem y9 {x:AV} {b:Bool} (h:isB x b=true) {ι:bA} {v:Value} (hv:VR ι x v):v= .bool b:=by
 unfold isB at h;split at h;·have hv:v=_:=hv;rw[hv,wP h]
 ·cases h
def ZP (d:Nat) (t:E AV d):Nat→List Int→Bool
 |_,[]=>true
 |i,x::r=>aA (isInt .i64 (E.get d (path d i) t) x) (ZP d t (Nat.succ i) r)
theorem Oy {d:Nat} {t:E AV d}:∀{l:List Int} {i:Nat},ZP d t i l=true→∀j,j<l.length→isInt .i64 (E.get d (path d (i+j)) t) (l.getD j 0)=true
 |[],_,_,j,hj=>by simp at hj
 |x::r,i,e,j,hj=>by
  obtain⟨h1,h2⟩:=au e;cases j with
  |zero=>exact h1
  |succ j=>have:=Oy h2 j (by simpa using hj);rw[show i+(j+1)=Nat.succ i+j by omega];simpa using this
def VD (h:H) (x:AV) (n s:Nat) (f:(d:Nat)→E AV d→Nat→Bool):Bool:=match x with
 | .jP=>Nat.beq n (nat_lit 0)
 | .slice b off len es _=>aA (Nat.beq len n) (Bool.rec (match h.get b with
   |some (.cells _ _ m d t)=>aA (Nat.beq es s) (aA (Nat.ble (Nat.add off (Nat.mul len es)) m) (f d t off))
   |_=>false) true (Nat.beq n (nat_lit 0)))
 |_=>false
theorem EJ {h:H} {x:AV} {n s:Nat} {f:(d:Nat)→E AV d→Nat→Bool} (e:VD h x n s f=true) {ι:bA} {w:World} {v:Value} (k:WR ι h w) (hv:VR ι x v):
 ∃A c,v= .slice A n c∧(0<n→∃g o d,∃t:E AV d,∃off,A=some ⟨g,o,none⟩∧g<w.heap.size∧f d t off=true∧∀i,i<n*s→∃y,w.cell? ⟨g,o+i,none⟩=some y∧VR ι (E.get d (path d (off+i)) t) y):=by
 unfold VD at e;split at e;·have e:=aP e;subst e;have hv:v= .slice none 0 0:=hv;exact⟨none,0,hv,fun c=>absurd c (dB _)⟩
 ·rename_i b off len es z;obtain⟨e1,e2⟩:=au e;have e1:=aP e1;subst e1;rcases kE len with h0|h0
  ·subst h0;obtain⟨m,y,cap,_,rfl,_⟩:=hv;exact⟨y,cap,rfl,fun c=>absurd c (dB _)⟩
  ·have hz:Nat.beq len (nat_lit 0)=false:=by
    cases hq:Nat.beq len (nat_lit 0);·rfl
    ·have:=aP hq;exact absurd h0 (by rw[this];exact dB _)
   rw[hz]at e2;simp only at e2;split at e2
   ·rename_i el ro m d t hb;obtain⟨q1,q2⟩:=au e2;obtain⟨q3,q4⟩:=au q2;have q1:=aP q1;subst q1;obtain⟨B,o,cap,rfl,hc,hcell⟩:=gQ k hv h0 hb (fJ q3);refine⟨_,cap,rfl,fun _=>⟨B,o,d,t,off,rfl,?_,q4,hcell⟩⟩;rcases kE es with c|c
    ·obtain⟨m0,y0,cap0,hm0,e0,_,_,hy0⟩:=hv;obtain⟨arr,jy,lo,hi,hw,_⟩:=k.cells trivial hm0 hb;have hB:m0.B=B:=by
      injection e0 with e0 _ _;rcases hy0 with hy|⟨hy,_⟩
      ·omega
      ·rw[hy]at e0;injection e0 with e0;injection e0 with e0 _ _;exact e0.symm
     rw[←hB];exact(fB.1 hw).1
    ·obtain⟨y,hy,_⟩:=hcell 0 (Nat.mul_pos h0 c);exact dI hy
   ·cases e2
 ·cases e
def Tq (h:H) (x:AV) (l:List Int):Bool:=aA (Nat.ble l.length (nat_lit 100000)) (VD h x l.length (nat_lit 1) fun d t off=>ZP d t off l)
theorem GU {h:H} {x:AV} {l:List Int} (e:Tq h x l=true) {ι:bA} {w:World} {v:Value} (k:WR ι h w) (hv:VR ι x v):∃A n c,v= .slice A n c∧bR w A n l:=by obtain⟨e1,e2⟩:=au e;obtain⟨A,c,rfl,h1⟩:=EJ e2 k hv;refine⟨A,_,c,rfl,rfl,fJ e1,fun h0=> ?_⟩;obtain⟨g,o,d,t,off,rfl,hg,q,hc⟩:=h1 h0;refine⟨g,o,rfl,hg,fun j hj=> ?_⟩;obtain⟨y,hy,ry⟩:=hc j (by show j<l.length*1;omega);rw[hy,lI (Oy q j hj) ry]
mutual
def ZQ (h:H):PT→AV→AV→AV→Bool
 | .node op cls kids,a,b,k=>aA (isInt .i64 a (Int.ofNat op)) (aA (Tq h b (cls.map fun(x:Nat)=>(x:Int))) (VD h k kids.length (nat_lit 3) fun d t off=>Tt h kids d t off))
def Tt (h:H):List PT→(d:Nat)→E AV d→Nat→Bool
 |[],_,_,_=>true
 |p::r,d,t,i=>aA (ZQ h p (E.get d (path d i) t) (E.get d (path d (Nat.add i (nat_lit 1))) t) (E.get d (path d (Nat.add i (nat_lit 2))) t)) (Tt h r d t (Nat.add i (nat_lit 3)))
end
mutual
theorem Le {h:H} {ι:bA} {w:World} (k:WR ι h w):∀(p:PT) {x y z:AV} {a b c:Value},ZQ h p x y z=true→VR ι x a→VR ι y b→VR ι z c→eY w a b c p
 | .node op cls kids,x,y,z,a,b,c,e,ha,hb,hc=>by
   unfold ZQ at e;obtain⟨e1,e2⟩:=au e;obtain⟨e3,e4⟩:=au e2;unfold eY;obtain⟨A,n,c1,rfl,hI⟩:=GU e3 k hb;obtain⟨A2,c2,rfl,h1⟩:=EJ e4 k hc;refine⟨lI e1 ha,⟨A,n,c1,rfl,hI⟩,A2,c2,rfl,?_⟩;rcases kE kids.length with h0|h0;·rw[qI h0];exact trivial
   ·obtain⟨g,o,d,t,off,rfl,hg,q,hcl⟩:=h1 h0;exact Oz k kids 0 kids.length (by omega) hg (by rw[kr,dh];exact q) hcl
theorem Oz {h:H} {ι:bA} {w:World} (k:WR ι h w):∀(l:List PT) (i n:Nat) {d:Nat} {t:E AV d} {off g o:Nat},i+l.length≤n→g<w.heap.size→Tt h l d t (off+i*3)=true→
 (∀i,i<n*3→∃y,w.cell? ⟨g,o+i,none⟩=some y∧VR ι (E.get d (path d (off+i)) t) y)→mK w (some ⟨g,o,none⟩) i l
 |[],_,_,_,_,_,_,_,_,_,_,_=>trivial
 |p::r,i,n,d,t,off,g,o,hn,hg,e,hc=>by unfold Tt at e;obtain⟨e1,e2⟩:=au e;rw[bY]at hn;unfold mK;obtain⟨y0,z0,s0⟩:=hc (i*3) (by omega);obtain⟨y1,z1,s1⟩:=hc (i*3+1) (by omega);obtain⟨y2,z2,s2⟩:=hc (i*3+2) (by omega);exact⟨⟨g,o,y0,y1,y2,rfl,hg,z0,z1,z2,Le k p e1 s0 s1 s2⟩,Oz k r (i+1) n (by omega) hg (by rw[fF,←mh];exact e2) hc⟩
end
def fineP (p:PT):Bool:=aA (qN p) (aA (QF p) (Nat.ble (lW p) 2000))
theorem fineP_ok {p:PT} (h:fineP p=true):QK p:=by obtain⟨h1,h2⟩:=au h;obtain⟨h3,h4⟩:=au h2;exact⟨h1,h3,fJ h4⟩
def pQ (d:Nat) (t:E AV d) (i k:Nat):AV:=E.get d (path d (Nat.add i k)) t
def adO (h:H) (d:Nat) (t:E AV d) (i:Nat) (r:PR):Bool:=
 aA (aA (isB (pQ d t i 0) r.brk) (aA (isB (pQ d t i 1) r.fst) (aA (isB (pQ d t i 2) r.Zr) (Hg r.Zr false)))) (aA (aA (ZQ h r.left (pQ d t i 3) (pQ d t i 4) (pQ d t i 5)) (ZQ h r.right (pQ d t i 6) (pQ d t i 7) (pQ d t i 8))) (aA (fineP r.left) (fineP r.right)))
def QS (h:H) (d:Nat) (t:E AV d):Nat→List PR→Bool
 |_,[]=>true
 |i,r::l=>aA (adO h d t i r) (QS h d t (Nat.add i (nat_lit 9)) l)
theorem Jy {h:H} {d:Nat} {t:E AV d}:∀{l:List PR} {i:Nat},QS h d t i l=true→∀j r,l[j]? =some r→adO h d t (i+j*9) r=true
 |[],_,_,j,r,hj=>by simp at hj
 |x::l,i,e,j,r,hj=>by
  obtain⟨h1,h2⟩:=au e;cases j with
  |zero=>
   obtain rfl:x=r:=by simpa using hj
   rw[kr,dh];exact h1
  |succ j=>have:=Jy h2 j r (by simpa using hj);rw[show i+(j+1)*9=Nat.add i (nat_lit 9)+j*9 by rw[fF];show _=i+9+_;omega];exact this
def GV (h:H) (x:AV) (l:List PR):Bool:=aA (aA (Nat.ble (nat_lit 1) l.length) (Nat.ble l.length (nat_lit 64))) (VD h x l.length (nat_lit 9) fun d t off=>QS h d t off l)
theorem ZR {w:World} {a b c:Value} {p:PT} (h:eY w a b c p):(∃op:Nat,a= .int .i64 op)∧(∃A n d,b= .slice A n d)∧∃A n d,c= .slice A n d:=by cases p;unfold eY at h;obtain⟨h1,⟨A,n,c,h2,_⟩,A2,c2,h3,_⟩:=h;exact⟨⟨_,h1⟩,⟨A,n,c,h2⟩,A2,_,c2,h3⟩
theorem Dx {h:H} {x:AV} {l:List PR} (e:GV h x l=true) {ι:bA} {w:World} {v:Value} (k:WR ι h w) (hv:VR ι x v):∃g o c,v= .slice (some ⟨g,o,none⟩) l.length c∧ko w g o l:=by
 obtain⟨e1,e2⟩:=au e;obtain⟨e3,e4⟩:=au e1;obtain⟨A,c,rfl,h1⟩:=EJ e2 k hv;obtain⟨g,o,d,t,off,rfl,hg,q,hc⟩:=h1 (fJ e3);refine⟨g,o,c,rfl,hg,fJ e4,fun i r hr=> ?_⟩;have hi:i<l.length:=(ny.1 hr).1;obtain⟨q1,q2⟩:=au (Jy q i r hr);obtain⟨b0,q1⟩:=au q1;obtain⟨b1,q1⟩:=au q1;obtain⟨b2,b3⟩:=au q1;obtain⟨q3,q4⟩:=au q2;obtain⟨pl,pr⟩:=au q3;obtain⟨fl,fr⟩:=au q4;have cell:∀j,j<9→∃y,w.cell? ⟨g,o+i*9+j,none⟩=some y∧VR ι (pQ d t (off+i*9) j) y:=fun j hj=>by obtain⟨y,hy,ry⟩:=hc (i*9+j) (by show i*9+j<l.length*9;omega);rw[←mh]at hy ry;exact⟨y,hy,ry⟩
 obtain⟨y0,z0,s0⟩:=cell 0 (by omega);obtain⟨y1,z1,s1⟩:=cell 1 (by omega);obtain⟨y2,z2,s2⟩:=cell 2 (by omega);obtain⟨y3,z3,s3⟩:=cell 3 (by omega);obtain⟨y4,z4,s4⟩:=cell 4 (by omega);obtain⟨y5,z5,s5⟩:=cell 5 (by omega);obtain⟨y6,z6,s6⟩:=cell 6 (by omega);obtain⟨y7,z7,s7⟩:=cell 7 (by omega);obtain⟨y8,z8,s8⟩:=cell 8 (by omega);have hl:=Le k r.left pl s3 s4 s5;have hr:=Le k r.right pr s6 s7 s8;obtain⟨⟨o1,rfl⟩,⟨A4,n4,d4,rfl⟩,A5,n5,d5,rfl⟩:=ZR hl;obtain⟨⟨o2,rfl⟩,⟨A7,n7,d7,rfl⟩,A8,n8,d8,rfl⟩:=ZR hr;obtain rfl:=y9 b0 s0;obtain rfl:=y9 b1 s1;obtain rfl:=y9 b2 s2;refine⟨wP b3,⟨o1,A4,n4,d4,A5,n5,d5,o2,A7,n7,d7,A8,n8,d8⟩,⟨hl,hr,fineP_ok fl,fineP_ok fr⟩,fun j x hx=> ?_⟩;match j,hx with
 |0,hx=>cases hx;exact z0
 |1,hx=>cases hx;exact z1
 |2,hx=>cases hx;exact z2
 |3,hx=>cases hx;exact z3
 |4,hx=>cases hx;exact z4
 |5,hx=>cases hx;exact z5
 |6,hx=>cases hx;exact z6
 |7,hx=>cases hx;exact z7
 |8,hx=>cases hx;exact z8
 |j+9,hx=>simp[yw.cells]at hx
def adP (h:H) (d:Nat) (t:E AV d) (i:Nat) (s:SD):Bool:=
 aA (aA (Tq h (pQ d t i 0) s.left) (Tq h (pQ d t i 1) s.right)) (aA (isB (pQ d t i 2) s.VK) (isB (pQ d t i 3) s.VL))
def QT (h:H) (d:Nat) (t:E AV d):Nat→List SD→Bool
 |_,[]=>true
 |i,r::l=>aA (adP h d t i r) (QT h d t (Nat.add i (nat_lit 4)) l)
theorem Jz {h:H} {d:Nat} {t:E AV d}:∀{l:List SD} {i:Nat},QT h d t i l=true→∀j r,l[j]? =some r→adP h d t (i+j*4) r=true
 |[],_,_,j,r,hj=>by simp at hj
 |x::l,i,e,j,r,hj=>by
  obtain⟨h1,h2⟩:=au e;cases j with
  |zero=>
   obtain rfl:x=r:=by simpa using hj
   rw[kr,dh];exact h1
  |succ j=>have:=Jz h2 j r (by simpa using hj);rw[show i+(j+1)*4=Nat.add i (nat_lit 4)+j*4 by rw[fF];show _=i+4+_;omega];exact this
def GX (h:H) (x:AV) (l:List SD):Bool:=aA (Nat.ble (nat_lit 1) l.length) (VD h x l.length (nat_lit 4) fun d t off=>QT h d t off l)
theorem OC {h:H} {x:AV} {l:List SD} (e:GX h x l=true) {ι:bA} {w:World} {v:Value} (k:WR ι h w) (hv:VR ι x v):∃A c,v= .slice A l.length c∧Td w A l.length l:=by
 obtain⟨e1,e2⟩:=au e;obtain⟨A,c,rfl,h1⟩:=EJ e2 k hv;obtain⟨g,o,d,t,off,rfl,hg,q,hc⟩:=h1 (fJ e1);refine⟨_,c,rfl,rfl,fun i s hs=> ?_⟩;have hi:i<l.length:=(ny.1 hs).1;obtain⟨q1,q2⟩:=au (Jz q i s hs);obtain⟨i0,i1⟩:=au q1;obtain⟨b2,b3⟩:=au q2;have cell:∀j,j<4→∃y,w.cell? ⟨g,o+i*4+j,none⟩=some y∧VR ι (pQ d t (off+i*4) j) y:=fun j hj=>by obtain⟨y,hy,ry⟩:=hc (i*4+j) (by show i*4+j<l.length*4;omega);rw[←mh]at hy ry;exact⟨y,hy,ry⟩
 obtain⟨y0,z0,s0⟩:=cell 0 (by omega);obtain⟨y1,z1,s1⟩:=cell 1 (by omega);obtain⟨y2,z2,s2⟩:=cell 2 (by omega);obtain⟨y3,z3,s3⟩:=cell 3 (by omega);obtain⟨lA,ln,lc,rfl,hL⟩:=GU i0 k s0;obtain⟨rA,rn,rc,rfl,hR⟩:=GU i1 k s1;obtain rfl:=y9 b2 s2;obtain rfl:=y9 b3 s3;exact⟨g,o,lA,ln,lc,rA,rn,rc,rfl,hg,z0,z1,z2,z3,hL,hR⟩
end
end
noncomputable section
def ZT (v:AV) (h:H):Bool:=match v with
 | .ptr b off=>match h.get b with
   |some (.cells _ _ n d t)=>aA (Nat.ble (Nat.add off (nat_lit 3)) n) (aA (Aj h (E.get d (path d (Nat.add off (nat_lit 0))) t) (rR gV 13)) (aA (GV h (E.get d (path d (Nat.add off (nat_lit 1))) t) rV) (isB (E.get d (path d (Nat.add off (nat_lit 2))) t) true)))
   |_=>false
 |_=>false
theorem ZU {ι:bA} {h:H} {w:World} {x:AV} {v:Value} (e:ZT x h=true) (k:WR ι h w) (hv:VR ι x v):ZC w v gV 13 rV true:=by
 unfold ZT at e;split at e
 ·rename_i b off;split at e
  ·rename_i el ro n d t hb;obtain⟨e0,e⟩:=au e;obtain⟨e1,e⟩:=au e;obtain⟨e2,e3⟩:=au e;obtain⟨B,o,rfl,hc⟩:=oC (c:=3) k hv hb (fJ e0);obtain⟨y0,z0,s0⟩:=hc 0 (by omega);obtain⟨y1,z1,s1⟩:=hc 1 (by omega);obtain⟨y2,z2,s2⟩:=hc 2 (by omega);obtain⟨g,og,c,rfl,hR⟩:=Dx e2 k s1;obtain rfl:=y9 e3 s2;exact⟨B,o,y0,g,og,c,rfl,dI z0,z0,z1,z2,F5 e1 k s0,hR⟩
  ·cases e
 ·cases e
def Tv (v:AV) (h:H):Bool:=match v with
 | .iq (.cons (.agg (.cons x (.cons y .nil))) (.cons a (.cons b .nil)))=>aA (aA (GV h x dH) (isB y true)) (aA (isInt .i64 a 0) (isInt .i64 b 0))
 |_=>false
theorem ZV {ι:bA} {h:H} {w:World} {x:AV} {v:Value} (e:Tv x h=true) (k:WR ι h w) (hv:VR ι x v):∃gr og cr,v= .tuple #[.agg #[.slice (some ⟨gr,og,none⟩) dH.length cr, .bool true], .int .i64 0, .int .i64 0]∧ko w gr og dH:=by
 unfold Tv at e;split at e;·obtain⟨e1,e2⟩:=au e;obtain⟨e3,e4⟩:=au e1;obtain⟨e5,e6⟩:=au e2;obtain⟨xs,rfl,u,l1,h1,⟨ys,rfl,p,l2,h2,hp,q,l3,h3,hq,h4⟩,a,l4,h5,ha,b,l5,h6,hb,h7⟩:=hv;obtain⟨g,og,c,rfl,hR⟩:=Dx e3 k hp;obtain rfl:=y9 e4 hq;obtain rfl:=lI e5 ha;obtain rfl:=lI e6 hb;subst h4 h3 h7 h6 h5;refine⟨g,og,c,?_,hR⟩;rw[show xs=#[.agg ys, .int .i64 0, .int .i64 0]from Array.ext' h1,show ys=#[.slice (some ⟨g,og,none⟩) dH.length c, .bool true]from Array.ext' h2]
 ·cases e
theorem ZW {ext:Nat→Nat} {OD H7:Nat→AV→H→Option bJ} {N:Nat} (mV:Tryz.prog.follows .mixedOrders=true) (hprog:gu Tryz.prog=true) (eA:oN Tryz.prog (cK Tryz.prog ext OD)) (eB:oN Tryz.prog (cK Tryz.prog ext H7)) (oA:gq Tryz.prog (cK Tryz.prog ext OD)) (oB:gq Tryz.prog (cK Tryz.prog ext H7))
 (d n p s:iR) (ag r:AV) (ss:List SD)
 (hf:(d.f=75∧n.f=77)∧p.f=76∧s.f=126) (ha:(d.args= .nil∧n.args= .cons d.v .nil)∧p.args= .cons (.str ZL) (.cons n.v .nil)∧s.args= .cons ag .nil∧p.v= .iq (.cons ag r))
 (hw:(d.ws=[]∧n.ws=[])∧p.ws=[]∧s.ws=[]) (hx:(64≤d.nx∧d.nx≤65536)∧d.bi=[]∧d.nx'=n.nx∧n.nx'=p.nx∧p.nx'=s.nx)
 (hd:aA (fnOf Tryz.prog d.f).isSome (aA (OD d.f d.args (ql d)).isNone (aA (Un d) (Aa d (fun v h=>Aj h v (rR gW 19)) ((run (cK Tryz.prog ext OD) (Nat.succ N)).call d.f d.args (ql d)))))=true)
 (hn:aA (fnOf Tryz.prog n.f).isSome (aA (OD n.f n.args (ql n)).isNone (aA (Un n) (Aa n (fun _ _=>true) ((run (cK Tryz.prog ext OD) (Nat.succ N)).call n.f n.args (ql n)))))=true)
 (hp:aA (fnOf Tryz.prog p.f).isSome (aA (H7 p.f p.args (ql p)).isNone (aA (Un p) (Aa p Tv ((run (cK Tryz.prog ext H7) (Nat.succ N)).call p.f p.args (ql p)))))=true)
 (hs:aA (fnOf Tryz.prog s.f).isSome (aA (OD s.f s.args (ql s)).isNone (aA (Un s) (Aa s (fun v h=>GX h v ss) ((run (cK Tryz.prog ext OD) (Nat.succ N)).call s.f s.args (ql s)))))=true)
 (h1:jN (tu d (ql d)) n.bi=true) (h2:jN (tu n (tu d (ql d))) p.bi=true) (h3:jN (tu p (tu n (tu d (ql d)))) s.bi=true) (hk:xO dH ss=true) (W:World):Tp W:=by
 have hin:ql d=h0 d.nx:=by unfold ql h0;rw[hx.2.1];rfl
 refine(show Calls Tryz.prog 75 #[] W _ from ?_);rw[←hf.1.1];refine(Ac mV hprog eA oA hw.1.1 hd (ι:=tq W) (w:=W) (h:=ql d) (by rw[hin];exact XP hx.1.1 hx.1.2 W) (Eh W) (by rw[hin];rfl) (by rw[hx.2.1];rfl) (vs:=#[]) (by rw[ha.1.1];rfl)).mono ?_;rintro e w1 ⟨v,rfl,⟨v1,hh,ι1,q1,s1,k1⟩,⟨ι2,k2,g2,s2⟩,hb⟩;refine⟨v,rfl,hb,F5 q1 k1 s1,fun w2 hb2=> ?_⟩;rw[←hf.1.2];refine(Ac mV hprog eA oA hw.1.2 hn (k2.below hb2) g2 hx.2.2.1 h1 (vs:=#[v]) (by rw[ha.1.2];exact⟨v,[],rfl,s2,rfl⟩)).mono ?_;rintro e w3 ⟨nv,rfl,_,⟨ι3,k3,g3,s3⟩,hb3⟩;refine⟨nv,rfl,hb3,fun w4 hb4 b hS=> ?_⟩;rw[←hf.2.1];refine(Ac mV hprog eB oB hw.2.1 hp (k3.below hb4) g3 hx.2.2.2.1 h2 (vs:=#[.string b,nv]) (by rw[ha.2.1];exact⟨_,_,rfl,⟨b,rfl,hS.symm⟩,nv,[],rfl,s3,rfl⟩)).mono ?_;rintro e w5 ⟨pv,rfl,⟨v5,hh5,ι5,q5,s5,k5⟩,⟨ι6,k6,g6,s6⟩,hb5⟩;obtain⟨gr,og,cr,rfl,hR⟩:=ZV q5 k5 s5;refine⟨gr,og,cr,rfl,hb5,hR,ss,hk,fun w6 hb6 w7 hb7=> ?_⟩;rw[ha.2.2.2]at s6;obtain⟨xs,e1,u,l,e2,hu,_⟩:=s6;injection e1 with e1;subst e1;injection e2 with e2 _;subst e2;rw[←hf.2.2];refine(Ac mV hprog eA oA hw.2.2 hs ((k6.below hb6).below hb7) g6 hx.2.2.2.2 h3 (vs:=#[.agg #[.slice (some ⟨gr,og,none⟩) dH.length cr, .bool true]]) (by rw[ha.2.2.1];exact⟨_,[],rfl,hu,rfl⟩)).mono ?_;rintro e w8 ⟨sv,rfl,⟨v8,hh8,ι8,q8,s8,k8⟩,_,hb8⟩;obtain⟨A,c,rfl,hS⟩:=OC q8 k8 s8;exact⟨A,_,c,rfl,hS,hb8⟩
end
end Go.Proofs.YtocaiijbhepnnaaGreatDoor.searchAsks
