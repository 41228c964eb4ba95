/- SearchAll, walked: the law itself, where what it calls is given; rules, breakers in the machine's heap. -/
import Derived.Test.YtocaiijbhepnnaaGreatDoorHF
import Derived.Test.YtocaiijbhepnnaaGreatDoorHE
import Derived.Test.YtocaiijbhepnnaaGreatDoorFA
set_option maxRecDepth 100000
set_option maxHeartbeats 8000000
namespace Go.Proofs.YtocaiijbhepnnaaGreatDoor.searchAll
open Go.Shelf Go.RowKit Go.Lib Go.Proofs.YtocaiijbhepnnaaGreatDoor.Am
def Tq (w:World):Prop:=Calls Tryz.prog 14 #[] w fun e w'=>e= .returned (.bool true)∧Below w.heap.size w w'
def EJ (W:World) (e:Ending) (w':World):Prop:=e= .returned (.bool true)∧Below W.heap.size W w'
theorem jy (s:ByteArray):(⟨s.data.toList.toArray⟩:ByteArray)=s:=by rw[Array.toArray_toList]
theorem ZU (s t:ByteArray) (fo le wo:Bool) (W:World) (hl:∀w,Below W.heap.size W w→Tq w) (h:48<s.size∨40<t.size):
 Calls Tryz.prog 4 #[.string s, .string t, .agg #[.bool fo, .bool le, .bool wo]] W (EJ W):=by
 have HL:=ah hl;clear hl;have HB0:=ah ((aG _ W).alloc (ay W.heap.size) (.cells #[.bool fo, .bool le, .bool wo] 28));rcases(by omega:48<s.size∨(¬48<s.size∧40<t.size))with h1|⟨h1,h2⟩
 ·have h1i:(48:Int)<s.size:=by omega
  clear h;go_enter Tryz.func4,Tryz.ntmps4;go_wp2_with (go_at_call 14;refine(HL.out _ HB0.out).mono ?_;rintro e w1 ⟨rfl,hb⟩;have HB1:=ah (HB0.out.trans (hb.mono HB0.out.size));clear hb);go_ret;exact⟨rfl,HB1.out⟩
 ·have h1i:¬(48:Int)<s.size:=by omega
  have h2i:(40:Int)<t.size:=by omega
  clear h;go_enter Tryz.func4,Tryz.ntmps4;go_wp2_with (go_at_call 14;refine(HL.out _ HB0.out).mono ?_;rintro e w1 ⟨rfl,hb⟩;have HB1:=ah (HB0.out.trans (hb.mono HB0.out.size));clear hb);go_ret;exact⟨rfl,HB1.out⟩
structure AW (W:World) (fo le wo:Bool) (A:Option Addr) (n c:Nat) (xs:List Value) (w:World):Prop where
 aB:Below W.heap.size W w
 o:w.heap[W.heap.size]? =some (.cells #[.bool fo, .bool le, .bool wo] 28 (0,0))
 own:w.ownsRow (W.heap.size+1) 33 2 (.slice A n c) n xs
theorem AW.go {W w w':World} {fo le wo:Bool} {A:Option Addr} {n c:Nat} {xs:List Value} (h:AW W fo le wo A n c xs w) (hb:Below w.heap.size w w'):AW W fo le wo A n c xs w':=
 ⟨h.aB.trans (hb.mono h.aB.size),bF hb h.o,own_below hb h.own⟩
theorem AW.drew {W w:World} {fo le wo:Bool} {A:Option Addr} {n c:Nat} {xs:List Value} (h:AW W fo le wo A n c xs w):AW W fo le wo A n c xs w.drew:=
 ⟨⟨h.aB.os,h.aB.tape,h.aB.output,h.aB.size,h.aB.block⟩,h.o,h.own⟩
theorem AW.set {W w:World} {fo le wo:Bool} {g n c:Nat} {xs:List Value} (h:AW W fo le wo (some ⟨g,0,none⟩) n c xs w) (i:Nat) (v:Value):AW W fo le wo (some ⟨g,0,none⟩) n c (xs.set i v) (w.setCell ⟨g,i,none⟩ v):=by have hl:=bD h.own (g:=g) rfl;refine⟨Below.setCell h.aB (Nat.le_of_succ_le hl.1) _,?_,(h.own.stored i v).1⟩;rw[Below.heap_setCell _ _ _ _ (fun c=>dh W.heap.size (by have:=hl.1;rw[←(show W.heap.size=g from c)]at this;exact this))];exact h.o
theorem AW.cell {W w:World} {fo le wo:Bool} {g n c:Nat} {xs:List Value} (h:AW W fo le wo (some ⟨g,0,none⟩) n c xs w) {i:Nat} (hi:i<n*2):∃x,w.cell? ⟨g,i,none⟩=some x:=by
 have hx:i<xs.length:=by rw[h.own.1];exact hi
 have:=oh (g:=g) h.own rfl i _ (aZ hx);rw[gy,bJ]at this;exact⟨_,this⟩
theorem VB (s t:ByteArray) (L1 L:List (Nat×Nat)) (fo le wo:Bool) (W:World) (hs:s.size≤48) (ht:t.size≤40) (hL:L.length≤100)
 (hlive:∀w,Below W.heap.size W w→Tq w)
 (ajh:∀w,Below W.heap.size W w→Calls Tryz.prog 15 #[.string s, .string t, .agg #[.bool fo, .bool le, .bool wo]] w (rX L1 w))
 (hEv:∀w,Below W.heap.size W w→Calls Tryz.prog 16 #[.string s, .string t, .agg #[.bool fo, .bool le, .bool wo]] w (iM L w))
 (adR:∀w,Below W.heap.size W w→Calls Tryz.prog 18 #[.string s, .string t, .agg #[.bool fo, .bool le, .bool wo]] w (rX L1 w))
 (aji:∀w,Below W.heap.size W w→Calls Tryz.prog 19 #[.string s, .string t, .agg #[.bool fo, .bool le, .bool wo]] w (iM L w)):
 Calls Tryz.prog 4 #[.string s, .string t, .agg #[.bool fo, .bool le, .bool wo]] W (EJ W):=by
 have HL:=ah hlive;have HLEN:=ah hL;have zh:=ah ajh;have HEV:=ah hEv;have HDA:=ah adR;have HDE:=ah aji;have hs1:¬(48:Int)<s.size:=by omega
 have ht1:¬(40:Int)<t.size:=by omega
 have HB0:=ah ((aG _ W).alloc (ay W.heap.size) (.cells #[.bool fo, .bool le, .bool wo] 28));have HO0:=ah (dw W (.cells #[.bool fo, .bool le, .bool wo] 28));clear hlive hL ajh hEv adR aji hs ht;go_enter Tryz.func4,Tryz.ntmps4;go_upto_region 3 with fail;go_cut [7,8] (fun q r wx=>∃(A1:Option Addr) (n1 c1:Nat) (A2:Option Addr) (n2 c2:Nat),q= .slice A1 n1 c1∧r= .slice A2 n2 c2∧n2=L.length∧KP wx A1 n1 L1∧AW W fo le wo A2 n2 c2 (bI L) wx);case first=>
  obtain⟨w0,hw0⟩:∃w0,W.alloc (.cells #[.bool fo, .bool le, .bool wo] 28)=w0:=⟨_,rfl⟩
  have uL:=ah (show w0.heap.size=W.heap.size+1 by rw[←hw0,iV]);rw[hw0]at HB0 HO0⊢;clear hw0;have y0:=(aQ w0 W.heap.size 0 _ _ _ HO0.out).trans rfl;have y1:=(aQ w0 W.heap.size 1 _ _ _ HO0.out).trans rfl;have y2:=(aQ w0 W.heap.size 2 _ _ _ HO0.out).trans rfl;have HBD:Hid (Below W.heap.size W w0.drew):=ah ⟨HB0.out.os,HB0.out.tape,HB0.out.output,HB0.out.size,HB0.out.block⟩;have HOD:Hid (w0.drew.heap[W.heap.size]? =some (.cells #[.bool fo, .bool le, .bool wo] 28 (0,0))):=ah HO0.out;go_region_law (first
   |(go_simp;refine(zh.out _ HBD.out).mono ?_;rintro e w1 ⟨A1,n1,c1,rfl,hm1,hb1⟩;have Qa:=Lib.hid hm1;have HS1:=Lib.hid (show W.heap.size+1≤w1.heap.size from Nat.le_trans (Nat.le_of_eq uL.out.symm) hb1.size);have HB1:=Lib.hid (HBD.out.trans (hb1.mono HBD.out.size));have HO1:=Lib.hid (bF hb1 HOD.out);have z0:=(cell_of_row w1 W.heap.size 0 _ _ _ HO1.out).trans rfl;have z1:=(cell_of_row w1 W.heap.size 1 _ _ _ HO1.out).trans rfl;have z2:=(cell_of_row w1 W.heap.size 2 _ _ _ HO1.out).trans rfl;clear hm1 hb1;dsimp only)
   |(go_simp;refine(HEV.out _ HB1.out).mono ?_;rintro e w2 ⟨v,rfl,hb2,hown2⟩;obtain⟨A2,c2,rfl,_⟩:=gI hown2;have HW2:=Lib.hid (pF hown2 (fun k hk=>Nat.le_trans HS1.out (bD hown2 hk).1));have anz:=Lib.hid (Qa.out.below hb2);have HB2:=Lib.hid (HB1.out.trans (hb2.mono HB1.out.size));have HO2:=Lib.hid (bF hb2 HO1.out);clear hb2 hown2;dsimp only))
  all_goals go_wp2_with fail
  all_goals go_meet
  all_goals exact⟨_,_,_,_,_,_,rfl,rfl,rfl,anz.out,HB2.out,HO2.out,HW2.out⟩
 case rest=>
  obtain⟨A1,n1,c1,A2,n2,c2,rfl,rfl,hn2,hM1,hA⟩:=hcut;have Qa:=ah hM1;have HA:=ah hA;have HN2:=ah hn2;have Ym:=ah (show KP wc A2 n2 L from mX HN2.out.symm HA.out.own (by have:=HLEN.out;have:=HN2.out;omega));clear hM1 hA HB0 HO0 hn2;have y0:=(aQ wc W.heap.size 0 _ _ _ HA.out.o).trans rfl;have y1:=(aQ wc W.heap.size 1 _ _ _ HA.out.o).trans rfl;have y2:=(aQ wc W.heap.size 2 _ _ _ HA.out.o).trans rfl;go_upto_region 6 with(first
   |(go_at_call 18;refine(HDA.out _ HA.out.aB).mono ?_;rintro e w1 ⟨A3,n3,c3,rfl,hm,hb⟩;have HM3:=ah hm;have ajj:=ah (Qa.out.below hb);have ajk:=ah (Ym.out.below hb);have HAb:=ah (HA.out.go hb);clear hm hb;have y0:=(aQ w1 W.heap.size 0 _ _ _ HAb.out.o).trans rfl;have y1:=(aQ w1 W.heap.size 1 _ _ _ HAb.out.o).trans rfl;have y2:=(aQ w1 W.heap.size 2 _ _ _ HAb.out.o).trans rfl)
   |(go_at_call 17;with_reducible refine(y9 L1 A1 A3 n1 n3 c1 c3 w1 ajj.out HM3.out).mono ?_;rintro e w2 ⟨rfl,hb⟩;have ajm:=ah (ajk.out.below hb);have HAc:=ah (HAb.out.go hb);clear hb y0 y1 y2;have y0:=(aQ w2 W.heap.size 0 _ _ _ HAc.out.o).trans rfl;have y1:=(aQ w2 W.heap.size 1 _ _ _ HAc.out.o).trans rfl;have y2:=(aQ w2 W.heap.size 2 _ _ _ HAc.out.o).trans rfl)
   |(go_at_call 19;refine(HDE.out _ HAc.out.aB).mono ?_;rintro e w3 ⟨v,rfl,hb,hown⟩;obtain⟨A4,c4,rfl,_⟩:=gI hown;have HM4:=ah (mX rfl hown (aT HLEN.out (by decide)));have ajn:=ah (ajm.out.below hb);have HAd:=ah (HAc.out.go hb);clear hb hown y0 y1 y2)
   |(go_at_call 17;with_reducible refine(y9 L A2 _ n2 _ c2 _ w3 ajn.out HM4.out).mono ?_;rintro e w4 ⟨rfl,hb⟩;have HAe:=ah (HAd.out.go hb);clear hb))
  have anA:=ah (show n2≤100 by rw[HN2.out];exact HLEN.out);go_upto_block 0 with fail;go_cut [9] (fun q wx=>∃xs,AW W fo le wo A2 n2 c2 xs wx);case first=>
   go_wp2_with fail;go_loopw [9] (fun vi wr=>∃(k:Nat) (xs:List Value),k≤n2∧vi= .int .i64 k∧AW W fo le wo A2 n2 c2 xs wr) (fun vi _=>n2-(RowKit.intOf vi).toNat);case atStart=>exact⟨0,_,aH _,rfl,HAe.out⟩
   case round=>
    obtain⟨k,xs,hk,rfl,hA⟩:=hrel;have VQ:=ah hA;clear hA;by_cases hlt:k<n2
    ·obtain⟨g,rfl⟩:=pI VQ.out.own (by omega);have hx:=VQ.out.own.1;have hk0:(0:Int)≤k:=by omega
     have hk1:(k:Int)<n2:=by omega
     have kJ:=ah (show wrap64 ((k:Int)+1)=((k+1:Nat):Int)by have:=anA.out;unfold wrap64;omega);have hf:=VQ.out.own.frozenAt (k*2);have HA1:=ah (VQ.out.set (k*2) (.int .i64 (-1)));have hf1:=HA1.out.own.frozenAt (k*2+1);obtain⟨x0,c0⟩:=VQ.out.cell (i:=k*2) (by omega);obtain⟨x1,c1'⟩:=HA1.out.cell (i:=k*2+1) (by omega);have HA2:=ah (HA1.out.set (k*2+1) (.int .i64 0));go_wp2_with fail;(try rw[kJ.out]);exact⟨⟨k+1,_,hlt,rfl,HA2.out⟩,by simp[RowKit.intOf];omega⟩
    ·obtain rfl:k=n2:=by omega
     go_wp2;go_meet;exact⟨xs,VQ.out⟩
  case rest=>
   obtain⟨xs,hA⟩:=hcut;have VQ:=ah hA;clear hA HA Qa ajj HM3 Ym ajk ajm ajn HM4 HAb HAc HAd HAe y0 y1 y2;have y0:=(aQ wc W.heap.size 0 _ _ _ VQ.out.o).trans rfl;have y1:=(aQ wc W.heap.size 1 _ _ _ VQ.out.o).trans rfl;have y2:=(aQ wc W.heap.size 2 _ _ _ VQ.out.o).trans rfl;have HAd:=ah VQ.out.drew;clear VQ;go_wp2_with fail;go_region_law (first
    |(go_simp;refine(HEV.out _ HAd.out.aB).mono ?_;rintro e w1 ⟨v,rfl,hb,hown⟩;obtain⟨A5,c5,rfl,_⟩:=gI hown;have HM5:=Lib.hid (mX rfl hown (Nat.le_trans HLEN.out (by decide)));have HA5:=Lib.hid (HAd.out.go hb);clear hb hown;have z0:=(cell_of_row w1 W.heap.size 0 _ _ _ HA5.out.o).trans rfl;have z1:=(cell_of_row w1 W.heap.size 1 _ _ _ HA5.out.o).trans rfl;have z2:=(cell_of_row w1 W.heap.size 2 _ _ _ HA5.out.o).trans rfl;dsimp only)
    |(go_simp;refine(HDE.out _ HA5.out.aB).mono ?_;rintro e w3 ⟨v,rfl,hb,hown⟩;obtain⟨A6,c6,rfl,_⟩:=gI hown;have HM6:=Lib.hid (mX rfl hown (Nat.le_trans HLEN.out (by decide)));have anB:=Lib.hid (HM5.out.below hb);have HA6:=Lib.hid (HA5.out.go hb);clear hb hown;dsimp only)
    |(go_simp;with_reducible refine(y9 L A5 A6 _ _ c5 c6 w3 anB.out HM6.out).mono ?_;rintro e w4 ⟨rfl,hb⟩;have HA7:=Lib.hid (HA6.out.go hb);clear hb;dsimp only)
    |(go_simp;refine(HL.out _ HA7.out.aB).mono ?_;rintro e w5 ⟨rfl,hb⟩;have HA8:=Lib.hid (HA7.out.go hb);clear hb;dsimp only))
   all_goals go_wp2_with fail
   all_goals go_ret
   all_goals exact⟨rfl,HA8.out.aB⟩
theorem Lc (s t:ByteArray) (fo le wo:Bool) (W:World) (h:Ask W) (hd:VA W) (hl:∀w,Below W.heap.size W w→Tq w):
 Calls Tryz.prog 4 #[.string s, .string t, .agg #[.bool fo, .bool le, .bool wo]] W (EJ W):=by
 have ls:s.data.toList.length=s.size:=jk;have lt:t.data.toList.length=t.size:=jk;rcases(by omega:(48<s.size∨40<t.size)∨(s.size≤48∧t.size≤40))with c|⟨c1,c2⟩
 ·exact ZU s t fo le wo W hl c
 ·have hn:=yV s.data.toList t.data.toList fo le wo;refine VB s t (Left.nI 0 (qU s.data.toList t.data.toList fo le wo)) (qU s.data.toList t.data.toList fo le wo) fo le wo W c1 c2 (by omega) hl (fun w hb=> ?_) (fun w hb=> ?_) (fun w hb=> ?_) (fun w hb=> ?_)
  ·have:=abR s.data.toList t.data.toList fo le wo w (h.go hb) (by omega) (by omega);rwa [jy,jy]at this
  ·have:=Jf s.data.toList t.data.toList fo le wo w (h.go hb) (by omega) (by omega);rwa [jy,jy]at this
  ·have:=ZT s.data.toList t.data.toList fo le wo w (hd.go hb) (by omega) (by omega);rwa [jy,jy]at this
  ·have:=GU s.data.toList t.data.toList fo le wo w (hd.go hb) (by omega) (by omega);rwa [jy,jy]at this
section
open KM (PT)
noncomputable section
def isB (x:AV) (b:Bool):Bool:=match x with
 | .bool c=>Hl c b
 |_=>false
theorem za {x:AV} {b:Bool} (h:isB x b=true) {ι:bn} {v:Value} (hv:VR ι x v):v= .bool b:=by
 unfold isB at h;split at h;·have hv:v=_:=hv;rw[hv,wQ h]
 ·cases h
def ZV (d:Nat) (t:E AV d):Nat→List Int→Bool
 |_,[]=>true
 |i,x::r=>aA (isInt .i64 (E.get d (path d i) t) x) (ZV d t (Nat.succ i) r)
theorem Oy {d:Nat} {t:E AV d}:∀{l:List Int} {i:Nat},ZV d t i l=true→∀j,j<l.length→isInt .i64 (E.get d (path d (i+j)) t) (l.getD j 0)=true
 |[],_,_,j,hj=>by simp at hj
 |x::r,i,e,j,hj=>by
  obtain⟨h1,h2⟩:=au e;cases j with
  |zero=>exact h1
  |succ j=>have:=Oy h2 j (by simpa using hj);rw[show i+(j+1)=Nat.succ i+j by omega];simpa using this
def VD (h:H) (x:AV) (n s:Nat) (f:(d:Nat)→E AV d→Nat→Bool):Bool:=match x with
 | .jP=>Nat.beq n (nat_lit 0)
 | .slice b off len es _=>aA (Nat.beq len n) (Bool.rec (match h.get b with
   |some (.cells _ _ m d t)=>aA (Nat.beq es s) (aA (Nat.ble (Nat.add off (Nat.mul len es)) m) (f d t off))
   |_=>false) true (Nat.beq n (nat_lit 0)))
 |_=>false
theorem EL {h:H} {x:AV} {n s:Nat} {f:(d:Nat)→E AV d→Nat→Bool} (e:VD h x n s f=true) {ι:bn} {w:World} {v:Value} (k:WR ι h w) (hv:VR ι x v):
 ∃A c,v= .slice A n c∧(0<n→∃g o d,∃t:E AV d,∃off,A=some ⟨g,o,none⟩∧g<w.heap.size∧f d t off=true∧∀i,i<n*s→∃y,w.cell? ⟨g,o+i,none⟩=some y∧VR ι (E.get d (path d (off+i)) t) y):=by
 unfold VD at e;split at e;·have e:=aO e;subst e;have hv:v= .slice none 0 0:=hv;exact⟨none,0,hv,fun c=>absurd c (dh _)⟩
 ·rename_i b off len es z;obtain⟨e1,e2⟩:=au e;have e1:=aO e1;subst e1;rcases kC len with h0|h0
  ·subst h0;obtain⟨m,y,cap,_,rfl,_⟩:=hv;exact⟨y,cap,rfl,fun c=>absurd c (dh _)⟩
  ·have hz:Nat.beq len (nat_lit 0)=false:=by
    cases hq:Nat.beq len (nat_lit 0);·rfl
    ·have:=aO hq;exact absurd h0 (by rw[this];exact dh _)
   rw[hz]at e2;simp only at e2;split at e2
   ·rename_i el ro m d t hb;obtain⟨q1,q2⟩:=au e2;obtain⟨q3,q4⟩:=au q2;have q1:=aO q1;subst q1;obtain⟨B,o,cap,rfl,hc,hcell⟩:=gP k hv h0 hb (fH q3);refine⟨_,cap,rfl,fun _=>⟨B,o,d,t,off,rfl,?_,q4,hcell⟩⟩;rcases kC es with c|c
    ·obtain⟨m0,y0,cap0,hm0,e0,_,_,hy0⟩:=hv;obtain⟨arr,jA,lo,hi,hw,_⟩:=k.cells trivial hm0 hb;have hB:m0.B=B:=by
      injection e0 with e0 _ _;rcases hy0 with hy|⟨hy,_⟩
      ·omega
      ·rw[hy]at e0;injection e0 with e0;injection e0 with e0 _ _;exact e0.symm
     rw[←hB];exact(fu.1 hw).1
    ·obtain⟨y,hy,_⟩:=hcell 0 (Nat.mul_pos h0 c);exact dI hy
   ·cases e2
 ·cases e
def Tt (h:H) (x:AV) (l:List Int):Bool:=aA (Nat.ble l.length (nat_lit 100000)) (VD h x l.length (nat_lit 1) fun d t off=>ZV d t off l)
theorem GV {h:H} {x:AV} {l:List Int} (e:Tt h x l=true) {ι:bn} {w:World} {v:Value} (k:WR ι h w) (hv:VR ι x v):∃A n c,v= .slice A n c∧bM w A n l:=by obtain⟨e1,e2⟩:=au e;obtain⟨A,c,rfl,h1⟩:=EL e2 k hv;refine⟨A,_,c,rfl,rfl,fH e1,fun h0=> ?_⟩;obtain⟨g,o,d,t,off,rfl,hg,q,hc⟩:=h1 h0;refine⟨g,o,rfl,hg,fun j hj=> ?_⟩;obtain⟨y,hy,ry⟩:=hc j (by show j<l.length*1;omega);rw[hy,lH (Oy q j hj) ry]
mutual
def ZW (h:H):PT→AV→AV→AV→Bool
 | .node op cls kids,a,b,k=>aA (isInt .i64 a (Int.ofNat op)) (aA (Tt h b (cls.map fun(x:Nat)=>(x:Int))) (VD h k kids.length (nat_lit 3) fun d t off=>Tv h kids d t off))
def Tv (h:H):List PT→(d:Nat)→E AV d→Nat→Bool
 |[],_,_,_=>true
 |p::r,d,t,i=>aA (ZW h p (E.get d (path d i) t) (E.get d (path d (Nat.add i (nat_lit 1))) t) (E.get d (path d (Nat.add i (nat_lit 2))) t)) (Tv h r d t (Nat.add i (nat_lit 3)))
end
mutual
theorem Ld {h:H} {ι:bn} {w:World} (k:WR ι h w):∀(p:PT) {x y z:AV} {a b c:Value},ZW h p x y z=true→VR ι x a→VR ι y b→VR ι z c→eU w a b c p
 | .node op cls kids,x,y,z,a,b,c,e,ha,hb,hc=>by
   unfold ZW at e;obtain⟨e1,e2⟩:=au e;obtain⟨e3,e4⟩:=au e2;unfold eU;obtain⟨A,n,c1,rfl,hI⟩:=GV e3 k hb;obtain⟨A2,c2,rfl,h1⟩:=EL e4 k hc;refine⟨lH e1 ha,⟨A,n,c1,rfl,hI⟩,A2,c2,rfl,?_⟩;rcases kC kids.length with h0|h0;·rw[qO h0];exact trivial
   ·obtain⟨g,o,d,t,off,rfl,hg,q,hcl⟩:=h1 h0;exact Oz k kids 0 kids.length (by omega) hg (by rw[ko,cO];exact q) hcl
theorem Oz {h:H} {ι:bn} {w:World} (k:WR ι h w):∀(l:List PT) (i n:Nat) {d:Nat} {t:E AV d} {off g o:Nat},i+l.length≤n→g<w.heap.size→Tv h l d t (off+i*3)=true→
 (∀i,i<n*3→∃y,w.cell? ⟨g,o+i,none⟩=some y∧VR ι (E.get d (path d (off+i)) t) y)→mI w (some ⟨g,o,none⟩) i l
 |[],_,_,_,_,_,_,_,_,_,_,_=>trivial
 |p::r,i,n,d,t,off,g,o,hn,hg,e,hc=>by unfold Tv at e;obtain⟨e1,e2⟩:=au e;rw[bW]at hn;unfold mI;obtain⟨y0,z0,s0⟩:=hc (i*3) (by omega);obtain⟨y1,z1,s1⟩:=hc (i*3+1) (by omega);obtain⟨y2,z2,s2⟩:=hc (i*3+2) (by omega);exact⟨⟨g,o,y0,y1,y2,rfl,hg,z0,z1,z2,Ld k p e1 s0 s1 s2⟩,Oz k r (i+1) n (by omega) hg (by rw[fD,←mg];exact e2) hc⟩
end
def fineP (p:PT):Bool:=aA (qW p) (aA (QJ p) (Nat.ble (lV p) 2000))
theorem fineP_ok {p:PT} (h:fineP p=true):QO p:=by obtain⟨h1,h2⟩:=au h;obtain⟨h3,h4⟩:=au h2;exact⟨h1,h3,fH h4⟩
def pY (d:Nat) (t:E AV d) (i k:Nat):AV:=E.get d (path d (Nat.add i k)) t
def adS (h:H) (d:Nat) (t:E AV d) (i:Nat) (r:PR):Bool:=
 aA (aA (isB (pY d t i 0) r.brk) (aA (isB (pY d t i 1) r.fst) (aA (isB (pY d t i 2) r.Zw) (Hl r.Zw false)))) (aA (aA (ZW h r.left (pY d t i 3) (pY d t i 4) (pY d t i 5)) (ZW h r.right (pY d t i 6) (pY d t i 7) (pY d t i 8))) (aA (fineP r.left) (fineP r.right)))
def QW (h:H) (d:Nat) (t:E AV d):Nat→List PR→Bool
 |_,[]=>true
 |i,r::l=>aA (adS h d t i r) (QW h d t (Nat.add i (nat_lit 9)) l)
theorem Jw {h:H} {d:Nat} {t:E AV d}:∀{l:List PR} {i:Nat},QW h d t i l=true→∀j r,l[j]? =some r→adS h d t (i+j*9) r=true
 |[],_,_,j,r,hj=>by simp at hj
 |x::l,i,e,j,r,hj=>by
  obtain⟨h1,h2⟩:=au e;cases j with
  |zero=>
   obtain rfl:x=r:=by simpa using hj
   rw[ko,cO];exact h1
  |succ j=>have:=Jw h2 j r (by simpa using hj);rw[show i+(j+1)*9=Nat.add i (nat_lit 9)+j*9 by rw[fD];show _=i+9+_;omega];exact this
def GX (h:H) (x:AV) (l:List PR):Bool:=aA (aA (Nat.ble (nat_lit 1) l.length) (Nat.ble l.length (nat_lit 64))) (VD h x l.length (nat_lit 9) fun d t off=>QW h d t off l)
theorem ZX {w:World} {a b c:Value} {p:PT} (h:eU w a b c p):(∃op:Nat,a= .int .i64 op)∧(∃A n d,b= .slice A n d)∧∃A n d,c= .slice A n d:=by cases p;unfold eU at h;obtain⟨h1,⟨A,n,c,h2,_⟩,A2,c2,h3,_⟩:=h;exact⟨⟨_,h1⟩,⟨A,n,c,h2⟩,A2,_,c2,h3⟩
theorem Dy {h:H} {x:AV} {l:List PR} (e:GX h x l=true) {ι:bn} {w:World} {v:Value} (k:WR ι h w) (hv:VR ι x v):∃g o c,v= .slice (some ⟨g,o,none⟩) l.length c∧kg w g o l:=by
 obtain⟨e1,e2⟩:=au e;obtain⟨e3,e4⟩:=au e1;obtain⟨A,c,rfl,h1⟩:=EL e2 k hv;obtain⟨g,o,d,t,off,rfl,hg,q,hc⟩:=h1 (fH e3);refine⟨g,o,c,rfl,hg,fH e4,fun i r hr=> ?_⟩;have hi:i<l.length:=(nA.1 hr).1;obtain⟨q1,q2⟩:=au (Jw q i r hr);obtain⟨b0,q1⟩:=au q1;obtain⟨b1,q1⟩:=au q1;obtain⟨b2,b3⟩:=au q1;obtain⟨q3,q4⟩:=au q2;obtain⟨pl,pr⟩:=au q3;obtain⟨fl,fr⟩:=au q4;have cell:∀j,j<9→∃y,w.cell? ⟨g,o+i*9+j,none⟩=some y∧VR ι (pY d t (off+i*9) j) y:=fun j hj=>by obtain⟨y,hy,ry⟩:=hc (i*9+j) (by show i*9+j<l.length*9;omega);rw[←mg]at hy ry;exact⟨y,hy,ry⟩
 obtain⟨y0,z0,s0⟩:=cell 0 (by omega);obtain⟨y1,z1,s1⟩:=cell 1 (by omega);obtain⟨y2,z2,s2⟩:=cell 2 (by omega);obtain⟨y3,z3,s3⟩:=cell 3 (by omega);obtain⟨y4,z4,s4⟩:=cell 4 (by omega);obtain⟨y5,z5,s5⟩:=cell 5 (by omega);obtain⟨y6,z6,s6⟩:=cell 6 (by omega);obtain⟨y7,z7,s7⟩:=cell 7 (by omega);obtain⟨y8,z8,s8⟩:=cell 8 (by omega);have hl:=Ld k r.left pl s3 s4 s5;have hr:=Ld k r.right pr s6 s7 s8;obtain⟨⟨o1,rfl⟩,⟨A4,n4,d4,rfl⟩,A5,n5,d5,rfl⟩:=ZX hl;obtain⟨⟨o2,rfl⟩,⟨A7,n7,d7,rfl⟩,A8,n8,d8,rfl⟩:=ZX hr;obtain rfl:=za b0 s0;obtain rfl:=za b1 s1;obtain rfl:=za b2 s2;refine⟨wQ b3,⟨o1,A4,n4,d4,A5,n5,d5,o2,A7,n7,d7,A8,n8,d8⟩,⟨hl,hr,fineP_ok fl,fineP_ok fr⟩,fun j x hx=> ?_⟩;match j,hx with
 |0,hx=>cases hx;exact z0
 |1,hx=>cases hx;exact z1
 |2,hx=>cases hx;exact z2
 |3,hx=>cases hx;exact z3
 |4,hx=>cases hx;exact z4
 |5,hx=>cases hx;exact z5
 |6,hx=>cases hx;exact z6
 |7,hx=>cases hx;exact z7
 |8,hx=>cases hx;exact z8
 |j+9,hx=>simp[yA.cells]at hx
def adT (h:H) (d:Nat) (t:E AV d) (i:Nat) (s:SD):Bool:=
 aA (aA (Tt h (pY d t i 0) s.left) (Tt h (pY d t i 1) s.right)) (aA (isB (pY d t i 2) s.VN) (isB (pY d t i 3) s.VO))
def QX (h:H) (d:Nat) (t:E AV d):Nat→List SD→Bool
 |_,[]=>true
 |i,r::l=>aA (adT h d t i r) (QX h d t (Nat.add i (nat_lit 4)) l)
theorem Jy {h:H} {d:Nat} {t:E AV d}:∀{l:List SD} {i:Nat},QX h d t i l=true→∀j r,l[j]? =some r→adT h d t (i+j*4) r=true
 |[],_,_,j,r,hj=>by simp at hj
 |x::l,i,e,j,r,hj=>by
  obtain⟨h1,h2⟩:=au e;cases j with
  |zero=>
   obtain rfl:x=r:=by simpa using hj
   rw[ko,cO];exact h1
  |succ j=>have:=Jy h2 j r (by simpa using hj);rw[show i+(j+1)*4=Nat.add i (nat_lit 4)+j*4 by rw[fD];show _=i+4+_;omega];exact this
def GY (h:H) (x:AV) (l:List SD):Bool:=aA (Nat.ble (nat_lit 1) l.length) (VD h x l.length (nat_lit 4) fun d t off=>QX h d t off l)
theorem OC {h:H} {x:AV} {l:List SD} (e:GY h x l=true) {ι:bn} {w:World} {v:Value} (k:WR ι h w) (hv:VR ι x v):∃A c,v= .slice A l.length c∧Td w A l.length l:=by
 obtain⟨e1,e2⟩:=au e;obtain⟨A,c,rfl,h1⟩:=EL e2 k hv;obtain⟨g,o,d,t,off,rfl,hg,q,hc⟩:=h1 (fH e1);refine⟨_,c,rfl,rfl,fun i s hs=> ?_⟩;have hi:i<l.length:=(nA.1 hs).1;obtain⟨q1,q2⟩:=au (Jy q i s hs);obtain⟨i0,i1⟩:=au q1;obtain⟨b2,b3⟩:=au q2;have cell:∀j,j<4→∃y,w.cell? ⟨g,o+i*4+j,none⟩=some y∧VR ι (pY d t (off+i*4) j) y:=fun j hj=>by obtain⟨y,hy,ry⟩:=hc (i*4+j) (by show i*4+j<l.length*4;omega);rw[←mg]at hy ry;exact⟨y,hy,ry⟩
 obtain⟨y0,z0,s0⟩:=cell 0 (by omega);obtain⟨y1,z1,s1⟩:=cell 1 (by omega);obtain⟨y2,z2,s2⟩:=cell 2 (by omega);obtain⟨y3,z3,s3⟩:=cell 3 (by omega);obtain⟨lA,ln,lc,rfl,hL⟩:=GV i0 k s0;obtain⟨rA,rn,rc,rfl,hR⟩:=GV i1 k s1;obtain rfl:=za b2 s2;obtain rfl:=za b3 s3;exact⟨g,o,lA,ln,lc,rA,rn,rc,rfl,hg,z0,z1,z2,z3,hL,hR⟩
end
end
noncomputable section
def ZY (v:AV) (h:H):Bool:=match v with
 | .ptr b off=>match h.get b with
   |some (.cells _ _ n d t)=>aA (Nat.ble (Nat.add off (nat_lit 3)) n) (aA (Ar h (E.get d (path d (Nat.add off (nat_lit 0))) t) (rY gU 13)) (aA (GX h (E.get d (path d (Nat.add off (nat_lit 1))) t) r9) (isB (E.get d (path d (Nat.add off (nat_lit 2))) t) true)))
   |_=>false
 |_=>false
theorem Z0 {ι:bn} {h:H} {w:World} {x:AV} {v:Value} (e:ZY x h=true) (k:WR ι h w) (hv:VR ι x v):ZH w v gU 13 r9 true:=by
 unfold ZY at e;split at e
 ·rename_i b off;split at e
  ·rename_i el ro n d t hb;obtain⟨e0,e⟩:=au e;obtain⟨e1,e⟩:=au e;obtain⟨e2,e3⟩:=au e;obtain⟨B,o,rfl,hc⟩:=oG (c:=3) k hv hb (fH e0);obtain⟨y0,z0,s0⟩:=hc 0 (by omega);obtain⟨y1,z1,s1⟩:=hc 1 (by omega);obtain⟨y2,z2,s2⟩:=hc 2 (by omega);obtain⟨g,og,c,rfl,hR⟩:=Dy e2 k s1;obtain rfl:=za e3 s2;exact⟨B,o,y0,g,og,c,rfl,dI z0,z0,z1,z2,F6 e1 k s0,hR⟩
  ·cases e
 ·cases e
def Tw (v:AV) (h:H):Bool:=match v with
 | .gY (.cons (.agg (.cons x (.cons y .nil))) (.cons a (.cons b .nil)))=>aA (aA (GX h x dG) (isB y true)) (aA (isInt .i64 a 0) (isInt .i64 b 0))
 |_=>false
theorem Z4 {ι:bn} {h:H} {w:World} {x:AV} {v:Value} (e:Tw x h=true) (k:WR ι h w) (hv:VR ι x v):∃gr og cr,v= .tuple #[.agg #[.slice (some ⟨gr,og,none⟩) dG.length cr, .bool true], .int .i64 0, .int .i64 0]∧kg w gr og dG:=by
 unfold Tw at e;split at e;·obtain⟨e1,e2⟩:=au e;obtain⟨e3,e4⟩:=au e1;obtain⟨e5,e6⟩:=au e2;obtain⟨xs,rfl,u,l1,h1,⟨ys,rfl,p,l2,h2,hp,q,l3,h3,hq,h4⟩,a,l4,h5,ha,b,l5,h6,hb,h7⟩:=hv;obtain⟨g,og,c,rfl,hR⟩:=Dy e3 k hp;obtain rfl:=za e4 hq;obtain rfl:=lH e5 ha;obtain rfl:=lH e6 hb;subst h4 h3 h7 h6 h5;refine⟨g,og,c,?_,hR⟩;rw[show xs=#[.agg ys, .int .i64 0, .int .i64 0]from Array.ext' h1,show ys=#[.slice (some ⟨g,og,none⟩) dG.length c, .bool true]from Array.ext' h2]
 ·cases e
theorem Z5 {ext:Nat→Nat} {OD H7:Nat→AV→H→Option bG} {N:Nat} (mU:Tryz.prog.follows .mixedOrders=true) (hprog:fZ Tryz.prog=true) (eA:oU Tryz.prog (cu Tryz.prog ext OD)) (eB:oU Tryz.prog (cu Tryz.prog ext H7)) (oA:fV Tryz.prog (cu Tryz.prog ext OD)) (oB:fV Tryz.prog (cu Tryz.prog ext H7))
 (d n p s:iP) (ag r:AV) (ss:List SD)
 (hf:(d.f=75∧n.f=77)∧p.f=76∧s.f=126) (ha:(d.args= .nil∧n.args= .cons d.v .nil)∧p.args= .cons (.str ZP) (.cons n.v .nil)∧s.args= .cons ag .nil∧p.v= .gY (.cons ag r))
 (hw:(d.ws=[]∧n.ws=[])∧p.ws=[]∧s.ws=[]) (hx:(64≤d.nx∧d.nx≤65536)∧d.bi=[]∧d.nx'=n.nx∧n.nx'=p.nx∧p.nx'=s.nx)
 (hd:aA (fnOf Tryz.prog d.f).isSome (aA (OD d.f d.args (qw d)).isNone (aA (Uo d) (Af d (fun v h=>Ar h v (rY gV 19)) ((run (cu Tryz.prog ext OD) (Nat.succ N)).call d.f d.args (qw d)))))=true)
 (hn:aA (fnOf Tryz.prog n.f).isSome (aA (OD n.f n.args (qw n)).isNone (aA (Uo n) (Af n (fun _ _=>true) ((run (cu Tryz.prog ext OD) (Nat.succ N)).call n.f n.args (qw n)))))=true)
 (hp:aA (fnOf Tryz.prog p.f).isSome (aA (H7 p.f p.args (qw p)).isNone (aA (Uo p) (Af p Tw ((run (cu Tryz.prog ext H7) (Nat.succ N)).call p.f p.args (qw p)))))=true)
 (hs:aA (fnOf Tryz.prog s.f).isSome (aA (OD s.f s.args (qw s)).isNone (aA (Uo s) (Af s (fun v h=>GY h v ss) ((run (cu Tryz.prog ext OD) (Nat.succ N)).call s.f s.args (qw s)))))=true)
 (h1:jO (tK d (qw d)) n.bi=true) (h2:jO (tK n (tK d (qw d))) p.bi=true) (h3:jO (tK p (tK n (tK d (qw d)))) s.bi=true) (hk:xR dG ss=true) (W:World):Tp W:=by
 have hin:qw d=h0 d.nx:=by unfold qw h0;rw[hx.2.1];rfl
 refine(show Calls Tryz.prog 75 #[] W _ from ?_);rw[←hf.1.1];refine(Ag mU hprog eA oA hw.1.1 hd (ι:=tJ W) (w:=W) (h:=qw d) (by rw[hin];exact XU hx.1.1 hx.1.2 W) (Ei W) (by rw[hin];rfl) (by rw[hx.2.1];rfl) (vs:=#[]) (by rw[ha.1.1];rfl)).mono ?_;rintro e w1 ⟨v,rfl,⟨v1,hh,ι1,q1,s1,k1⟩,⟨ι2,k2,g2,s2⟩,hb⟩;refine⟨v,rfl,hb,F6 q1 k1 s1,fun w2 hb2=> ?_⟩;rw[←hf.1.2];refine(Ag mU hprog eA oA hw.1.2 hn (k2.below hb2) g2 hx.2.2.1 h1 (vs:=#[v]) (by rw[ha.1.2];exact⟨v,[],rfl,s2,rfl⟩)).mono ?_;rintro e w3 ⟨nv,rfl,_,⟨ι3,k3,g3,s3⟩,hb3⟩;refine⟨nv,rfl,hb3,fun w4 hb4 b hS=> ?_⟩;rw[←hf.2.1];refine(Ag mU hprog eB oB hw.2.1 hp (k3.below hb4) g3 hx.2.2.2.1 h2 (vs:=#[.string b,nv]) (by rw[ha.2.1];exact⟨_,_,rfl,⟨b,rfl,hS.symm⟩,nv,[],rfl,s3,rfl⟩)).mono ?_;rintro e w5 ⟨pv,rfl,⟨v5,hh5,ι5,q5,s5,k5⟩,⟨ι6,k6,g6,s6⟩,hb5⟩;obtain⟨gr,og,cr,rfl,hR⟩:=Z4 q5 k5 s5;refine⟨gr,og,cr,rfl,hb5,hR,ss,hk,fun w6 hb6 w7 hb7=> ?_⟩;rw[ha.2.2.2]at s6;obtain⟨xs,e1,u,l,e2,hu,_⟩:=s6;injection e1 with e1;subst e1;injection e2 with e2 _;subst e2;rw[←hf.2.2];refine(Ag mU hprog eA oA hw.2.2 hs ((k6.below hb6).below hb7) g6 hx.2.2.2.2 h3 (vs:=#[.agg #[.slice (some ⟨gr,og,none⟩) dG.length cr, .bool true]]) (by rw[ha.2.2.1];exact⟨_,[],rfl,hu,rfl⟩)).mono ?_;rintro e w8 ⟨sv,rfl,⟨v8,hh8,ι8,q8,s8,k8⟩,_,hb8⟩;obtain⟨A,c,rfl,hS⟩:=OC q8 k8 s8;exact⟨A,_,c,rfl,hS,hb8⟩
end
end Go.Proofs.YtocaiijbhepnnaaGreatDoor.searchAll
