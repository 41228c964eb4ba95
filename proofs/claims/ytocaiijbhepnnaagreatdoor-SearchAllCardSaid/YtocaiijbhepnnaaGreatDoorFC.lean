/- SearchAll, walked: utf.Runes, write, joined, Fold; runes' bytes. -/
import Derived.Test.YtocaiijbhepnnaaGreatDoorFB
import Derived.Test.YtocaiijbhepnnaaGreatDoorFP
import Derived.RangeFuncBox
import Derived.RangeFuncLeaves
import Derived.Shelf.Abstract
import Derived.WalkKit
import Derived.OwnWalkIn
import Derived.TacticsInMore
import Derived.LoopNIn
import Derived.LoopIn
import Derived.Maps.AppendAt
import Derived.Lib.OthersKept
import Derived.Deep.AppendLies
import Derived.Shelf.Strings.BuilderK
import Derived.BigCall
import Derived.BigQuiet
import Derived.Lib.QuoteLoop
import Derived.Lib.MapLaws
set_option maxRecDepth 100000
set_option maxHeartbeats 8000000
namespace Go.Proofs.YtocaiijbhepnnaaGreatDoor.searchAll
open Go.Shelf Go.RowKit Go.Lib Go.Proofs.YtocaiijbhepnnaaGreatDoor.Am
section
open Go.RowKit Go.Shelf Go.Lib Go.Proofs.YtocaiijbhepnnaaGreatDoor.Am
open tV (bt nH)
open Folds (dec bf bU Kz)
attribute [local go_sem] Oper.semAt_some
def aD (t:List UInt8):Nat→Nat→List (Nat×Nat)
 |0,_=>[]
 |n+1,e=>if e<t.length then(e,(dec (t.drop e)).1)::aD t n (e+(dec (t.drop e)).2)else[]
def marks (t:List UInt8):List (Nat×Nat):=aD t t.length 0
def abm (x:Nat×Nat):Array Value:=#[.int .i64 x.1, .int .i32 x.2]
theorem Cj (t:List UInt8):∀n e,e≤t.length→(aD t n e).length+e≤t.length
 |0,e,h=>by simpa[aD]using h
 |n+1,e,h=>by
  unfold aD;by_cases c:e<t.length;·rw[ak c];have h1:=bf (t.drop e);have h2:=bU (t.drop e) (by intro d;rw[jf]at d;omega);rw[dO]at h2;have:=Cj t n (e+(dec (t.drop e)).2) (by omega);simp only[bW];omega
  ·rw[aj c];simpa using h
theorem gW (t:List UInt8) (e:Nat) (s:ByteArray) (hs:(⟨t.toArray⟩:ByteArray)=s):Utf8.decode s e=dec (t.drop e):=by
 have hd:s.data.toList=t:=by subst hs;simp
 rw[←Folds.amj,←hd,Go.Lib.decodeL_drop]
theorem KA (w:World) (k:Nat) (s:ByteArray) (p:Nat):w.grownBy (w.iterAt k s p) (some k):=
 ⟨rfl,rfl,rfl,by rw[iterAt_size];exact ay _,fun j _ hn=>iterAt_other w k j s p (fun c=>hn (by rw[c]))⟩
theorem Yj (F:Fence) (n:Nat) (h6:F.fn 209) (hro:F.round=none) (hn:1≤n) (l Bs:Nat) (t:List UInt8) (s:ByteArray) (hs:(⟨t.toArray⟩:ByteArray)=s) (J Jx:List (Nat×Nat)→World→Prop) (W:World) (hJ:AbidesFrom W.heap.size J)
 (hY:∀pre x W1,J pre W1→pre.length<t.length→YieldAt F (n-1) Tryz.prog l (abm x) W1 fun e W'=>
  (e= .returned (.bool true)∧J (pre++[x]) W'∧KeepsWalks W1 W')∨(e= .returned (.bool false)∧Jx (pre++[x]) W'))
 (hBs:W.cell? ⟨Bs,0,none⟩=some (.string s)) (h0:J [] W):
 CallsIn F n Tryz.prog 209 #[.func (.yield l) #[] #[], .pointer (some ⟨Bs,0,none⟩)] W fun e W'=>(∃v,e= .returned v)∧
  ((∃ys,ys=marks t∧J ys W')∨(∃pre,pre<+:marks t∧Jx pre W')):=by
 refine callsIn_of_wp Tryz.func209 rfl h6 ?_ hro;simp only[Tryz.ntmps209,nT,bW,je,Nat.reduceAdd,Nat.reduceSub,Array.replicate_succ,Array.replicate_zero,List.push_toArray,zI,o8,Em];gi_wp2;have hss:s.size=t.length:=size_mk t s hs;gi_loopw [] (fun wr=>∃e n pre,wr.heap[W.heap.size]? =some (.stringIter s e)∧J pre wr∧pre++aD t n e=marks t∧e≤t.length∧t.length<n+e+1)
  (fun wr=>s.size-wr.iterPos W.heap.size)
 case atStart=>exact⟨0,t.length,[],World.iter_heap W s 0,hJ _ _ _ none h0 (World.grownBy_alloc _ _ _) (by simp),rfl,aH _,by omega⟩
 case round=>
  obtain⟨e,m,pre,hit,hJs,hm,he,hme⟩:=hrel;by_cases hlt:e<t.length
  ·have hnx:=fun ty=>Go.Lib.run_next_any_at (P:=Tryz.prog) wr W.heap.size s e ty hit (by omega);rw[gW t e s hs]at hnx;obtain⟨m',rfl⟩:∃m',m=m'+1:=⟨m-1,by omega⟩
   have hd1:=bf (t.drop e);have hd2:=bU (t.drop e) (by intro d;rw[jf]at d;omega);rw[dO]at hd2;unfold aD at hm;rw[ak hlt]at hm;obtain⟨r,hr⟩:∃r,(dec (t.drop e)).1=r:=⟨_,rfl⟩
   obtain⟨k,hk⟩:∃k,(dec (t.drop e)).2=k:=⟨_,rfl⟩
   rw[hr,hk]at hm hnx;rw[hk]at hd1 hd2;have hJ2:J pre (wr.iterAt W.heap.size s (e+k)):=hJ _ _ _ _ hJs (KA wr W.heap.size s (e+k)) (fun j hj=>by cases hj;exact⟨ay _,_,hit,rfl⟩);have hit2:=Go.Lib.iterAt_heap wr W.heap.size s e (e+k) hit;have hlen:pre.length<t.length:=by have h1:=eO List.length hm;have h2:=Cj t t.length 0 (aH _);unfold marks at h1;rw[bg,bW]at h1;omega
   obtain⟨fn,tmps,assign,body,hy,hR⟩:=hY pre (e,r) _ hJ2 hlen;try simp only[abm]at hy
   gi_wp2;refine hR.mono ?_;rintro x W3 (⟨rfl,hJ3,hk3⟩|⟨rfl,hJx3⟩)
   ·have hit3:=hk3.same _ _ hit2 rfl;gi_wp2;go_roundw;case rel=>exact⟨e+k,m',pre++[(e,r)],hit3,hJ3,by rw[←hm];simp,by omega,by omega⟩
    case measure=>simp only[World.iterPos,hit3,hit];omega
   ·gi_wp2;refine tT (results_none rfl _ _ _) rfl ?_;exact⟨⟨_,rfl⟩, .inr ⟨pre++[(e,r)],⟨aD t m' (e+k),by rw[←hm];simp⟩,hJx3⟩⟩
  ·have hnx:=fun ty=>Go.Lib.run_next_end_at (P:=Tryz.prog) wr W.heap.size s e ty hit (by omega);gi_wp2;go_end0;refine⟨⟨_,rfl⟩, .inl ⟨pre,?_,hJs⟩⟩;rw[←hm];cases m with
   |zero=>simp[aD]
   |succ m'=>simp[aD,hlt]
theorem abn (F:Fence) (n:Nat) (h5:F.fn 143) (hro:F.round=none) (s:ByteArray) (w:World):
 CallsIn F n Tryz.prog 143 #[.string s] w fun e w'=>e= .returned (.func (.func 209) #[] #[.pointer (some ⟨w.heap.size,0,none⟩)])∧w'=w.alloc (.cells #[.string s] 9):=by
 refine callsIn_of_wp Tryz.func143 rfl h5 ?_ hro;simp only[Tryz.ntmps143,nT,bW,je,Nat.reduceAdd,Nat.reduceSub,Array.replicate_succ,Array.replicate_zero,List.push_toArray,zI,o8,Em];gi_wp2;go_ret;exact⟨rfl,rfl⟩
theorem P7 (F:Fence) (n:Nat) (h6:F.fn 209) (hro:F.round=none) (hn:1≤n) (Bs:Nat) (t:List UInt8) (s:ByteArray) (hs:(⟨t.toArray⟩:ByteArray)=s) (w:World) (hBs:Bs<w.heap.size) (hc:w.cell? ⟨Bs,0,none⟩=some (.string s)):
 SeqStopsK F n Tryz.prog 209 #[.pointer (some ⟨Bs,0,none⟩)] abm KeepsWalks (fun ys=>ys=marks t) (fun pre=>pre<+:marks t) t.length w:=fun l J Jx W hW hJ _ hY h0=>
 Yj F n h6 hro hn l Bs t s hs J Jx W hJ hY ((hW.cell (p:=⟨Bs,0,none⟩) hBs).trans hc) h0
theorem Uy:(Tryz.prog.info? 21).map (fun i=>(i.zero,i.size,i.bytes))=some (some (.int .i32 0),1,4):=by kernel_rfl
def Ga (l:List (Nat×Nat)):List Value:=l.map fun x=>Value.int .i32 x.2
theorem Yk (F:Fence) (n:Nat) (h3:F.fn 97) (h4:F.fn 143) (h5:F.fn 209) (hro:F.round=none) (hn:3≤n) (t:List UInt8) (s:ByteArray) (hs:(⟨t.toArray⟩:ByteArray)=s) (hlen:t.length≤1000000) (w:World):
 CallsIn F n Tryz.prog 97 #[.string s] w fun e W'=>∃v,e= .returned v∧W'.ownsRow w.heap.size 21 1 v (marks t).length (Ga (marks t))∧Below w.heap.size w W':=by
 have h1:1≤n:=by omega
 obtain⟨i0,hi,hz0,hz1,hz2⟩:=dX Uy;refine callsIn_of_wp_marks Tryz.func97 rfl h3 ?_ hro;simp only[Tryz.ntmps97,nT,bW,je,Nat.reduceAdd,Nat.reduceSub,Array.replicate_succ,Array.replicate_zero,List.push_toArray,zI,o8,Em];gi_wp2_with (gi_at_call 143;refine(abn F (n - 1) h4 hro _ _).mono ?_;rintro e w' ⟨rfl,rfl⟩);have bO:=Boxed.new w 87 (.slice none 0 0);have bN:=Boxed.new (w.alloc (.cells #[.slice none 0 0] 87)) 9 (.string s);rw[iV]at bN;have hB0:Below w.heap.size w ((w.alloc (.cells #[.slice none 0 0] 87)).alloc (.cells #[.string s] 9)):=((aG _ w).alloc (ay _) _).alloc (by simp) _;refine wpIn_rangeFunc_ownG hro h1 (gf:=209) (lb:= #[.pointer (some ⟨w.heap.size+1,0,none⟩)]) rfl h5 (enters_of Tryz.func209 (by kernel_rfl) rfl)
  (P7 F (n - 1) h5 hro (by omega) (w.heap.size+1) t s hs _ (by simp) bN.cell) walksK_t walksK_b (aG _ _) (fun _=>rfl)
  (fun pre W=>(∃v,Boxed W w.heap.size 87 v∧W.ownsRow w.heap.size 21 1 v (pre:List (Nat×Nat)).length (Ga pre)∧True)∧Below w.heap.size w W)
  (fun _ _ _=>False)
  (OwnFrom.and (Own.from (holdsRow_own w.heap.size w.heap.size 87 21 1 (fun pre=>pre.length) (fun pre=>Ga pre) (fun _ _=>True)) _) (ownFrom_below (ay _) (by simp;omega)))
  (fun _ _ _ _ _ hs _ _=>hs)
  ⟨⟨_,bO.alloc _,World.ownsRow_nil _ _ _ _,trivial⟩,hB0⟩
  (fun x=>{tmps:= #[.string s,undef, .slice none 0 0, .pointer (some ⟨w.heap.size,0,none⟩),undef, .int .i32 x.2, .string s, .func (.func 209) #[] #[.pointer (some ⟨w.heap.size+1,0,none⟩)], .int .i64 x.1, .int .i32 x.2,undef,undef,undef,undef,undef],defers:=[]}) ?assign ?body ?done ?stop
 case assign=> intro l x W K hK;simp only[abm];gi_wp2;exact hK
 case body=> rintro l pre x W ⟨⟨v,hv,hrow,_⟩,hB⟩ hlt;have hc:=hv.cell;gi_wp2_with (gi_at_builtin;refine wpListIn_append_own _ rfl _ _ 87 rfl w.heap.size 21 i0 (.int .i32 0) 1 4 Tryz.underlying87 hi hz0 hz1 hz2 rfl (by decide) _ _ _ rfl (hrow.alloc _) ⟨W.heap.size,0,none⟩ 1 1 [.int .i32 x.2] rfl rfl (cell_one_new _ _ _) (by simp[Value.oneCell']) (by simp only[maxLen];omega) (by omega) (by have:=hB.size;simp;omega) ?_;intro v' w1 hown' hgrow _;obtain⟨g',cap',rfl⟩:=ownsRow_succ hown';obtain⟨hv1,hv2,hr2,hk2,hb2⟩:=hv.appended (by decide) hrow hB.size (Nat.le_refl _) hown' hgrow;have hc1:=hv1.cell;have hf1:=hv1.frozen);exact⟨hk2.from _,hk2.walks,⟨_,hv2,by simpa[Ga]using hr2,trivial⟩,hB.trans hb2⟩
 case done=> rintro D ys W hD rfl ⟨⟨v,hv,hrow,_⟩,hB⟩ hK;have hc:=hv.cell;gi_wp2;refine⟨by simp, .inl ⟨_,_,rfl,run_takeDeferred hK,?_⟩⟩;exact⟨_,results_tmp rfl _ _ _,v,rfl,ownsRow_putObj hrow _ hK rfl,hB.trans (belowK_b (w:=w) (ay _) W D _ _ (by simp at hD;omega) hK rfl rfl)⟩
 case stop=> rintro D c pre W _ _ h _;exact h.elim
def tX (t:List UInt8):List Int:=(marks t).map fun x=>(x.2:Int)
def Uz (t:List UInt8) (W:World) (e:Ending) (w':World):Prop:=∃v,e= .returned v∧gQ w' v (tX t)∧Below W.heap.size W w'
theorem Yl (t:List UInt8) (hlen:t.length≤1000000) (w:World):Calls Tryz.prog 97 #[.string ⟨t.toArray⟩] w (Uz t w):=by
 refine(callsIn_wide (n:=3)).1 ((Yk _ 3 trivial trivial trivial rfl (ay _) t _ rfl hlen w).mono ?_);rintro e w' ⟨v,rfl,hrow,hb⟩;refine⟨v,rfl,?_,hb⟩;have hl:(tX t).length=(marks t).length:=by simp[tX]
 rcases hrow.2 with⟨h2,h0⟩|⟨g,cap,cur,hv,hbg,hg,hnc,hcm,hcs,htk⟩
 ·rw[h2];refine⟨none,0,by rw[hl,h0],by rw[hl,h0];exact ay _,fun c=> ?_⟩;rw[hl,h0]at c;omega
 ·rw[hv,←hl];refine⟨_,_,rfl,by rw[hl];exact hnc,fun _=>⟨g,0,rfl,fun j hj=> ?_⟩⟩;have hx:=hrow.cells (g:=g) (by rw[hv];rfl) j (.int .i32 ((tX t).getD j 0)) ?_
  ·rw[←gy];exact hx
  ·unfold Ga tX;rw[fF,aM,fF];rw[hl]at hj;rw[aZ hj];rfl
end
section
open Folds (dec bf bU)
def Tryz.lays197_ren:Go.Shelf.Ren:=⟨fun|197=>145|260=>212|n=>n,fun|9=>9|21=>21|3=>3|4=>4|5=>5|105=>160|119=>212|0=>0|46=>166|139=>295|138=>294|n=>n,fun|3=>2|4=>3|n=>n⟩
theorem Tryz.lays197:Go.Proofs.Lays.n197 Tryz.prog Tryz.lays197_ren:={
 mixed:=by kernel_rfl
 f197:=Tryz.func145.trans (eO some (by kernel_rfl))
 f260:=Tryz.func212.trans (eO some (by kernel_rfl))
 t0:=Tryz.underlying0
 a0:=Tryz.isAgg0
 z0:=Tryz.sizeOf0
 v0:=Tryz.zeroValue0
 t3:=Tryz.underlying3
 a3:=Tryz.isAgg3
 z3:=Tryz.sizeOf3
 v3:=Tryz.zeroValue3
 t4:=Tryz.underlying4
 a4:=Tryz.isAgg4
 z4:=Tryz.sizeOf4
 v4:=Tryz.zeroValue4
 t5:=Tryz.underlying5
 a5:=Tryz.isAgg5
 z5:=Tryz.sizeOf5
 v5:=Tryz.zeroValue5
 t9:=Tryz.underlying9
 a9:=Tryz.isAgg9
 z9:=Tryz.sizeOf9
 v9:=Tryz.zeroValue9
 t21:=Tryz.underlying21
 a21:=Tryz.isAgg21
 z21:=Tryz.sizeOf21
 v21:=Tryz.zeroValue21
 t46:=Tryz.underlying166
 a46:=Tryz.isAgg166
 z46:=Tryz.sizeOf166
 v46:=Tryz.zeroValue166
 t105:=Tryz.underlying160
 a105:=Tryz.isAgg160
 z105:=Tryz.sizeOf160
 v105:=Tryz.zeroValue160
 t119:=Tryz.underlying212
 a119:=Tryz.isAgg212
 z119:=Tryz.sizeOf212
 t138:=Tryz.underlying294
 a138:=Tryz.isAgg294
 z138:=Tryz.sizeOf294
 v138:=Tryz.zeroValue294
 t139:=Tryz.underlying295
 a139:=Tryz.isAgg295
 z139:=Tryz.sizeOf295
 v139:=Tryz.zeroValue295
 g3:=by kernel_rfl
 g4:=by kernel_rfl}
theorem ah7 (l:List UInt8) (h0:l≠[]):Lib.decodeGo ⟨l.toArray⟩=dec l:=by unfold Lib.decodeGo;rw[aj (by rw[size_mk l _ rfl];cases l with|nil=>exact absurd rfl h0|cons a b=>simp)];have:=gW l 0 _ rfl;rwa [tH]at this
theorem P8 (l:List UInt8) (h0:l≠[]) (w:World) (hT:Lib.Utf8Tabs 2 3 w):
 Calls Tryz.prog 145 #[.string ⟨l.toArray⟩] w fun e w'=>e= .returned (.tuple #[.int .i32 (dec l).1, .int .i64 (dec l).2])∧Below w.heap.size w w':=by
 have h:=Any.utf8_DecodeRuneInString Tryz.lays197 ⟨l.toArray⟩ w hT;rw[ah7 l h0]at h;exact h
theorem xD (l:List UInt8) (h0:l≠[]) (w:World) (hT:Lib.Utf8Tabs 2 3 w):
 Calls Tryz.prog 99 #[.string ⟨l.toArray⟩] w fun e w'=>e= .returned (.tuple #[.int .i32 (dec l).1, .int .i64 (dec l).2])∧Below w.heap.size w w':=by
 have hd:=P8 l h0;obtain⟨s,hs⟩:∃s:ByteArray,(⟨l.toArray⟩:ByteArray)=s:=⟨_,rfl⟩
 have h2:s.toList.isEmpty=false:=by rw[←hs,ByteArray.toList_mk];cases l with|nil=>exact absurd rfl h0|cons a b=>rfl
 have h1: !s.toList.isEmpty:=by rw[h2];rfl
 rw[hs]at hd⊢;clear hs h0;go_enter Tryz.func99,Tryz.ntmps99;go_wp2_with (go_at_call 145;refine(hd _ hT).mono ?_;rintro e w' ⟨rfl,hb⟩);go_ret2;exact⟨rfl,hb⟩
abbrev Pc:=Nat×Nat×List UInt8
def fq (l:List Pc):List Value:=l.flatMap fun p=>[.int .i64 p.1, .int .i32 p.2.1, .string ⟨p.2.2.toArray⟩]
theorem M5 (l x:List Pc):fq (l++x)=fq l++fq x:=by simp[fq]
def pcs (enc:Nat→Nat→List UInt8) (t:List UInt8):Nat→Nat→Nat→List Pc
 |0,_,_=>[]
 |n+1,i,e=>if e<t.length then(e,(dec (t.drop e)).1,Folds.one (enc i) (t.drop e))::pcs enc t n (i+1) (e+(dec (t.drop e)).2)else[]
def Ck (k:Nat) (fin:Nat→Bool) (i r:Nat):List UInt8:=if(k=0∧r=931)∧fin i=true then[207,130]else pG (formV r k)
def M6 (k:Nat) (fin:Nat→Bool) (t:List UInt8):List Pc:=pcs (Ck k fin) t t.length 0 0
theorem formsT_len:(formsT.all fun p=>p.2.all fun l=>decide (l.length≤3))=true:=by decide+kernel
theorem formV_len (r:Int) (k:Nat):(formV r k).length≤3:=by
 unfold formV;cases h:formsOf r with
 |none=>dsimp only;split<;>simp
 |some fs=>
  unfold formsOf at h;obtain⟨p,hp,rfl⟩:=Er.1 h;have:=fU.1 formsT_len p (List.mem_of_find?_eq_some hp);dsimp only;rcases aK k p.2.length with c|c;·rw[aM,aZ c];have:=fU.1 this _ (mF c);exact iT this
  ·rw[aM,sK c];simp
theorem kD {w w':World} {g0 g1:Nat} (h:Below w.heap.size w w') (hT:Lib.Utf8Tabs g0 g1 w):Lib.Utf8Tabs g0 g1 w':=abk (Fr.of_below (T:=fun _=>False) h (ay _)) hT id id
def UA (l:List Pc) (W:World) (e:Ending) (w':World):Prop:=∃v,e= .returned v∧w'.ownsRow W.heap.size 83 3 v l.length (fq l)∧Below W.heap.size W w'
structure WL (W:World) (s:ByteArray) (vl:Value) (e:Nat) (acc:List Pc) (w:World):Prop where
 aB:Below W.heap.size W w
 it:w.heap[W.heap.size]? =some (.stringIter s e)
 own:w.ownsRow W.heap.size 83 3 vl acc.length (fq acc)
theorem bF {w w':World} {k:Nat} {o:Obj} (h:Below w.heap.size w w') (hk:w.heap[k]? =some o):w'.heap[k]? =some o:=(h.block k (bY hk)).trans hk
theorem own_below {w w':World} {base:Nat} {e:TypeId} {size n:Nat} {v:Value} {xs:List Value} (hb:Below w.heap.size w w') (h:w.ownsRow base e size v n xs):w'.ownsRow base e size v n xs:=(Fr.of_below (T:=fun _=>False) hb (ay _)).own h (fun _ _=>id)
theorem own_iterAt {w:World} {base k:Nat} {s s':ByteArray} {p p':Nat} {e:TypeId} {size n:Nat} {v:Value} {xs:List Value} (hk:w.heap[k]? =some (.stringIter s p)) (h:w.ownsRow base e size v n xs):(w.iterAt k s' p').ownsRow base e size v n xs:=by
 refine⟨h.1,?_⟩;rcases h.2 with h2|⟨g,cap,cur,hv,hb,hg,r⟩
 ·exact .inl h2
 ·have n3:g≠k:=by rintro rfl;rw[hk]at hg;cases hg
  exact .inr ⟨g,cap,cur,hv,hb,(iterAt_other w k g s' p' n3).trans hg,r⟩
theorem WL.below {W:World} {s:ByteArray} {vl:Value} {e:Nat} {acc:List Pc} {w w':World} (h:WL W s vl e acc w) (hb:Below w.heap.size w w'):WL W s vl e acc w':=
 ⟨h.aB.trans (hb.mono h.aB.size),bF hb h.it,own_below hb h.own⟩
theorem WL.iter {W:World} {s:ByteArray} {vl:Value} {e e':Nat} {acc:List Pc} {w:World} (h:WL W s vl e acc w):WL W s vl e' acc (w.iterAt W.heap.size s e'):=
 ⟨below_iterAt h.aB (ay _) s e',Go.Lib.iterAt_heap w _ s e e' h.it,own_iterAt h.it h.own⟩
theorem P9:(Tryz.prog.info? 83).map (fun i=>(i.zero,i.size,i.bytes))=some (some (.agg #[.int .i64 0, .int .i32 0, .string ⟨#[]⟩]),3,32):=by kernel_rfl
theorem aL {w:World} {base:Nat} {e:TypeId} {v:Value} {size n:Nat} {xs:List Value} (h:w.ownsRow base e size v n xs):∃A c,v= .slice A n c∧n≤c:=by obtain⟨A,c,h1,_,_,h2,_⟩:=gI h;exact⟨A,c,h1,h2⟩
theorem KD (t:List UInt8) (e:Nat) (s:ByteArray) (hs:(⟨t.toArray⟩:ByteArray)=s):s.extract e s.size=⟨(t.drop e).toArray⟩:=by subst hs;rw[tO,nG];simp[ByteArray.size]
theorem abp (t:List UInt8) (e:Nat) (s:ByteArray) (hs:(⟨t.toArray⟩:ByteArray)=s):s.extract e (e+1)=⟨((t.drop e).take 1).toArray⟩:=by subst hs;rw[tO,oK]
theorem WL.own' {W:World} {s:ByteArray} {A:Option Addr} {m c e:Nat} {acc:List Pc} {w:World} (h:WL W s (.slice A m c) e acc w):w.ownsRow W.heap.size 83 3 (.slice A m c) m (fq acc):=by have h1:=h.own;obtain⟨A',c',he,_⟩:=aL h1;injection he with _ he _;rw[←he]at h1;exact h1
theorem dM {w:World} {base:Nat} {e:TypeId} {size n:Nat} {v:Value} {xs:List Value} {o:Obj} (h:w.ownsRow base e size v n xs):(w.alloc o).ownsRow base e size v n xs:=own_below ((aG _ _).alloc (ay _) _) h
theorem jo {w:World} {b:Nat} {o:Obj} (h:b≤w.heap.size):b≤(w.alloc o).heap.size:=by rw[iV];omega
theorem vH (w:World) (a b c:Value) (t:TypeId):∀j u,[a,b,c][j]? =some u→(w.alloc (.cells #[a,b,c] t)).cell? ((⟨w.heap.size,0,none⟩:Addr).add j)=some u:=by intro j u hu;rw[gy,bJ,aQ _ _ _ _ _ _ (dw w _),←hu];simp
theorem vI (a b:Int) (t:List UInt8):∀u∈[Value.int .i64 a, .int .i32 b, .string ⟨t.toArray⟩],u.oneCell'=true:=by intro u hu;simp at hu;rcases hu with rfl|rfl|rfl<;>rfl
theorem WL.grown {W:World} {s:ByteArray} {vl v':Value} {e m at_ r:Nat} {X:List UInt8} {acc:List Pc} {w w':World} {o:Obj} (h:WL W s vl e acc w)
 (ho:w'.ownsRow W.heap.size 83 3 v' m (fq acc++[.int .i64 at_, .int .i32 r, .string ⟨X.toArray⟩])) (hg:(w.alloc o).grownBy w' vl.ownBlock):WL W s v' e (acc++[(at_,r,X)]) w':=by
 have hb1:Below W.heap.size W (w.alloc o):=h.aB.alloc h.aB.size o;have hown:(w.alloc o).ownsRow W.heap.size 83 3 vl acc.length (fq acc):=dM h.own;have hm:m=acc.length+1:=by have h1:=ho.1;have h2:(fq acc).length=acc.length*3:=hown.1;simp only[bg,bW,je,h2]at h1;omega
 refine⟨hb1.grown hg hb1.size (fun k hk=>(bD hown hk).1),?_,?_⟩
 ·rw[hg.block _ (bK (bY h.it) (by rw[iV];omega)) ?_]
  ·exact(tQ w o _ (bY h.it)).trans h.it
  ·intro hk;obtain⟨_,_,cur,hcur⟩:=bD hown hk.symm;rw[(tQ w o _ (bY h.it)).trans h.it]at hcur;cases hcur
 ·rw[M5];simp only[bg,bW,je,bJ];rw[←hm];exact ho
theorem LEN {n e:Nat} (m:Nat) (h1:m≤e) (h2:e≤n) (h3:n≤100000):m+1≤maxLen∧(m+1)*32≤140737488355328:=⟨by simp only[maxLen];omega,by omega⟩
end
section
open Folds (dec bf bU)
theorem UC (t:List UInt8) (k:Nat) (hk:k<4) (c1:k≠0) (fin:Nat→Bool) (v:Value) (W:World) (h:Aq W v) (hT:Lib.Utf8Tabs 2 3 W) (hn:t.length≤100000):
 Calls Tryz.prog 51 #[v, .string ⟨t.toArray⟩, .int .i64 k] W (UA (M6 k fin t) W):=by
 obtain⟨B,o,rfl⟩:∃B o,v= .pointer (some ⟨B,o,none⟩):=by obtain⟨B,o,_,_,_,rfl,_⟩:=h;exact⟨B,o,rfl⟩
 have HR:=ah (Yl t (by omega) W);obtain⟨s,hs⟩:∃s:ByteArray,(⟨t.toArray⟩:ByteArray)=s:=⟨_,rfl⟩
 rw[hs]at HR⊢;have hss:s.size=t.length:=size_mk t s hs;have HS:=ah hs;have HO:=ah h;have HT:=ah hT;have kR:=ah hss;have HK:=ah hk;clear hs h hT hss hk;obtain⟨i0,hI0,hz0,hz1,hz2⟩:=dX P9;go_enter Tryz.func51,Tryz.ntmps51;go_wp2_with (go_at_call 97;refine HR.out.mono ?_;rintro e w1 ⟨v7,rfl,hsl,hb1⟩;obtain⟨A7,c7,rfl,_⟩:=id hsl;have HSL:=ah hsl;have HB1:=ah hb1;clear hsl hb1);go_loopw [8,9] (fun vl vi wr=>∃e n acc,vi= .int .i64 (acc:List Pc).length∧WL w1 s vl e acc wr∧e≤t.length∧t.length<n+e+1∧acc.length≤e∧acc++pcs (Ck k fin) t n acc.length e=M6 k fin t∧acc.length+(aD t n e).length=(marks t).length) (fun _ _ wr=>s.size-wr.iterPos w1.heap.size);case atStart=>exact⟨0,t.length,[],rfl,⟨(Below.refl _ w1).alloc (Nat.le_refl _) _,World.iter_heap w1 s 0,⟨rfl, .inl ⟨rfl,rfl⟩⟩⟩,Nat.zero_le _,by omega,Nat.le_refl _,rfl,by simp[marks]⟩
 case round=>
  obtain⟨e,n,acc,rfl,hWL,he,hne,hae,hl,hm⟩:=hrel;obtain⟨A8,c8,rfl,_⟩:=aL hWL.own;have hit:=hWL.it;have hss:=kR.out;obtain⟨m,hm'⟩:∃m,acc.length=m:=⟨_,rfl⟩
  rw[hm']at hae hl hm hWL⊢;have HW:=ah hWL;clear hWL;by_cases hlt:e<s.size
  ·have hlt2:e<t.length:=by omega
   obtain⟨n',rfl⟩:∃n',n=n'+1:=⟨n-1,by omega⟩
   have hnx:=fun ty=>Go.Lib.run_next_any_at (P:=Tryz.prog) wr _ s e ty hit hlt;rw[gW t e s HS.out]at hnx;have hne2:t.drop e≠[]:=by intro c;rw[jf]at c;omega
   have hd1:=bf (t.drop e);have hd2:=bU (t.drop e) hne2;rw[dO]at hd2;unfold pcs at hl;unfold aD at hm;rw[ak hlt2]at hl hm;rw[bW]at hm;obtain⟨r,hr⟩:∃r,(dec (t.drop e)).1=r:=⟨_,rfl⟩
   obtain⟨wd,hwd⟩:∃wd,(dec (t.drop e)).2=wd:=⟨_,rfl⟩
   rw[hwd]at hd1 hd2 hm hl;rw[hr]at hl;rw[hr,hwd]at hnx;obtain⟨ew,Cm⟩:∃ew,e+wd=ew:=⟨_,rfl⟩
   rw[Cm]at hnx hl hm;obtain⟨m1,hm1⟩:∃m1,m+1=m1:=⟨_,rfl⟩
   have hwm:wrap64 ((m:Int)+1)=(m1:Int):=by unfold wrap64;omega
   obtain⟨e1,he1⟩:∃e1,e+1=e1:=⟨_,rfl⟩
   have hwr:wrap64 ((e:Int)+1)=(e1:Int):=by unfold wrap64;omega
   have hx1:=KD t e s HS.out;have hx2:=abp t e s HS.out;rw[he1]at hx2;have hi0:(0:Int)≤e:=xg e;have hi1:(e:Int)≤s.size:=Int.ofNat_le.2 (dW hlt);have hi2:(e:Int)≤e1:=Int.ofNat_le.2 (he1▸mK e);have hi3:(e1:Int)≤s.size:=Int.ofNat_le.2 (he1▸hlt);have hml:m<(tX t).length:=by unfold tX;rw[dz,←hm];exact Nat.lt_add_of_pos_right (wH _)
   have hone:Folds.one (Ck k fin m) (t.drop e)=if r=65533∧wd=1 then(t.drop e).take 1 else Ck k fin m r:=by unfold Folds.one;rw[hr,hwd]
   have ae6:=ah hone;have VH:=ah hml;have HNE:=ah hne2;have HR2:=ah hr;have HWD:=ah hwd;have HL:=ah hl;have HM:=ah hm;have HEW:=ah Cm;have Qa:=ah hm1;have HWM:=ah hwm;have HLEN:=ah (LEN m hae he hn);have hsa:∀W,(Instr.slice 9 (.string s) (some (.int .i64 (e:Int))) none none).run Tryz.prog W= .ok (.string ⟨(t.drop e).toArray⟩) W:=fun W=>by rw[run_slice_string_from_if _ _ _ _ _ Tryz.underlying9,ak ⟨hi0,hi1⟩,jN,hx1]
   have hsb:∀W,(Instr.slice 9 (.string s) (some (.int .i64 (e:Int))) (some (.int .i64 (wrap64 ((e:Int)+1)))) none).run Tryz.prog W= .ok (.string ⟨((t.drop e).take 1).toArray⟩) W:=fun W=>by rw[hwr,run_slice_string _ _ _ _ _ _ _ Tryz.underlying9 hi0 hi2 hi3,jN,jN,hx2]
   have HD:=ah (And.intro hd1 hd2);have HC:=ah (HW.out.iter (e':=ew));have Ym:=ah hm';rw[hm1]at HL;clear hone hml hne2 hr hwd hl hm Cm hd1 hd2 hm' hm1 hwm;have key:∀X:List UInt8,Folds.one (Ck k fin m) (t.drop e)=X→∀(A':Option Addr) (c':Nat) (w':World),WL w1 s (.slice A' m1 c') ew (acc++[(e,r,X)]) w'→
    (∃e n acc',Value.int .i64 (m1:Int)= .int .i64 (acc':List Pc).length∧WL w1 s (.slice A' m1 c') e acc' w'∧e≤t.length∧t.length<n+e+1∧acc'.length≤e∧acc'++pcs (Ck k fin) t n acc'.length e=M6 k fin t∧acc'.length+(aD t n e).length=(marks t).length)∧s.size-w'.iterPos w1.heap.size<s.size-wr.iterPos w1.heap.size:=by
    intro X hX A' c' w' hw;clear hnx hwr hx1 hx2 hi0 hi1 hi2 hi3 hsa hsb;have hd:=HD.out;have Cm:=HEW.out;have hm':=Ym.out;have hm1:=Qa.out;have hlen:(acc++[(e,r,X)]).length=m1:=by simp[hm',hm1]
    refine⟨⟨ew,n',acc++[(e,r,X)],by rw[hlen],hw,by omega,by omega,by rw[hlen];omega,?_,?_⟩,?_⟩;·rw[hlen,←HL.out,hX,dJ];rfl
    ·rw[hlen];have:=HM.out;omega
    ·have q1:w'.iterPos w1.heap.size=ew:=by unfold World.iterPos;rw[hw.it]
     have q2:wr.iterPos w1.heap.size=e:=by unfold World.iterPos;rw[HW.out.it]
     rw[q1,q2];omega
   have KEY:=ah key;clear key hwr hx1 hx2 hi0 hi1 hi2 hi3 he hne hae hn hss he1;have hcases:r≠65533∨(r=65533∧wd=1)∨(r=65533∧wd≠1):=by
    by_cases d:r=65533
    ·by_cases e:wd=1
     ·exact .inr (.inl ⟨d,e⟩)
     ·exact .inr (.inr ⟨d,e⟩)
    ·exact .inl d
   rcases hcases with c2|⟨rfl,rfl⟩|⟨rfl,c3⟩
   ·have d1:decide ((k:Int)=0)=false:=aY (by omega);have d2:decide ((r:Int)=65533)=false:=aY (by omega);go_wp2_with (first
     |(go_at_call 56
       refine(form_ok r k HK.out _ _ (qz HO.out (HB1.out.trans (HC.out.aB.mono HB1.out.size)))).mono ?_;rintro x wz ⟨v2,rfl,hs2,hb2⟩;have HS2:=ah hs2;have HC:=ah (HC.out.below hb2);clear hs2 hb2)
     |(go_at_call 55
       refine(Ky (formV r k) _ _ HS2.out (aT (formV_len r k) (by decide))).mono ?_;rintro x wz ⟨rfl,hb3⟩;have HC:=ah (HC.out.below hb3);clear hb3)
     |(go_at_call 99
       refine(xD (t.drop e) HNE.out _ (kD (HB1.out.trans (HC.out.aB.mono HB1.out.size)) HT.out)).mono ?_;rintro x wz ⟨rfl,hb5⟩;rw[HR2.out,HWD.out];have HC:=ah (HC.out.below hb5);clear hb5)
     |(at_builtin
       (refine qA _ rfl (.tmp 56) (.tmp 61) 80 rfl w1.heap.size 83 i0 _ 3 32 Tryz.underlying80 hI0 hz0 hz1 hz2 rfl (by decide) (.slice A8 m c8) m (fq acc) rfl (dM HC.out.own') ⟨wz.heap.size,0,none⟩ 1 1 [.int .i64 e, .int .i32 r, .string ⟨(pG (formV r k)).toArray⟩] rfl rfl (vH _ _ _ _ _) (vI _ _ _) (by decide) HLEN.out.1 HLEN.out.2 (jo HC.out.aB.size) _ rfl ?_);intro g cap wq ho hg hl hs;rw[Qa.out]at ho⊢;have HG:=ah (WL.grown HC.out ho hg);clear ho hg hl hs hnx hsa hsb hit hlt hlt2))
    rw[HWM.out];exact KEY.out (pG (formV r k)) (by rw[ae6.out,aj (fun h=>c2 h.1)];unfold Ck;rw[aj (fun h=>c1 h.1.1)]) _ _ _ HG.out
   ·have d1:decide ((k:Int)=0)=false:=aY (by omega);go_wp2_with (first
     |(go_at_call 56
       refine(form_ok 65533 k HK.out _ _ (qz HO.out (HB1.out.trans (HC.out.aB.mono HB1.out.size)))).mono ?_;rintro x wz ⟨v2,rfl,hs2,hb2⟩;have HS2:=ah hs2;have HC:=ah (HC.out.below hb2);clear hs2 hb2)
     |(go_at_call 55
       refine(Ky (formV 65533 k) _ _ HS2.out (aT (formV_len 65533 k) (by decide))).mono ?_;rintro x wz ⟨rfl,hb3⟩;have HC:=ah (HC.out.below hb3);clear hb3)
     |(go_at_call 99
       refine(xD (t.drop e) HNE.out _ (kD (HB1.out.trans (HC.out.aB.mono HB1.out.size)) HT.out)).mono ?_;rintro x wz ⟨rfl,hb5⟩;rw[HR2.out,HWD.out];have HC:=ah (HC.out.below hb5);clear hb5)
     |(at_builtin
       (refine qA _ rfl (.tmp 56) (.tmp 61) 80 rfl w1.heap.size 83 i0 _ 3 32 Tryz.underlying80 hI0 hz0 hz1 hz2 rfl (by decide) (.slice A8 m c8) m (fq acc) rfl (dM HC.out.own') ⟨wz.heap.size,0,none⟩ 1 1 [.int .i64 e, .int .i32 65533, .string ⟨((t.drop e).take 1).toArray⟩] rfl rfl (vH _ _ _ _ _) (vI _ _ _) (by decide) HLEN.out.1 HLEN.out.2 (jo HC.out.aB.size) _ rfl ?_);intro g cap wq ho hg hl hs;rw[Qa.out]at ho⊢;have HG:=ah (WL.grown HC.out ho hg);clear ho hg hl hs hnx hsa hsb hit hlt hlt2))
    rw[HWM.out];exact KEY.out ((t.drop e).take 1) (by rw[ae6.out,ak (by simp)]) _ _ _ HG.out
   ·have d1:decide ((k:Int)=0)=false:=aY (by omega);have d3:decide ((wd:Int)=1)=false:=aY (by omega);go_wp2_with (first
     |(go_at_call 56
       refine(form_ok 65533 k HK.out _ _ (qz HO.out (HB1.out.trans (HC.out.aB.mono HB1.out.size)))).mono ?_;rintro x wz ⟨v2,rfl,hs2,hb2⟩;have HS2:=ah hs2;have HC:=ah (HC.out.below hb2);clear hs2 hb2)
     |(go_at_call 55
       refine(Ky (formV 65533 k) _ _ HS2.out (aT (formV_len 65533 k) (by decide))).mono ?_;rintro x wz ⟨rfl,hb3⟩;have HC:=ah (HC.out.below hb3);clear hb3)
     |(go_at_call 99
       refine(xD (t.drop e) HNE.out _ (kD (HB1.out.trans (HC.out.aB.mono HB1.out.size)) HT.out)).mono ?_;rintro x wz ⟨rfl,hb5⟩;rw[HR2.out,HWD.out];have HC:=ah (HC.out.below hb5);clear hb5)
     |(at_builtin
       (refine qA _ rfl (.tmp 56) (.tmp 61) 80 rfl w1.heap.size 83 i0 _ 3 32 Tryz.underlying80 hI0 hz0 hz1 hz2 rfl (by decide) (.slice A8 m c8) m (fq acc) rfl (dM HC.out.own') ⟨wz.heap.size,0,none⟩ 1 1 [.int .i64 e, .int .i32 65533, .string ⟨(pG (formV 65533 k)).toArray⟩] rfl rfl (vH _ _ _ _ _) (vI _ _ _) (by decide) HLEN.out.1 HLEN.out.2 (jo HC.out.aB.size) _ rfl ?_);intro g cap wq ho hg hl hs;rw[Qa.out]at ho⊢;have HG:=ah (WL.grown HC.out ho hg);clear ho hg hl hs hnx hsa hsb hit hlt hlt2))
    rw[HWM.out];exact KEY.out (pG (formV 65533 k)) (by rw[ae6.out,aj (fun h=>c3 h.2)];unfold Ck;rw[aj (fun h=>c1 h.1.1)];rfl) _ _ _ HG.out
  ·have hnx:=fun ty=>Go.Lib.run_next_end_at (P:=Tryz.prog) wr _ s e ty hit hlt;have hee:e=t.length:=by omega
   have hz:pcs (Ck k fin) t n m e=[]:=by
    subst hee;cases n with
    |zero=>rfl
    |succ n'=>show(if t.length<t.length then _ else _)=_;rw[aj (dh _)]
   rw[hz,eF]at hl;have HL:=ah hl;have Ym:=ah hm';clear hl hz hm hm' he hne hae hss hee hn;go_wp2;go_ret;refine⟨_,rfl,?_,HB1.out.trans (HW.out.aB.mono HB1.out.size)⟩;rw[←HL.out,Ym.out];exact pF HW.out.own' (fun g hg=>aT HB1.out.size (bD HW.out.own' hg).1)
end
def Tryz.lays169_ren:Go.Shelf.Ren:=⟨fun|169=>82|n=>n,fun|70=>127|9=>9|0=>0|72=>129|37=>65|127=>205|3=>3|5=>5|n=>n,fun|n=>n⟩
theorem Tryz.lays169:Go.Proofs.Lays.n169 Tryz.prog Tryz.lays169_ren:={
 mixed:=by kernel_rfl
 f169:=Tryz.func82.trans (eO some (by kernel_rfl))
 t0:=Tryz.underlying0
 a0:=Tryz.isAgg0
 z0:=Tryz.sizeOf0
 v0:=Tryz.zeroValue0
 t3:=Tryz.underlying3
 a3:=Tryz.isAgg3
 z3:=Tryz.sizeOf3
 v3:=Tryz.zeroValue3
 t9:=Tryz.underlying9
 a9:=Tryz.isAgg9
 z9:=Tryz.sizeOf9
 v9:=Tryz.zeroValue9
 t37:=Tryz.underlying65
 a37:=Tryz.isAgg65
 z37:=Tryz.sizeOf65
 v37:=Tryz.zeroValue65
 t70:=Tryz.underlying127
 a70:=Tryz.isAgg127
 z70:=Tryz.sizeOf127
 v70:=Tryz.zeroValue127
 t72:=Tryz.underlying129
 a72:=Tryz.isAgg129
 z72:=Tryz.sizeOf129
 v72:=Tryz.zeroValue129
 t127:=Tryz.underlying205
 a127:=Tryz.isAgg205
 z127:=Tryz.sizeOf205
 v127:=Tryz.zeroValue205}
theorem abq:Builder.Extra Tryz.prog Tryz.lays169_ren:={
 sizeBuilder:=by kernel_rfl
 liesBuilder:=by kernel_rfl
 t5:=Tryz.underlying5
 a5:=Tryz.isAgg5
 z5:=Tryz.sizeOf5
 v5:=Tryz.zeroValue5
 infoByte:=by kernel_rfl
 cellsByte:=by kernel_rfl
 sizeByte:=by kernel_rfl
 neB5:=by decide
 }
theorem M7:(Tryz.prog.info? 129).map (fun i=>i.size)=some 2:=by kernel_rfl
theorem Yn:liesAt Tryz.prog Tryz.prog.depth 129 (2/Tryz.prog.cellsOf 129) 0 129 1=true:=by kernel_rfl
theorem Qb (b:Nat) (w:World) (h0:w.cell? ⟨b,0,none⟩=some (.pointer (some ⟨b,0,none⟩))):
 Calls Tryz.prog 131 #[.pointer (some ⟨b,0,none⟩)] w fun e w'=>e= .returned (.tuple #[])∧w'=w:=by
 obtain⟨j,hj,_⟩:=Er.1 M7;go_enter Tryz.func131,Tryz.ntmps131;go_wp2;rw[Lib.run_neq_ptr_same w _ Tryz.underlying127 hj];go_wp2;go_end0;exact⟨rfl,rfl⟩
theorem M8 (b:Nat) (w:World) (h0:w.cell? ⟨b,0,none⟩=some (.pointer none)) (hsh:w.shape? b=some (129,2)) (hfz:w.frozen? ⟨b,0,none⟩=false):
 Calls Tryz.prog 131 #[.pointer (some ⟨b,0,none⟩)] w fun e w'=>e= .returned (.tuple #[])∧w'=w.setCell ⟨b,0,none⟩ (.pointer (some ⟨b,0,none⟩)):=by
 obtain⟨j,hj,hjs⟩:=Er.1 M7;go_enter Tryz.func131,Tryz.ntmps131;go_wp2;rw[Lib.run_to_unsafe w ⟨b,0,none⟩ Tryz.underlying127 Tryz.underlying241 hj (by rw[hjs];decide) hsh (Nat.zero_lt_succ 1)];simp only[Result.andThen];rw[Oper.upon_value];go_wp2;rw[run_callFunc_extern Tryz.func185 (by kernel_rfl) (by kernel_rfl) (by kernel_rfl) (e:=Extern.AbiNoEscape.same) (by kernel_rfl),Lib.run_noEscape];simp only[Result.andThen];rw[Oper.upon_value];go_wp2;rw[Lib.run_from_unsafe w ⟨b,0,none⟩ Tryz.underlying241 Tryz.underlying127 hj hsh Yn];simp only[Result.andThen];rw[Oper.upon_value];go_wp2;go_end0;exact⟨rfl,rfl⟩
theorem Yo (B b:Nat) (bs:List Value) (w:World) (h:IsBuilderF 129 5 B b bs w):
 Calls Tryz.prog 131 #[.pointer (some ⟨b,0,none⟩)] w fun e w'=>e= .returned (.tuple #[])∧BuilderAtF 129 5 B b (.pointer (some ⟨b,0,none⟩)) bs w'∧Below B w w':=by
 rcases h with h|h;·refine(M8 b w h.cell0 h.shape h.frozen0).mono ?_;rintro e w' ⟨rfl,rfl⟩;exact⟨rfl,h.used _,(aG B w).setCell (p:=⟨b,0,none⟩) h.1 _⟩
 ·refine(Qb b w h.cell0).mono ?_;rintro e w' ⟨rfl,rfl⟩;exact⟨rfl,h,aG B _⟩
theorem Gb (B:Nat) (a l:List UInt8) (w:World) (h:IsBuilderF 129 5 B B (byteCells a) w) (hlen:a.length+l.length≤140737488355328) (hBw:B≤w.heap.size):
 Calls Tryz.prog 81 #[.pointer (some ⟨B,0,none⟩), .string ⟨l.toArray⟩] w fun e w'=>(∃v,e= .returned v)∧IsBuilderF 129 5 B B (byteCells (a++l)) w'∧Below B w w':=by
 have hl:a.length=(byteCells a).length:=by rw[byteCells_length]
 rw[hl]at hlen;have Qc:byteCells (a++l)=byteCells a++strCells ⟨l.toArray⟩:=by rw[byteCells_append,strCells_eq]
 rw[Qc];obtain⟨s,hs⟩:∃s:ByteArray,(⟨l.toArray⟩:ByteArray)=s:=⟨_,rfl⟩
 have hss:s.size=l.length:=size_mk l s hs;rw[←hss]at hlen;rw[hs];obtain⟨bs,hbs⟩:∃bs,byteCells a=bs:=⟨_,rfl⟩
 rw[hbs]at h hlen⊢;clear hs hss hl Qc hbs;obtain⟨i0,hi,hz0,hz1,hz2⟩:=dX Ch;go_enter Tryz.func81,Tryz.ntmps81;go_wp2_with (go_at_call 131;refine(Yo B B bs _ h).mono ?_);rintro e w1 ⟨rfl,h1,hb1⟩;obtain⟨hB,v,hbk,hown,hne⟩:=h1;have c0:w1.cell? ⟨B,0,none⟩=some (.pointer (some ⟨B,0,none⟩)):=by rw[Lib.cell_of_heap hbk];rfl
 have c1:w1.cell? ⟨B,1,none⟩=some v:=by rw[Lib.cell_of_heap hbk];rfl
 go_wp2_with (at_builtin;refine Lib.wpList_append_own_stringF _ rfl _ _ 65 9 rfl B 5 i0 Tryz.underlying65 Tryz.underlying9 hi hz0 hz1 hz2 _ _ _ rfl hown s rfl ?c3 ?c4 ?c5 ?_);case c3=>unfold maxLen;omega
 case c4=>omega
 case c5=>have:=hb1.size;omega
 intro v' w2 hown' hgrow _;have hlt:B<w1.heap.size:=bY hbk;have hb2:w2.heap[B]? =some (.cells #[.pointer (some ⟨B,0,none⟩),v] 129 (0,0)):=(hgrow.block B hlt (fun e=>hne e.symm)).trans hbk;have d0:w2.cell? ⟨B,0,none⟩=some (.pointer (some ⟨B,0,none⟩)):=by rw[Lib.cell_of_heap hb2];rfl
 have d1:w2.cell? ⟨B,1,none⟩=some v:=by rw[Lib.cell_of_heap hb2];rfl
 have f1:w2.frozen? ⟨B,1,none⟩=false:=Lib.frozen_of_heap hb2 1;obtain⟨ao,n',cap,rfl⟩:∃ao n' cap,v'= .slice ao n' cap:=by
  rcases hown'.2 with⟨hv,_⟩|⟨g,cap,cur,fz,hv,_⟩
  ·exact⟨_,_,_,hv⟩
  ·exact⟨_,_,_,hv⟩
 go_wp2;go_ret2;refine⟨⟨_,rfl⟩,Or.inr ?_,?_⟩;·exact Lib.BuilderAtF.put (T:=129) (e:=5) hB hb2 (bs':=bs++Lib.strCells s) (by simpa[Lib.strCells_length]using hown') (by decide)
 ·exact(hb1.grown hgrow (by have:=hb1.size;omega) (fun k hk=>(hown.lt k hk).1)).setCell (p:=⟨B,1,none⟩) hB _
theorem I5 (B:Nat) (a:List UInt8) (w:World) (h:IsBuilderF 129 5 B B (byteCells a) w) (hBw:B≤w.heap.size):
 Calls Tryz.prog 82 #[.pointer (some ⟨B,0,none⟩)] w fun e w'=>e= .returned (.string ⟨a.toArray⟩)∧Below B w w':=by
 refine(Any.Builder_String_any_k Tryz.lays169 abq B B a w h hBw).mono ?_;rintro e w' ⟨rfl,_,h2,_⟩;exact⟨rfl,h2⟩
def rP (l:List Pc):List UInt8:=l.flatMap (·.2.2)
def pc0:Pc:=(0,0,[])
theorem Dc:∀(l:List Pc) (k:Nat),k<l.length→(fq l)[k*3]? =some (.int .i64 (l.getD k pc0).1)∧(fq l)[k*3+1]? =some (.int .i32 (l.getD k pc0).2.1)∧(fq l)[k*3+2]? =some (.string ⟨(l.getD k pc0).2.2.toArray⟩)
 |[],k,h=>by simp at h
 |a::l,0,_=>⟨rfl,rfl,rfl⟩
 |a::l,k+1,h=>by
  have:=Dc l k (by simpa using h);have e:∀j,(fq (a::l))[(k+1)*3+j]? =(fq l)[k*3+j]? :=fun j=>by show([Value.int .i64 a.1, .int .i32 a.2.1, .string ⟨a.2.2.toArray⟩]++fq l)[(k+1)*3+j]? =_;rw[qK (by simp;omega)];congr 1;simp;omega
  rw[e 1,e 2,show(k+1)*3=(k+1)*3+0 from rfl,e 0];exact this
theorem UD (l:List Pc) {k:Nat} (hk:k<l.length):rP (l.take (k+1))=rP (l.take k)++(l.getD k pc0).2.2:=by rw[List.take_succ_eq_append_getElem hk];unfold rP;rw[wZ,aM,aZ hk];simp
theorem abr (l:List Pc) (k:Nat):(rP (l.take k)).length≤(rP l).length:=by
 conv=>rhs;rw[←ny k l]
 unfold rP;rw[wZ,bg];omega
def Gc (l:List Pc) (W:World) (e:Ending) (w':World):Prop:=e= .returned (.string ⟨(rP l).toArray⟩)∧Below W.heap.size W w'
theorem UE (l:List Pc) (g off c n:Nat) (W:World) (hn:l.length=n) (hsm:n≤1000000) (Qc:(rP l).length≤1000000000)
 (hc:∀k,k<n→W.cell? ⟨g,off+k*3,none⟩=some (.int .i64 (l.getD k pc0).1)∧W.cell? ⟨g,off+k*3+1,none⟩=some (.int .i32 (l.getD k pc0).2.1)∧W.cell? ⟨g,off+k*3+2,none⟩=some (.string ⟨(l.getD k pc0).2.2.toArray⟩)):
 Calls Tryz.prog 57 #[.slice (some ⟨g,off,none⟩) n c] W (Gc l W):=by
 have HC:=ah hc;have HN:=ah hn;have amm:=ah Qc
 clear hc hn Qc
 go_enter Tryz.func57,Tryz.ntmps57
 go_wp2
 go_loopw [8] (fun i wr=>∃k:Nat,k≤n∧i= .int .i64 k∧IsBuilderF 129 5 W.heap.size W.heap.size (byteCells (rP (l.take k))) wr∧Below W.heap.size W wr) (fun i _=>n-(RowKit.intOf i).toNat)
 case atStart=>exact⟨0,aH _,rfl,IsBuilderF.of (fresh_isBuilder _ _ W),(aG _ W).alloc (ay _) _⟩
 case round=>
  obtain⟨k,hk,rfl,hI,hb⟩:=hrel
  have HI:=ah hI;have HB:=ah hb;clear hI hb
  by_cases hlt:k<n
  ·obtain⟨f0,f1,f2⟩:=HC.out k hlt
   have hg:=dI f0
   have g0:wr.cell? ⟨g,off+k*3,none⟩=_:=(HB.out.cell (p:=⟨g,off+k*3,none⟩) hg).trans f0
   have g1:wr.cell? ⟨g,off+k*3+1,none⟩=_:=(HB.out.cell (p:=⟨g,off+k*3+1,none⟩) hg).trans f1
   have g2:wr.cell? ⟨g,off+k*3+2,none⟩=_:=(HB.out.cell (p:=⟨g,off+k*3+2,none⟩) hg).trans f2
   have HT:=ah (UD l (k:=k) (by rw[HN.out];exact hlt))
   obtain⟨p,hp⟩:∃p,l.getD k pc0=p:=⟨_,rfl⟩
   rw[hp]at g0 g1 g2 HT
   clear hp f0 f1 f2 hg
   obtain⟨pa,pr,px⟩:=p
   dsimp only at g0 g1 g2 HT
   have HL:=ah (show(rP (l.take k)).length+px.length≤140737488355328 by
    have h1:=abr l (k+1)
    rw[HT.out,bg]at h1
    have h2:=amm.out
    omega)
   go_wp2_with (go_at_call 81
                refine(Gb W.heap.size (rP (l.take k)) px _ (HI.out.alloc _) HL.out (jo HB.out.size)).mono ?_
                rintro x wz ⟨⟨vz,rfl⟩,hI2,hb2⟩
                have HI2:=ah hI2;have HB2:=ah ((HB.out.alloc HB.out.size _).trans hb2);clear hI2 hb2)
   refine⟨⟨k+1,hlt,by go_num,?_,HB2.out⟩,by simp[RowKit.intOf];omega⟩
   rw[HT.out];exact HI2.out
  ·obtain rfl:k=n:=by omega
   have htk:l.take k=l:=nG (by rw[HN.out];exact ay _)
   rw[htk]at HI
   clear htk
   go_wp2_with (go_at_call 82
                refine(I5 W.heap.size (rP l) _ HI.out HB.out.size).mono ?_
                rintro x wz ⟨rfl,hb2⟩
                have HB2:=ah (HB.out.trans hb2);clear hb2)
   go_ret
   exact⟨rfl,HB2.out⟩
section
open Folds (dec bf bU)
def wr (k:Nat) (t:List UInt8):List UInt8:=Folds.wrt (fun r=>pG (formV r k)) t
theorem M9 (enc:Nat→Nat→List UInt8) (e1:Nat→List UInt8) (h:∀i r,enc i r=e1 r) (t:List UInt8):∀n i e,rP (pcs enc t n i e)=Folds.out e1 n (t.drop e)
 |0,_,_=>rfl
 |n+1,i,e=>by
  show rP (if e<t.length then _ else _)=(if t.drop e=[]then _ else _)
  by_cases c:e<t.length
  ·have hne:t.drop e≠[]:=by intro d;rw[jf]at d;omega
   rw[ak c,aj hne,List.drop_drop];show _++rP _=_;rw[M9 enc e1 h t n (i+1)];have:Folds.one (enc i) (t.drop e)=Folds.one e1 (t.drop e):=by unfold Folds.one;rw[h]
   rw[←this]
  ·rw[aj c,ak (by rw[jf];omega)];rfl
theorem abt (k:Nat) (hk:k≠0) (fin:Nat→Bool) (t:List UInt8):rP (M6 k fin t)=wr k t:=by unfold M6 wr Folds.wrt;rw[M9 _ (fun r=>pG (formV r k)) (fun i r=>by unfold Ck;rw[aj (fun h=>hk h.1.1)]) t t.length 0 0,tH]
theorem Yp (k:Nat) (fin:Nat→Bool) (i r:Nat):(Ck k fin i r).length≤12:=by
 unfold Ck;split;·simp
 ·exact aT (vG _) (by have:=formV_len r k;omega)
theorem R3 (enc:Nat→Nat→List UInt8) (h:∀i r,(enc i r).length≤12) (t:List UInt8):∀n i e,(rP (pcs enc t n i e)).length≤12*n∧(pcs enc t n i e).length≤n
 |0,_,_=>⟨ay _,ay _⟩
 |n+1,i,e=>by
  show(rP (if e<t.length then _ else _)).length≤_∧(if e<t.length then _ else _:List Pc).length≤_;by_cases c:e<t.length
  ·rw[ak c];obtain⟨h1,h2⟩:=R3 enc h t n (i+1) (e+(dec (t.drop e)).2);have h3:(Folds.one (enc i) (t.drop e)).length≤12:=by
    unfold Folds.one;split;·rw[gZ];omega
    ·exact h _ _
   refine⟨?_,by simp only[bW];omega⟩;show(Folds.one (enc i) (t.drop e)++rP _).length≤_;rw[bg];omega
  ·rw[aj c];exact⟨aH _,aH _⟩
theorem UF (l:List Pc) (v:Value) (base:Nat) (W:World) (h:W.ownsRow base 83 3 v l.length (fq l)) (hsm:l.length≤1000000) (Qc:(rP l).length≤1000000000):
 Calls Tryz.prog 57 #[v] W (Gc l W):=by
 rcases h.2 with⟨h2,h0⟩|⟨g,cap,cur,hv,hbg,hg,hnc,hcm,hcs,htk⟩
 ·subst h2
  obtain rfl:l=[]:=qO h0
  go_enter Tryz.func57,Tryz.ntmps57
  go_wp2_with fail
  go_loopw [8] (fun i wr=>i= .int .i64 (0:Nat)∧IsBuilderF 129 5 W.heap.size W.heap.size (byteCells []) wr∧Below W.heap.size W wr) (fun _ _=>0)
  case atStart=>exact⟨rfl,IsBuilderF.of (fresh_isBuilder _ _ W),(aG _ W).alloc (ay _) _⟩
  case round=>
   obtain⟨rfl,hI,hb⟩:=hrel
   go_wp2_with (go_at_call 82
                refine(I5 W.heap.size [] _ hI hb.size).mono ?_
                rintro x wz ⟨rfl,hb2⟩)
   go_ret
   exact⟨rfl,hb.trans hb2⟩
 ·have hr:=oh (g:=g) h (by rw[hv];rfl)
  rw[hv]
  refine UE l g 0 cap l.length W rfl hsm Qc fun k hk=> ?_
  obtain⟨f0,f1,f2⟩:=Dc l k hk
  have c0:=hr _ _ f0;have c1:=hr _ _ f1;have c2:=hr _ _ f2
  rw[gy]at c0 c1 c2
  exact⟨c0,c1,c2⟩
def KE (w:World):Prop:=Calls Tryz.prog 50 #[] w fun e w'=>∃v,e= .returned v∧Aq w' v∧Below w.heap.size w w'
def Yq (k:Nat) (t:List UInt8) (W:World) (e:Ending) (w':World):Prop:=e= .returned (.string ⟨(wr k t).toArray⟩)∧Below W.heap.size W w'
theorem abu (t:List UInt8) (W:World) (ho:KE W) (hT:Lib.Utf8Tabs 2 3 W) (hn:t.length≤10000):Calls Tryz.prog 69 #[.string ⟨t.toArray⟩] W (Yq 3 t W):=by
 have HT:=ah hT;have HO:=ah ho;have HN:=ah hn;clear hT ho hn;have HL:=ah (R3 (Ck 3 fun _=>false) (Yp 3 _) t t.length 0 0);go_enter Tryz.func69,Tryz.ntmps69;go_wp2_with (first
  |(go_at_call 50;refine HO.out.mono ?_;rintro e w1 ⟨v,rfl,h1,h2⟩;have H1:=ah h1;have B1:=ah h2;clear h1 h2)
  |(go_at_call 51;refine(UC t 3 (by decide) (by decide) (fun _=>false) _ _ H1.out (kD B1.out HT.out) (aT HN.out (by decide))).mono ?_;rintro e w2 ⟨v2,rfl,hown,h2⟩;have OW:=ah hown;have B2:=ah (B1.out.trans (h2.mono B1.out.size));clear hown h2)
  |(go_at_call 57;refine(UF _ _ _ _ OW.out (aT HL.out.2 (aT HN.out (by decide))) (aT HL.out.1 (by have:=HN.out;omega))).mono ?_;rintro e w3 ⟨rfl,h3⟩;have B3:=ah (B2.out.trans (h3.mono B2.out.size));clear h3))
 go_ret;exact⟨by rw[abt 3 (by decide)];rfl,B3.out⟩
end
section
open Folds (dec bf bU)
end
theorem pI {w:World} {base:Nat} {e:TypeId} {size n c:Nat} {A:Option Addr} {xs:List Value} (h:w.ownsRow base e size (.slice A n c) n xs) (hn:0<n):∃g,A=some ⟨g,0,none⟩:=by obtain⟨g,cap,hv,_⟩:=h.form hn;injection hv with hv;exact⟨g,hv⟩
def bB (l:List Int):List Value:=l.map (Value.int .i64)
theorem kH (l x:List Int):bB (l++x)=bB l++bB x:=by simp[bB]
theorem gB:(Tryz.prog.info? 3).map (fun i=>(i.zero,i.size,i.bytes))=some (some (.int .i64 0),1,8):=by kernel_rfl
theorem bV (w:World) (x:Value) (ty:TypeId):Src (w.alloc (.cells #[x] ty)) (some ⟨w.heap.size,0,none⟩) 1 [x]:=by
 refine⟨rfl,fun _=>⟨_,rfl,fun j u hu=> ?_⟩⟩;match j,hu with
 |0,hu=>rw[gy,aQ _ _ _ _ _ _ (dw w _)];exact hu
 |j+1,hu=>simp at hu
theorem Yr (w:World) (x:Value) (ty:TypeId) (k:Nat) (hk:w.heap.size=k):Src (w.alloc (.cells #[x] ty)) (some ⟨k,0,none⟩) 1 [x]:=by subst hk;exact bV w x ty
theorem gJ {P:Program} {o:Oper} {a:Act} {C:World→Prop} {K:Act→Prop} (v:Value) (h:∀w,C w→(execOp a.eval o).run P w= .ok (.value v) w) (hK:K (a.put o.dst v)):o.quiet P a C K:=
 ⟨v,fun w hw=>by unfold Oper.quietAt;rw[h w hw];exact⟨rfl,rfl⟩,hK⟩
theorem jq {P:Program} {o:Oper} {a:Act} {C:World→Prop} {K:Act→Prop} (f:FuncId) (args:Array Value) (v:Value) (h:∀w,C w→(execOp a.eval o).run P w= .ok (.enter f args) w)
 (hc:∀w,C w→Calls P f args w fun e w'=>e= .returned v∧C w') (hK:K (a.put o.dst v)):o.quiet P a C K:=
 ⟨v,fun w hw=>by unfold Oper.quietAt;rw[h w hw];exact⟨rfl,hc w hw⟩,hK⟩
theorem jr {P:Program} {id:Nat} {Q:Exit→Act→World→Prop} {a:Act} {w:World} {l:List Oper} {C:World→Prop} (hm:P.follows .mixedOrders=true) (hB:Region.lexB .any l.toArray=true) (hC:C (w.drewN 1))
 (h:wpQuiet P l.toArray C (fun a'=>∀w',C w'→Q .normal a' w') l a):(Code.region id l.toArray true).wp P Q a w:=wp_region_quiet (C:=C) hm hB hC (by simpa using h)
section
open Cases (smalls jm)
open Folds (dec bf bU)
open tV (bt rQ nH)
def vJ (c:Nat):List UInt8:=
 if c<0x80 then[UInt8.ofNat c]
 else if c<0x800 then[UInt8.ofNat (0xC0+c/64),UInt8.ofNat (0x80+c%64)]
 else if c<0x10000 then[UInt8.ofNat (0xE0+c/4096),UInt8.ofNat (0x80+c/64%64),UInt8.ofNat (0x80+c%64)]
 else[UInt8.ofNat (0xF0+c/262144),UInt8.ofNat (0x80+c/4096%64),UInt8.ofNat (0x80+c/64%64),UInt8.ofNat (0x80+c%64)]
theorem j5 (r:Int):uM r=true↔(0≤r∧r≤1114111∧(r<55296∨57343<r)):=by unfold uM;simp only[aP,bZ,bL]
theorem aia (r:Int) (h:uM r=true):(Utf8.encode r).data.toList=vJ r.toNat:=by
 have hv:Utf8.valid r=true:=by have:=(j5 r).1 h;unfold Utf8.valid;simp only[aP,bZ,bL];omega
 unfold Utf8.encode vJ;simp only[hv,if_true];repeat' split
 all_goals rfl
theorem Yt (r:Int) (h:uM r=true):encR r=(Utf8.encode r).data.toList:=by unfold encR;rw[ak h]
theorem Yu (r:Int) (h:uM r=true):encR r=vJ r.toNat:=by rw[Yt r h,aia r h]
theorem ofNat_lt (n:Nat) (h:n<256):(UInt8.ofNat n).toNat=n:=by rw[zD,mh (by simpa using h)]
theorem R5 (l:List UInt8):uM ((dec l).1:Int)=true:=by rw[j5];have:=decodeN_valid l.length (bt l 0) (bt l 1) (bt l 2) (bt l 3) (rQ l 0);unfold dec;omega
def UG (p:Int×Int):Bool:=decide (Cases.look smalls p.1=some p.2)&&decide (Cases.look jm p.1=none)&&decide (Cases.look jm p.2=some p.1)&&decide (Cases.look smalls p.2=none)&&(formsOf p.1).isNone&&(formsOf p.2).isNone&&uM p.1&&uM p.2
theorem amn:((smalls.drop 0).take 60).all UG=true:=by decide+kernel
theorem amo:((smalls.drop 60).take 60).all UG=true:=by decide+kernel
theorem amq:((smalls.drop 120).take 60).all UG=true:=by decide+kernel
theorem amr:((smalls.drop 180).take 60).all UG=true:=by decide+kernel
theorem ams:((smalls.drop 240).take 60).all UG=true:=by decide+kernel
theorem amt:((smalls.drop 300).take 60).all UG=true:=by decide+kernel
theorem amu:(smalls.drop 360).all UG=true:=by decide+kernel
theorem abv {p:Int×Int} (h:p∈smalls):UG p=true:=by
 have step:∀c,((smalls.drop c).take 60).all UG=true→(smalls.drop (c+60)).all UG=true→(smalls.drop c).all UG=true:=fun c h1 h2=>by rw[←ny 60 (smalls.drop c),zL,h1,List.drop_drop,h2];rfl
 have h3:(smalls.drop 0).all UG=true:=step 0 amn (step 60 amo (step 120 amq (step 180 amr (step 240 ams (step 300 amt amu)))));exact fU.1 h3 p h
structure Okp (r s:Int):Prop where
 a:Cases.look smalls r=some s
 b:Cases.look jm r=none
 c:Cases.look jm s=some r
 d:Cases.look smalls s=none
 e:formsOf r=none
 f:formsOf s=none
 g:uM r=true
 h:uM s=true
theorem Yv {r s:Int} (h:(r,s)∈smalls):Okp r s:=by have:=abv h;unfold UG at this;simp only[aP,bL,El]at this;obtain⟨⟨⟨⟨⟨⟨⟨a,b⟩,c⟩,d⟩,e⟩,f⟩,g⟩,h⟩:=this;exact⟨a,b,c,d,e,f,g,h⟩
theorem Na {l:List (Int×Int)} {r s:Int} (h:Cases.look l r=some s):(r,s)∈l:=by unfold Cases.look at h;obtain⟨p,hp,rfl⟩:=Er.1 h;have h1:=List.mem_of_find?_eq_some hp;have h2:=iT (List.find?_some (p:=fun x:Int×Int=>decide (x.1=r)) hp);rw[←h2];exact h1
theorem UH {r s:Int} (h:Cases.look smalls r=some s):Okp r s:=Yv (Na h)
theorem UJ {r s:Int} (h:Cases.look jm s=some r):Okp r s:=by have:=Na h;unfold jm at this;obtain⟨p,hp,he⟩:=dA.1 this;obtain⟨a,b⟩:=p;injection he with e1 e2;dsimp only at e1 e2;subst e1 e2;exact Yv hp
theorem formV_none {r:Int} (h:formsOf r=none) (k:Nat):formV r k=if k=0∨k=3 then[(Cases.pair r).1]else[(Cases.pair r).2]:=by unfold formV;rw[h]
theorem Okp.big {r s:Int} (h:Okp r s) (k:Nat):formV r k=if k=0∨k=3 then[s]else[r]:=by rw[formV_none h.e];unfold Cases.pair;rw[h.a]
theorem Okp.low {r s:Int} (h:Okp r s) (k:Nat):formV s k=if k=0∨k=3 then[s]else[r]:=by rw[formV_none h.f];unfold Cases.pair;rw[h.d,h.c]
def ae9 (r:Int):Bool:=[0,1,2,3].all fun k=>(!(formV r k).isEmpty)&&((formV r k).all uM&&((decide (k<3)&&(decide (r=304)||decide (r=305)))||decide ((formV r k).flatMap (fun x=>formV x 3)=formV r 3)))
theorem Qd:Cases.gu.all ae9=true:=by decide+kernel
theorem form_facts (r:Int) (hr:uM r=true) (k:Nat) (hk:k<4):formV r k≠[]∧(∀x∈formV r k,uM x=true)∧(k=3∨(r≠304∧r≠305)→(formV r k).flatMap (fun x=>formV x 3)=formV r 3):=by
 cases hf:formsOf r with
 |some fs=>
  have hm:r∈Cases.gu:=by rw[←List.contains_iff_mem,←formsOf_iff,hf];rfl
  have:=fU.1 (fU.1 Qd r hm) k (by
   rcases(by omega:k=0∨k=1∨k=2∨k=3)with rfl|rfl|rfl|rfl<;>decide)
  simp only[aP,bZ,bL,Bool.not_eq_true',List.isEmpty_eq_false_iff,fU]at this;refine⟨this.1,this.2.1,fun h=> ?_⟩;rcases this.2.2 with⟨h1,h2⟩|h1
  ·rcases h with h|h
   ·omega
   ·rcases h2 with h2|h2
    ·exact absurd h2 h.1
    ·exact absurd h2 h.2
  ·exact h1
 |none=>
  cases hs:Cases.look smalls r with
  |some s=>
   have ho:=UH hs;have hl:=ho.low 3;have hb:=ho.big 3;rw[ak (.inr rfl)]at hl hb;rw[hb,ho.big k];split;·exact⟨nY _ _,fun x hx=>by rw[fE.1 hx];exact ho.h,fun _=>by rw[vD,hl]⟩
   ·exact⟨nY _ _,fun x hx=>by rw[fE.1 hx];exact ho.g,fun _=>by rw[vD,hb]⟩
  |none=>
   cases hg:Cases.look jm r with
   |some g=>
    have ho:=UJ hg;have hl:=ho.low 3;have hb:=ho.big 3;rw[ak (.inr rfl)]at hl hb;rw[hl,ho.low k];split;·exact⟨nY _ _,fun x hx=>by rw[fE.1 hx];exact ho.h,fun _=>by rw[vD,hl]⟩
    ·exact⟨nY _ _,fun x hx=>by rw[fE.1 hx];exact ho.g,fun _=>by rw[vD,hb]⟩
   |none=>
    have hp:Cases.pair r=(r,r):=by unfold Cases.pair;rw[hs,hg]
    have h1:∀k,formV r k=[r]:=fun k=>by rw[formV_none hf,hp];split<;>rfl
    rw[h1 k,h1 3];exact⟨nY _ _,fun x hx=>by rw[fE.1 hx];exact hr,fun _=>by rw[vD,h1]⟩
end
section
open Cases (smalls jm)
open Folds (dec bf bU)
end
end Go.Proofs.YtocaiijbhepnnaaGreatDoor.searchAll
