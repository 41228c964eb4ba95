/- SearchWide, walked: utf.Runes, write, joined, Fold; runes' bytes. -/
import Derived.Test.YtocaiijbhepnnaaGreatDoorFB
import Derived.RangeFuncBox
import Derived.OwnWalkIn
import Derived.TacticsInMore
import Derived.LoopNIn
import Derived.LoopIn
import Derived.Shelf.Strings.BuilderK
import Derived.Lib.QuoteLoop
import Derived.Lib.MapLaws
set_option maxRecDepth 100000
set_option maxHeartbeats 8000000
namespace Go.Proofs.YtocaiijbhepnnaaGreatDoor.searchWide
open Go.Shelf Go.RowKit Go.Lib Go.Proofs.YtocaiijbhepnnaaGreatDoor.Am
section
open Go.RowKit Go.Shelf Go.Lib Go.Proofs.YtocaiijbhepnnaaGreatDoor.Am
open rU (bt mM)
open Folds (dec aZ bQ)
attribute [local go_sem] Oper.semAt_some
def aG (t:List UInt8):Nat->Nat->List (Nat×Nat)
 |0,_=>[]
 |n+1,e=>if e<t.length then(e,(dec (t.drop e)).1)::aG t n (e+(dec (t.drop e)).2)else[]
def marks (t:List UInt8):List (Nat×Nat):=aG t t.length 0
def Y2 (x:Nat×Nat):Array Value:=#[.int .i64 x.1, .int .i32 x.2]
theorem AU (t:List UInt8):∀n e,e<=t.length->(aG t n e).length+e<=t.length
 |0,e,h=>by simpa[aG]using h
 |n+1,e,h=>by
  unfold aG;by_cases c:e<t.length;·rw[au c];have h1:=aZ (t.drop e);have h2:=bQ (t.drop e) (by intro d;rw[lI]at d;omega);rw[dF]at h2;have:=AU t n (e+(dec (t.drop e)).2) (by omega);simp only[dx];omega
  ·rw[ak c];simpa using h
theorem ig (t:List UInt8) (e:Nat) (s:ByteArray) (hs:(⟨t.toArray⟩:ByteArray)=s):Utf8.decode s e=dec (t.drop e):=by
 have hd:s.data.toList=t:=by subst hs;simp
 rw[<-Folds.ajg,<-hd,Go.Lib.decodeL_drop]
theorem JG (w:World) (k:Nat) (s:ByteArray) (p:Nat):w.grownBy (w.iterAt k s p) (some k):=
 ⟨rfl,rfl,rfl,by rw[iterAt_size];exact ay _,λj _ hn=>iterAt_other w k j s p (λc=>hn (by rw[c]))⟩
theorem VX (F:Fence) (n:Nat) (h6:F.fn 209) (hro:F.round=none) (hn:1<=n) (l Bs:Nat) (t:List UInt8) (s:ByteArray) (hs:(⟨t.toArray⟩:ByteArray)=s) (J Jx:List (Nat×Nat)->World->Prop) (W:World) (hJ:AbidesFrom W.heap.size J)
 (hY:∀pre x W1,J pre W1->pre.length<t.length->YieldAt F (n-1) Tryz.prog l (Y2 x) W1 λe W'=>
  (e= .returned (.bool true)/\J (pre++[x]) W'/\KeepsWalks W1 W')\/(e= .returned (.bool false)/\Jx (pre++[x]) W'))
 (hBs:W.cell? ⟨Bs,0,none⟩=some (.string s)) (h0:J [] W):
 CallsIn F n Tryz.prog 209 #[.func (.yield l) #[] #[], .pointer (some ⟨Bs,0,none⟩)] W λe W'=>(∃v,e= .returned v)/\
  ((∃ys,ys=marks t/\J ys W')\/(∃pre,pre<+:marks t/\Jx pre W')):=by
 refine callsIn_of_wp Tryz.func209 rfl h6 ?_ hro;simp only[Tryz.ntmps209,mZ,dx,j5,Nat.reduceAdd,Nat.reduceSub,Array.replicate_succ,Array.replicate_zero,List.push_toArray,yI,xE,CZ];gi_wp2;have hss:s.size=t.length:=size_mk t s hs;gi_loopw [] (λwr=>∃e n pre,wr.heap[W.heap.size]? =some (.stringIter s e)/\J pre wr/\pre++aG t n e=marks t/\e<=t.length/\t.length<n+e+1)
  (λwr=>s.size-wr.iterPos W.heap.size)
 case atStart=>exact⟨0,t.length,[],World.iter_heap W s 0,hJ _ _ _ none h0 (World.grownBy_alloc _ _ _) (by simp),rfl,aL _,by omega⟩
 case round=>
  obtain⟨e,m,pre,hit,hJs,hm,he,hme⟩:=hrel;by_cases hlt:e<t.length
  ·have hnx:=λty=>run_next_any_at (P:=Tryz.prog) wr W.heap.size s e ty hit (by omega);rw[ig t e s hs]at hnx;obtain⟨m',rfl⟩:∃m',m=m'+1:=⟨m-1,by omega⟩
   have hd1:=aZ (t.drop e);have hd2:=bQ (t.drop e) (by intro d;rw[lI]at d;omega);rw[dF]at hd2;unfold aG at hm;rw[au hlt]at hm;obtain⟨r,hr⟩:∃r,(dec (t.drop e)).1=r:=⟨_,rfl⟩
   obtain⟨k,hk⟩:∃k,(dec (t.drop e)).2=k:=⟨_,rfl⟩
   rw[hr,hk]at hm hnx;rw[hk]at hd1 hd2;have hJ2:J pre (wr.iterAt W.heap.size s (e+k)):=hJ _ _ _ _ hJs (JG wr W.heap.size s (e+k)) (λj hj=>by cases hj;exact⟨ay _,_,hit,rfl⟩);have hit2:=iterAt_heap wr W.heap.size s e (e+k) hit;have hlen:pre.length<t.length:=by have h1:=dX List.length hm;have h2:=AU t t.length 0 (aL _);unfold marks at h1;rw[bT,dx]at h1;omega
   obtain⟨fn,tmps,assign,body,hy,hR⟩:=hY pre (e,r) _ hJ2 hlen;try simp only[Y2]at hy
   gi_wp2;refine hR.mono ?_;rintro x W3 (⟨rfl,hJ3,hk3⟩|⟨rfl,hJx3⟩)
   ·have hit3:=hk3.same _ _ hit2 rfl;gi_wp2;go_roundw;case rel=>exact⟨e+k,m',pre++[(e,r)],hit3,hJ3,by rw[<-hm];simp,by omega,by omega⟩
    case measure=>simp only[World.iterPos,hit3,hit];omega
   ·gi_wp2;refine bodyPost_ret (results_none rfl _ _ _) rfl ?_;exact⟨⟨_,rfl⟩, .inr ⟨pre++[(e,r)],⟨aG t m' (e+k),by rw[<-hm];simp⟩,hJx3⟩⟩
  ·have hnx:=λty=>run_next_end_at (P:=Tryz.prog) wr W.heap.size s e ty hit (by omega);gi_wp2;go_end0;refine⟨⟨_,rfl⟩, .inl ⟨pre,?_,hJs⟩⟩;rw[<-hm];cases m with
   |zero=>simp[aG]
   |succ m'=>simp[aG,hlt]
theorem Y3 (F:Fence) (n:Nat) (h5:F.fn 143) (hro:F.round=none) (s:ByteArray) (w:World):
 CallsIn F n Tryz.prog 143 #[.string s] w λe w'=>e= .returned (.func (.func 209) #[] #[.pointer (some ⟨w.heap.size,0,none⟩)])/\w'=w.alloc (.cells #[.string s] 9):=by
 refine callsIn_of_wp Tryz.func143 rfl h5 ?_ hro;simp only[Tryz.ntmps143,mZ,dx,j5,Nat.reduceAdd,Nat.reduceSub,Array.replicate_succ,Array.replicate_zero,List.push_toArray,yI,xE,CZ];gi_wp2;go_ret;exact⟨rfl,rfl⟩
theorem Oa (F:Fence) (n:Nat) (h6:F.fn 209) (hro:F.round=none) (hn:1<=n) (Bs:Nat) (t:List UInt8) (s:ByteArray) (hs:(⟨t.toArray⟩:ByteArray)=s) (w:World) (hBs:Bs<w.heap.size) (hc:w.cell? ⟨Bs,0,none⟩=some (.string s)):
 SeqStopsK F n Tryz.prog 209 #[.pointer (some ⟨Bs,0,none⟩)] Y2 KeepsWalks (λys=>ys=marks t) (λpre=>pre<+:marks t) t.length w:=λl J Jx W hW hJ _ hY h0=>
 VX F n h6 hro hn l Bs t s hs J Jx W hJ hY ((hW.cell (p:=⟨Bs,0,none⟩) hBs).trans hc) h0
theorem RZ:(Tryz.prog.info? 21).map (λi=>(i.zero,i.size,i.bytes))=some (some (.int .i32 0),1,4):=by kernel_rfl
def EH (l:List (Nat×Nat)):List Value:=l.map λx=>Value.int .i32 x.2
theorem VY (F:Fence) (n:Nat) (h3:F.fn 97) (h4:F.fn 143) (h5:F.fn 209) (hro:F.round=none) (hn:3<=n) (t:List UInt8) (s:ByteArray) (hs:(⟨t.toArray⟩:ByteArray)=s) (hlen:t.length<=1000000) (w:World):
 CallsIn F n Tryz.prog 97 #[.string s] w λe W'=>∃v,e= .returned v/\W'.ownsRow w.heap.size 21 1 v (marks t).length (EH (marks t))/\Below w.heap.size w W':=by
 have h1:1<=n:=by omega
 obtain⟨i0,hi,hz0,hz1,hz2⟩:=iA RZ;refine callsIn_of_wp_marks Tryz.func97 rfl h3 ?_ hro;simp only[Tryz.ntmps97,mZ,dx,j5,Nat.reduceAdd,Nat.reduceSub,Array.replicate_succ,Array.replicate_zero,List.push_toArray,yI,xE,CZ];gi_wp2_with (gi_at_call 143;refine(Y3 F (n - 1) h4 hro _ _).mono ?_;rintro e w' ⟨rfl,rfl⟩);have bO:=Boxed.new w 87 (.slice none 0 0);have bN:=Boxed.new (w.alloc (.cells #[.slice none 0 0] 87)) 9 (.string s);rw[jL]at bN;have hB0:Below w.heap.size w ((w.alloc (.cells #[.slice none 0 0] 87)).alloc (.cells #[.string s] 9)):=((aM _ w).alloc (ay _) _).alloc (by simp) _;refine wpIn_rangeFunc_ownG hro h1 (gf:=209) (lb:= #[.pointer (some ⟨w.heap.size+1,0,none⟩)]) rfl h5 (enters_of Tryz.func209 (by kernel_rfl) rfl)
  (Oa F (n - 1) h5 hro (by omega) (w.heap.size+1) t s hs _ (by simp) bN.cell) walksK_t walksK_b (aM _ _) (λ_=>rfl)
  (λpre W=>(∃v,Boxed W w.heap.size 87 v/\W.ownsRow w.heap.size 21 1 v (pre:List (Nat×Nat)).length (EH pre)/\True)/\Below w.heap.size w W)
  (λ_ _ _=>False)
  (OwnFrom.and (Own.from (holdsRow_own w.heap.size w.heap.size 87 21 1 (λpre=>pre.length) (λpre=>EH pre) (λ_ _=>True)) _) (ownFrom_below (ay _) (by simp;omega)))
  (λ_ _ _ _ _ hs _ _=>hs)
  ⟨⟨_,bO.alloc _,World.ownsRow_nil _ _ _ _,trivial⟩,hB0⟩
  (λx=>{tmps:= #[.string s,undef, .slice none 0 0, .pointer (some ⟨w.heap.size,0,none⟩),undef, .int .i32 x.2, .string s, .func (.func 209) #[] #[.pointer (some ⟨w.heap.size+1,0,none⟩)], .int .i64 x.1, .int .i32 x.2,undef,undef,undef,undef,undef],defers:=[]}) ?assign ?body ?done ?stop
 case assign=> intro l x W K hK;simp only[Y2];gi_wp2;exact hK
 case body=> rintro l pre x W ⟨⟨v,hv,hrow,_⟩,hB⟩ hlt;have hc:=hv.cell;gi_wp2_with (gi_at_builtin;refine wpListIn_append_own _ rfl _ _ 87 rfl w.heap.size 21 i0 (.int .i32 0) 1 4 Tryz.underlying87 hi hz0 hz1 hz2 rfl (by decide) _ _ _ rfl (hrow.alloc _) ⟨W.heap.size,0,none⟩ 1 1 [.int .i32 x.2] rfl rfl (cell_one_new _ _ _) (by simp[Value.oneCell']) (by simp only[maxLen];omega) (by omega) (by have:=hB.size;simp;omega) ?_;intro v' w1 hown' hgrow _;obtain⟨g',cap',rfl⟩:=ownsRow_succ hown';obtain⟨hv1,hv2,hr2,hk2,hb2⟩:=hv.appended (by decide) hrow hB.size (Nat.le_refl _) hown' hgrow;have hc1:=hv1.cell;have hf1:=hv1.frozen);exact⟨hk2.from _,hk2.walks,⟨_,hv2,by simpa[EH]using hr2,trivial⟩,hB.trans hb2⟩
 case done=> rintro D ys W hD rfl ⟨⟨v,hv,hrow,_⟩,hB⟩ hK;have hc:=hv.cell;gi_wp2;refine⟨by simp, .inl ⟨_,_,rfl,run_takeDeferred hK,?_⟩⟩;exact⟨_,results_tmp rfl _ _ _,v,rfl,ownsRow_putObj hrow _ hK rfl,hB.trans (belowK_b (w:=w) (ay _) W D _ _ (by simp at hD;omega) hK rfl rfl)⟩
 case stop=> rintro D c pre W _ _ h _;exact h.elim
def rV (t:List UInt8):List Int:=(marks t).map λx=>(x.2:Int)
def R3 (t:List UInt8) (W:World) (e:Ending) (w':World):Prop:=∃v,e= .returned v/\gN w' v (rV t)/\Below W.heap.size W w'
theorem VZ (t:List UInt8) (hlen:t.length<=1000000) (w:World):Calls Tryz.prog 97 #[.string ⟨t.toArray⟩] w (R3 t w):=by
 refine(callsIn_wide (n:=3)).1 ((VY _ 3 trivial trivial trivial rfl (ay _) t _ rfl hlen w).mono ?_);rintro e w' ⟨v,rfl,hrow,hb⟩;refine⟨v,rfl,?_,hb⟩;have hl:(rV t).length=(marks t).length:=by simp[rV]
 rcases hrow.2 with⟨h2,h0⟩|⟨g,cap,cur,hv,hbg,hg,hnc,hcm,hcs,htk⟩
 ·rw[h2];refine⟨none,0,by rw[hl,h0],by rw[hl,h0];exact ay _,λc=> ?_⟩;rw[hl,h0]at c;omega
 ·rw[hv,<-hl];refine⟨_,_,rfl,by rw[hl];exact hnc,λ_=>⟨g,0,rfl,λj hj=> ?_⟩⟩;have hx:=hrow.cells (g:=g) (by rw[hv];rfl) j (.int .i32 ((rV t).getD j 0)) ?_
  ·rw[<-iE];exact hx
  ·unfold EH rV;rw[iU,aU,iU];rw[hl]at hj;rw[bJ hj];rfl
end
section
open Folds (dec aZ bQ)
def Tryz.lays197_ren:Go.Shelf.Ren:=⟨λ|197=>145|260=>212|n=>n,λ|9=>9|21=>21|3=>3|4=>4|5=>5|105=>160|119=>212|0=>0|46=>166|139=>295|138=>294|n=>n,λ|3=>2|4=>3|n=>n⟩
theorem Tryz.lays197:Go.Proofs.Lays.n197 Tryz.prog Tryz.lays197_ren:={
 mixed:=by kernel_rfl
 f197:=Tryz.func145.trans (dX some (by kernel_rfl))
 f260:=Tryz.func212.trans (dX some (by kernel_rfl))
 t0:=Tryz.underlying0
 a0:=Tryz.isAgg0
 z0:=Tryz.sizeOf0
 v0:=Tryz.zeroValue0
 t3:=Tryz.underlying3
 a3:=Tryz.isAgg3
 z3:=Tryz.sizeOf3
 v3:=Tryz.zeroValue3
 t4:=Tryz.underlying4
 a4:=Tryz.isAgg4
 z4:=Tryz.sizeOf4
 v4:=Tryz.zeroValue4
 t5:=Tryz.underlying5
 a5:=Tryz.isAgg5
 z5:=Tryz.sizeOf5
 v5:=Tryz.zeroValue5
 t9:=Tryz.underlying9
 a9:=Tryz.isAgg9
 z9:=Tryz.sizeOf9
 v9:=Tryz.zeroValue9
 t21:=Tryz.underlying21
 a21:=Tryz.isAgg21
 z21:=Tryz.sizeOf21
 v21:=Tryz.zeroValue21
 t46:=Tryz.underlying166
 a46:=Tryz.isAgg166
 z46:=Tryz.sizeOf166
 v46:=Tryz.zeroValue166
 t105:=Tryz.underlying160
 a105:=Tryz.isAgg160
 z105:=Tryz.sizeOf160
 v105:=Tryz.zeroValue160
 t119:=Tryz.underlying212
 a119:=Tryz.isAgg212
 z119:=Tryz.sizeOf212
 t138:=Tryz.underlying294
 a138:=Tryz.isAgg294
 z138:=Tryz.sizeOf294
 v138:=Tryz.zeroValue294
 t139:=Tryz.underlying295
 a139:=Tryz.isAgg295
 z139:=Tryz.sizeOf295
 v139:=Tryz.zeroValue295
 g3:=by kernel_rfl
 g4:=by kernel_rfl}
theorem afx (l:List UInt8) (h0:l≠[]):Lib.decodeGo ⟨l.toArray⟩=dec l:=by unfold Lib.decodeGo;rw[ak (by rw[size_mk l _ rfl];cases l with|nil=>exact absurd rfl h0|cons a b=>simp)];have:=ig l 0 _ rfl;rwa [vF]at this
theorem Ob (l:List UInt8) (h0:l≠[]) (w:World) (hT:Lib.Utf8Tabs 2 3 w):
 Calls Tryz.prog 145 #[.string ⟨l.toArray⟩] w λe w'=>e= .returned (.tuple #[.int .i32 (dec l).1, .int .i64 (dec l).2])/\Below w.heap.size w w':=by
 have h:=Any.utf8_DecodeRuneInString Tryz.lays197 ⟨l.toArray⟩ w hT;rw[afx l h0]at h;exact h
theorem vU (l:List UInt8) (h0:l≠[]) (w:World) (hT:Lib.Utf8Tabs 2 3 w):
 Calls Tryz.prog 99 #[.string ⟨l.toArray⟩] w λe w'=>e= .returned (.tuple #[.int .i32 (dec l).1, .int .i64 (dec l).2])/\Below w.heap.size w w':=by
 have hd:=Ob l h0;obtain⟨s,hs⟩:∃s:ByteArray,(⟨l.toArray⟩:ByteArray)=s:=⟨_,rfl⟩
 have h2:s.toList.isEmpty=false:=by rw[<-hs,ByteArray.toList_mk];cases l with|nil=>exact absurd rfl h0|cons a b=>rfl
 have h1: !s.toList.isEmpty:=by rw[h2];rfl
 rw[hs]at hd⊢;clear hs h0;go_enter Tryz.func99,Tryz.ntmps99;go_wp2_with (go_at_call 145;refine(hd _ hT).mono ?_;rintro e w' ⟨rfl,hb⟩);go_ret2;exact⟨rfl,hb⟩
abbrev Pc:=Nat×Nat×List UInt8
def eO (l:List Pc):List Value:=l.flatMap λp=>[.int .i64 p.1, .int .i32 p.2.1, .string ⟨p.2.2.toArray⟩]
theorem LD (l x:List Pc):eO (l++x)=eO l++eO x:=by simp[eO]
def Y4 (enc:Nat->Nat->List UInt8) (t:List UInt8):Nat->Nat->Nat->List Pc
 |0,_,_=>[]
 |n+1,i,e=>if e<t.length then(e,(dec (t.drop e)).1,Folds.one (enc i) (t.drop e))::Y4 enc t n (i+1) (e+(dec (t.drop e)).2)else[]
def AX (k:Nat) (fin:Nat->Bool) (i r:Nat):List UInt8:=if(k=0/\r=931)/\fin i=true then[207,130]else qA (formV r k)
def LG (k:Nat) (fin:Nat->Bool) (t:List UInt8):List Pc:=Y4 (AX k fin) t t.length 0 0
theorem formsT_len:(formsT.all λp=>p.2.all λl=>decide (l.length<=3))=true:=by decide+kernel
theorem formV_len (r:Int) (k:Nat):(formV r k).length<=3:=by
 unfold formV;cases h:formsOf r with
 |none=>dsimp only;split<;>simp
 |some fs=>
  unfold formsOf at h;obtain⟨p,hp,rfl⟩:=C9.1 h;have:=iK.1 formsT_len p (List.mem_of_find?_eq_some hp);dsimp only;rcases aN k p.2.length with c|c;·rw[aU,bJ c];have:=iK.1 this _ (mK c);exact jm this
  ·rw[aU,wX c];simp
theorem jM {w w':World} {g0 g1:Nat} (h:Below w.heap.size w w') (hT:Lib.Utf8Tabs g0 g1 w):Lib.Utf8Tabs g0 g1 w':=YZ (Fr.of_below (T:=λ_=>False) h (ay _)) hT id id
def R4 (l:List Pc) (W:World) (e:Ending) (w':World):Prop:=∃v,e= .returned v/\w'.ownsRow W.heap.size 83 3 v l.length (eO l)/\Below W.heap.size W w'
structure WL (W:World) (s:ByteArray) (vl:Value) (e:Nat) (acc:List Pc) (w:World):Prop where
 aD:Below W.heap.size W w
 it:w.heap[W.heap.size]? =some (.stringIter s e)
 own:w.ownsRow W.heap.size 83 3 vl acc.length (eO acc)
theorem bM {w w':World} {k:Nat} {o:Obj} (h:Below w.heap.size w w') (hk:w.heap[k]? =some o):w'.heap[k]? =some o:=(h.block k (bU hk)).trans hk
theorem own_below {w w':World} {base:Nat} {e:TypeId} {size n:Nat} {v:Value} {xs:List Value} (hb:Below w.heap.size w w') (h:w.ownsRow base e size v n xs):w'.ownsRow base e size v n xs:=(Fr.of_below (T:=λ_=>False) hb (ay _)).own h (λ_ _=>id)
theorem own_iterAt {w:World} {base k:Nat} {s s':ByteArray} {p p':Nat} {e:TypeId} {size n:Nat} {v:Value} {xs:List Value} (hk:w.heap[k]? =some (.stringIter s p)) (h:w.ownsRow base e size v n xs):(w.iterAt k s' p').ownsRow base e size v n xs:=by
 refine⟨h.1,?_⟩;rcases h.2 with h2|⟨g,cap,cur,hv,hb,hg,r⟩
 ·exact .inl h2
 ·have n3:g≠k:=by rintro rfl;rw[hk]at hg;cases hg
  exact .inr ⟨g,cap,cur,hv,hb,(iterAt_other w k g s' p' n3).trans hg,r⟩
theorem WL.below {W:World} {s:ByteArray} {vl:Value} {e:Nat} {acc:List Pc} {w w':World} (h:WL W s vl e acc w) (hb:Below w.heap.size w w'):WL W s vl e acc w':=
 ⟨h.aD.trans (hb.mono h.aD.size),bM hb h.it,own_below hb h.own⟩
theorem WL.iter {W:World} {s:ByteArray} {vl:Value} {e e':Nat} {acc:List Pc} {w:World} (h:WL W s vl e acc w):WL W s vl e' acc (w.iterAt W.heap.size s e'):=
 ⟨below_iterAt h.aD (ay _) s e',iterAt_heap w _ s e e' h.it,own_iterAt h.it h.own⟩
theorem Oc:(Tryz.prog.info? 83).map (λi=>(i.zero,i.size,i.bytes))=some (some (.agg #[.int .i64 0, .int .i32 0, .string ⟨#[]⟩]),3,32):=by kernel_rfl
theorem aW {w:World} {base:Nat} {e:TypeId} {v:Value} {size n:Nat} {xs:List Value} (h:w.ownsRow base e size v n xs):∃A c,v= .slice A n c/\n<=c:=by obtain⟨A,c,h1,_,_,h2,_⟩:=jf h;exact⟨A,c,h1,h2⟩
theorem Od (t:List UInt8) (e:Nat) (s:ByteArray) (hs:(⟨t.toArray⟩:ByteArray)=s):s.extract e s.size=⟨(t.drop e).toArray⟩:=by subst hs;rw[vR,Da];simp[ByteArray.size]
theorem Y5 (t:List UInt8) (e:Nat) (s:ByteArray) (hs:(⟨t.toArray⟩:ByteArray)=s):s.extract e (e+1)=⟨((t.drop e).take 1).toArray⟩:=by subst hs;rw[vR,pJ]
theorem WL.own' {W:World} {s:ByteArray} {A:Option Addr} {m c e:Nat} {acc:List Pc} {w:World} (h:WL W s (.slice A m c) e acc w):w.ownsRow W.heap.size 83 3 (.slice A m c) m (eO acc):=by have h1:=h.own;obtain⟨A',c',he,_⟩:=aW h1;injection he with _ he _;rw[<-he]at h1;exact h1
theorem iG {w:World} {base:Nat} {e:TypeId} {size n:Nat} {v:Value} {xs:List Value} {o:Obj} (h:w.ownsRow base e size v n xs):(w.alloc o).ownsRow base e size v n xs:=own_below ((aM _ _).alloc (ay _) _) h
theorem lJ {w:World} {b:Nat} {o:Obj} (h:b<=w.heap.size):b<=(w.alloc o).heap.size:=by rw[jL];omega
theorem uh (w:World) (a b c:Value) (t:TypeId):∀j u,[a,b,c][j]? =some u->(w.alloc (.cells #[a,b,c] t)).cell? ((⟨w.heap.size,0,none⟩:Addr).add j)=some u:=by intro j u hu;rw[iE,bL,bE _ _ _ _ _ _ (dH w _),<-hu];simp
theorem uj (a b:Int) (t:List UInt8):∀u∈[Value.int .i64 a, .int .i32 b, .string ⟨t.toArray⟩],u.oneCell'=true:=by intro u hu;simp at hu;rcases hu with rfl|rfl|rfl<;>rfl
theorem WL.grown {W:World} {s:ByteArray} {vl v':Value} {e m at_ r:Nat} {X:List UInt8} {acc:List Pc} {w w':World} {o:Obj} (h:WL W s vl e acc w)
 (ho:w'.ownsRow W.heap.size 83 3 v' m (eO acc++[.int .i64 at_, .int .i32 r, .string ⟨X.toArray⟩])) (hg:(w.alloc o).grownBy w' vl.ownBlock):WL W s v' e (acc++[(at_,r,X)]) w':=by
 have hb1:Below W.heap.size W (w.alloc o):=h.aD.alloc h.aD.size o;have hown:(w.alloc o).ownsRow W.heap.size 83 3 vl acc.length (eO acc):=iG h.own;have hm:m=acc.length+1:=by have h1:=ho.1;have h2:(eO acc).length=acc.length*3:=hown.1;simp only[bT,dx,j5,h2]at h1;omega
 refine⟨hb1.grown hg hb1.size (λk hk=>(bZ hown hk).1),?_,?_⟩
 ·rw[hg.block _ (bC (bU h.it) (by rw[jL];omega)) ?_]
  ·exact(Below.heap_alloc w o _ (bU h.it)).trans h.it
  ·intro hk;obtain⟨_,_,cur,hcur⟩:=bZ hown hk.symm;rw[(Below.heap_alloc w o _ (bU h.it)).trans h.it]at hcur;cases hcur
 ·rw[LD];simp only[bT,dx,j5,bL];rw[<-hm];exact ho
theorem LEN {n e:Nat} (m:Nat) (h1:m<=e) (h2:e<=n) (h3:n<=100000):m+1<=maxLen/\(m+1)*32<=0x800000000000:=⟨by simp only[maxLen];omega,by omega⟩
end
section
open Folds (dec aZ bQ)
theorem R5 (t:List UInt8) (k:Nat) (hk:k<4) (c1:k≠0) (fin:Nat->Bool) (v:Value) (W:World) (h:zf W v) (hT:Lib.Utf8Tabs 2 3 W) (hn:t.length<=100000):
 Calls Tryz.prog 51 #[v, .string ⟨t.toArray⟩, .int .i64 k] W (R4 (LG k fin t) W):=by
 obtain⟨B,o,rfl⟩:∃B o,v= .pointer (some ⟨B,o,none⟩):=by obtain⟨B,o,_,_,_,rfl,_⟩:=h;exact⟨B,o,rfl⟩
 have HR:=ah (VZ t (by omega) W);obtain⟨s,hs⟩:∃s:ByteArray,(⟨t.toArray⟩:ByteArray)=s:=⟨_,rfl⟩
 rw[hs]at HR⊢;have hss:s.size=t.length:=size_mk t s hs;have HS:=ah hs;have HO:=ah h;have HT:=ah hT;have oI:=ah hss;have HK:=ah hk;clear hs h hT hss hk;obtain⟨i0,hI0,hz0,hz1,hz2⟩:=iA Oc;go_enter Tryz.func51,Tryz.ntmps51;go_wp2_with (go_at_call 97;refine HR.out.mono ?_;rintro e w1 ⟨v7,rfl,hsl,hb1⟩;obtain⟨A7,c7,rfl,_⟩:=id hsl;have HSL:=ah hsl;have HB1:=ah hb1;clear hsl hb1);go_loopw [8,9] (λvl vi wr=>∃e n acc,vi= .int .i64 (acc:List Pc).length/\WL w1 s vl e acc wr/\e<=t.length/\t.length<n+e+1/\acc.length<=e/\acc++Y4 (AX k fin) t n acc.length e=LG k fin t/\acc.length+(aG t n e).length=(marks t).length) (λ_ _ wr=>s.size-wr.iterPos w1.heap.size);case atStart=>exact⟨0,t.length,[],rfl,⟨(Below.refl _ w1).alloc (Nat.le_refl _) _,World.iter_heap w1 s 0,⟨rfl, .inl ⟨rfl,rfl⟩⟩⟩,Nat.zero_le _,by omega,Nat.le_refl _,rfl,by simp[marks]⟩
 case round=>
  obtain⟨e,n,acc,rfl,hWL,he,hne,hae,hl,hm⟩:=hrel;obtain⟨A8,c8,rfl,_⟩:=aW hWL.own;have hit:=hWL.it;have hss:=oI.out;obtain⟨m,hm'⟩:∃m,acc.length=m:=⟨_,rfl⟩
  rw[hm']at hae hl hm hWL⊢;have HW:=ah hWL;clear hWL;by_cases hlt:e<s.size
  ·have hlt2:e<t.length:=by omega
   obtain⟨n',rfl⟩:∃n',n=n'+1:=⟨n-1,by omega⟩
   have hnx:=λty=>run_next_any_at (P:=Tryz.prog) wr _ s e ty hit hlt;rw[ig t e s HS.out]at hnx;have hne2:t.drop e≠[]:=by intro c;rw[lI]at c;omega
   have hd1:=aZ (t.drop e);have hd2:=bQ (t.drop e) hne2;rw[dF]at hd2;unfold Y4 at hl;unfold aG at hm;rw[au hlt2]at hl hm;rw[dx]at hm;obtain⟨r,hr⟩:∃r,(dec (t.drop e)).1=r:=⟨_,rfl⟩
   obtain⟨wd,hwd⟩:∃wd,(dec (t.drop e)).2=wd:=⟨_,rfl⟩
   rw[hwd]at hd1 hd2 hm hl;rw[hr]at hl;rw[hr,hwd]at hnx;obtain⟨ew,F5⟩:∃ew,e+wd=ew:=⟨_,rfl⟩
   rw[F5]at hnx hl hm;obtain⟨m1,hm1⟩:∃m1,m+1=m1:=⟨_,rfl⟩
   have hwm:wrap64 ((m:Int)+1)=(m1:Int):=by unfold wrap64;omega
   obtain⟨e1,he1⟩:∃e1,e+1=e1:=⟨_,rfl⟩
   have hwr:wrap64 ((e:Int)+1)=(e1:Int):=by unfold wrap64;omega
   have hx1:=Od t e s HS.out;have hx2:=Y5 t e s HS.out;rw[he1]at hx2;have hi0:(0:Int)<=e:=kF e;have hi1:(e:Int)<=s.size:=Int.ofNat_le.2 (dN hlt);have hi2:(e:Int)<=e1:=Int.ofNat_le.2 (he1▸lV e);have hi3:(e1:Int)<=s.size:=Int.ofNat_le.2 (he1▸hlt);have hml:m<(rV t).length:=by unfold rV;rw[dR,<-hm];exact Nat.lt_add_of_pos_right (uX _)
   have hone:Folds.one (AX k fin m) (t.drop e)=if r=65533/\wd=1 then(t.drop e).take 1 else AX k fin m r:=by unfold Folds.one;rw[hr,hwd]
   have acA:=ah hone;have HML:=ah hml;have HNE:=ah hne2;have HR2:=ah hr;have HWD:=ah hwd;have HL:=ah hl;have HM:=ah hm;have HEW:=ah F5;have R6:=ah hm1;have HWM:=ah hwm;have HLEN:=ah (LEN m hae he hn);have hsa:∀W,(Instr.slice 9 (.string s) (some (.int .i64 (e:Int))) none none).run Tryz.prog W= .ok (.string ⟨(t.drop e).toArray⟩) W:=λW=>by rw[run_slice_string_from_if _ _ _ _ _ Tryz.underlying9,au ⟨hi0,hi1⟩,jJ,hx1]
   have hsb:∀W,(Instr.slice 9 (.string s) (some (.int .i64 (e:Int))) (some (.int .i64 (wrap64 ((e:Int)+1)))) none).run Tryz.prog W= .ok (.string ⟨((t.drop e).take 1).toArray⟩) W:=λW=>by rw[hwr,run_slice_string _ _ _ _ _ _ _ Tryz.underlying9 hi0 hi2 hi3,jJ,jJ,hx2]
   have HD:=ah (And.intro hd1 hd2);have HC:=ah (HW.out.iter (e':=ew));have V3:=ah hm';rw[hm1]at HL;clear hone hml hne2 hr hwd hl hm F5 hd1 hd2 hm' hm1 hwm;have key:∀X:List UInt8,Folds.one (AX k fin m) (t.drop e)=X->∀(A':Option Addr) (c':Nat) (w':World),WL w1 s (.slice A' m1 c') ew (acc++[(e,r,X)]) w'->
    (∃e n acc',Value.int .i64 (m1:Int)= .int .i64 (acc':List Pc).length/\WL w1 s (.slice A' m1 c') e acc' w'/\e<=t.length/\t.length<n+e+1/\acc'.length<=e/\acc'++Y4 (AX k fin) t n acc'.length e=LG k fin t/\acc'.length+(aG t n e).length=(marks t).length)/\s.size-w'.iterPos w1.heap.size<s.size-wr.iterPos w1.heap.size:=by
    intro X hX A' c' w' hw;clear hnx hwr hx1 hx2 hi0 hi1 hi2 hi3 hsa hsb;have hd:=HD.out;have F5:=HEW.out;have hm':=V3.out;have hm1:=R6.out;have hlen:(acc++[(e,r,X)]).length=m1:=by simp[hm',hm1]
    refine⟨⟨ew,n',acc++[(e,r,X)],by rw[hlen],hw,by omega,by omega,by rw[hlen];omega,?_,?_⟩,?_⟩;·rw[hlen,<-HL.out,hX,iJ];rfl
    ·rw[hlen];have:=HM.out;omega
    ·have q1:w'.iterPos w1.heap.size=ew:=by unfold World.iterPos;rw[hw.it]
     have q2:wr.iterPos w1.heap.size=e:=by unfold World.iterPos;rw[HW.out.it]
     rw[q1,q2];omega
   have KEY:=ah key;clear key hwr hx1 hx2 hi0 hi1 hi2 hi3 he hne hae hn hss he1;have hcases:r≠65533\/(r=65533/\wd=1)\/(r=65533/\wd≠1):=by
    by_cases d:r=65533
    ·by_cases e:wd=1
     ·exact .inr (.inl ⟨d,e⟩)
     ·exact .inr (.inr ⟨d,e⟩)
    ·exact .inl d
   rcases hcases with c2|⟨rfl,rfl⟩|⟨rfl,c3⟩
   ·have d1:decide ((k:Int)=0)=false:=bK (by omega);have d2:decide ((r:Int)=65533)=false:=bK (by omega);go_wp2_with (first
     |(go_at_call 56
       refine(form_ok r k HK.out _ _ (pz HO.out (HB1.out.trans (HC.out.aD.mono HB1.out.size)))).mono ?_;rintro x wz ⟨v2,rfl,hs2,hb2⟩;have HS2:=ah hs2;have HC:=ah (HC.out.below hb2);clear hs2 hb2)
     |(go_at_call 55
       refine(JF (formV r k) _ _ HS2.out (bn (formV_len r k) (by decide))).mono ?_;rintro x wz ⟨rfl,hb3⟩;have HC:=ah (HC.out.below hb3);clear hb3)
     |(go_at_call 99
       refine(vU (t.drop e) HNE.out _ (jM (HB1.out.trans (HC.out.aD.mono HB1.out.size)) HT.out)).mono ?_;rintro x wz ⟨rfl,hb5⟩;rw[HR2.out,HWD.out];have HC:=ah (HC.out.below hb5);clear hb5)
     |(at_builtin
       (refine zi _ rfl (.tmp 56) (.tmp 61) 80 rfl w1.heap.size 83 i0 _ 3 32 Tryz.underlying80 hI0 hz0 hz1 hz2 rfl (by decide) (.slice A8 m c8) m (eO acc) rfl (iG HC.out.own') ⟨wz.heap.size,0,none⟩ 1 1 [.int .i64 e, .int .i32 r, .string ⟨(qA (formV r k)).toArray⟩] rfl rfl (uh _ _ _ _ _) (uj _ _ _) (by decide) HLEN.out.1 HLEN.out.2 (lJ HC.out.aD.size) _ rfl ?_);intro g cap wq ho hg hl hs;rw[R6.out]at ho⊢;have HG:=ah (WL.grown HC.out ho hg);clear ho hg hl hs hnx hsa hsb hit hlt hlt2))
    rw[HWM.out];exact KEY.out (qA (formV r k)) (by rw[acA.out,ak (λh=>c2 h.1)];unfold AX;rw[ak (λh=>c1 h.1.1)]) _ _ _ HG.out
   ·have d1:decide ((k:Int)=0)=false:=bK (by omega);go_wp2_with (first
     |(go_at_call 56
       refine(form_ok 65533 k HK.out _ _ (pz HO.out (HB1.out.trans (HC.out.aD.mono HB1.out.size)))).mono ?_;rintro x wz ⟨v2,rfl,hs2,hb2⟩;have HS2:=ah hs2;have HC:=ah (HC.out.below hb2);clear hs2 hb2)
     |(go_at_call 55
       refine(JF (formV 65533 k) _ _ HS2.out (bn (formV_len 65533 k) (by decide))).mono ?_;rintro x wz ⟨rfl,hb3⟩;have HC:=ah (HC.out.below hb3);clear hb3)
     |(go_at_call 99
       refine(vU (t.drop e) HNE.out _ (jM (HB1.out.trans (HC.out.aD.mono HB1.out.size)) HT.out)).mono ?_;rintro x wz ⟨rfl,hb5⟩;rw[HR2.out,HWD.out];have HC:=ah (HC.out.below hb5);clear hb5)
     |(at_builtin
       (refine zi _ rfl (.tmp 56) (.tmp 61) 80 rfl w1.heap.size 83 i0 _ 3 32 Tryz.underlying80 hI0 hz0 hz1 hz2 rfl (by decide) (.slice A8 m c8) m (eO acc) rfl (iG HC.out.own') ⟨wz.heap.size,0,none⟩ 1 1 [.int .i64 e, .int .i32 65533, .string ⟨((t.drop e).take 1).toArray⟩] rfl rfl (uh _ _ _ _ _) (uj _ _ _) (by decide) HLEN.out.1 HLEN.out.2 (lJ HC.out.aD.size) _ rfl ?_);intro g cap wq ho hg hl hs;rw[R6.out]at ho⊢;have HG:=ah (WL.grown HC.out ho hg);clear ho hg hl hs hnx hsa hsb hit hlt hlt2))
    rw[HWM.out];exact KEY.out ((t.drop e).take 1) (by rw[acA.out,au (by simp)]) _ _ _ HG.out
   ·have d1:decide ((k:Int)=0)=false:=bK (by omega);have d3:decide ((wd:Int)=1)=false:=bK (by omega);go_wp2_with (first
     |(go_at_call 56
       refine(form_ok 65533 k HK.out _ _ (pz HO.out (HB1.out.trans (HC.out.aD.mono HB1.out.size)))).mono ?_;rintro x wz ⟨v2,rfl,hs2,hb2⟩;have HS2:=ah hs2;have HC:=ah (HC.out.below hb2);clear hs2 hb2)
     |(go_at_call 55
       refine(JF (formV 65533 k) _ _ HS2.out (bn (formV_len 65533 k) (by decide))).mono ?_;rintro x wz ⟨rfl,hb3⟩;have HC:=ah (HC.out.below hb3);clear hb3)
     |(go_at_call 99
       refine(vU (t.drop e) HNE.out _ (jM (HB1.out.trans (HC.out.aD.mono HB1.out.size)) HT.out)).mono ?_;rintro x wz ⟨rfl,hb5⟩;rw[HR2.out,HWD.out];have HC:=ah (HC.out.below hb5);clear hb5)
     |(at_builtin
       (refine zi _ rfl (.tmp 56) (.tmp 61) 80 rfl w1.heap.size 83 i0 _ 3 32 Tryz.underlying80 hI0 hz0 hz1 hz2 rfl (by decide) (.slice A8 m c8) m (eO acc) rfl (iG HC.out.own') ⟨wz.heap.size,0,none⟩ 1 1 [.int .i64 e, .int .i32 65533, .string ⟨(qA (formV 65533 k)).toArray⟩] rfl rfl (uh _ _ _ _ _) (uj _ _ _) (by decide) HLEN.out.1 HLEN.out.2 (lJ HC.out.aD.size) _ rfl ?_);intro g cap wq ho hg hl hs;rw[R6.out]at ho⊢;have HG:=ah (WL.grown HC.out ho hg);clear ho hg hl hs hnx hsa hsb hit hlt hlt2))
    rw[HWM.out];exact KEY.out (qA (formV 65533 k)) (by rw[acA.out,ak (λh=>c3 h.2)];unfold AX;rw[ak (λh=>c1 h.1.1)];rfl) _ _ _ HG.out
  ·have hnx:=λty=>run_next_end_at (P:=Tryz.prog) wr _ s e ty hit hlt;have hee:e=t.length:=by omega
   have hz:Y4 (AX k fin) t n m e=[]:=by
    subst hee;cases n with
    |zero=>rfl
    |succ n'=>show(if t.length<t.length then _ else _)=_;rw[ak (dA _)]
   rw[hz,iL]at hl;have HL:=ah hl;have V3:=ah hm';clear hl hz hm hm' he hne hae hss hee hn;go_wp2;go_ret;refine⟨_,rfl,?_,HB1.out.trans (HW.out.aD.mono HB1.out.size)⟩;rw[<-HL.out,V3.out];exact EC HW.out.own' (λg hg=>bn HB1.out.size (bZ HW.out.own' hg).1)
end
def Tryz.lays169_ren:Go.Shelf.Ren:=⟨λ|169=>82|n=>n,λ|70=>127|9=>9|0=>0|72=>129|37=>65|127=>205|3=>3|5=>5|n=>n,λ|n=>n⟩
theorem Tryz.lays169:Go.Proofs.Lays.n169 Tryz.prog Tryz.lays169_ren:={
 mixed:=by kernel_rfl
 f169:=Tryz.func82.trans (dX some (by kernel_rfl))
 t0:=Tryz.underlying0
 a0:=Tryz.isAgg0
 z0:=Tryz.sizeOf0
 v0:=Tryz.zeroValue0
 t3:=Tryz.underlying3
 a3:=Tryz.isAgg3
 z3:=Tryz.sizeOf3
 v3:=Tryz.zeroValue3
 t9:=Tryz.underlying9
 a9:=Tryz.isAgg9
 z9:=Tryz.sizeOf9
 v9:=Tryz.zeroValue9
 t37:=Tryz.underlying65
 a37:=Tryz.isAgg65
 z37:=Tryz.sizeOf65
 v37:=Tryz.zeroValue65
 t70:=Tryz.underlying127
 a70:=Tryz.isAgg127
 z70:=Tryz.sizeOf127
 v70:=Tryz.zeroValue127
 t72:=Tryz.underlying129
 a72:=Tryz.isAgg129
 z72:=Tryz.sizeOf129
 v72:=Tryz.zeroValue129
 t127:=Tryz.underlying205
 a127:=Tryz.isAgg205
 z127:=Tryz.sizeOf205
 v127:=Tryz.zeroValue205}
theorem Y6:Builder.Extra Tryz.prog Tryz.lays169_ren:={
 sizeBuilder:=by kernel_rfl
 liesBuilder:=by kernel_rfl
 t5:=Tryz.underlying5
 a5:=Tryz.isAgg5
 z5:=Tryz.sizeOf5
 v5:=Tryz.zeroValue5
 infoByte:=by kernel_rfl
 cellsByte:=by kernel_rfl
 sizeByte:=by kernel_rfl
 neB5:=by decide
 }
theorem LH:(Tryz.prog.info? 129).map (λi=>i.size)=some 2:=by kernel_rfl
theorem V4:liesAt Tryz.prog Tryz.prog.depth 129 (2/Tryz.prog.cellsOf 129) 0 129 1=true:=by kernel_rfl
theorem Oe (b:Nat) (w:World) (h0:w.cell? ⟨b,0,none⟩=some (.pointer (some ⟨b,0,none⟩))):
 Calls Tryz.prog 131 #[.pointer (some ⟨b,0,none⟩)] w λe w'=>e= .returned (.tuple #[])/\w'=w:=by
 obtain⟨j,hj,_⟩:=C9.1 LH;go_enter Tryz.func131,Tryz.ntmps131;go_wp2;rw[Lib.run_neq_ptr_same w _ Tryz.underlying127 hj];go_wp2;go_end0;exact⟨rfl,rfl⟩
theorem LJ (b:Nat) (w:World) (h0:w.cell? ⟨b,0,none⟩=some (.pointer none)) (hsh:w.shape? b=some (129,2)) (hfz:w.frozen? ⟨b,0,none⟩=false):
 Calls Tryz.prog 131 #[.pointer (some ⟨b,0,none⟩)] w λe w'=>e= .returned (.tuple #[])/\w'=w.setCell ⟨b,0,none⟩ (.pointer (some ⟨b,0,none⟩)):=by
 obtain⟨j,hj,hjs⟩:=C9.1 LH;go_enter Tryz.func131,Tryz.ntmps131;go_wp2;rw[Lib.run_to_unsafe w ⟨b,0,none⟩ Tryz.underlying127 Tryz.underlying241 hj (by rw[hjs];decide) hsh (Nat.zero_lt_succ 1)];simp only[Result.andThen];rw[Oper.upon_value];go_wp2;rw[run_callFunc_extern Tryz.func185 (by kernel_rfl) (by kernel_rfl) (by kernel_rfl) (e:=Extern.AbiNoEscape.same) (by kernel_rfl),Lib.run_noEscape];simp only[Result.andThen];rw[Oper.upon_value];go_wp2;rw[Lib.run_from_unsafe w ⟨b,0,none⟩ Tryz.underlying241 Tryz.underlying127 hj hsh V4];simp only[Result.andThen];rw[Oper.upon_value];go_wp2;go_end0;exact⟨rfl,rfl⟩
theorem V5 (B b:Nat) (bs:List Value) (w:World) (h:IsBuilderF 129 5 B b bs w):
 Calls Tryz.prog 131 #[.pointer (some ⟨b,0,none⟩)] w λe w'=>e= .returned (.tuple #[])/\BuilderAtF 129 5 B b (.pointer (some ⟨b,0,none⟩)) bs w'/\Below B w w'/\∀k,k≠b->w'.heap[k]? =w.heap[k]? :=by
 rcases h with h|h;·refine(LJ b w h.cell0 h.shape h.frozen0).mono ?_;rintro e w' ⟨rfl,rfl⟩;exact⟨rfl,h.used _,(aM B w).setCell (p:=⟨b,0,none⟩) h.1 _,λk hk=>vT w ⟨b,0,none⟩ _ k hk⟩
 ·refine(Oe b w h.cell0).mono ?_;rintro e w' ⟨rfl,rfl⟩;exact⟨rfl,h,aM B _,λ_ _=>rfl⟩
def LM (B:Nat) (w w':World):Prop:=∀k o,w.heap[k]? =some o->k≠B->(∀cs fr,o≠.cells cs 5 fr)->w'.heap[k]? =some o
theorem EI (B:Nat) (a l:List UInt8) (w:World) (h:IsBuilderF 129 5 B B (byteCells a) w) (hlen:a.length+l.length<=0x800000000000) (hBw:B<=w.heap.size):
 Calls Tryz.prog 81 #[.pointer (some ⟨B,0,none⟩), .string ⟨l.toArray⟩] w λe w'=>(∃v,e= .returned v)/\IsBuilderF 129 5 B B (byteCells (a++l)) w'/\Below B w w'/\LM B w w':=by
 have hl:a.length=(byteCells a).length:=by rw[byteCells_length]
 rw[hl]at hlen;have Og:byteCells (a++l)=byteCells a++strCells ⟨l.toArray⟩:=by rw[byteCells_append,strCells_eq]
 rw[Og];obtain⟨s,hs⟩:∃s:ByteArray,(⟨l.toArray⟩:ByteArray)=s:=⟨_,rfl⟩
 have hss:s.size=l.length:=size_mk l s hs;rw[<-hss]at hlen;rw[hs];obtain⟨bs,hbs⟩:∃bs,byteCells a=bs:=⟨_,rfl⟩
 rw[hbs]at h hlen⊢;clear hs hss hl Og hbs;obtain⟨i0,hi,hz0,hz1,hz2⟩:=iA G6;go_enter Tryz.func81,Tryz.ntmps81;go_wp2_with (go_at_call 131;refine(V5 B B bs _ h).mono ?_);rintro e w1 ⟨rfl,h1,hb1,hot⟩;obtain⟨hB,v,hbk,hown,hne⟩:=h1;have c0:w1.cell? ⟨B,0,none⟩=some (.pointer (some ⟨B,0,none⟩)):=by rw[Lib.cell_of_heap hbk];rfl
 have c1:w1.cell? ⟨B,1,none⟩=some v:=by rw[Lib.cell_of_heap hbk];rfl
 go_wp2_with (at_builtin;refine Lib.wpList_append_own_stringF _ rfl _ _ 65 9 rfl B 5 i0 Tryz.underlying65 Tryz.underlying9 hi hz0 hz1 hz2 _ _ _ rfl hown s rfl ?c3 ?c4 ?c5 ?_);case c3=>unfold maxLen;omega
 case c4=>omega
 case c5=>have:=hb1.size;omega
 intro v' w2 hown' hgrow _;have hlt:B<w1.heap.size:=bU hbk;have hb2:w2.heap[B]? =some (.cells #[.pointer (some ⟨B,0,none⟩),v] 129 (0,0)):=(hgrow.block B hlt (λe=>hne e.symm)).trans hbk;have d0:w2.cell? ⟨B,0,none⟩=some (.pointer (some ⟨B,0,none⟩)):=by rw[Lib.cell_of_heap hb2];rfl
 have d1:w2.cell? ⟨B,1,none⟩=some v:=by rw[Lib.cell_of_heap hb2];rfl
 have f1:w2.frozen? ⟨B,1,none⟩=false:=Lib.frozen_of_heap hb2 1;obtain⟨ao,n',cap,rfl⟩:∃ao n' cap,v'= .slice ao n' cap:=by
  rcases hown'.2 with⟨hv,_⟩|⟨g,cap,cur,fz,hv,_⟩
  ·exact⟨_,_,_,hv⟩
  ·exact⟨_,_,_,hv⟩
 go_wp2;go_ret2;refine⟨⟨_,rfl⟩,Or.inr ?_,?_,?_⟩;·exact Lib.BuilderAtF.put (T:=129) (e:=5) hB hb2 (bs':=bs++Lib.strCells s) (by simpa[Lib.strCells_length]using hown') (by decide)
 ·exact(hb1.grown hgrow (by have:=hb1.size;omega) (λk hk=>(hown.lt k hk).1)).setCell (p:=⟨B,1,none⟩) hB _
 ·intro k o hk hkB ho;have h1:w1.heap[k]? =some o:=(hot k hkB).trans hk;refine(vT w2 ⟨B,1,none⟩ _ k hkB).trans ((hgrow.block k (dQ.1 h1).1 (λe=> ?_)).trans h1);rcases hown.2 with⟨hv,_⟩|⟨g,cap,cur,fz,hv,hbg,hg,_⟩
  ·rw[hv]at e;cases e
  ·rw[hv]at e;injection e with e;rw[e,hg]at h1;injection h1 with h1;exact ho _ _ h1.symm
theorem G7 (B:Nat) (a:List UInt8) (w:World) (h:IsBuilderF 129 5 B B (byteCells a) w) (hBw:B<=w.heap.size):
 Calls Tryz.prog 82 #[.pointer (some ⟨B,0,none⟩)] w λe w'=>e= .returned (.string ⟨a.toArray⟩)/\Below B w w'/\LM B w w':=by
 refine(Any.Builder_String_any_k Tryz.lays169 Y6 B B a w h hBw).mono ?_;rintro e w' ⟨rfl,_,h2,h3⟩;exact⟨rfl,h2,λk o hk hb ho=>h3 k o hk (λe=>hb (dh e)) ho⟩
def qB (l:List Pc):List UInt8:=l.flatMap (·.2.2)
def pc0:Pc:=(0,0,[])
theorem BI:∀(l:List Pc) (k:Nat),k<l.length->(eO l)[k*3]? =some (.int .i64 (l.getD k pc0).1)/\(eO l)[k*3+1]? =some (.int .i32 (l.getD k pc0).2.1)/\(eO l)[k*3+2]? =some (.string ⟨(l.getD k pc0).2.2.toArray⟩)
 |[],k,h=>by simp at h
 |a::l,0,_=>⟨rfl,rfl,rfl⟩
 |a::l,k+1,h=>by
  have:=BI l k (by simpa using h);have e:∀j,(eO (a::l))[(k+1)*3+j]? =(eO l)[k*3+j]? :=λj=>by show([Value.int .i64 a.1, .int .i32 a.2.1, .string ⟨a.2.2.toArray⟩]++eO l)[(k+1)*3+j]? =_;rw[pK (by simp;omega)];congr 1;simp;omega
  rw[e 1,e 2,show(k+1)*3=(k+1)*3+0 from rfl,e 0];exact this
theorem R7 (l:List Pc) {k:Nat} (hk:k<l.length):qB (l.take (k+1))=qB (l.take k)++(l.getD k pc0).2.2:=by rw[List.take_succ_eq_append_getElem hk];unfold qB;rw[List.flatMap_append,aU,bJ hk];simp
theorem Y7 (l:List Pc) (k:Nat):(qB (l.take k)).length<=(qB l).length:=by
 conv=>rhs;rw[<-qQ k l]
 unfold qB;rw[List.flatMap_append,bT];omega
def EJ (l:List Pc) (W:World) (e:Ending) (w':World):Prop:=e= .returned (.string ⟨(qB l).toArray⟩)/\Below W.heap.size W w'
theorem R8 (l:List Pc) (g off c n:Nat) (W:World) (hn:l.length=n) (hsm:n<=1000000) (Og:(qB l).length<=1000000000)
 (hc:∀k,k<n->W.cell? ⟨g,off+k*3,none⟩=some (.int .i64 (l.getD k pc0).1)/\W.cell? ⟨g,off+k*3+1,none⟩=some (.int .i32 (l.getD k pc0).2.1)/\W.cell? ⟨g,off+k*3+2,none⟩=some (.string ⟨(l.getD k pc0).2.2.toArray⟩)):
 Calls Tryz.prog 57 #[.slice (some ⟨g,off,none⟩) n c] W (EJ l W):=by
 have HC:=ah hc;have HN:=ah hn;have ajk:=ah Og
 clear hc hn Og
 go_enter Tryz.func57,Tryz.ntmps57
 go_wp2
 go_loopw [8] (λi wr=>∃k:Nat,k<=n/\i= .int .i64 k/\IsBuilderF 129 5 W.heap.size W.heap.size (byteCells (qB (l.take k))) wr/\Below W.heap.size W wr) (λi _=>n-(RowKit.intOf i).toNat)
 case atStart=>exact⟨0,aL _,rfl,IsBuilderF.of (fresh_isBuilder _ _ W),(aM _ W).alloc (ay _) _⟩
 case round=>
  obtain⟨k,hk,rfl,hI,hb⟩:=hrel
  have HI:=ah hI;have HB:=ah hb;clear hI hb
  by_cases hlt:k<n
  ·obtain⟨f0,f1,f2⟩:=HC.out k hlt
   have hg:=fQ f0
   have g0:wr.cell? ⟨g,off+k*3,none⟩=_:=(HB.out.cell (p:=⟨g,off+k*3,none⟩) hg).trans f0
   have g1:wr.cell? ⟨g,off+k*3+1,none⟩=_:=(HB.out.cell (p:=⟨g,off+k*3+1,none⟩) hg).trans f1
   have g2:wr.cell? ⟨g,off+k*3+2,none⟩=_:=(HB.out.cell (p:=⟨g,off+k*3+2,none⟩) hg).trans f2
   have HT:=ah (R7 l (k:=k) (by rw[HN.out];exact hlt))
   obtain⟨p,hp⟩:∃p,l.getD k pc0=p:=⟨_,rfl⟩
   rw[hp]at g0 g1 g2 HT
   clear hp f0 f1 f2 hg
   obtain⟨pa,pr,px⟩:=p
   dsimp only at g0 g1 g2 HT
   have HL:=ah (show(qB (l.take k)).length+px.length<=0x800000000000 by
    have h1:=Y7 l (k+1)
    rw[HT.out,bT]at h1
    have h2:=ajk.out
    omega)
   go_wp2_with (go_at_call 81
                refine(EI W.heap.size (qB (l.take k)) px _ (HI.out.alloc _) HL.out (lJ HB.out.size)).mono ?_
                rintro x wz ⟨⟨vz,rfl⟩,hI2,hb2,_⟩
                have HI2:=ah hI2;have HB2:=ah ((HB.out.alloc HB.out.size _).trans hb2);clear hI2 hb2)
   refine⟨⟨k+1,hlt,by go_num,?_,HB2.out⟩,by simp[RowKit.intOf];omega⟩
   rw[HT.out];exact HI2.out
  ·obtain rfl:k=n:=by omega
   have htk:l.take k=l:=Da (by rw[HN.out];exact ay _)
   rw[htk]at HI
   clear htk
   go_wp2_with (go_at_call 82
                refine(G7 W.heap.size (qB l) _ HI.out HB.out.size).mono ?_
                rintro x wz ⟨rfl,hb2,_⟩
                have HB2:=ah (HB.out.trans hb2);clear hb2)
   go_ret
   exact⟨rfl,HB2.out⟩
section
open Folds (dec aZ bQ)
def wr (k:Nat) (t:List UInt8):List UInt8:=Folds.wrt (λr=>qA (formV r k)) t
theorem LP (enc:Nat->Nat->List UInt8) (e1:Nat->List UInt8) (h:∀i r,enc i r=e1 r) (t:List UInt8):∀n i e,qB (Y4 enc t n i e)=Folds.out e1 n (t.drop e)
 |0,_,_=>rfl
 |n+1,i,e=>by
  show qB (if e<t.length then _ else _)=(if t.drop e=[]then _ else _)
  by_cases c:e<t.length
  ·have hne:t.drop e≠[]:=by intro d;rw[lI]at d;omega
   rw[au c,ak hne,List.drop_drop];show _++qB _=_;rw[LP enc e1 h t n (i+1)];have:Folds.one (enc i) (t.drop e)=Folds.one e1 (t.drop e):=by unfold Folds.one;rw[h]
   rw[<-this]
  ·rw[ak c,au (by rw[lI];omega)];rfl
theorem Y8 (k:Nat) (hk:k≠0) (fin:Nat->Bool) (t:List UInt8):qB (LG k fin t)=wr k t:=by unfold LG wr Folds.wrt;rw[LP _ (λr=>qA (formV r k)) (λi r=>by unfold AX;rw[ak (λh=>hk h.1.1)]) t t.length 0 0,vF]
theorem V6 (k:Nat) (fin:Nat->Bool) (i r:Nat):(AX k fin i r).length<=12:=by
 unfold AX;split;·simp
 ·exact bn (EF _) (by have:=formV_len r k;omega)
theorem Qh (enc:Nat->Nat->List UInt8) (h:∀i r,(enc i r).length<=12) (t:List UInt8):∀n i e,(qB (Y4 enc t n i e)).length<=12*n/\(Y4 enc t n i e).length<=n
 |0,_,_=>⟨ay _,ay _⟩
 |n+1,i,e=>by
  show(qB (if e<t.length then _ else _)).length<=_/\(if e<t.length then _ else _:List Pc).length<=_;by_cases c:e<t.length
  ·rw[au c];obtain⟨h1,h2⟩:=Qh enc h t n (i+1) (e+(dec (t.drop e)).2);have h3:(Folds.one (enc i) (t.drop e)).length<=12:=by
    unfold Folds.one;split;·rw[fF];omega
    ·exact h _ _
   refine⟨?_,by simp only[dx];omega⟩;show(Folds.one (enc i) (t.drop e)++qB _).length<=_;rw[bT];omega
  ·rw[ak c];exact⟨aL _,aL _⟩
theorem R9 (l:List Pc) (v:Value) (base:Nat) (W:World) (h:W.ownsRow base 83 3 v l.length (eO l)) (hsm:l.length<=1000000) (Og:(qB l).length<=1000000000):
 Calls Tryz.prog 57 #[v] W (EJ l W):=by
 rcases h.2 with⟨h2,h0⟩|⟨g,cap,cur,hv,hbg,hg,hnc,hcm,hcs,htk⟩
 ·subst h2
  obtain rfl:l=[]:=pV h0
  go_enter Tryz.func57,Tryz.ntmps57
  go_wp2_with fail
  go_loopw [8] (λi wr=>i= .int .i64 (0:Nat)/\IsBuilderF 129 5 W.heap.size W.heap.size (byteCells []) wr/\Below W.heap.size W wr) (λ_ _=>0)
  case atStart=>exact⟨rfl,IsBuilderF.of (fresh_isBuilder _ _ W),(aM _ W).alloc (ay _) _⟩
  case round=>
   obtain⟨rfl,hI,hb⟩:=hrel
   go_wp2_with (go_at_call 82
                refine(G7 W.heap.size [] _ hI hb.size).mono ?_
                rintro x wz ⟨rfl,hb2,_⟩)
   go_ret
   exact⟨rfl,hb.trans hb2⟩
 ·have hr:=rQ (g:=g) h (by rw[hv];rfl)
  rw[hv]
  refine R8 l g 0 cap l.length W rfl hsm Og λk hk=> ?_
  obtain⟨f0,f1,f2⟩:=BI l k hk
  have c0:=hr _ _ f0;have c1:=hr _ _ f1;have c2:=hr _ _ f2
  rw[iE]at c0 c1 c2
  exact⟨c0,c1,c2⟩
def JH (w:World):Prop:=Calls Tryz.prog 50 #[] w λe w'=>∃v,e= .returned v/\zf w' v/\Below w.heap.size w w'
def acC (k:Nat) (t:List UInt8) (W:World) (e:Ending) (w':World):Prop:=e= .returned (.string ⟨(wr k t).toArray⟩)/\Below W.heap.size W w'
theorem Y9 (t:List UInt8) (W:World) (ho:JH W) (hT:Lib.Utf8Tabs 2 3 W) (hn:t.length<=10000):Calls Tryz.prog 69 #[.string ⟨t.toArray⟩] W (acC 3 t W):=by
 have HT:=ah hT;have HO:=ah ho;have HN:=ah hn;clear hT ho hn;have HL:=ah (Qh (AX 3 λ_=>false) (V6 3 _) t t.length 0 0);go_enter Tryz.func69,Tryz.ntmps69;go_wp2_with (first
  |(go_at_call 50;refine HO.out.mono ?_;rintro e w1 ⟨v,rfl,h1,h2⟩;have H1:=ah h1;have B1:=ah h2;clear h1 h2)
  |(go_at_call 51;refine(R5 t 3 (by decide) (by decide) (λ_=>false) _ _ H1.out (jM B1.out HT.out) (bn HN.out (by decide))).mono ?_;rintro e w2 ⟨v2,rfl,hown,h2⟩;have OW:=ah hown;have B2:=ah (B1.out.trans (h2.mono B1.out.size));clear hown h2)
  |(go_at_call 57;refine(R9 _ _ _ _ OW.out (bn HL.out.2 (bn HN.out (by decide))) (bn HL.out.1 (by have:=HN.out;omega))).mono ?_;rintro e w3 ⟨rfl,h3⟩;have B3:=ah (B2.out.trans (h3.mono B2.out.size));clear h3))
 go_ret;exact⟨by rw[Y8 3 (by decide)];rfl,B3.out⟩
end
section
open Folds (dec aZ bQ)
end
theorem um {w:World} {base:Nat} {e:TypeId} {size n c:Nat} {A:Option Addr} {xs:List Value} (h:w.ownsRow base e size (.slice A n c) n xs) (hn:0<n):∃g,A=some ⟨g,0,none⟩:=by obtain⟨g,cap,hv,_⟩:=h.form hn;injection hv with hv;exact⟨g,hv⟩
def bX (l:List Int):List Value:=l.map (Value.int .i64)
theorem nJ (l x:List Int):bX (l++x)=bX l++bX x:=by simp[bX]
theorem l9:(Tryz.prog.info? 3).map (λi=>(i.zero,i.size,i.bytes))=some (some (.int .i64 0),1,8):=by kernel_rfl
theorem eT (w:World) (x:Value) (ty:TypeId):Src (w.alloc (.cells #[x] ty)) (some ⟨w.heap.size,0,none⟩) 1 [x]:=by
 refine⟨rfl,λ_=>⟨_,rfl,λj u hu=> ?_⟩⟩;match j,hu with
 |0,hu=>rw[iE,bE _ _ _ _ _ _ (dH w _)];exact hu
 |j+1,hu=>simp at hu
theorem V7 (w:World) (x:Value) (ty:TypeId) (k:Nat) (hk:w.heap.size=k):Src (w.alloc (.cells #[x] ty)) (some ⟨k,0,none⟩) 1 [x]:=by subst hk;exact eT w x ty
theorem aQ {P:Program} {o:Oper} {a:Act} {C:World->Prop} {K:Act->Prop} (v:Value) (h:∀w,C w->(execOp a.eval o).run P w= .ok (.value v) w) (hK:K (a.put o.dst v)):o.quiet P a C K:=
 ⟨v,λw hw=>by unfold Oper.quietAt;rw[h w hw];exact⟨rfl,rfl⟩,hK⟩
theorem gB {P:Program} {o:Oper} {a:Act} {C:World->Prop} {K:Act->Prop} (f:FuncId) (args:Array Value) (v:Value) (h:∀w,C w->(execOp a.eval o).run P w= .ok (.enter f args) w)
 (hc:∀w,C w->Calls P f args w λe w'=>e= .returned v/\C w') (hK:K (a.put o.dst v)):o.quiet P a C K:=
 ⟨v,λw hw=>by unfold Oper.quietAt;rw[h w hw];exact⟨rfl,hc w hw⟩,hK⟩
theorem dZ {P:Program} {id:Nat} {Q:Exit->Act->World->Prop} {a:Act} {w:World} {l:List Oper} {C:World->Prop} (hm:P.follows .mixedOrders=true) (hB:Region.lexB .any l.toArray=true) (hC:C (w.drewN 1))
 (h:wpQuiet P l.toArray C (λa'=>∀w',C w'->Q .normal a' w') l a):(Code.region id l.toArray true).wp P Q a w:=wp_region_quiet (C:=C) hm hB hC (by simpa using h)
section
open Cases (smalls jK)
open Folds (dec aZ bQ)
open rU (bt G8 mM)
def Za (c:Nat):List UInt8:=
 if c<0x80 then[UInt8.ofNat c]
 else if c<0x800 then[UInt8.ofNat (0xC0+c/64),UInt8.ofNat (0x80+c%64)]
 else if c<0x10000 then[UInt8.ofNat (0xE0+c/4096),UInt8.ofNat (0x80+c/64%64),UInt8.ofNat (0x80+c%64)]
 else[UInt8.ofNat (0xF0+c/262144),UInt8.ofNat (0x80+c/4096%64),UInt8.ofNat (0x80+c/64%64),UInt8.ofNat (0x80+c%64)]
theorem Qi (r:Int):JE r=true↔(0<=r/\r<=1114111/\(r<55296\/57343<r)):=by unfold JE;simp only[aP,dG,bf]
theorem afA (r:Int) (h:JE r=true):(Utf8.encode r).data.toList=Za r.toNat:=by
 have hv:Utf8.valid r=true:=by have:=(Qi r).1 h;unfold Utf8.valid;simp only[aP,dG,bf];omega
 unfold Utf8.encode Za;simp only[hv,if_true];repeat' split
 all_goals rfl
theorem V8 (r:Int) (h:JE r=true):encR r=(Utf8.encode r).data.toList:=by unfold encR;rw[au h]
theorem acD (r:Int) (h:JE r=true):encR r=Za r.toNat:=by rw[V8 r h,afA r h]
theorem Zb (l:List UInt8):JE ((dec l).1:Int)=true:=by rw[Qi];have:=decodeN_valid l.length (bt l 0) (bt l 1) (bt l 2) (bt l 3) (G8 l 0);unfold dec;omega
def Sb (p:Int×Int):Bool:=decide (Cases.look smalls p.1=some p.2)&&decide (Cases.look jK p.1=none)&&decide (Cases.look jK p.2=some p.1)&&decide (Cases.look smalls p.2=none)&&(formsOf p.1).isNone&&(formsOf p.2).isNone&&JE p.1&&JE p.2
theorem ajl:((smalls.drop 0).take 60).all Sb=true:=by decide+kernel
theorem ajm:((smalls.drop 60).take 60).all Sb=true:=by decide+kernel
theorem ajn:((smalls.drop 120).take 60).all Sb=true:=by decide+kernel
theorem ajo:((smalls.drop 180).take 60).all Sb=true:=by decide+kernel
theorem ajp:((smalls.drop 240).take 60).all Sb=true:=by decide+kernel
theorem ajq:((smalls.drop 300).take 60).all Sb=true:=by decide+kernel
theorem ajr:(smalls.drop 360).all Sb=true:=by decide+kernel
theorem Zc {p:Int×Int} (h:p∈smalls):Sb p=true:=by
 have step:∀c,((smalls.drop c).take 60).all Sb=true->(smalls.drop (c+60)).all Sb=true->(smalls.drop c).all Sb=true:=λc h1 h2=>by rw[<-qQ 60 (smalls.drop c),List.all_append,h1,List.drop_drop,h2];rfl
 have h3:(smalls.drop 0).all Sb=true:=step 0 ajl (step 60 ajm (step 120 ajn (step 180 ajo (step 240 ajp (step 300 ajq ajr)))));exact iK.1 h3 p h
structure Okp (r s:Int):Prop where
 a:Cases.look smalls r=some s
 b:Cases.look jK r=none
 c:Cases.look jK s=some r
 d:Cases.look smalls s=none
 e:formsOf r=none
 f:formsOf s=none
 g:JE r=true
 h:JE s=true
theorem V9 {r s:Int} (h:(r,s)∈smalls):Okp r s:=by have:=Zc h;unfold Sb at this;simp only[aP,bf,CY]at this;obtain⟨⟨⟨⟨⟨⟨⟨a,b⟩,c⟩,d⟩,e⟩,f⟩,g⟩,h⟩:=this;exact⟨a,b,c,d,e,f,g,h⟩
theorem LQ {l:List (Int×Int)} {r s:Int} (h:Cases.look l r=some s):(r,s)∈l:=by unfold Cases.look at h;obtain⟨p,hp,rfl⟩:=C9.1 h;have h1:=List.mem_of_find?_eq_some hp;have h2:=jm (List.find?_some (p:=λx:Int×Int=>decide (x.1=r)) hp);rw[<-h2];exact h1
theorem Sc {r s:Int} (h:Cases.look smalls r=some s):Okp r s:=V9 (LQ h)
theorem Sd {r s:Int} (h:Cases.look jK s=some r):Okp r s:=by have:=LQ h;unfold jK at this;obtain⟨p,hp,he⟩:=dw.1 this;obtain⟨a,b⟩:=p;injection he with e1 e2;dsimp only at e1 e2;subst e1 e2;exact V9 hp
theorem formV_none {r:Int} (h:formsOf r=none) (k:Nat):formV r k=if k=0\/k=3 then[(Cases.pair r).1]else[(Cases.pair r).2]:=by unfold formV;rw[h]
theorem Okp.big {r s:Int} (h:Okp r s) (k:Nat):formV r k=if k=0\/k=3 then[s]else[r]:=by rw[formV_none h.e];unfold Cases.pair;rw[h.a]
theorem Okp.low {r s:Int} (h:Okp r s) (k:Nat):formV s k=if k=0\/k=3 then[s]else[r]:=by rw[formV_none h.f];unfold Cases.pair;rw[h.d,h.c]
def acF (r:Int):Bool:=[0,1,2,3].all λk=>(!(formV r k).isEmpty)&&((formV r k).all JE&&((decide (k<3)&&(decide (r=304)||decide (r=305)))||decide ((formV r k).flatMap (λx=>formV x 3)=formV r 3)))
theorem Oh:Cases.nY.all acF=true:=by decide+kernel
theorem form_facts (r:Int) (hr:JE r=true) (k:Nat) (hk:k<4):formV r k≠[]/\(∀x∈formV r k,JE x=true)/\(k=3\/(r≠304/\r≠305)->(formV r k).flatMap (λx=>formV x 3)=formV r 3):=by
 cases hf:formsOf r with
 |some fs=>
  have hm:r∈Cases.nY:=by rw[<-List.contains_iff_mem,<-formsOf_iff,hf];rfl
  have:=iK.1 (iK.1 Oh r hm) k (by
   rcases(by omega:k=0\/k=1\/k=2\/k=3)with rfl|rfl|rfl|rfl<;>decide)
  simp only[aP,dG,bf,Bool.not_eq_true',List.isEmpty_eq_false_iff,iK]at this;refine⟨this.1,this.2.1,λh=> ?_⟩;rcases this.2.2 with⟨h1,h2⟩|h1
  ·rcases h with h|h
   ·omega
   ·rcases h2 with h2|h2
    ·exact absurd h2 h.1
    ·exact absurd h2 h.2
  ·exact h1
 |none=>
  cases hs:Cases.look smalls r with
  |some s=>
   have ho:=Sc hs;have hl:=ho.low 3;have hb:=ho.big 3;rw[au (.inr rfl)]at hl hb;rw[hb,ho.big k];split;·exact⟨nC _ _,λx hx=>by rw[dM.1 hx];exact ho.h,λ_=>by rw[y9,hl]⟩
   ·exact⟨nC _ _,λx hx=>by rw[dM.1 hx];exact ho.g,λ_=>by rw[y9,hb]⟩
  |none=>
   cases hg:Cases.look jK r with
   |some g=>
    have ho:=Sd hg;have hl:=ho.low 3;have hb:=ho.big 3;rw[au (.inr rfl)]at hl hb;rw[hl,ho.low k];split;·exact⟨nC _ _,λx hx=>by rw[dM.1 hx];exact ho.h,λ_=>by rw[y9,hl]⟩
    ·exact⟨nC _ _,λx hx=>by rw[dM.1 hx];exact ho.g,λ_=>by rw[y9,hb]⟩
   |none=>
    have hp:Cases.pair r=(r,r):=by unfold Cases.pair;rw[hs,hg]
    have h1:∀k,formV r k=[r]:=λk=>by rw[formV_none hf,hp];split<;>rfl
    rw[h1 k,h1 3];exact⟨nC _ _,λx hx=>by rw[dM.1 hx];exact hr,λ_=>by rw[y9,h1]⟩
end
section
open Cases (smalls jK)
open Folds (dec aZ bQ)
