/- FoldTitles, walked: utf.Runes, write, joined; runes' bytes. -/
import Derived.Test.YtocaiijbhepnnaaGreatDoorFB
import Derived.RangeFuncBox
import Derived.OwnWalkIn
import Derived.TacticsInMore
import Derived.LoopNIn
import Derived.LoopIn
import Derived.Shelf.Strings.BuilderK
import Derived.Lib.QuoteLoop
import Derived.Lib.MapLaws
set_option maxRecDepth 100000
set_option maxHeartbeats 2000000
namespace Go.Proofs.YtocaiijbhepnnaaGreatDoor.foldTitles
open Go.Shelf Go.RowKit Go.Lib Go.Proofs.YtocaiijbhepnnaaGreatDoor.Am
section
open Go.RowKit Go.Shelf Go.Lib Go.Proofs.YtocaiijbhepnnaaGreatDoor.Am
open rY (bt)
open Folds (dec bn bL I9)
attribute [local go_sem] Oper.semAt_some
def aJ (t:List UInt8):Nat->Nat->List (Nat×Nat)
 |0,_=>[]
 |n+1,e=>if e<t.length then(e,(dec (t.drop e)).1)::aJ t n (e+(dec (t.drop e)).2)else[]
def marks (t:List UInt8):List (Nat×Nat):=aJ t t.length 0
def Yj (x:Nat×Nat):Array Value:=#[.int .i64 x.1, .int .i32 x.2]
theorem vV (t:List UInt8):∀n e,e<=t.length->(aJ t n e).length+e<=t.length
 |0,e,h=>by simpa[aJ]using h
 |n+1,e,h=>by
  unfold aJ;by_cases c:e<t.length;·rw[au c];have h1:=bn (t.drop e);have h2:=bL (t.drop e) (by intro d;rw[rP]at d;omega);rw[gP]at h2;have:=vV t n (e+(dec (t.drop e)).2) (by omega);simp only[bT];omega
  ·rw[aj c];simpa using h
theorem lV (t:List UInt8) (e:Nat) (s:ByteArray) (hs:(⟨t.toArray⟩:ByteArray)=s):Utf8.decode s e=dec (t.drop e):=by
 have hd:s.data.toList=t:=by subst hs;simp
 rw[<-Folds.ahH,<-hd,Go.Lib.decodeL_drop]
theorem Ja (w:World) (k:Nat) (s:ByteArray) (p:Nat):w.grownBy (w.iterAt k s p) (some k):=
 ⟨rfl,rfl,rfl,by rw[iterAt_size];exact ay _,λj _ hn=>iterAt_other w k j s p (λc=>hn (by rw[c]))⟩
theorem U8 (F:Fence) (n:Nat) (h6:F.fn 209) (hro:F.round=none) (hn:1<=n) (l Bs:Nat) (t:List UInt8) (s:ByteArray) (hs:(⟨t.toArray⟩:ByteArray)=s) (J Jx:List (Nat×Nat)->World->Prop) (W:World) (hJ:AbidesFrom W.heap.size J)
 (hY:∀pre x W1,J pre W1->pre.length<t.length->YieldAt F (n-1) Tryz.prog l (Yj x) W1 λe W'=>
  (e= .returned (.bool true)/\J (pre++[x]) W'/\KeepsWalks W1 W')\/(e= .returned (.bool false)/\Jx (pre++[x]) W'))
 (hBs:W.cell? ⟨Bs,0,none⟩=some (.string s)) (h0:J [] W):
 CallsIn F n Tryz.prog 209 #[.func (.yield l) #[] #[], .pointer (some ⟨Bs,0,none⟩)] W λe W'=>(∃v,e= .returned v)/\
  ((∃ys,ys=marks t/\J ys W')\/(∃pre,pre<+:marks t/\Jx pre W')):=by
 refine callsIn_of_wp Tryz.func209 rfl h6 ?_ hro;simp only[Tryz.ntmps209,qZ,bT,mh,Nat.reduceAdd,Nat.reduceSub,Array.replicate_succ,Array.replicate_zero,List.push_toArray,yF,List.nil_append,List.cons_append];gi_wp2;have hss:s.size=t.length:=size_mk t s hs;gi_loopw [] (λwr=>∃e n pre,wr.heap[W.heap.size]? =some (.stringIter s e)/\J pre wr/\pre++aJ t n e=marks t/\e<=t.length/\t.length<n+e+1)
  (λwr=>s.size-wr.iterPos W.heap.size)
 case atStart=>exact⟨0,t.length,[],World.iter_heap W s 0,hJ _ _ _ none h0 (World.grownBy_alloc _ _ _) (by simp),rfl,aL _,by omega⟩
 case round=>
  obtain⟨e,m,pre,hit,hJs,hm,he,hme⟩:=hrel;by_cases hlt:e<t.length
  ·have hnx:=λty=>run_next_any_at (P:=Tryz.prog) wr W.heap.size s e ty hit (by omega);rw[lV t e s hs]at hnx;obtain⟨m',rfl⟩:∃m',m=m'+1:=⟨m-1,by omega⟩
   have hd1:=bn (t.drop e);have hd2:=bL (t.drop e) (by intro d;rw[rP]at d;omega);rw[gP]at hd2;unfold aJ at hm;rw[au hlt]at hm;obtain⟨r,hr⟩:∃r,(dec (t.drop e)).1=r:=⟨_,rfl⟩
   obtain⟨k,hk⟩:∃k,(dec (t.drop e)).2=k:=⟨_,rfl⟩
   rw[hr,hk]at hm hnx;rw[hk]at hd1 hd2;have hJ2:J pre (wr.iterAt W.heap.size s (e+k)):=hJ _ _ _ _ hJs (Ja wr W.heap.size s (e+k)) (λj hj=>by cases hj;exact⟨ay _,_,hit,rfl⟩);have hit2:=iterAt_heap wr W.heap.size s e (e+k) hit;have hlen:pre.length<t.length:=by have h1:=fJ List.length hm;have h2:=vV t t.length 0 (aL _);unfold marks at h1;rw[bV,bT]at h1;omega
   obtain⟨fn,tmps,assign,body,hy,hR⟩:=hY pre (e,r) _ hJ2 hlen;try simp only[Yj]at hy
   gi_wp2;refine hR.mono ?_;rintro x W3 (⟨rfl,hJ3,hk3⟩|⟨rfl,hJx3⟩)
   ·have hit3:=hk3.same _ _ hit2 rfl;gi_wp2;go_roundw;case rel=>exact⟨e+k,m',pre++[(e,r)],hit3,hJ3,by rw[<-hm];simp,by omega,by omega⟩
    case measure=>simp only[World.iterPos,hit3,hit];omega
   ·gi_wp2;refine rX (results_none rfl _ _ _) rfl ?_;exact⟨⟨_,rfl⟩, .inr ⟨pre++[(e,r)],⟨aJ t m' (e+k),by rw[<-hm];simp⟩,hJx3⟩⟩
  ·have hnx:=λty=>run_next_end_at (P:=Tryz.prog) wr W.heap.size s e ty hit (by omega);gi_wp2;go_end0;refine⟨⟨_,rfl⟩, .inl ⟨pre,?_,hJs⟩⟩;rw[<-hm];cases m with
   |zero=>simp[aJ]
   |succ m'=>simp[aJ,hlt]
theorem Yk (F:Fence) (n:Nat) (h5:F.fn 143) (hro:F.round=none) (s:ByteArray) (w:World):
 CallsIn F n Tryz.prog 143 #[.string s] w λe w'=>e= .returned (.func (.func 209) #[] #[.pointer (some ⟨w.heap.size,0,none⟩)])/\w'=w.alloc (.cells #[.string s] 9):=by
 refine callsIn_of_wp Tryz.func143 rfl h5 ?_ hro;simp only[Tryz.ntmps143,qZ,bT,mh,Nat.reduceAdd,Nat.reduceSub,Array.replicate_succ,Array.replicate_zero,List.push_toArray,yF,List.nil_append,List.cons_append];gi_wp2;go_ret;exact⟨rfl,rfl⟩
theorem Nf (F:Fence) (n:Nat) (h6:F.fn 209) (hro:F.round=none) (hn:1<=n) (Bs:Nat) (t:List UInt8) (s:ByteArray) (hs:(⟨t.toArray⟩:ByteArray)=s) (w:World) (hBs:Bs<w.heap.size) (hc:w.cell? ⟨Bs,0,none⟩=some (.string s)):
 SeqStopsK F n Tryz.prog 209 #[.pointer (some ⟨Bs,0,none⟩)] Yj KeepsWalks (λys=>ys=marks t) (λpre=>pre<+:marks t) t.length w:=λl J Jx W hW hJ _ hY h0=>
 U8 F n h6 hro hn l Bs t s hs J Jx W hJ hY ((hW.cell (p:=⟨Bs,0,none⟩) hBs).trans hc) h0
theorem QY:(Tryz.prog.info? 21).map (λi=>(i.zero,i.size,i.bytes))=some (some (.int .i32 0),1,4):=by kernel_rfl
def Eu (l:List (Nat×Nat)):List Value:=l.map λx=>Value.int .i32 x.2
theorem U9 (F:Fence) (n:Nat) (h3:F.fn 97) (h4:F.fn 143) (h5:F.fn 209) (hro:F.round=none) (hn:3<=n) (t:List UInt8) (s:ByteArray) (hs:(⟨t.toArray⟩:ByteArray)=s) (hlen:t.length<=1000000) (w:World):
 CallsIn F n Tryz.prog 97 #[.string s] w λe W'=>∃v,e= .returned v/\W'.ownsRow w.heap.size 21 1 v (marks t).length (Eu (marks t))/\Below w.heap.size w W':=by
 have h1:1<=n:=by omega
 obtain⟨i0,hi,hz0,hz1,hz2⟩:=gW QY;refine callsIn_of_wp_marks Tryz.func97 rfl h3 ?_ hro;simp only[Tryz.ntmps97,qZ,bT,mh,Nat.reduceAdd,Nat.reduceSub,Array.replicate_succ,Array.replicate_zero,List.push_toArray,yF,List.nil_append,List.cons_append];gi_wp2_with (gi_at_call 143;refine(Yk F (n - 1) h4 hro _ _).mono ?_;rintro e w' ⟨rfl,rfl⟩);have bO:=Boxed.new w 87 (.slice none 0 0);have bN:=Boxed.new (w.alloc (.cells #[.slice none 0 0] 87)) 9 (.string s);rw[Eo]at bN;have hB0:Below w.heap.size w ((w.alloc (.cells #[.slice none 0 0] 87)).alloc (.cells #[.string s] 9)):=((aK _ w).alloc (ay _) _).alloc (by simp) _;refine wpIn_rangeFunc_ownG hro h1 (gf:=209) (lb:= #[.pointer (some ⟨w.heap.size+1,0,none⟩)]) rfl h5 (enters_of Tryz.func209 (by kernel_rfl) rfl)
  (Nf F (n - 1) h5 hro (by omega) (w.heap.size+1) t s hs _ (by simp) bN.cell) walksK_t walksK_b (aK _ _) (λ_=>rfl)
  (λpre W=>(∃v,Boxed W w.heap.size 87 v/\W.ownsRow w.heap.size 21 1 v (pre:List (Nat×Nat)).length (Eu pre)/\True)/\Below w.heap.size w W)
  (λ_ _ _=>False)
  (OwnFrom.and (Own.from (holdsRow_own w.heap.size w.heap.size 87 21 1 (λpre=>pre.length) (λpre=>Eu pre) (λ_ _=>True)) _) (ownFrom_below (ay _) (by simp;omega)))
  (λ_ _ _ _ _ hs _ _=>hs)
  ⟨⟨_,bO.alloc _,World.ownsRow_nil _ _ _ _,trivial⟩,hB0⟩
  (λx=>{tmps:= #[.string s,undef, .slice none 0 0, .pointer (some ⟨w.heap.size,0,none⟩),undef, .int .i32 x.2, .string s, .func (.func 209) #[] #[.pointer (some ⟨w.heap.size+1,0,none⟩)], .int .i64 x.1, .int .i32 x.2,undef,undef,undef,undef,undef],defers:=[]}) ?assign ?body ?done ?stop
 case assign=> intro l x W K hK;simp only[Yj];gi_wp2;exact hK
 case body=> rintro l pre x W ⟨⟨v,hv,hrow,_⟩,hB⟩ hlt;have hc:=hv.cell;gi_wp2_with (gi_at_builtin;refine wpListIn_append_own _ rfl _ _ 87 rfl w.heap.size 21 i0 (.int .i32 0) 1 4 Tryz.underlying87 hi hz0 hz1 hz2 rfl (by decide) _ _ _ rfl (hrow.alloc _) ⟨W.heap.size,0,none⟩ 1 1 [.int .i32 x.2] rfl rfl (cell_one_new _ _ _) (by simp[Value.oneCell']) (by simp only[maxLen];omega) (by omega) (by have:=hB.size;simp;omega) ?_;intro v' w1 hown' hgrow _;obtain⟨g',cap',rfl⟩:=ownsRow_succ hown';obtain⟨hv1,hv2,hr2,hk2,hb2⟩:=hv.appended (by decide) hrow hB.size (Nat.le_refl _) hown' hgrow;have hc1:=hv1.cell;have hf1:=hv1.frozen);exact⟨hk2.from _,hk2.walks,⟨_,hv2,by simpa[Eu]using hr2,trivial⟩,hB.trans hb2⟩
 case done=> rintro D ys W hD rfl ⟨⟨v,hv,hrow,_⟩,hB⟩ hK;have hc:=hv.cell;gi_wp2;refine⟨by simp, .inl ⟨_,_,rfl,run_takeDeferred hK,?_⟩⟩;exact⟨_,results_tmp rfl _ _ _,v,rfl,ownsRow_putObj hrow _ hK rfl,hB.trans (belowK_b (w:=w) (ay _) W D _ _ (by simp at hD;omega) hK rfl rfl)⟩
 case stop=> rintro D c pre W _ _ h _;exact h.elim
def dD (t:List UInt8):List Int:=(marks t).map λx=>(x.2:Int)
def QZ (t:List UInt8) (W:World) (e:Ending) (w':World):Prop:=∃v,e= .returned v/\fA w' v (dD t)/\Below W.heap.size W w'
theorem Va (t:List UInt8) (hlen:t.length<=1000000) (w:World):Calls Tryz.prog 97 #[.string ⟨t.toArray⟩] w (QZ t w):=by
 refine(callsIn_wide (n:=3)).1 ((U9 _ 3 trivial trivial trivial rfl (ay _) t _ rfl hlen w).mono ?_);rintro e w' ⟨v,rfl,hrow,hb⟩;refine⟨v,rfl,?_,hb⟩;have hl:(dD t).length=(marks t).length:=by simp[dD]
 rcases hrow.2 with⟨h2,h0⟩|⟨g,cap,cur,hv,hbg,hg,hnc,hcm,hcs,htk⟩
 ·rw[h2];refine⟨none,0,by rw[hl,h0],by rw[hl,h0];exact ay _,λc=> ?_⟩;rw[hl,h0]at c;omega
 ·rw[hv,<-hl];refine⟨_,_,rfl,by rw[hl];exact hnc,λ_=>⟨g,0,rfl,λj hj=> ?_⟩⟩;have hx:=hrow.cells (g:=g) (by rw[hv];rfl) j (.int .i32 ((dD t).getD j 0)) ?_
  ·rw[<-iQ];exact hx
  ·unfold Eu dD;rw[fq,aG,fq];rw[hl]at hj;rw[aS hj];rfl
end
section
open Folds (dec bn bL)
def Tryz.lays197_ren:Go.Shelf.Ren:=⟨λ|197=>145|260=>212|n=>n,λ|9=>9|21=>21|3=>3|4=>4|5=>5|105=>160|119=>212|0=>0|46=>166|139=>295|138=>294|n=>n,λ|3=>2|4=>3|n=>n⟩
theorem Tryz.lays197:Go.Proofs.Lays.n197 Tryz.prog Tryz.lays197_ren:={
 mixed:=by kernel_rfl
 f197:=Tryz.func145.trans (fJ some (by kernel_rfl))
 f260:=Tryz.func212.trans (fJ some (by kernel_rfl))
 t0:=Tryz.underlying0
 a0:=Tryz.isAgg0
 z0:=Tryz.sizeOf0
 v0:=Tryz.zeroValue0
 t3:=Tryz.underlying3
 a3:=Tryz.isAgg3
 z3:=Tryz.sizeOf3
 v3:=Tryz.zeroValue3
 t4:=Tryz.underlying4
 a4:=Tryz.isAgg4
 z4:=Tryz.sizeOf4
 v4:=Tryz.zeroValue4
 t5:=Tryz.underlying5
 a5:=Tryz.isAgg5
 z5:=Tryz.sizeOf5
 v5:=Tryz.zeroValue5
 t9:=Tryz.underlying9
 a9:=Tryz.isAgg9
 z9:=Tryz.sizeOf9
 v9:=Tryz.zeroValue9
 t21:=Tryz.underlying21
 a21:=Tryz.isAgg21
 z21:=Tryz.sizeOf21
 v21:=Tryz.zeroValue21
 t46:=Tryz.underlying166
 a46:=Tryz.isAgg166
 z46:=Tryz.sizeOf166
 v46:=Tryz.zeroValue166
 t105:=Tryz.underlying160
 a105:=Tryz.isAgg160
 z105:=Tryz.sizeOf160
 v105:=Tryz.zeroValue160
 t119:=Tryz.underlying212
 a119:=Tryz.isAgg212
 z119:=Tryz.sizeOf212
 t138:=Tryz.underlying294
 a138:=Tryz.isAgg294
 z138:=Tryz.sizeOf294
 v138:=Tryz.zeroValue294
 t139:=Tryz.underlying295
 a139:=Tryz.isAgg295
 z139:=Tryz.sizeOf295
 v139:=Tryz.zeroValue295
 g3:=by kernel_rfl
 g4:=by kernel_rfl}
theorem aeC (l:List UInt8) (h0:l≠[]):Lib.decodeGo ⟨l.toArray⟩=dec l:=by unfold Lib.decodeGo;rw[aj (by rw[size_mk l _ rfl];cases l with|nil=>exact absurd rfl h0|cons a b=>simp)];have:=lV l 0 _ rfl;rwa [List.drop_zero]at this
theorem Ng (l:List UInt8) (h0:l≠[]) (w:World) (hT:Lib.Utf8Tabs 2 3 w):
 Calls Tryz.prog 145 #[.string ⟨l.toArray⟩] w λe w'=>e= .returned (.tuple #[.int .i32 (dec l).1, .int .i64 (dec l).2])/\Below w.heap.size w w':=by
 have h:=Any.utf8_DecodeRuneInString Tryz.lays197 ⟨l.toArray⟩ w hT;rw[aeC l h0]at h;exact h
theorem qC (l:List UInt8) (h0:l≠[]) (w:World) (hT:Lib.Utf8Tabs 2 3 w):
 Calls Tryz.prog 99 #[.string ⟨l.toArray⟩] w λe w'=>e= .returned (.tuple #[.int .i32 (dec l).1, .int .i64 (dec l).2])/\Below w.heap.size w w':=by
 have hd:=Ng l h0;obtain⟨s,hs⟩:∃s:ByteArray,(⟨l.toArray⟩:ByteArray)=s:=⟨_,rfl⟩
 have h2:s.toList.isEmpty=false:=by rw[<-hs,ByteArray.toList_mk];cases l with|nil=>exact absurd rfl h0|cons a b=>rfl
 have h1: !s.toList.isEmpty:=by rw[h2];rfl
 rw[hs]at hd⊢;clear hs h0;go_enter Tryz.func99,Tryz.ntmps99;go_wp2_with (go_at_call 145;refine(hd _ hT).mono ?_;rintro e w' ⟨rfl,hb⟩);go_ret2;exact⟨rfl,hb⟩
abbrev Pc:=Nat×Nat×List UInt8
def bR (l:List Pc):List Value:=l.flatMap λp=>[.int .i64 p.1, .int .i32 p.2.1, .string ⟨p.2.2.toArray⟩]
theorem uq (l x:List Pc):bR (l++x)=bR l++bR x:=by simp[bR]
def Yl (enc:Nat->Nat->List UInt8) (t:List UInt8):Nat->Nat->Nat->List Pc
 |0,_,_=>[]
 |n+1,i,e=>if e<t.length then(e,(dec (t.drop e)).1,Folds.one (enc i) (t.drop e))::Yl enc t n (i+1) (e+(dec (t.drop e)).2)else[]
def uw (k:Nat) (fin:Nat->Bool) (i r:Nat):List UInt8:=if(k=0/\r=931)/\fin i=true then[207,130]else mX (formV r k)
def Bn (k:Nat) (fin:Nat->Bool) (t:List UInt8):List Pc:=Yl (uw k fin) t t.length 0 0
theorem formsT_len:(formsT.all λp=>p.2.all λl=>decide (l.length<=3))=true:=by decide+kernel
theorem formV_len (r:Int) (k:Nat):(formV r k).length<=3:=by
 unfold formV;cases h:formsOf r with
 |none=>dsimp only;split<;>simp
 |some fs=>
  unfold formsOf at h;obtain⟨p,hp,rfl⟩:=Cq.1 h;have:=dZ.1 formsT_len p (List.mem_of_find?_eq_some hp);dsimp only;rcases aF k p.2.length with c|c;·rw[aG,aS c];have:=dZ.1 this _ (iN c);exact gK this
  ·rw[aG,wV c];simp
theorem jH {w w':World} {g0 g1:Nat} (h:Below w.heap.size w w') (hT:Lib.Utf8Tabs g0 g1 w):Lib.Utf8Tabs g0 g1 w':=Yh (Fr.of_below (T:=λ_=>False) h (ay _)) hT id id
def Vb (v:Value) (rs:List Int) (fin:Nat->Bool) (W:World):Prop:=
 ∀(w:World) (A:Option Addr) (c i:Nat),Below W.heap.size W w->fA w (.slice A rs.length c) rs->i<rs.length->Calls Tryz.prog 98 #[v, .slice A rs.length c, .int .i64 i] w λe w'=>e= .returned (.bool (fin i))/\Below w.heap.size w w'
def Q0 (l:List Pc) (W:World) (e:Ending) (w':World):Prop:=∃v,e= .returned v/\w'.ownsRow W.heap.size 83 3 v l.length (bR l)/\Below W.heap.size W w'
structure WL (W:World) (s:ByteArray) (vl:Value) (e:Nat) (acc:List Pc) (w:World):Prop where
 aN:Below W.heap.size W w
 it:w.heap[W.heap.size]? =some (.stringIter s e)
 own:w.ownsRow W.heap.size 83 3 vl acc.length (bR acc)
theorem iZ {w w':World} {k:Nat} {o:Obj} (h:Below w.heap.size w w') (hk:w.heap[k]? =some o):w'.heap[k]? =some o:=(h.block k (eH hk)).trans hk
theorem own_below {w w':World} {base:Nat} {e:TypeId} {size n:Nat} {v:Value} {xs:List Value} (hb:Below w.heap.size w w') (h:w.ownsRow base e size v n xs):w'.ownsRow base e size v n xs:=(Fr.of_below (T:=λ_=>False) hb (ay _)).own h (λ_ _=>id)
theorem own_iterAt {w:World} {base k:Nat} {s s':ByteArray} {p p':Nat} {e:TypeId} {size n:Nat} {v:Value} {xs:List Value} (hk:w.heap[k]? =some (.stringIter s p)) (h:w.ownsRow base e size v n xs):(w.iterAt k s' p').ownsRow base e size v n xs:=by
 refine⟨h.1,?_⟩;rcases h.2 with h2|⟨g,cap,cur,hv,hb,hg,r⟩
 ·exact .inl h2
 ·have n3:g≠k:=by rintro rfl;rw[hk]at hg;cases hg
  exact .inr ⟨g,cap,cur,hv,hb,(iterAt_other w k g s' p' n3).trans hg,r⟩
theorem WL.below {W:World} {s:ByteArray} {vl:Value} {e:Nat} {acc:List Pc} {w w':World} (h:WL W s vl e acc w) (hb:Below w.heap.size w w'):WL W s vl e acc w':=
 ⟨h.aN.trans (hb.mono h.aN.size),iZ hb h.it,own_below hb h.own⟩
theorem WL.iter {W:World} {s:ByteArray} {vl:Value} {e e':Nat} {acc:List Pc} {w:World} (h:WL W s vl e acc w):WL W s vl e' acc (w.iterAt W.heap.size s e'):=
 ⟨below_iterAt h.aN (ay _) s e',iterAt_heap w _ s e e' h.it,own_iterAt h.it h.own⟩
theorem Nh:(Tryz.prog.info? 83).map (λi=>(i.zero,i.size,i.bytes))=some (some (.agg #[.int .i64 0, .int .i32 0, .string ⟨#[]⟩]),3,32):=by kernel_rfl
theorem bA {w:World} {base:Nat} {e:TypeId} {v:Value} {size n:Nat} {xs:List Value} (h:w.ownsRow base e size v n xs):∃A c,v= .slice A n c/\n<=c:=by obtain⟨A,c,h1,_,_,h2,_⟩:=qB h;exact⟨A,c,h1,h2⟩
theorem Vd (t:List UInt8) (e:Nat) (s:ByteArray) (hs:(⟨t.toArray⟩:ByteArray)=s):s.extract e s.size=⟨(t.drop e).toArray⟩:=by subst hs;rw[ByteArray.extract_mk,xG];simp[ByteArray.size]
theorem Ym (t:List UInt8) (e:Nat) (s:ByteArray) (hs:(⟨t.toArray⟩:ByteArray)=s):s.extract e (e+1)=⟨((t.drop e).take 1).toArray⟩:=by subst hs;rw[ByteArray.extract_mk,uW]
theorem WL.own' {W:World} {s:ByteArray} {A:Option Addr} {m c e:Nat} {acc:List Pc} {w:World} (h:WL W s (.slice A m c) e acc w):w.ownsRow W.heap.size 83 3 (.slice A m c) m (bR acc):=by have h1:=h.own;obtain⟨A',c',he,_⟩:=bA h1;injection he with _ he _;rw[<-he]at h1;exact h1
theorem dX {w:World} {base:Nat} {e:TypeId} {size n:Nat} {v:Value} {xs:List Value} {o:Obj} (h:w.ownsRow base e size v n xs):(w.alloc o).ownsRow base e size v n xs:=own_below ((aK _ _).alloc (ay _) _) h
theorem iR {w:World} {b:Nat} {o:Obj} (h:b<=w.heap.size):b<=(w.alloc o).heap.size:=by rw[Eo];omega
theorem lW (w:World) (a b c:Value) (t:TypeId):∀j u,[a,b,c][j]? =some u->(w.alloc (.cells #[a,b,c] t)).cell? ((⟨w.heap.size,0,none⟩:Addr).add j)=some u:=by intro j u hu;rw[iQ,bI,fu _ _ _ _ _ _ (jl w _),<-hu];simp
theorem lX (a b:Int) (t:List UInt8):∀u∈[Value.int .i64 a, .int .i32 b, .string ⟨t.toArray⟩],u.oneCell'=true:=by intro u hu;simp at hu;rcases hu with rfl|rfl|rfl<;>rfl
theorem WL.grown {W:World} {s:ByteArray} {vl v':Value} {e m at_ r:Nat} {X:List UInt8} {acc:List Pc} {w w':World} {o:Obj} (h:WL W s vl e acc w)
 (ho:w'.ownsRow W.heap.size 83 3 v' m (bR acc++[.int .i64 at_, .int .i32 r, .string ⟨X.toArray⟩])) (hg:(w.alloc o).grownBy w' vl.ownBlock):WL W s v' e (acc++[(at_,r,X)]) w':=by
 have hb1:Below W.heap.size W (w.alloc o):=h.aN.alloc h.aN.size o;have hown:(w.alloc o).ownsRow W.heap.size 83 3 vl acc.length (bR acc):=dX h.own;have hm:m=acc.length+1:=by have h1:=ho.1;have h2:(bR acc).length=acc.length*3:=hown.1;simp only[bV,bT,mh,h2]at h1;omega
 refine⟨hb1.grown hg hb1.size (λk hk=>(dO hown hk).1),?_,?_⟩
 ·rw[hg.block _ (bJ (eH h.it) (by rw[Eo];omega)) ?_]
  ·exact(Below.heap_alloc w o _ (eH h.it)).trans h.it
  ·intro hk;obtain⟨_,_,cur,hcur⟩:=dO hown hk.symm;rw[(Below.heap_alloc w o _ (eH h.it)).trans h.it]at hcur;cases hcur
 ·rw[uq];simp only[bV,bT,mh,bI];rw[<-hm];exact ho
theorem LEN {n e:Nat} (m:Nat) (h1:m<=e) (h2:e<=n) (h3:n<=100000):m+1<=maxLen/\(m+1)*32<=0x800000000000:=⟨by simp only[maxLen];omega,by omega⟩
end
def Tryz.lays169_ren:Go.Shelf.Ren:=⟨λ|169=>82|n=>n,λ|70=>127|9=>9|0=>0|72=>129|37=>65|127=>205|3=>3|5=>5|n=>n,λ|n=>n⟩
theorem Tryz.lays169:Go.Proofs.Lays.n169 Tryz.prog Tryz.lays169_ren:={
 mixed:=by kernel_rfl
 f169:=Tryz.func82.trans (fJ some (by kernel_rfl))
 t0:=Tryz.underlying0
 a0:=Tryz.isAgg0
 z0:=Tryz.sizeOf0
 v0:=Tryz.zeroValue0
 t3:=Tryz.underlying3
 a3:=Tryz.isAgg3
 z3:=Tryz.sizeOf3
 v3:=Tryz.zeroValue3
 t9:=Tryz.underlying9
 a9:=Tryz.isAgg9
 z9:=Tryz.sizeOf9
 v9:=Tryz.zeroValue9
 t37:=Tryz.underlying65
 a37:=Tryz.isAgg65
 z37:=Tryz.sizeOf65
 v37:=Tryz.zeroValue65
 t70:=Tryz.underlying127
 a70:=Tryz.isAgg127
 z70:=Tryz.sizeOf127
 v70:=Tryz.zeroValue127
 t72:=Tryz.underlying129
 a72:=Tryz.isAgg129
 z72:=Tryz.sizeOf129
 v72:=Tryz.zeroValue129
 t127:=Tryz.underlying205
 a127:=Tryz.isAgg205
 z127:=Tryz.sizeOf205
 v127:=Tryz.zeroValue205}
theorem Yn:Builder.Extra Tryz.prog Tryz.lays169_ren:={
 sizeBuilder:=by kernel_rfl
 liesBuilder:=by kernel_rfl
 t5:=Tryz.underlying5
 a5:=Tryz.isAgg5
 z5:=Tryz.sizeOf5
 v5:=Tryz.zeroValue5
 infoByte:=by kernel_rfl
 cellsByte:=by kernel_rfl
 sizeByte:=by kernel_rfl
 neB5:=by decide
 }
theorem KS:(Tryz.prog.info? 129).map (λi=>i.size)=some 2:=by kernel_rfl
theorem Ve:liesAt Tryz.prog Tryz.prog.depth 129 (2/Tryz.prog.cellsOf 129) 0 129 1=true:=by kernel_rfl
theorem Ni (b:Nat) (w:World) (h0:w.cell? ⟨b,0,none⟩=some (.pointer (some ⟨b,0,none⟩))):
 Calls Tryz.prog 131 #[.pointer (some ⟨b,0,none⟩)] w λe w'=>e= .returned (.tuple #[])/\w'=w:=by
 obtain⟨j,hj,_⟩:=Cq.1 KS;go_enter Tryz.func131,Tryz.ntmps131;go_wp2;rw[Lib.run_neq_ptr_same w _ Tryz.underlying127 hj];go_wp2;go_end0;exact⟨rfl,rfl⟩
theorem KT (b:Nat) (w:World) (h0:w.cell? ⟨b,0,none⟩=some (.pointer none)) (hsh:w.shape? b=some (129,2)) (hfz:w.frozen? ⟨b,0,none⟩=false):
 Calls Tryz.prog 131 #[.pointer (some ⟨b,0,none⟩)] w λe w'=>e= .returned (.tuple #[])/\w'=w.setCell ⟨b,0,none⟩ (.pointer (some ⟨b,0,none⟩)):=by
 obtain⟨j,hj,hjs⟩:=Cq.1 KS;go_enter Tryz.func131,Tryz.ntmps131;go_wp2;rw[Lib.run_to_unsafe w ⟨b,0,none⟩ Tryz.underlying127 Tryz.underlying241 hj (by rw[hjs];decide) hsh (Nat.zero_lt_succ 1)];simp only[Result.andThen];rw[Oper.upon_value];go_wp2;rw[run_callFunc_extern Tryz.func185 (by kernel_rfl) (by kernel_rfl) (by kernel_rfl) (e:=Extern.AbiNoEscape.same) (by kernel_rfl),Lib.run_noEscape];simp only[Result.andThen];rw[Oper.upon_value];go_wp2;rw[Lib.run_from_unsafe w ⟨b,0,none⟩ Tryz.underlying241 Tryz.underlying127 hj hsh Ve];simp only[Result.andThen];rw[Oper.upon_value];go_wp2;go_end0;exact⟨rfl,rfl⟩
theorem Vf (B b:Nat) (bs:List Value) (w:World) (h:IsBuilderF 129 5 B b bs w):
 Calls Tryz.prog 131 #[.pointer (some ⟨b,0,none⟩)] w λe w'=>e= .returned (.tuple #[])/\BuilderAtF 129 5 B b (.pointer (some ⟨b,0,none⟩)) bs w'/\Below B w w'/\∀k,k≠b->w'.heap[k]? =w.heap[k]? :=by
 rcases h with h|h;·refine(KT b w h.cell0 h.shape h.frozen0).mono ?_;rintro e w' ⟨rfl,rfl⟩;exact⟨rfl,h.used _,(aK B w).setCell (p:=⟨b,0,none⟩) h.1 _,λk hk=>Below.heap_setCell w ⟨b,0,none⟩ _ k hk⟩
 ·refine(Ni b w h.cell0).mono ?_;rintro e w' ⟨rfl,rfl⟩;exact⟨rfl,h,aK B _,λ_ _=>rfl⟩
def KU (B:Nat) (w w':World):Prop:=∀k o,w.heap[k]? =some o->k≠B->(∀cs fr,o≠.cells cs 5 fr)->w'.heap[k]? =some o
theorem Ev (B:Nat) (a l:List UInt8) (w:World) (h:IsBuilderF 129 5 B B (byteCells a) w) (hlen:a.length+l.length<=0x800000000000) (hBw:B<=w.heap.size):
 Calls Tryz.prog 81 #[.pointer (some ⟨B,0,none⟩), .string ⟨l.toArray⟩] w λe w'=>(∃v,e= .returned v)/\IsBuilderF 129 5 B B (byteCells (a++l)) w'/\Below B w w'/\KU B w w':=by
 have hl:a.length=(byteCells a).length:=by rw[byteCells_length]
 rw[hl]at hlen;have Fy:byteCells (a++l)=byteCells a++strCells ⟨l.toArray⟩:=by rw[byteCells_append,strCells_eq]
 rw[Fy];obtain⟨s,hs⟩:∃s:ByteArray,(⟨l.toArray⟩:ByteArray)=s:=⟨_,rfl⟩
 have hss:s.size=l.length:=size_mk l s hs;rw[<-hss]at hlen;rw[hs];obtain⟨bs,hbs⟩:∃bs,byteCells a=bs:=⟨_,rfl⟩
 rw[hbs]at h hlen⊢;clear hs hss hl Fy hbs;obtain⟨i0,hi,hz0,hz1,hz2⟩:=gW Aj;go_enter Tryz.func81,Tryz.ntmps81;go_wp2_with (go_at_call 131;refine(Vf B B bs _ h).mono ?_);rintro e w1 ⟨rfl,h1,hb1,hot⟩;obtain⟨hB,v,hbk,hown,hne⟩:=h1;have c0:w1.cell? ⟨B,0,none⟩=some (.pointer (some ⟨B,0,none⟩)):=by rw[Lib.cell_of_heap hbk];rfl
 have c1:w1.cell? ⟨B,1,none⟩=some v:=by rw[Lib.cell_of_heap hbk];rfl
 go_wp2_with (at_builtin;refine Lib.wpList_append_own_stringF _ rfl _ _ 65 9 rfl B 5 i0 Tryz.underlying65 Tryz.underlying9 hi hz0 hz1 hz2 _ _ _ rfl hown s rfl ?c3 ?c4 ?c5 ?_);case c3=>unfold maxLen;omega
 case c4=>omega
 case c5=>have:=hb1.size;omega
 intro v' w2 hown' hgrow _;have hlt:B<w1.heap.size:=eH hbk;have hb2:w2.heap[B]? =some (.cells #[.pointer (some ⟨B,0,none⟩),v] 129 (0,0)):=(hgrow.block B hlt (λe=>hne e.symm)).trans hbk;have d0:w2.cell? ⟨B,0,none⟩=some (.pointer (some ⟨B,0,none⟩)):=by rw[Lib.cell_of_heap hb2];rfl
 have d1:w2.cell? ⟨B,1,none⟩=some v:=by rw[Lib.cell_of_heap hb2];rfl
 have f1:w2.frozen? ⟨B,1,none⟩=false:=Lib.frozen_of_heap hb2 1;obtain⟨ao,n',cap,rfl⟩:∃ao n' cap,v'= .slice ao n' cap:=by
  rcases hown'.2 with⟨hv,_⟩|⟨g,cap,cur,fz,hv,_⟩
  ·exact⟨_,_,_,hv⟩
  ·exact⟨_,_,_,hv⟩
 go_wp2;go_ret2;refine⟨⟨_,rfl⟩,Or.inr ?_,?_,?_⟩;·exact Lib.BuilderAtF.put (T:=129) (e:=5) hB hb2 (bs':=bs++Lib.strCells s) (by simpa[Lib.strCells_length]using hown') (by decide)
 ·exact(hb1.grown hgrow (by have:=hb1.size;omega) (λk hk=>(hown.lt k hk).1)).setCell (p:=⟨B,1,none⟩) hB _
 ·intro k o hk hkB ho;have h1:w1.heap[k]? =some o:=(hot k hkB).trans hk;refine(Below.heap_setCell w2 ⟨B,1,none⟩ _ k hkB).trans ((hgrow.block k (dM.1 h1).1 (λe=> ?_)).trans h1);rcases hown.2 with⟨hv,_⟩|⟨g,cap,cur,fz,hv,hbg,hg,_⟩
  ·rw[hv]at e;cases e
  ·rw[hv]at e;injection e with e;rw[e,hg]at h1;injection h1 with h1;exact ho _ _ h1.symm
theorem Gs (B:Nat) (a:List UInt8) (w:World) (h:IsBuilderF 129 5 B B (byteCells a) w) (hBw:B<=w.heap.size):
 Calls Tryz.prog 82 #[.pointer (some ⟨B,0,none⟩)] w λe w'=>e= .returned (.string ⟨a.toArray⟩)/\Below B w w'/\KU B w w':=by
 refine(Any.Builder_String_any_k Tryz.lays169 Yn B B a w h hBw).mono ?_;rintro e w' ⟨rfl,_,h2,h3⟩;exact⟨rfl,h2,λk o hk hb ho=>h3 k o hk (λe=>hb (bW e)) ho⟩
def kW (l:List Pc):List UInt8:=l.flatMap (·.2.2)
theorem KV (l:List Pc):(bR l).length=l.length*3:=by
 induction l with
 |nil=>rfl
 |cons a l ih=>show(_++bR l).length=_;rw[bV,ih];simp;omega
def Pn:Pc:=(0,0,[])
theorem uy:∀(l:List Pc) (k:Nat),k<l.length->(bR l)[k*3]? =some (.int .i64 (l.getD k Pn).1)/\(bR l)[k*3+1]? =some (.int .i32 (l.getD k Pn).2.1)/\(bR l)[k*3+2]? =some (.string ⟨(l.getD k Pn).2.2.toArray⟩)
 |[],k,h=>by simp at h
 |a::l,0,_=>⟨rfl,rfl,rfl⟩
 |a::l,k+1,h=>by
  have:=uy l k (by simpa using h);have e:∀j,(bR (a::l))[(k+1)*3+j]? =(bR l)[k*3+j]? :=λj=>by show([Value.int .i64 a.1, .int .i32 a.2.1, .string ⟨a.2.2.toArray⟩]++bR l)[(k+1)*3+j]? =_;rw[pG (by simp;omega)];congr 1;simp;omega
  rw[e 1,e 2,show(k+1)*3=(k+1)*3+0 from rfl,e 0];exact this
theorem Q5 (l:List Pc) {k:Nat} (hk:k<l.length):kW (l.take (k+1))=kW (l.take k)++(l.getD k Pn).2.2:=by rw[List.take_succ_eq_append_getElem hk];unfold kW;rw[List.flatMap_append,aG,aS hk];simp
theorem Yo (l:List Pc) (k:Nat):(kW (l.take k)).length<=(kW l).length:=by
 conv=>rhs;rw[<-qO k l]
 unfold kW;rw[List.flatMap_append,bV];omega
def Ew (l:List Pc) (W:World) (e:Ending) (w':World):Prop:=e= .returned (.string ⟨(kW l).toArray⟩)/\Below W.heap.size W w'
theorem Q6 (l:List Pc) (g off c n:Nat) (W:World) (hn:l.length=n) (hsm:n<=1000000) (Fy:(kW l).length<=1000000000)
 (hc:∀k,k<n->W.cell? ⟨g,off+k*3,none⟩=some (.int .i64 (l.getD k Pn).1)/\W.cell? ⟨g,off+k*3+1,none⟩=some (.int .i32 (l.getD k Pn).2.1)/\W.cell? ⟨g,off+k*3+2,none⟩=some (.string ⟨(l.getD k Pn).2.2.toArray⟩)):
 Calls Tryz.prog 57 #[.slice (some ⟨g,off,none⟩) n c] W (Ew l W):=by
 have HC:=ah hc;have HN:=ah hn;have ahI:=ah Fy
 clear hc hn Fy
 go_enter Tryz.func57,Tryz.ntmps57
 go_wp2
 go_loopw [8] (λi wr=>∃k:Nat,k<=n/\i= .int .i64 k/\IsBuilderF 129 5 W.heap.size W.heap.size (byteCells (kW (l.take k))) wr/\Below W.heap.size W wr) (λi _=>n-(RowKit.intOf i).toNat)
 case atStart=>exact⟨0,aL _,rfl,IsBuilderF.of (fresh_isBuilder _ _ W),(aK _ W).alloc (ay _) _⟩
 case round=>
  obtain⟨k,hk,rfl,hI,hb⟩:=hrel
  have HI:=ah hI;have HB:=ah hb;clear hI hb
  by_cases hlt:k<n
  ·obtain⟨f0,f1,f2⟩:=HC.out k hlt
   have hg:=aW f0
   have g0:wr.cell? ⟨g,off+k*3,none⟩=_:=(HB.out.cell (p:=⟨g,off+k*3,none⟩) hg).trans f0
   have g1:wr.cell? ⟨g,off+k*3+1,none⟩=_:=(HB.out.cell (p:=⟨g,off+k*3+1,none⟩) hg).trans f1
   have g2:wr.cell? ⟨g,off+k*3+2,none⟩=_:=(HB.out.cell (p:=⟨g,off+k*3+2,none⟩) hg).trans f2
   have HT:=ah (Q5 l (k:=k) (by rw[HN.out];exact hlt))
   obtain⟨p,hp⟩:∃p,l.getD k Pn=p:=⟨_,rfl⟩
   rw[hp]at g0 g1 g2 HT
   clear hp f0 f1 f2 hg
   obtain⟨pa,pr,px⟩:=p
   dsimp only at g0 g1 g2 HT
   have HL:=ah (show(kW (l.take k)).length+px.length<=0x800000000000 by
    have h1:=Yo l (k+1)
    rw[HT.out,bV]at h1
    have h2:=ahI.out
    omega)
   go_wp2_with (go_at_call 81
                refine(Ev W.heap.size (kW (l.take k)) px _ (HI.out.alloc _) HL.out (iR HB.out.size)).mono ?_
                rintro x wz ⟨⟨vz,rfl⟩,hI2,hb2,_⟩
                have HI2:=ah hI2;have HB2:=ah ((HB.out.alloc HB.out.size _).trans hb2);clear hI2 hb2)
   refine⟨⟨k+1,hlt,by go_num,?_,HB2.out⟩,by simp[RowKit.intOf];omega⟩
   rw[HT.out];exact HI2.out
  ·obtain rfl:k=n:=by omega
   have htk:l.take k=l:=xG (by rw[HN.out];exact ay _)
   rw[htk]at HI
   clear htk
   go_wp2_with (go_at_call 82
                refine(Gs W.heap.size (kW l) _ HI.out HB.out.size).mono ?_
                rintro x wz ⟨rfl,hb2,_⟩
                have HB2:=ah (HB.out.trans hb2);clear hb2)
   go_ret
   exact⟨rfl,HB2.out⟩
section
open Folds (dec bn bL)
theorem Vg (k:Nat) (fin:Nat->Bool) (i r:Nat):(uw k fin i r).length<=12:=by
 unfold uw;split;·simp
 ·exact bF (lU _) (by have:=formV_len r k;omega)
theorem Po (enc:Nat->Nat->List UInt8) (h:∀i r,(enc i r).length<=12) (t:List UInt8):∀n i e,(kW (Yl enc t n i e)).length<=12*n/\(Yl enc t n i e).length<=n
 |0,_,_=>⟨ay _,ay _⟩
 |n+1,i,e=>by
  show(kW (if e<t.length then _ else _)).length<=_/\(if e<t.length then _ else _:List Pc).length<=_;by_cases c:e<t.length
  ·rw[au c];obtain⟨h1,h2⟩:=Po enc h t n (i+1) (e+(dec (t.drop e)).2);have h3:(Folds.one (enc i) (t.drop e)).length<=12:=by
    unfold Folds.one;split;·rw[jh];omega
    ·exact h _ _
   refine⟨?_,by simp only[bT];omega⟩;show(Folds.one (enc i) (t.drop e)++kW _).length<=_;rw[bV];omega
  ·rw[aj c];exact⟨aL _,aL _⟩
theorem Q7 (l:List Pc) (v:Value) (base:Nat) (W:World) (h:W.ownsRow base 83 3 v l.length (bR l)) (hsm:l.length<=1000000) (Fy:(kW l).length<=1000000000):
 Calls Tryz.prog 57 #[v] W (Ew l W):=by
 rcases h.2 with⟨h2,h0⟩|⟨g,cap,cur,hv,hbg,hg,hnc,hcm,hcs,htk⟩
 ·subst h2
  obtain rfl:l=[]:=tN h0
  go_enter Tryz.func57,Tryz.ntmps57
  go_wp2_with fail
  go_loopw [8] (λi wr=>i= .int .i64 (0:Nat)/\IsBuilderF 129 5 W.heap.size W.heap.size (byteCells []) wr/\Below W.heap.size W wr) (λ_ _=>0)
  case atStart=>exact⟨rfl,IsBuilderF.of (fresh_isBuilder _ _ W),(aK _ W).alloc (ay _) _⟩
  case round=>
   obtain⟨rfl,hI,hb⟩:=hrel
   go_wp2_with (go_at_call 82
                refine(Gs W.heap.size [] _ hI hb.size).mono ?_
                rintro x wz ⟨rfl,hb2,_⟩)
   go_ret
   exact⟨rfl,hb.trans hb2⟩
 ·have hr:=yZ (g:=g) h (by rw[hv];rfl)
  rw[hv]
  refine Q6 l g 0 cap l.length W rfl hsm Fy λk hk=> ?_
  obtain⟨f0,f1,f2⟩:=uy l k hk
  have c0:=hr _ _ f0;have c1:=hr _ _ f1;have c2:=hr _ _ f2
  rw[iQ]at c0 c1 c2
  exact⟨c0,c1,c2⟩
end
theorem uz {w:World} {base:Nat} {e:TypeId} {size n c:Nat} {A:Option Addr} {xs:List Value} (h:w.ownsRow base e size (.slice A n c) n xs) (hn:0<n):∃g,A=some ⟨g,0,none⟩:=by obtain⟨g,cap,hv,_⟩:=h.form hn;injection hv with hv;exact⟨g,hv⟩
def dF (l:List Int):List Value:=l.map (Value.int .i64)
theorem qD (l x:List Int):dF (l++x)=dF l++dF x:=by simp[dF]
theorem lY:(Tryz.prog.info? 3).map (λi=>(i.zero,i.size,i.bytes))=some (some (.int .i64 0),1,8):=by kernel_rfl
theorem gX (w:World) (x:Value) (ty:TypeId):Src (w.alloc (.cells #[x] ty)) (some ⟨w.heap.size,0,none⟩) 1 [x]:=by
 refine⟨rfl,λ_=>⟨_,rfl,λj u hu=> ?_⟩⟩;match j,hu with
 |0,hu=>rw[iQ,fu _ _ _ _ _ _ (jl w _)];exact hu
 |j+1,hu=>simp at hu
theorem Vh (w:World) (x:Value) (ty:TypeId) (k:Nat) (hk:w.heap.size=k):Src (w.alloc (.cells #[x] ty)) (some ⟨k,0,none⟩) 1 [x]:=by subst hk;exact gX w x ty
theorem vW {P:Program} {o:Oper} {a:Act} {C:World->Prop} {K:Act->Prop} (v:Value) (h:∀w,C w->(execOp a.eval o).run P w= .ok (.value v) w) (hK:K (a.put o.dst v)):o.quiet P a C K:=
 ⟨v,λw hw=>by unfold Oper.quietAt;rw[h w hw];exact⟨rfl,rfl⟩,hK⟩
theorem nT {P:Program} {o:Oper} {a:Act} {C:World->Prop} {K:Act->Prop} (f:FuncId) (args:Array Value) (v:Value) (h:∀w,C w->(execOp a.eval o).run P w= .ok (.enter f args) w)
 (hc:∀w,C w->Calls P f args w λe w'=>e= .returned v/\C w') (hK:K (a.put o.dst v)):o.quiet P a C K:=
 ⟨v,λw hw=>by unfold Oper.quietAt;rw[h w hw];exact⟨rfl,hc w hw⟩,hK⟩
theorem uD {P:Program} {id:Nat} {Q:Exit->Act->World->Prop} {a:Act} {w:World} {l:List Oper} {C:World->Prop} (hm:P.follows .mixedOrders=true) (hB:Region.lexB .any l.toArray=true) (hC:C (w.drewN 1))
 (h:wpQuiet P l.toArray C (λa'=>∀w',C w'->Q .normal a' w') l a):(Code.region id l.toArray true).wp P Q a w:=wp_region_quiet (C:=C) hm hB hC (by simpa using h)
section
open Cases (smalls fO)
open Folds (dec bn bL)
open rY (bt qE)
def wH (c:Nat):List UInt8:=
 if c<0x80 then[UInt8.ofNat c]
 else if c<0x800 then[UInt8.ofNat (0xC0+c/64),UInt8.ofNat (0x80+c%64)]
 else if c<0x10000 then[UInt8.ofNat (0xE0+c/4096),UInt8.ofNat (0x80+c/64%64),UInt8.ofNat (0x80+c%64)]
 else[UInt8.ofNat (0xF0+c/262144),UInt8.ofNat (0x80+c/4096%64),UInt8.ofNat (0x80+c/64%64),UInt8.ofNat (0x80+c%64)]
theorem jc (r:Int):rZ r=true↔(0<=r/\r<=1114111/\(r<55296\/57343<r)):=by unfold rZ;simp only[aQ,dI,aY]
theorem aeD (r:Int) (h:rZ r=true):(Utf8.encode r).data.toList=wH r.toNat:=by
 have hv:Utf8.valid r=true:=by have:=(jc r).1 h;unfold Utf8.valid;simp only[aQ,dI,aY];omega
 unfold Utf8.encode wH;simp only[hv,if_true];repeat' split
 all_goals rfl
theorem Vi (r:Int) (h:rZ r=true):encR r=(Utf8.encode r).data.toList:=by unfold encR;rw[au h]
theorem abE (r:Int) (h:rZ r=true):encR r=wH r.toNat:=by rw[Vi r h,aeD r h]
theorem ofNat_lt (n:Nat) (h:n<256):(UInt8.ofNat n).toNat=n:=by rw[yB,kY (by simpa using h)]
theorem Yp (l:List UInt8):rZ ((dec l).1:Int)=true:=by rw[jc];have:=decodeN_valid l.length (bt l 0) (bt l 1) (bt l 2) (bt l 3) (qE l 0);unfold dec;omega
def Q8 (p:Int×Int):Bool:=decide (Cases.look smalls p.1=some p.2)&&decide (Cases.look fO p.1=none)&&decide (Cases.look fO p.2=some p.1)&&decide (Cases.look smalls p.2=none)&&(formsOf p.1).isNone&&(formsOf p.2).isNone&&rZ p.1&&rZ p.2
theorem ahJ:((smalls.drop 0).take 60).all Q8=true:=by decide+kernel
theorem ahK:((smalls.drop 60).take 60).all Q8=true:=by decide+kernel
theorem ahL:((smalls.drop 120).take 60).all Q8=true:=by decide+kernel
theorem ahM:((smalls.drop 180).take 60).all Q8=true:=by decide+kernel
theorem ahN:((smalls.drop 240).take 60).all Q8=true:=by decide+kernel
theorem ahO:((smalls.drop 300).take 60).all Q8=true:=by decide+kernel
theorem ahP:(smalls.drop 360).all Q8=true:=by decide+kernel
theorem Yq {p:Int×Int} (h:p∈smalls):Q8 p=true:=by
 have step:∀c,((smalls.drop c).take 60).all Q8=true->(smalls.drop (c+60)).all Q8=true->(smalls.drop c).all Q8=true:=λc h1 h2=>by rw[<-qO 60 (smalls.drop c),yI,h1,List.drop_drop,h2];rfl
 have h3:(smalls.drop 0).all Q8=true:=step 0 ahJ (step 60 ahK (step 120 ahL (step 180 ahM (step 240 ahN (step 300 ahO ahP)))));exact dZ.1 h3 p h
structure Okp (r s:Int):Prop where
 a:Cases.look smalls r=some s
 b:Cases.look fO r=none
 c:Cases.look fO s=some r
 d:Cases.look smalls s=none
 e:formsOf r=none
 f:formsOf s=none
 g:rZ r=true
 h:rZ s=true
theorem Vj {r s:Int} (h:(r,s)∈smalls):Okp r s:=by have:=Yq h;unfold Q8 at this;simp only[aQ,aY,Cn]at this;obtain⟨⟨⟨⟨⟨⟨⟨a,b⟩,c⟩,d⟩,e⟩,f⟩,g⟩,h⟩:=this;exact⟨a,b,c,d,e,f,g,h⟩
theorem KW {l:List (Int×Int)} {r s:Int} (h:Cases.look l r=some s):(r,s)∈l:=by unfold Cases.look at h;obtain⟨p,hp,rfl⟩:=Cq.1 h;have h1:=List.mem_of_find?_eq_some hp;have h2:=gK (List.find?_some (p:=λx:Int×Int=>decide (x.1=r)) hp);rw[<-h2];exact h1
theorem Q9 {r s:Int} (h:Cases.look smalls r=some s):Okp r s:=Vj (KW h)
theorem Ra {r s:Int} (h:Cases.look fO s=some r):Okp r s:=by have:=KW h;unfold fO at this;obtain⟨p,hp,he⟩:=bX.1 this;obtain⟨a,b⟩:=p;injection he with e1 e2;dsimp only at e1 e2;subst e1 e2;exact Vj hp
theorem formV_none {r:Int} (h:formsOf r=none) (k:Nat):formV r k=if k=0\/k=3 then[(Cases.pair r).1]else[(Cases.pair r).2]:=by unfold formV;rw[h]
theorem Okp.big {r s:Int} (h:Okp r s) (k:Nat):formV r k=if k=0\/k=3 then[s]else[r]:=by rw[formV_none h.e];unfold Cases.pair;rw[h.a]
theorem Okp.low {r s:Int} (h:Okp r s) (k:Nat):formV s k=if k=0\/k=3 then[s]else[r]:=by rw[formV_none h.f];unfold Cases.pair;rw[h.d,h.c]
def abG (r:Int):Bool:=[0,1,2,3].all λk=>(!(formV r k).isEmpty)&&((formV r k).all rZ&&((decide (k<3)&&(decide (r=304)||decide (r=305)))||decide ((formV r k).flatMap (λx=>formV x 3)=formV r 3)))
theorem Nj:Cases.bf.all abG=true:=by decide+kernel
theorem form_facts (r:Int) (hr:rZ r=true) (k:Nat) (hk:k<4):formV r k≠[]/\(∀x∈formV r k,rZ x=true)/\(k=3\/(r≠304/\r≠305)->(formV r k).flatMap (λx=>formV x 3)=formV r 3):=by
 cases hf:formsOf r with
 |some fs=>
  have hm:r∈Cases.bf:=by rw[<-rM,<-formsOf_iff,hf];rfl
  have:=dZ.1 (dZ.1 Nj r hm) k (by
   rcases(by omega:k=0\/k=1\/k=2\/k=3)with rfl|rfl|rfl|rfl<;>decide)
  simp only[aQ,dI,aY,Bool.not_eq_true',List.isEmpty_eq_false_iff,dZ]at this;refine⟨this.1,this.2.1,λh=> ?_⟩;rcases this.2.2 with⟨h1,h2⟩|h1
  ·rcases h with h|h
   ·omega
   ·rcases h2 with h2|h2
    ·exact absurd h2 h.1
    ·exact absurd h2 h.2
  ·exact h1
 |none=>
  cases hs:Cases.look smalls r with
  |some s=>
   have ho:=Q9 hs;have hl:=ho.low 3;have hb:=ho.big 3;rw[au (.inr rfl)]at hl hb;rw[hb,ho.big k];split;·exact⟨yX _ _,λx hx=>by rw[eG.1 hx];exact ho.h,λ_=>by rw[yV,hl]⟩
   ·exact⟨yX _ _,λx hx=>by rw[eG.1 hx];exact ho.g,λ_=>by rw[yV,hb]⟩
  |none=>
   cases hg:Cases.look fO r with
   |some g=>
    have ho:=Ra hg;have hl:=ho.low 3;have hb:=ho.big 3;rw[au (.inr rfl)]at hl hb;rw[hl,ho.low k];split;·exact⟨yX _ _,λx hx=>by rw[eG.1 hx];exact ho.h,λ_=>by rw[yV,hl]⟩
    ·exact⟨yX _ _,λx hx=>by rw[eG.1 hx];exact ho.g,λ_=>by rw[yV,hb]⟩
   |none=>
    have hp:Cases.pair r=(r,r):=by unfold Cases.pair;rw[hs,hg]
    have h1:∀k,formV r k=[r]:=λk=>by rw[formV_none hf,hp];split<;>rfl
    rw[h1 k,h1 3];exact⟨yX _ _,λx hx=>by rw[eG.1 hx];exact hr,λ_=>by rw[yV,h1]⟩
end
section
open Cases (smalls fO)
open Folds (dec bn bL)
