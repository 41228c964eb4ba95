/- SearchAsks, walked: grapheme.Bounds, exactly; search.Every, All, Is of texts. -/
import Derived.Test.YtocaiijbhepnnaaGreatDoorFJ
import Derived.Test.YtocaiijbhepnnaaGreatDoorGA
import Derived.ScopeJumps
import Derived.Test.YtocaiijbhepnnaaGreatDoorGB
set_option maxRecDepth 100000
set_option maxHeartbeats 8000000
namespace Go.Proofs.YtocaiijbhepnnaaGreatDoor.searchAsks
open Go.Shelf Go.RowKit Go.Lib Go.Proofs.YtocaiijbhepnnaaGreatDoor.Am
def yh (c:Int):Bool:=c==1||c==2||c==3
def qL (x y:Int):Bool:=
 if(x==1&&y==2)=true then true else if(yh x||yh y)=true then false else if(y==4||y==5||y==6||x==7)=true then true
 else if(x==8)=true then(y==8||y==9||y==11)else if(x==9||x==11)=true then(y==9||y==10)else(x==10&&y==10)
theorem YI (c:Int) (W:World):Calls Tryz.prog 229 #[.int .i64 c] W (Aq (yh c) W):=by
 unfold yh;by_cases h1:c=1;·subst h1;go_enter Tryz.func229,Tryz.ntmps229;go_wp2;go_ret;exact⟨rfl,rfl⟩
 ·by_cases h2:c=2
  ·subst h2;go_enter Tryz.func229,Tryz.ntmps229;go_wp2;go_ret;exact⟨rfl,rfl⟩
  ·go_enter Tryz.func229,Tryz.ntmps229;go_wp2;go_ret;exact⟨by first|rfl|simp[h1,h2],rfl⟩
theorem kM (x y:Int) (W:World):Calls Tryz.prog 168 #[.int .i64 x, .int .i64 y] W (Aq (qL x y) W):=by
 cases hx:yh x<;>cases hy:yh y;all_goals
  have HX:=ah hx;have HY:=ah hy;clear hx hy;go_enter Tryz.func168,Tryz.ntmps168;go_wp2_with (go_at_call 229;(refine(YI _ _).mono ?_;rintro e w1 ⟨rfl,rfl⟩;first|rw[HX.out]|rw[HY.out]|rw[show yh 1=true from rfl]|rw[show yh 2=true from rfl]));all_goals go_ret
  all_goals refine⟨?_,rfl⟩
  all_goals (have hx:=HX.out;have hy:=HY.out;clear HX HY;unfold qL;simp only[yh]at*;simp_all)
section
open Folds (dec bn bV)
noncomputable def Az:ByteArray:=adu Tryz.f166.body
def abG (w:World):Prop:=Calls Tryz.prog 95 #[.string Az] w fun e w'=>∃d x y,e= .returned (.tuple #[d,x,y])∧F3 w' d gV∧Below w.heap.size w w'
theorem Nv:Hy gV=true:=by decide+kernel
theorem afl (W:World) (hN:abG W):Calls Tryz.prog 166 #[] W fun e w'=>∃d,e= .returned d∧F3 w' d gV∧Below W.heap.size W w':=by have HN:=ah hN;clear hN;go_enter Tryz.func166,Tryz.ntmps166;go_wp2_with (go_at_call 95;refine HN.out.mono ?_;rintro e w1 ⟨d,x,y,rfl,hd,hb⟩;have HD:=ah hd;have HB:=ah hb;clear hd hb);go_ret;exact⟨_,rfl,HD.out,HB.out⟩
def AJ (t:List UInt8):List Int:=(marks t).map fun x=>fO gV (fD (x.2:Int))
structure OL (W:World) (s:ByteArray) (e m:Nat) (v:Value) (zs:List Int) (w:World):Prop where
 aB:Below W.heap.size W w
 it:w.heap[W.heap.size]? =some (.stringIter s e)
 own:w.ownsRow W.heap.size 3 1 v m (bF zs)
section
variable {W w w':World} {s:ByteArray} {e m:Nat} {v:Value} {zs:List Int}
theorem OL.below (h:OL W s e m v zs w) (hb:Below w.heap.size w w'):OL W s e m v zs w':=
 ⟨h.aB.trans (hb.mono h.aB.size),bI hb h.it,own_below hb h.own⟩
theorem OL.alloc (h:OL W s e m v zs w) (o:Obj):OL W s e m v zs (w.alloc o):=h.below ((aG _ w).alloc (ay _) o)
theorem OL.dQ (h:OL W s e m v zs w) {o:Obj}:(w.alloc o).ownsRow W.heap.size 3 1 v m (bF zs):=(h.alloc o).own
theorem OL.iter (h:OL W s e m v zs w) (e':Nat):OL W s e' m v zs (w.iterAt W.heap.size s e'):=
 ⟨below_iterAt h.aB (ay _) s e',iterAt_heap w _ s e e' h.it,own_iterAt h.it h.own⟩
theorem OL.grow (h:OL W s e m v zs w) {o:Obj} {v':Value} {x:Int} (ho:w'.ownsRow W.heap.size 3 1 v' (m+1) (bF zs++[.int .i64 x])) (hg:(w.alloc o).grownBy w' v.ownBlock):OL W s e (m+1) v' (zs++[x]) w':=by have h':=h.alloc o;refine⟨h'.aB.grown hg h'.aB.size (fun k hk=>(bL h'.own hk).1),?_,by rw[kJ];exact ho⟩;rw[hg.block _ (cu h'.it) (own_ne h'.own h'.it (fun _ h=>by cases h))];exact h'.it
end
def afm (zs:List Int) (W:World) (e:Ending) (w':World):Prop:=∃A n c,e= .returned (.slice A n c)∧bR w' A n zs∧Below W.heap.size W w'
theorem afn (t:List UInt8) (d:Value) (W:World) (hD:F3 W d gV) (hn:t.length≤10000):Calls Tryz.prog 167 #[d, .string ⟨t.toArray⟩] W (afm (AJ t) W):=by
 obtain⟨s,hs⟩:∃s:ByteArray,(⟨t.toArray⟩:ByteArray)=s:=⟨_,rfl⟩
 have hss:s.size=t.length:=size_mk t s hs;rw[hs];have HS:=ah hs;have kS:=ah hss;have Si:=ah hn;have HD:=ah hD;obtain⟨D,oD,R,oR,cD,rfl,_,_,_⟩:=hD;clear hs hss hn;obtain⟨i0,hI0,hz0,hz1,hz2⟩:=eG gD;go_enter Tryz.func167,Tryz.ntmps167;go_wp2_with fail;go_loopw [5] (fun vo wr=>∃(e f m:Nat) (A:Option Addr) (c:Nat) (zs:List Int),vo= .slice A m c∧OL W s e m (.slice A m c) zs wr∧e≤s.size∧s.size<f+e+1∧m≤e∧zs++(aD t f e).map (fun x=>fO gV (fD (x.2:Int)))=AJ t) (fun _ wr=>s.size-wr.iterPos W.heap.size);case atStart=>exact⟨0,t.length,0,none,0,[],rfl,⟨(aG _ W).alloc (ay _) _,dw W _,⟨rfl, .inl ⟨rfl,rfl⟩⟩⟩,aH _,by have:=kS.out;omega,ay _,rfl⟩
 case round=>
  obtain⟨e,f,m,A,c,zs,rfl,YJ,he,hf,hm,hl⟩:=hrel;have hit:=YJ.it;have HOL:=ah YJ;clear YJ;by_cases hlt:e<s.size
  ·obtain⟨f',rfl⟩:∃f',f=f'+1:=⟨f-1,by omega⟩
   have hlt2:e<t.length:=by have:=kS.out;omega
   unfold aD at hl;rw[ak hlt2,kT]at hl;dsimp only at hl;have hnx:=fun ty=>run_next_any_at (P:=Tryz.prog) wr _ s e ty hit hlt;rw[gY t e s HS.out]at hnx;have hne2:t.drop e≠[]:=by intro c;rw[jg]at c;have:=kS.out;omega
   have hd1:=bn (t.drop e);have hd2:=bV (t.drop e) hne2;rw[dN,←kS.out]at hd2;obtain⟨r,hr⟩:∃r:Int,((dec (t.drop e)).1:Int)=r:=⟨_,rfl⟩
   obtain⟨wd,hwd⟩:∃wd,(dec (t.drop e)).2=wd:=⟨_,rfl⟩
   rw[hwd]at hd1 hd2 hl;rw[hr]at hl;rw[hr,hwd]at hnx;obtain⟨ew,Cj⟩:∃ew,e+wd=ew:=⟨_,rfl⟩
   rw[Cj]at hnx hl;obtain⟨cx,hcx⟩:∃cx,fO gV (fD r)=cx:=⟨_,rfl⟩
   rw[hcx]at hl;have HCX:=ah hcx;have HL:=ah hl;clear hr hwd hcx hl hlt2 hne2;have HLEN:=ah (ain hm he (by rw[kS.out];exact Si.out));have rW:=ah (HOL.out.iter ew);have hq2:wr.iterPos W.heap.size=e:=by unfold World.iterPos;rw[hit]
   have KEY:=ah (fun(B1:Option Addr) (d1:Nat) (w':World) (h:OL W s ew (m+1) (.slice B1 (m+1) d1) (zs++[cx]) w')=>
    show(∃(e' f m':Nat) (A:Option Addr) (c:Nat) (zs':List Int),Value.slice B1 (m+1) d1= .slice A m' c∧OL W s e' m' (.slice A m' c) zs' w'∧e'≤s.size∧s.size<f+e'+1∧m'≤e'∧zs'++(aD t f e').map (fun x=>fO gV (fD (x.2:Int)))=AJ t)∧s.size-w'.iterPos W.heap.size<s.size-wr.iterPos W.heap.size from by
     refine⟨⟨ew,f',m+1,B1,d1,_,rfl,h,by omega,by omega,by omega,by rw[dW];exact HL.out⟩,?_⟩;have q1:w'.iterPos W.heap.size=ew:=by unfold World.iterPos;rw[h.it]
     rw[q1,hq2];omega)
   clear Cj hd1 hd2 hf hm he hq2 hlt;go_wp2_with (first|(go_at_call 146;refine(Qe gV Nv r _ _ rfl (by decide+kernel) _ (yP HD.out rW.out.aB)).mono ?_;rintro x wz ⟨rfl,hbz⟩;rw[HCX.out];have vJ:=Lib.hid (rW.out.below hbz);clear hbz)|(at_builtin;refine aY _ rfl (.tmp 15) (.tmp 19) 41 rfl W.heap.size 3 i0 _ 8 Tryz.underlying41 hI0 hz0 hz1 hz2 rfl (.slice A m c) m (bF zs) rfl vJ.out.dQ _ 1 1 [.int .i64 cx] rfl (bX _ _ _) (by simp[Value.oneCell']) HLEN.out.1 HLEN.out.2 (by rw[World.size_alloc];have:=vJ.out.aB.size;omega) ?_;intro v' wp ho hg hn;obtain⟨B1,d1,rfl,_⟩:=aM ho;have mZ:=Lib.hid (vJ.out.grow ho hg);clear ho hg hn hnx hit));exact KEY.out _ _ _ mZ.out
  ·obtain rfl:e=s.size:=by omega
   have hz:aD t f s.size=[]:=by
    cases f with
    |zero=>rfl
    |succ f=>unfold aD;rw[aj (by have:=kS.out;omega)]
   rw[hz,List.map_nil,eu]at hl;clear hz;have hnx:=fun ty=>run_next_end_at (P:=Tryz.prog) wr _ s s.size ty hit hlt;have hmm:m≤100000:=by have:=kS.out;have:=Si.out;omega
   have HM:=ah hmm;have HL:=ah hl;clear hf he hm hmm hl hlt;go_wp2_with fail;go_ret;exact⟨A,m,c,rfl,by rw[←HL.out];exact gG HOL.out.own HM.out,HOL.out.aB⟩
end
section
open Folds (dec bn bV)
section
variable {Q:Exit→Act→World→Prop} {J:Act→World→Prop} {a:Act} {w:World} {l:Nat}
@[go_sem] theorem ig:Exit.jump l J Q .normal a w=Q .normal a w:=rfl
end
theorem dY {P:Program} {a:Act} {w:World} {Q:Exit→Act→World→Prop} {c rest:Code} (l:Nat) (hf:findLabel c l=some rest)
 (h:c.wp P (Exit.jump l (fun a w=>rest.wp P (Exit.noGoto Q) a w) Q) a w):(Code.scope c).wp P Q a w:=by
 refine wp_scope_jumps l (fun a w=>rest.wp P (Exit.noGoto Q) a w) (fun _ _=>0) hf h (fun a w hJ=>wp_mono hJ ?_);intro e a w hq;cases e with
 |goto l'=>exact hq.elim
 |_=>exact hq
def gbF (cls:List Int):List (Nat×Nat)→Nat→Bool→Bool→Nat→List Int
 |[],_,_,_,_=>[]
 |x::r,k,p,j,fl=>
  let y:=cls.getD k 0
  let rest:=gbF cls r (k+1) (y==12||(p&&y==4)) (p&&y==5) (if y=13 then fl+1 else 0)
  if k=0∨qL (cls.getD (k-1) 0) y=true∨(j=true∧y=12)∨(y=13∧fl%2=1)then rest else(x.1:Int)::rest
def DT (t:List UInt8):List Int:=if t=[]then[]else 0::gbF (AJ t) (marks t) 0 false false 0++[(t.length:Int)]
structure GL (w2:World) (s:ByteArray) (e m:Nat) (v:Value) (zs:List Int) (w:World):Prop where
 aB:Below w2.heap.size w2 w
 it:w.heap[w2.heap.size+1]? =some (.stringIter s e)
 own:w.ownsRow w2.heap.size 3 1 v m (bF zs)
section
variable {W w w':World} {s:ByteArray} {e m:Nat} {v:Value} {zs:List Int}
theorem GL.below (h:GL W s e m v zs w) (hb:Below w.heap.size w w'):GL W s e m v zs w':=
 ⟨h.aB.trans (hb.mono h.aB.size),bI hb h.it,own_below hb h.own⟩
theorem GL.alloc (h:GL W s e m v zs w) (o:Obj):GL W s e m v zs (w.alloc o):=h.below ((aG _ w).alloc (ay _) o)
theorem GL.dQ (h:GL W s e m v zs w) {o:Obj}:(w.alloc o).ownsRow W.heap.size 3 1 v m (bF zs):=(h.alloc o).own
theorem GL.iter (h:GL W s e m v zs w) (e':Nat):GL W s e' m v zs (w.iterAt (W.heap.size+1) s e'):=
 ⟨below_iterAt h.aB (jX _) s e',iterAt_heap w _ s e e' h.it,own_iterAt h.it h.own⟩
theorem GL.grow (h:GL W s e m v zs w) {o:Obj} {v':Value} {x:Int} (ho:w'.ownsRow W.heap.size 3 1 v' (m+1) (bF zs++[.int .i64 x])) (hg:(w.alloc o).grownBy w' v.ownBlock):GL W s e (m+1) v' (zs++[x]) w':=by have h':=h.alloc o;refine⟨h'.aB.grown hg h'.aB.size (fun k hk=>(bL h'.own hk).1),?_,by rw[kJ];exact ho⟩;rw[hg.block _ (cu h'.it) (own_ne h'.own h'.it (fun _ h=>by cases h))];exact h'.it
theorem GL.start (W:World) (s:ByteArray):GL W s 0 1 (.slice (some ⟨W.heap.size,0,none⟩) 1 1) [0] ((W.alloc (.cells #[.int .i64 0] 3)).alloc (.stringIter s 0)):=by
 refine⟨((aG _ W).alloc (ay _) _).alloc (by simp) _,?_,⟨rfl, .inr ⟨W.heap.size,1,#[.int .i64 0],rfl,ay _,?_,ay _,by decide,rfl,rfl⟩⟩⟩;·have:=dw (W.alloc (.cells #[.int .i64 0] 3)) (.stringIter s 0);rw[jO]at this;exact this
 ·exact(Below.heap_alloc _ _ _ (by simp)).trans (dw _ _)
end
end
section
open Folds (dec bn bV)
theorem YK (y:Int):y=12∨y=13∨y=4∨y=5∨(¬y=12∧¬y=13∧¬y=4∧¬y=5):=by omega
theorem abI (t:List UInt8) (W:World) (hN:∀w,Below W.heap.size W w→abG w) (hn:t.length≤10000):Calls Tryz.prog 115 #[.string ⟨t.toArray⟩] W (Gs (DT t) W):=by
 obtain⟨s,hs⟩:∃s:ByteArray,(⟨t.toArray⟩:ByteArray)=s:=⟨_,rfl⟩
 have hss:s.size=t.length:=size_mk t s hs;have HGB:=ah (afl W (hN W (aG _ W)));have HOF:=ah (fun d w (hd:F3 w d gV)=>afn t d w hd hn);rw[hs]at HOF⊢;have HS:=ah hs;have kS:=ah hss;have Si:=ah hn;clear hs hss hn hN;obtain⟨i0,hI0,hz0,hz1,hz2⟩:=eG gD;by_cases ht:t=[]
 ·have hse:(s==⟨#[]⟩)=true:=by rw[←HS.out,ht];rfl
  obtain rfl:s=⟨#[]⟩:=by rw[←HS.out,ht]
  subst ht;go_enter Tryz.func115,Tryz.ntmps115;go_wp2_with fail;go_ret;exact⟨none,0,0,rfl,⟨rfl,by decide,fun h=>absurd h (by decide)⟩,aG _ _⟩
 have hse:s.toList.isEmpty=false:=by
  rw[←HS.out,ByteArray.toList_mk];cases t with
  |nil=>exact absurd rfl ht
  |cons a b=>rfl
 have HT:=ah ht;clear ht;go_enter Tryz.func115,Tryz.ntmps115;go_wp2_with (first|(go_at_call 166;refine HGB.out.mono ?_;rintro e w1 ⟨d,rfl,hd,hb1⟩;have HD:=ah hd;have HB1:=ah hb1;clear hd hb1)|(go_at_call 167;refine(HOF.out _ _ HD.out).mono ?_;rintro e w2 ⟨A,n,c,rfl,hi,hb2⟩;have HI:=ah hi;have HB2:=ah (HB1.out.trans (hb2.mono HB1.out.size));clear hi hb2));obtain⟨cls,hcls⟩:∃l,AJ t=l:=⟨_,rfl⟩
 obtain⟨Z,hZ⟩:∃Z,0::gbF cls (marks t) 0 false false 0=Z:=⟨_,rfl⟩
 have hml:(marks t).length=n:=by rw[←HI.out.len];unfold AJ;rw[dz]
 have HWB:=ah (show DT t=Z++[(t.length:Int)]by unfold DT;rw[aj HT.out,hcls,←hZ]);rw[hcls]at HI;have HZ:=ah hZ;have VF:=ah hml;have hsm:=HI.out.small;have VI:=ah hsm;clear hcls hZ hml hsm HGB HOF HD HB1 hse;go_loopw [4,5,6,7,8] (fun vl vi vp vj vf wr=>∃(e f k mo fl:Nat) (Al:Option Addr) (co:Nat) (zs:List Int) (i:Int) (p j:Bool),vl= .slice Al mo co∧vi= .int .i64 i∧i+1=(k:Int)∧vp= .bool p∧vj= .bool j∧vf= .int .i64 fl∧GL w2 s e mo (.slice Al mo co) zs wr∧e≤s.size∧s.size<f+e+1∧mo≤k+1∧fl≤k∧k≤e∧k+(aD t f e).length=n∧zs++gbF cls (aD t f e) k p j fl=Z) (fun _ _ _ _ _ wr=>s.size-wr.iterPos (w2.heap.size+1));case atStart=>
  exact⟨0,t.length,0,1,0,_,_,[0],-1,false,false,rfl,rfl,rfl,rfl,rfl,rfl,GL.start w2 s,aH _,by have:=kS.out;omega,ay _,ay _,ay _,by rw[bQ];exact VF.out,HZ.out⟩
 case round=>
  obtain⟨e,f,k,mo,fl,Al,co,zs,i,p,j,rfl,rfl,hik,rfl,rfl,rfl,hGL,he,hf,hmo,hfl,hke,hkn,hl⟩:=hrel;have hit:=hGL.it;have HGL:=ah hGL;clear hGL;by_cases hlt:e<s.size
  ·obtain⟨f',rfl⟩:∃f',f=f'+1:=⟨f-1,by omega⟩
   have hlt2:e<t.length:=by have:=kS.out;omega
   unfold aD at hl hkn;rw[ak hlt2]at hl hkn;rw[bY]at hkn;have hnx:=fun ty=>run_next_any_at (P:=Tryz.prog) wr _ s e ty hit hlt;rw[gY t e s HS.out]at hnx;have hne2:t.drop e≠[]:=by intro c;rw[jg]at c;have:=kS.out;omega
   have hd1:=bn (t.drop e);have hd2:=bV (t.drop e) hne2;rw[dN,←kS.out]at hd2;obtain⟨r0,hr0⟩:∃r0,(dec (t.drop e)).1=r0:=⟨_,rfl⟩
   rw[hr0]at hl hnx;clear hr0;obtain⟨r,hr⟩:∃r:Int,(r0:Int)=r:=⟨_,rfl⟩
   obtain⟨wd,hwd⟩:∃wd,(dec (t.drop e)).2=wd:=⟨_,rfl⟩
   rw[hwd]at hd1 hd2 hl hnx hkn;clear hwd;rw[hr]at hnx;clear hr;obtain⟨ew,Cj⟩:∃ew,e+wd=ew:=⟨_,rfl⟩
   rw[Cj]at hnx hl hkn;obtain⟨g1,o1,rfl,hg1,hc1⟩:=HI.out.at_ (by omega);have hkl:k<n:=by omega
   have rW:=ah (HGL.out.iter ew);have hcy:=(rW.out.aB.cell (p:=⟨g1,o1+k,none⟩) hg1).trans (hc1 k hkl);have hcx:∀k1,k1<n→(wr.iterAt (w2.heap.size+1) s ew).cell? ⟨g1,o1+k1,none⟩=some (.int .i64 (cls.getD k1 0)):=fun k1 h=>(rW.out.aB.cell (p:=⟨g1,o1+k1,none⟩) hg1).trans (hc1 k1 h);have HCX:=ah hcx;clear hcx hc1 hg1;unfold gbF at hl;dsimp only at hl;obtain⟨y,hy⟩:∃y,cls.getD k 0=y:=⟨_,rfl⟩
   rw[hy]at hl hcy;clear hy;have HLEN:Hid (mo+1≤maxLen∧(mo+1)*8≤140737488355328):=ah (by have:=VI.out;exact⟨by simp only[maxLen];omega,by omega⟩);have hq2:wr.iterPos (w2.heap.size+1)=e:=by unfold World.iterPos;rw[hit]
   have HKS:=ah (show k≤100000 by have:=VI.out;omega);have REL:=ah (fun(Al':Option Addr) (co' Yy fl':Nat) (zs':List Int) (p' j':Bool) (w':World) (hm':Yy≤k+1+1) (hf':fl'≤k+1) (hz':zs'++gbF cls (aD t f' ew) (k+1) p' j' fl'=Z) (h:GL w2 s ew Yy (.slice Al' Yy co') zs' w')=>
    show(∃(e f k' mo fl:Nat) (Al:Option Addr) (co:Nat) (zs:List Int) (i:Int) (p j:Bool),Value.slice Al' Yy co'= .slice Al mo co∧Value.int .i64 (k:Int)= .int .i64 i∧i+1=(k':Int)∧Value.bool p'= .bool p∧Value.bool j'= .bool j∧Value.int .i64 (fl':Int)= .int .i64 fl∧GL w2 s e mo (.slice Al mo co) zs w'∧e≤s.size∧s.size<f+e+1∧mo≤k'+1∧fl≤k'∧k'≤e∧k'+(aD t f e).length=n∧zs++gbF cls (aD t f e) k' p j fl=Z)∧s.size-w'.iterPos (w2.heap.size+1)<s.size-wr.iterPos (w2.heap.size+1)from by
     refine⟨⟨ew,f',k+1,Yy,fl',Al',co',zs',(k:Int),p',j',rfl,rfl,by omega,rfl,rfl,rfl,h,by omega,by omega,hm',hf',by omega,by omega,hz'⟩,?_⟩;have q1:w'.iterPos (w2.heap.size+1)=ew:=by unfold World.iterPos;rw[h.it]
     rw[q1,hq2];omega)
   have hwi:wrap64 (i+1)=(k:Int):=by have:=HKS.out;unfold wrap64;omega
   have HFL:=ah (show wrap64 ((fl:Int)+1)=((fl+1:Nat):Int)by have:=HKS.out;unfold wrap64;omega);have aqP:(0:Int)≤k:=by omega
   have aqQ:(k:Int)<n:=by omega
   have HM2:=ah (show mo≤k+1+1 by omega);have HM1:=ah (show mo+1≤k+1+1 by omega);have xJ:=ah (show fl+1≤k+1 by omega);have HL:=ah hl;clear hl Cj hd1 hd2 hf he hq2 hlt hkn hmo hfl hke hne2 hlt2 hik;rcases kE k with hkz|hkz
   ·have hk0:((k:Int)==0)=true:=by simp[hkz]
    have hl:=HL.out;rw[ak (Or.inl hkz)]at hl;have Sr:=ah hl;have hk1:(k:Int)=0:=by omega
    have HK1:=ah hk1;clear hl HL hkz hk1;rcases YK y with rfl|rfl|rfl|rfl|⟨Qm,y13,y4,y5⟩<;>((try (have z12:(y==12)=false:=beq_eq_false_iff_ne.2 Qm;have z13:(y==13)=false:=beq_eq_false_iff_ne.2 y13;have z4:(y==4)=false:=beq_eq_false_iff_ne.2 y4;have z5:(y==5)=false:=beq_eq_false_iff_ne.2 y5));(go_wp2_with fail;refine dY 0 rfl ?_;go_wp2_with fail;go_step3;refine And.intro rfl ?_;show Code.wp _ _ _ _ _;cases p<;>(go_wp2_with fail;(first|rw[Exit.noGoto_normal]|rw[ig]);go_wp2_with fail;(try rw[hwi]);(try rw[HFL.out]);exact REL.out _ _ mo _ _ _ _ _ HM2.out (by first|exact Nat.zero_le _|exact xJ.out) (by have h:=Sr.out;first|exact h|simpa[Qm,y13,y4,y5,z12,z4,z5]using h) rW.out)))
   ·have hk0:((k:Int)==0)=false:=by simp;omega
    have hk1:¬(k:Int)=0:=by omega
    obtain⟨k1,aiA⟩:∃k1,k-1=k1:=⟨_,rfl⟩
    have hwk:wrap64 ((k:Int)-1)=(k1:Int):=by have:=HKS.out;unfold wrap64;omega
    have hq0:(0:Int)≤k1:=by omega
    have hq1:(k1:Int)<n:=by omega
    have amP:=HCX.out k1 (by omega);have hl:=HL.out;rw[aiA]at hl;obtain⟨x,hx⟩:∃x,cls.getD k1 0=x:=⟨_,rfl⟩
    rw[hx]at hl amP;have HKP:=ah hkz;have HL3:=ah hl;clear hl HL hx hkz aiA;cases hgj:qL x y;case true=>
     have hl:=HL3.out;rw[ak (Or.inr (Or.inl hgj))]at hl;have Sr:=ah hl;have Sv:=ah hgj;clear hl hgj;rcases YK y with rfl|rfl|rfl|rfl|⟨Qm,y13,y4,y5⟩<;>((try (have z12:(y==12)=false:=beq_eq_false_iff_ne.2 Qm;have z13:(y==13)=false:=beq_eq_false_iff_ne.2 y13;have z4:(y==4)=false:=beq_eq_false_iff_ne.2 y4;have z5:(y==5)=false:=beq_eq_false_iff_ne.2 y5));(go_wp2_with fail;refine dY 0 rfl ?_;go_wp2_with (go_at_call 168;refine(kM _ _ _).mono ?_;rintro e' w1 ⟨rfl,rfl⟩;rw[Sv.out]);go_step3;refine And.intro rfl ?_;show Code.wp _ _ _ _ _;cases p<;>(go_wp2_with fail;(first|rw[Exit.noGoto_normal]|rw[ig]);go_wp2_with fail;(try rw[hwi]);(try rw[HFL.out]);exact REL.out _ _ mo _ _ _ _ _ HM2.out (by first|exact Nat.zero_le _|exact xJ.out) (by have h:=Sr.out;first|exact h|simpa[Qm,y13,y4,y5,z12,z4,z5]using h) rW.out)))
    case false=>
     have Sv:=ah hgj;clear hgj;rcases YK y with rfl|rfl|rfl|rfl|⟨Qm,y13,y4,y5⟩
     ·cases j;case true=>(have hl:=HL3.out;rw[if_pos (Or.inr (Or.inr (Or.inl ⟨rfl,rfl⟩)))]at hl;have Sr:=Lib.hid hl;clear hl;(go_wp2_with fail;refine dY 0 rfl ?_;go_wp2_with (go_at_call 168;refine(kM _ _ _).mono ?_;rintro e' w1 ⟨rfl,rfl⟩;rw[Sv.out]);go_step3;refine And.intro rfl ?_;show Code.wp _ _ _ _ _;cases p<;>(go_wp2_with fail;(first|rw[Exit.noGoto_normal]|rw[ig]);go_wp2_with fail;(try rw[hwi]);(try rw[HFL.out]);exact REL.out _ _ mo _ _ _ _ _ HM2.out (by first|exact Nat.zero_le _|exact xJ.out) (by have h:=Sr.out;first|exact h|simpa[Qm,y13,y4,y5,z12,z4,z5]using h) rW.out)))
      case false=>(have hl:=HL3.out;rw[if_neg (fun h=>h.elim (fun h=>absurd h (Nat.ne_of_gt HKP.out)) (fun h=>h.elim (fun h=>by rw[Sv.out]at h;exact Bool.false_ne_true h) (fun h=>h.elim (fun h=>by exact Bool.false_ne_true h.1) (fun h=>by exact absurd h.1 (by decide)))))]at hl;have Yx:=Lib.hid hl;clear hl;(go_wp2_with fail;refine dY 0 rfl ?_;go_wp2_with (first|(go_at_call 168;refine(kM _ _ _).mono ?_;rintro e' w1 ⟨rfl,rfl⟩;rw[Sv.out])|(at_builtin;refine aY _ rfl (.tmp 53) (.tmp 55) 41 rfl w2.heap.size 3 i0 _ 8 Tryz.underlying41 hI0 hz0 hz1 hz2 rfl (.slice Al mo co) mo (bF zs) rfl rW.out.dQ _ 1 1 [.int .i64 e] rfl (bX _ _ _) (by simp[Value.oneCell']) HLEN.out.1 HLEN.out.2 (by rw[World.size_alloc];have:=rW.out.aB.size;omega) ?_;intro v' wp ho hg hn;obtain⟨B1,d1,rfl,_⟩:=aM ho;have mZ:=Lib.hid (rW.out.grow ho hg);clear ho hg hn hnx hit));go_step3;rename_i K hK;refine hK _ _ ?_;cases p<;>(go_wp2_with fail;(first|rw[Exit.noGoto_normal]|rw[ig]);go_wp2_with fail;(try rw[hwi]);(try rw[HFL.out]);exact REL.out _ _ (mo+1) _ _ _ _ _ HM1.out (by first|exact Nat.zero_le _|exact xJ.out) (by simp only[List.append_assoc,List.cons_append,List.nil_append];have h:=Yx.out;first|exact h|simpa[Qm,y13,y4,y5,z12,z4,z5]using h) mZ.out)))
     ·rcases Nat.mod_two_eq_zero_or_one fl with hpa|hpa
      ·have hpj:Int.tmod (fl:Int) 2=0:=by(rw[show(2:Int)=((2:Nat):Int)from rfl,←Int.ofNat_tmod,hpa];rfl)
       have HPA:=ah hpa;clear hpa;cases j<;>(have hl:=HL3.out;rw[if_neg (fun h=>h.elim (fun h=>absurd h (Nat.ne_of_gt HKP.out)) (fun h=>h.elim (fun h=>by rw[Sv.out]at h;exact Bool.false_ne_true h) (fun h=>h.elim (fun h=>by exact absurd h.2 (by decide)) (fun h=>by(have:=HPA.out;omega)))))]at hl;have Yx:=Lib.hid hl;clear hl;(go_wp2_with fail;refine dY 0 rfl ?_;go_wp2_with (first|(go_at_call 168;refine(kM _ _ _).mono ?_;rintro e' w1 ⟨rfl,rfl⟩;rw[Sv.out])|(at_builtin;refine aY _ rfl (.tmp 53) (.tmp 55) 41 rfl w2.heap.size 3 i0 _ 8 Tryz.underlying41 hI0 hz0 hz1 hz2 rfl (.slice Al mo co) mo (bF zs) rfl rW.out.dQ _ 1 1 [.int .i64 e] rfl (bX _ _ _) (by simp[Value.oneCell']) HLEN.out.1 HLEN.out.2 (by rw[World.size_alloc];have:=rW.out.aB.size;omega) ?_;intro v' wp ho hg hn;obtain⟨B1,d1,rfl,_⟩:=aM ho;have mZ:=Lib.hid (rW.out.grow ho hg);clear ho hg hn hnx hit));go_step3;rename_i K hK;refine hK _ _ ?_;cases p<;>(go_wp2_with fail;(first|rw[Exit.noGoto_normal]|rw[ig]);go_wp2_with fail;(try rw[hwi]);(try rw[HFL.out]);exact REL.out _ _ (mo+1) _ _ _ _ _ HM1.out (by first|exact Nat.zero_le _|exact xJ.out) (by simp only[List.append_assoc,List.cons_append,List.nil_append];have h:=Yx.out;first|exact h|simpa[Qm,y13,y4,y5,z12,z4,z5]using h) mZ.out)))
      ·have hpj:Int.tmod (fl:Int) 2=1:=by(rw[show(2:Int)=((2:Nat):Int)from rfl,←Int.ofNat_tmod,hpa];rfl)
       have HPA:=ah hpa;clear hpa;cases j<;>(have hl:=HL3.out;rw[if_pos (Or.inr (Or.inr (Or.inr ⟨rfl,HPA.out⟩)))]at hl;have Sr:=Lib.hid hl;clear hl;(go_wp2_with fail;refine dY 0 rfl ?_;go_wp2_with (go_at_call 168;refine(kM _ _ _).mono ?_;rintro e' w1 ⟨rfl,rfl⟩;rw[Sv.out]);go_step3;refine And.intro rfl ?_;show Code.wp _ _ _ _ _;cases p<;>(go_wp2_with fail;(first|rw[Exit.noGoto_normal]|rw[ig]);go_wp2_with fail;(try rw[hwi]);(try rw[HFL.out]);exact REL.out _ _ mo _ _ _ _ _ HM2.out (by first|exact Nat.zero_le _|exact xJ.out) (by have h:=Sr.out;first|exact h|simpa[Qm,y13,y4,y5,z12,z4,z5]using h) rW.out)))
     ·cases j<;>(have hl:=HL3.out;rw[if_neg (fun h=>h.elim (fun h=>absurd h (Nat.ne_of_gt HKP.out)) (fun h=>h.elim (fun h=>by rw[Sv.out]at h;exact Bool.false_ne_true h) (fun h=>h.elim (fun h=>by exact absurd h.2 (by decide)) (fun h=>by exact absurd h.1 (by decide)))))]at hl;have Yx:=Lib.hid hl;clear hl;(go_wp2_with fail;refine dY 0 rfl ?_;go_wp2_with (first|(go_at_call 168;refine(kM _ _ _).mono ?_;rintro e' w1 ⟨rfl,rfl⟩;rw[Sv.out])|(at_builtin;refine aY _ rfl (.tmp 53) (.tmp 55) 41 rfl w2.heap.size 3 i0 _ 8 Tryz.underlying41 hI0 hz0 hz1 hz2 rfl (.slice Al mo co) mo (bF zs) rfl rW.out.dQ _ 1 1 [.int .i64 e] rfl (bX _ _ _) (by simp[Value.oneCell']) HLEN.out.1 HLEN.out.2 (by rw[World.size_alloc];have:=rW.out.aB.size;omega) ?_;intro v' wp ho hg hn;obtain⟨B1,d1,rfl,_⟩:=aM ho;have mZ:=Lib.hid (rW.out.grow ho hg);clear ho hg hn hnx hit));go_step3;rename_i K hK;refine hK _ _ ?_;cases p<;>(go_wp2_with fail;(first|rw[Exit.noGoto_normal]|rw[ig]);go_wp2_with fail;(try rw[hwi]);(try rw[HFL.out]);exact REL.out _ _ (mo+1) _ _ _ _ _ HM1.out (by first|exact Nat.zero_le _|exact xJ.out) (by simp only[List.append_assoc,List.cons_append,List.nil_append];have h:=Yx.out;first|exact h|simpa[Qm,y13,y4,y5,z12,z4,z5]using h) mZ.out)))
     ·cases j<;>(have hl:=HL3.out;rw[if_neg (fun h=>h.elim (fun h=>absurd h (Nat.ne_of_gt HKP.out)) (fun h=>h.elim (fun h=>by rw[Sv.out]at h;exact Bool.false_ne_true h) (fun h=>h.elim (fun h=>by exact absurd h.2 (by decide)) (fun h=>by exact absurd h.1 (by decide)))))]at hl;have Yx:=Lib.hid hl;clear hl;(go_wp2_with fail;refine dY 0 rfl ?_;go_wp2_with (first|(go_at_call 168;refine(kM _ _ _).mono ?_;rintro e' w1 ⟨rfl,rfl⟩;rw[Sv.out])|(at_builtin;refine aY _ rfl (.tmp 53) (.tmp 55) 41 rfl w2.heap.size 3 i0 _ 8 Tryz.underlying41 hI0 hz0 hz1 hz2 rfl (.slice Al mo co) mo (bF zs) rfl rW.out.dQ _ 1 1 [.int .i64 e] rfl (bX _ _ _) (by simp[Value.oneCell']) HLEN.out.1 HLEN.out.2 (by rw[World.size_alloc];have:=rW.out.aB.size;omega) ?_;intro v' wp ho hg hn;obtain⟨B1,d1,rfl,_⟩:=aM ho;have mZ:=Lib.hid (rW.out.grow ho hg);clear ho hg hn hnx hit));go_step3;rename_i K hK;refine hK _ _ ?_;cases p<;>(go_wp2_with fail;(first|rw[Exit.noGoto_normal]|rw[ig]);go_wp2_with fail;(try rw[hwi]);(try rw[HFL.out]);exact REL.out _ _ (mo+1) _ _ _ _ _ HM1.out (by first|exact Nat.zero_le _|exact xJ.out) (by simp only[List.append_assoc,List.cons_append,List.nil_append];have h:=Yx.out;first|exact h|simpa[Qm,y13,y4,y5,z12,z4,z5]using h) mZ.out)))
     ·have z12:(y==12)=false:=bW.2 Qm;have z13:(y==13)=false:=bW.2 y13;have z4:(y==4)=false:=bW.2 y4;have z5:(y==5)=false:=bW.2 y5;cases j<;>(have hl:=HL3.out;rw[if_neg (fun h=>h.elim (fun h=>absurd h (Nat.ne_of_gt HKP.out)) (fun h=>h.elim (fun h=>by rw[Sv.out]at h;exact Bool.false_ne_true h) (fun h=>h.elim (fun h=>by exact Qm h.2) (fun h=>by exact y13 h.1))))]at hl;have Yx:=Lib.hid hl;clear hl;(go_wp2_with fail;refine dY 0 rfl ?_;go_wp2_with (first|(go_at_call 168;refine(kM _ _ _).mono ?_;rintro e' w1 ⟨rfl,rfl⟩;rw[Sv.out])|(at_builtin;refine aY _ rfl (.tmp 53) (.tmp 55) 41 rfl w2.heap.size 3 i0 _ 8 Tryz.underlying41 hI0 hz0 hz1 hz2 rfl (.slice Al mo co) mo (bF zs) rfl rW.out.dQ _ 1 1 [.int .i64 e] rfl (bX _ _ _) (by simp[Value.oneCell']) HLEN.out.1 HLEN.out.2 (by rw[World.size_alloc];have:=rW.out.aB.size;omega) ?_;intro v' wp ho hg hn;obtain⟨B1,d1,rfl,_⟩:=aM ho;have mZ:=Lib.hid (rW.out.grow ho hg);clear ho hg hn hnx hit));go_step3;rename_i K hK;refine hK _ _ ?_;cases p<;>(go_wp2_with fail;(first|rw[Exit.noGoto_normal]|rw[ig]);go_wp2_with fail;(try rw[hwi]);(try rw[HFL.out]);exact REL.out _ _ (mo+1) _ _ _ _ _ HM1.out (by first|exact Nat.zero_le _|exact xJ.out) (by simp only[List.append_assoc,List.cons_append,List.nil_append];have h:=Yx.out;first|exact h|simpa[Qm,y13,y4,y5,z12,z4,z5]using h) mZ.out)))
  ·obtain rfl:e=s.size:=by omega
   have hz:aD t f s.size=[]:=by
    cases f with
    |zero=>rfl
    |succ f=>unfold aD;rw[aj (by have:=kS.out;omega)]
   rw[hz]at hl;have hzZ:zs=Z:=by rw[←hl];exact(eu zs).symm
   subst hzZ;clear hl hz;have hnx:=fun ty=>run_next_end_at (P:=Tryz.prog) wr _ s s.size ty hit hlt;have hmm:mo+1≤100000:=by have:=kS.out;have:=Si.out;omega
   have HMM:=ah hmm;have HLEN:Hid (mo+1≤maxLen∧(mo+1)*8≤140737488355328):=ah ⟨by simp only[maxLen];omega,by omega⟩;clear hmm hf he hmo hfl hke hkn hlt hik;go_wp2_with (at_builtin;refine aY _ rfl (.tmp 75) (.tmp 78) 41 rfl w2.heap.size 3 i0 _ 8 Tryz.underlying41 hI0 hz0 hz1 hz2 rfl (.slice Al mo co) mo (bF zs) rfl HGL.out.dQ _ 1 1 [.int .i64 s.size] rfl (bX _ _ _) (by simp[Value.oneCell']) HLEN.out.1 HLEN.out.2 (by rw[World.size_alloc];have:=HGL.out.aB.size;omega) ?_;intro v' wp ho hg hn;obtain⟨B1,d1,rfl,_⟩:=aM ho;have mZ:=Lib.hid (HGL.out.grow ho hg);clear ho hg hn);go_ret;exact⟨B1,mo+1,d1,rfl,by rw[HWB.out,←kS.out];exact gG mZ.out.own HMM.out,HB2.out.trans (mZ.out.aB.mono HB2.out.size)⟩
end
structure Ask (W:World):Prop where
 tabs:Lib.Utf8Tabs 2 3 W
 opens:∀w,Below W.heap.size W w→KG w
 newG:∀w,Below W.heap.size W w→abG w
 aiC:∀w,Below W.heap.size W w→abv w
theorem Ask.go {W w:World} (h:Ask W) (hb:Below W.heap.size W w):Ask w:=
 ⟨kF hb h.tabs,fun v hv=>h.opens v (hb.trans (hv.mono hb.size)),fun v hv=>h.newG v (hb.trans (hv.mono hb.size)),fun v hv=>h.aiC v (hb.trans (hv.mono hb.size))⟩
def mQ (s:List UInt8) (fo le wo:Bool):List Left.Pl:=Cr (uz fo) (pW le wo (DT s) (qA s)) s (s.length+1) 0
def Ct (s t:List UInt8) (fo le wo:Bool):List (Nat×Nat):=if t=[]then[]else Left.every (uz fo t) (mQ s fo le wo)
theorem afo (s t:List UInt8) (fo le wo:Bool):(Ct s t fo le wo).length≤s.length+1:=by
 unfold Ct;split;·exact aH _
 ·exact aX (Jg _ _) (KU _ _)
theorem UY (s:ByteArray) (fo le wo:Bool) (W:World):Calls Tryz.prog 16 #[.string s, .string ⟨#[]⟩, .agg #[.bool fo, .bool le, .bool wo]] W (fQ [] W):=by go_enter Tryz.func16,Tryz.ntmps16;go_wp2_with fail;go_step3;go_wp2_with fail;rw[Exit.noGoto_ret];go_ret;exact⟨_,rfl,(aG _ W).alloc (ay _) _,⟨rfl, .inl ⟨rfl,rfl⟩⟩⟩
theorem foldS {W:World} (h:Ask W) (x:List UInt8) (w:World) (hb:Below W.heap.size W w) (hx:x.length≤10000):Calls Tryz.prog 69 #[.string ⟨x.toArray⟩] w fun e w'=>e= .returned (.string ⟨(wr 3 x).toArray⟩)∧Below w.heap.size w w':=
 abp x w (h.opens w hb) (kF hb h.tabs) hx
theorem agK (s t:List UInt8) (fo le wo:Bool) (W:World) (h:Ask W) (hs:s.length≤10000) (ht:t.length≤10000):
 Calls Tryz.prog 16 #[.string ⟨s.toArray⟩, .string ⟨t.toArray⟩, .agg #[.bool fo, .bool le, .bool wo]] W (fQ (Ct s t fo le wo) W):=by
 by_cases hn:t=[]
 ·subst hn;exact UY _ fo le wo W
 ·unfold Ct;rw[aj hn];refine YG _ t (uz fo t) _ fo le wo W hn (afj _ _) (aX (KU _ _) (by omega)) (fun e=>by subst e;rfl) (fun e w hb=> ?_) (fun w hb=> ?_)
  ·subst e;exact foldS h t w hb ht
  ·have h':=h.go hb;refine UU s fo le wo (DT s) (qA s) w h'.tabs hs (fun _ x v hv hx=>foldS h' x v hv hx) (fun _ v hv=>abI s v (h'.go hv).newG hs) (fun _ v hv=> ?_);refine(Qi s v (h'.go hv).aiC hs).mono ?_;rintro e u ⟨A,n,c,e1,e2,_,e3⟩;exact⟨A,n,c,e1,e2,e3⟩
end Go.Proofs.YtocaiijbhepnnaaGreatDoor.searchAsks
