/- SearchReplaces, walked: grapheme.Bounds, exactly; search.Every, All, Is of texts. -/
import Derived.Test.YtocaiijbhepnnaaGreatDoorFJ
import Derived.Test.YtocaiijbhepnnaaGreatDoorGB
set_option maxRecDepth 100000
set_option maxHeartbeats 8000000
namespace Go.Proofs.YtocaiijbhepnnaaGreatDoor.searchReplaces
open Go.Shelf Go.RowKit Go.Lib Go.Proofs.YtocaiijbhepnnaaGreatDoor.Am
def yX (c:Int):Bool:=c==1||c==2||c==3
def rR (x y:Int):Bool:=
 if(x==1&&y==2)=true then true else if(yX x||yX y)=true then false else if(y==4||y==5||y==6||x==7)=true then true
 else if(x==8)=true then(y==8||y==9||y==11)else if(x==9||x==11)=true then(y==9||y==10)else(x==10&&y==10)
theorem ZF (c:Int) (W:World):Calls Tryz.prog 229 #[.int .i64 c] W (Br (yX c) W):=by
 unfold yX;by_cases h1:c=1;·subst h1;go_enter Tryz.func229,Tryz.ntmps229;go_wp2;go_ret;exact⟨rfl,rfl⟩
 ·by_cases h2:c=2
  ·subst h2;go_enter Tryz.func229,Tryz.ntmps229;go_wp2;go_ret;exact⟨rfl,rfl⟩
  ·go_enter Tryz.func229,Tryz.ntmps229;go_wp2;go_ret;exact⟨by first|rfl|simp[h1,h2],rfl⟩
theorem lC (x y:Int) (W:World):Calls Tryz.prog 168 #[.int .i64 x, .int .i64 y] W (Br (rR x y) W):=by
 cases hx:yX x<;>cases hy:yX y;all_goals
  have HX:=ah hx;have HY:=ah hy;clear hx hy;go_enter Tryz.func168,Tryz.ntmps168;go_wp2_with (go_at_call 229;(refine(ZF _ _).mono ?_;rintro e w1 ⟨rfl,rfl⟩;first|rw[HX.out]|rw[HY.out]|rw[show yX 1=true from rfl]|rw[show yX 2=true from rfl]));all_goals go_ret
  all_goals refine⟨?_,rfl⟩
  all_goals (have hx:=HX.out;have hy:=HY.out;clear HX HY;unfold rR;simp only[yX]at*;simp_all)
section
open Folds (dec bf bW)
noncomputable def BD:ByteArray:=aez Tryz.f166.body
def acO (w:World):Prop:=Calls Tryz.prog 95 #[.string BD] w λe w'=>∃d x y,e= .returned (.tuple #[d,x,y])/\GA w' d iw/\Below w.heap.size w w'
theorem Ot:IU iw=true:=by decide+kernel
theorem agr (W:World) (hN:acO W):Calls Tryz.prog 166 #[] W λe w'=>∃d,e= .returned d/\GA w' d iw/\Below W.heap.size W w':=by have HN:=ah hN;clear hN;go_enter Tryz.func166,Tryz.ntmps166;go_wp2_with (go_at_call 95;refine HN.out.mono ?_;rintro e w1 ⟨d,x,y,rfl,hd,hb⟩;have HD:=ah hd;have HB:=ah hb;clear hd hb);go_ret;exact⟨_,rfl,HD.out,HB.out⟩
def BF (t:List UInt8):List Int:=(marks t).map λx=>gq iw (fM (x.2:Int))
structure OL (W:World) (s:ByteArray) (e m:Nat) (v:Value) (zs:List Int) (w:World):Prop where
 aB:Below W.heap.size W w
 it:w.heap[W.heap.size]? =some (.stringIter s e)
 own:w.ownsRow W.heap.size 3 1 v m (bD zs)
section
variable {W w w':World} {s:ByteArray} {e m:Nat} {v:Value} {zs:List Int}
theorem OL.below (h:OL W s e m v zs w) (hb:Below w.heap.size w w'):OL W s e m v zs w':=
 ⟨h.aB.trans (hb.mono h.aB.size),bM hb h.it,own_below hb h.own⟩
theorem OL.alloc (h:OL W s e m v zs w) (o:Obj):OL W s e m v zs (w.alloc o):=h.below ((aF _ w).alloc (ay _) o)
theorem OL.eF (h:OL W s e m v zs w) {o:Obj}:(w.alloc o).ownsRow W.heap.size 3 1 v m (bD zs):=(h.alloc o).own
theorem OL.iter (h:OL W s e m v zs w) (e':Nat):OL W s e' m v zs (w.iterAt W.heap.size s e'):=
 ⟨below_iterAt h.aB (ay _) s e',iterAt_heap w _ s e e' h.it,own_iterAt h.it h.own⟩
theorem OL.grow (h:OL W s e m v zs w) {o:Obj} {v':Value} {x:Int} (ho:w'.ownsRow W.heap.size 3 1 v' (m+1) (bD zs++[.int .i64 x])) (hg:(w.alloc o).grownBy w' v.ownBlock):OL W s e (m+1) v' (zs++[x]) w':=by have h':=h.alloc o;refine⟨h'.aB.grown hg h'.aB.size (λk hk=>(bB h'.own hk).1),?_,by rw[kZ];exact ho⟩;rw[hg.block _ (bU h'.it) (own_ne h'.own h'.it (λ_ h=>by cases h))];exact h'.it
end
def ags (zs:List Int) (W:World) (e:Ending) (w':World):Prop:=∃A n c,e= .returned (.slice A n c)/\bQ w' A n zs/\Below W.heap.size W w'
theorem agt (t:List UInt8) (d:Value) (W:World) (hD:GA W d iw) (hn:t.length<=10000):Calls Tryz.prog 167 #[d, .string ⟨t.toArray⟩] W (ags (BF t) W):=by
 obtain⟨s,hs⟩:∃s:ByteArray,(⟨t.toArray⟩:ByteArray)=s:=⟨_,rfl⟩
 have hss:s.size=t.length:=size_mk t s hs;rw[hs];have HS:=ah hs;have lI:=ah hss;have TF:=ah hn;have HD:=ah hD;obtain⟨D,oD,R,oR,cD,rfl,_,_,_⟩:=hD;clear hs hss hn;obtain⟨i0,hI0,hz0,hz1,hz2⟩:=eD gK;go_enter Tryz.func167,Tryz.ntmps167;go_wp2_with fail;go_loopw [5] (λvo wr=>∃(e f m:Nat) (A:Option Addr) (c:Nat) (zs:List Int),vo= .slice A m c/\OL W s e m (.slice A m c) zs wr/\e<=s.size/\s.size<f+e+1/\m<=e/\zs++(aD t f e).map (λx=>gq iw (fM (x.2:Int)))=BF t) (λ_ wr=>s.size-wr.iterPos W.heap.size);case atStart=>exact⟨0,t.length,0,none,0,[],rfl,⟨(aF _ W).alloc (ay _) _,cO W _,⟨rfl, .inl ⟨rfl,rfl⟩⟩⟩,aH _,by have:=lI.out;omega,ay _,rfl⟩
 case round=>
  obtain⟨e,f,m,A,c,zs,rfl,ZG,he,hf,hm,hl⟩:=hrel;have hit:=ZG.it;have HOL:=ah ZG;clear ZG;by_cases hlt:e<s.size
  ·obtain⟨f',rfl⟩:∃f',f=f'+1:=⟨f-1,by omega⟩
   have hlt2:e<t.length:=by have:=lI.out;omega
   unfold aD at hl;rw[ak hlt2,lJ]at hl;dsimp only at hl;have hnx:=λty=>run_next_any_at (P:=Tryz.prog) wr _ s e ty hit hlt;rw[iB t e s HS.out]at hnx;have hne2:t.drop e≠[]:=by intro c;rw[jy]at c;have:=lI.out;omega
   have hd1:=bf (t.drop e);have hd2:=bW (t.drop e) hne2;rw[bZ,<-lI.out]at hd2;obtain⟨r,hr⟩:∃r:Int,((dec (t.drop e)).1:Int)=r:=⟨_,rfl⟩
   obtain⟨wd,hwd⟩:∃wd,(dec (t.drop e)).2=wd:=⟨_,rfl⟩
   rw[hwd]at hd1 hd2 hl;rw[hr]at hl;rw[hr,hwd]at hnx;obtain⟨ew,Db⟩:∃ew,e+wd=ew:=⟨_,rfl⟩
   rw[Db]at hnx hl;obtain⟨cx,hcx⟩:∃cx,gq iw (fM r)=cx:=⟨_,rfl⟩
   rw[hcx]at hl;have HCX:=ah hcx;have HL:=ah hl;clear hr hwd hcx hl hlt2 hne2;have HLEN:=ah (aji hm he (by rw[lI.out];exact TF.out));have tF:=ah (HOL.out.iter ew);have hq2:wr.iterPos W.heap.size=e:=by unfold World.iterPos;rw[hit]
   have KEY:=ah (λ(B1:Option Addr) (d1:Nat) (w':World) (h:OL W s ew (m+1) (.slice B1 (m+1) d1) (zs++[cx]) w')=>
    show(∃(e' f m':Nat) (A:Option Addr) (c:Nat) (zs':List Int),Value.slice B1 (m+1) d1= .slice A m' c/\OL W s e' m' (.slice A m' c) zs' w'/\e'<=s.size/\s.size<f+e'+1/\m'<=e'/\zs'++(aD t f e').map (λx=>gq iw (fM (x.2:Int)))=BF t)/\s.size-w'.iterPos W.heap.size<s.size-wr.iterPos W.heap.size from by
     refine⟨⟨ew,f',m+1,B1,d1,_,rfl,h,by omega,by omega,by omega,by rw[dR];exact HL.out⟩,?_⟩;have q1:w'.iterPos W.heap.size=ew:=by unfold World.iterPos;rw[h.it]
     rw[q1,hq2];omega)
   clear Db hd1 hd2 hf hm he hq2 hlt;go_wp2_with (first|(go_at_call 146;refine(QV iw Ot r _ _ rfl (by decide+kernel) _ (zA HD.out tF.out.aB)).mono ?_;rintro x wz ⟨rfl,hbz⟩;rw[HCX.out];have sV:=Lib.hid (tF.out.below hbz);clear hbz)|(at_builtin;refine aY _ rfl (.tmp 15) (.tmp 19) 41 rfl W.heap.size 3 i0 _ 8 Tryz.underlying41 hI0 hz0 hz1 hz2 rfl (.slice A m c) m (bD zs) rfl sV.out.eF _ 1 1 [.int .i64 cx] rfl (bY _ _ _) (by simp[Value.oneCell']) HLEN.out.1 HLEN.out.2 (by rw[World.size_alloc];have:=sV.out.aB.size;omega) ?_;intro v' wp ho hg hn;obtain⟨B1,d1,rfl,_⟩:=aL ho;have nT:=Lib.hid (sV.out.grow ho hg);clear ho hg hn hnx hit));exact KEY.out _ _ _ nT.out
  ·obtain rfl:e=s.size:=by omega
   have hz:aD t f s.size=[]:=by
    cases f with
    |zero=>rfl
    |succ f=>unfold aD;rw[aj (by have:=lI.out;omega)]
   rw[hz,List.map_nil,fq]at hl;clear hz;have hnx:=λty=>run_next_end_at (P:=Tryz.prog) wr _ s s.size ty hit hlt;have hmm:m<=100000:=by have:=lI.out;have:=TF.out;omega
   have HM:=ah hmm;have HL:=ah hl;clear hf he hm hmm hl hlt;go_wp2_with fail;go_ret;exact⟨A,m,c,rfl,by rw[<-HL.out];exact gM HOL.out.own HM.out,HOL.out.aB⟩
end
section
open Folds (dec bf bW)
section
variable {Q:Exit->Act->World->Prop} {J:Act->World->Prop} {a:Act} {w:World} {l:Nat}
@[go_sem] theorem iD:Exit.jump l J Q .normal a w=Q .normal a w:=rfl
end
theorem eX {P:Program} {a:Act} {w:World} {Q:Exit->Act->World->Prop} {c rest:Code} (l:Nat) (hf:findLabel c l=some rest)
 (h:c.wp P (Exit.jump l (λa w=>rest.wp P (Exit.noGoto Q) a w) Q) a w):(Code.scope c).wp P Q a w:=by
 refine wp_scope_jumps l (λa w=>rest.wp P (Exit.noGoto Q) a w) (λ_ _=>0) hf h (λa w hJ=>wp_mono hJ ?_);intro e a w hq;cases e with
 |goto l'=>exact hq.elim
 |_=>exact hq
def gbF (cls:List Int):List (Nat×Nat)->Nat->Bool->Bool->Nat->List Int
 |[],_,_,_,_=>[]
 |x::r,k,p,j,fl=>
  let y:=cls.getD k 0
  let rest:=gbF cls r (k+1) (y==12||(p&&y==4)) (p&&y==5) (if y=13 then fl+1 else 0)
  if k=0\/rR (cls.getD (k-1) 0) y=true\/(j=true/\y=12)\/(y=13/\fl%2=1)then rest else(x.1:Int)::rest
def Dm (t:List UInt8):List Int:=if t=[]then[]else 0::gbF (BF t) (marks t) 0 false false 0++[(t.length:Int)]
structure GL (w2:World) (s:ByteArray) (e m:Nat) (v:Value) (zs:List Int) (w:World):Prop where
 aB:Below w2.heap.size w2 w
 it:w.heap[w2.heap.size+1]? =some (.stringIter s e)
 own:w.ownsRow w2.heap.size 3 1 v m (bD zs)
section
variable {W w w':World} {s:ByteArray} {e m:Nat} {v:Value} {zs:List Int}
theorem GL.below (h:GL W s e m v zs w) (hb:Below w.heap.size w w'):GL W s e m v zs w':=
 ⟨h.aB.trans (hb.mono h.aB.size),bM hb h.it,own_below hb h.own⟩
theorem GL.alloc (h:GL W s e m v zs w) (o:Obj):GL W s e m v zs (w.alloc o):=h.below ((aF _ w).alloc (ay _) o)
theorem GL.eF (h:GL W s e m v zs w) {o:Obj}:(w.alloc o).ownsRow W.heap.size 3 1 v m (bD zs):=(h.alloc o).own
theorem GL.iter (h:GL W s e m v zs w) (e':Nat):GL W s e' m v zs (w.iterAt (W.heap.size+1) s e'):=
 ⟨below_iterAt h.aB (nJ _) s e',iterAt_heap w _ s e e' h.it,own_iterAt h.it h.own⟩
theorem GL.grow (h:GL W s e m v zs w) {o:Obj} {v':Value} {x:Int} (ho:w'.ownsRow W.heap.size 3 1 v' (m+1) (bD zs++[.int .i64 x])) (hg:(w.alloc o).grownBy w' v.ownBlock):GL W s e (m+1) v' (zs++[x]) w':=by have h':=h.alloc o;refine⟨h'.aB.grown hg h'.aB.size (λk hk=>(bB h'.own hk).1),?_,by rw[kZ];exact ho⟩;rw[hg.block _ (bU h'.it) (own_ne h'.own h'.it (λ_ h=>by cases h))];exact h'.it
theorem GL.start (W:World) (s:ByteArray):GL W s 0 1 (.slice (some ⟨W.heap.size,0,none⟩) 1 1) [0] ((W.alloc (.cells #[.int .i64 0] 3)).alloc (.stringIter s 0)):=by
 refine⟨((aF _ W).alloc (ay _) _).alloc (by simp) _,?_,⟨rfl, .inr ⟨W.heap.size,1,#[.int .i64 0],rfl,ay _,?_,ay _,by decide,rfl,rfl⟩⟩⟩;·have:=cO (W.alloc (.cells #[.int .i64 0] 3)) (.stringIter s 0);rw[fK]at this;exact this
 ·exact(qY _ _ _ (by simp)).trans (cO _ _)
end
end
section
open Folds (dec bf bW)
theorem ZH (y:Int):y=12\/y=13\/y=4\/y=5\/(¬y=12/\¬y=13/\¬y=4/\¬y=5):=by omega
theorem acQ (t:List UInt8) (W:World) (hN:∀w,Below W.heap.size W w->acO w) (hn:t.length<=10000):Calls Tryz.prog 115 #[.string ⟨t.toArray⟩] W (Hr (Dm t) W):=by
 obtain⟨s,hs⟩:∃s:ByteArray,(⟨t.toArray⟩:ByteArray)=s:=⟨_,rfl⟩
 have hss:s.size=t.length:=size_mk t s hs;have HGB:=ah (agr W (hN W (aF _ W)));have HOF:=ah (λd w (hd:GA w d iw)=>agt t d w hd hn);rw[hs]at HOF⊢;have HS:=ah hs;have lI:=ah hss;have TF:=ah hn;clear hs hss hn hN;obtain⟨i0,hI0,hz0,hz1,hz2⟩:=eD gK;by_cases ht:t=[]
 ·have hse:(s==⟨#[]⟩)=true:=by rw[<-HS.out,ht];rfl
  obtain rfl:s=⟨#[]⟩:=by rw[<-HS.out,ht]
  subst ht;go_enter Tryz.func115,Tryz.ntmps115;go_wp2_with fail;go_ret;exact⟨none,0,0,rfl,⟨rfl,by decide,λh=>absurd h (by decide)⟩,aF _ _⟩
 have hse:s.toList.isEmpty=false:=by
  rw[<-HS.out,ByteArray.toList_mk];cases t with
  |nil=>exact absurd rfl ht
  |cons a b=>rfl
 have HT:=ah ht;clear ht;go_enter Tryz.func115,Tryz.ntmps115;go_wp2_with (first|(go_at_call 166;refine HGB.out.mono ?_;rintro e w1 ⟨d,rfl,hd,hb1⟩;have HD:=ah hd;have HB1:=ah hb1;clear hd hb1)|(go_at_call 167;refine(HOF.out _ _ HD.out).mono ?_;rintro e w2 ⟨A,n,c,rfl,hi,hb2⟩;have HI:=ah hi;have HB2:=ah (HB1.out.trans (hb2.mono HB1.out.size));clear hi hb2));obtain⟨cls,hcls⟩:∃l,BF t=l:=⟨_,rfl⟩
 obtain⟨Z,hZ⟩:∃Z,0::gbF cls (marks t) 0 false false 0=Z:=⟨_,rfl⟩
 have hml:(marks t).length=n:=by rw[<-HI.out.len];unfold BF;rw[dG]
 have HWB:=ah (show Dm t=Z++[(t.length:Int)]by unfold Dm;rw[aj HT.out,hcls,<-hZ]);rw[hcls]at HI;have HZ:=ah hZ;have WS:=ah hml;have hsm:=HI.out.small;have WU:=ah hsm;clear hcls hZ hml hsm HGB HOF HD HB1 hse;go_loopw [4,5,6,7,8] (λvl vi vp vj vf wr=>∃(e f k mo fl:Nat) (Al:Option Addr) (co:Nat) (zs:List Int) (i:Int) (p j:Bool),vl= .slice Al mo co/\vi= .int .i64 i/\i+1=(k:Int)/\vp= .bool p/\vj= .bool j/\vf= .int .i64 fl/\GL w2 s e mo (.slice Al mo co) zs wr/\e<=s.size/\s.size<f+e+1/\mo<=k+1/\fl<=k/\k<=e/\k+(aD t f e).length=n/\zs++gbF cls (aD t f e) k p j fl=Z) (λ_ _ _ _ _ wr=>s.size-wr.iterPos (w2.heap.size+1));case atStart=>
  exact⟨0,t.length,0,1,0,_,_,[0],-1,false,false,rfl,rfl,rfl,rfl,rfl,rfl,GL.start w2 s,aH _,by have:=lI.out;omega,ay _,ay _,ay _,by rw[bL];exact WS.out,HZ.out⟩
 case round=>
  obtain⟨e,f,k,mo,fl,Al,co,zs,i,p,j,rfl,rfl,hik,rfl,rfl,rfl,hGL,he,hf,hmo,hfl,hke,hkn,hl⟩:=hrel;have hit:=hGL.it;have HGL:=ah hGL;clear hGL;by_cases hlt:e<s.size
  ·obtain⟨f',rfl⟩:∃f',f=f'+1:=⟨f-1,by omega⟩
   have hlt2:e<t.length:=by have:=lI.out;omega
   unfold aD at hl hkn;rw[ak hlt2]at hl hkn;rw[bK]at hkn;have hnx:=λty=>run_next_any_at (P:=Tryz.prog) wr _ s e ty hit hlt;rw[iB t e s HS.out]at hnx;have hne2:t.drop e≠[]:=by intro c;rw[jy]at c;have:=lI.out;omega
   have hd1:=bf (t.drop e);have hd2:=bW (t.drop e) hne2;rw[bZ,<-lI.out]at hd2;obtain⟨r0,hr0⟩:∃r0,(dec (t.drop e)).1=r0:=⟨_,rfl⟩
   rw[hr0]at hl hnx;clear hr0;obtain⟨r,hr⟩:∃r:Int,(r0:Int)=r:=⟨_,rfl⟩
   obtain⟨wd,hwd⟩:∃wd,(dec (t.drop e)).2=wd:=⟨_,rfl⟩
   rw[hwd]at hd1 hd2 hl hnx hkn;clear hwd;rw[hr]at hnx;clear hr;obtain⟨ew,Db⟩:∃ew,e+wd=ew:=⟨_,rfl⟩
   rw[Db]at hnx hl hkn;obtain⟨g1,o1,rfl,hg1,hc1⟩:=HI.out.at_ (by omega);have hkl:k<n:=by omega
   have tF:=ah (HGL.out.iter ew);have hcy:=(tF.out.aB.cell (p:=⟨g1,o1+k,none⟩) hg1).trans (hc1 k hkl);have hcx:∀k1,k1<n->(wr.iterAt (w2.heap.size+1) s ew).cell? ⟨g1,o1+k1,none⟩=some (.int .i64 (cls.getD k1 0)):=λk1 h=>(tF.out.aB.cell (p:=⟨g1,o1+k1,none⟩) hg1).trans (hc1 k1 h);have HCX:=ah hcx;clear hcx hc1 hg1;unfold gbF at hl;dsimp only at hl;obtain⟨y,hy⟩:∃y,cls.getD k 0=y:=⟨_,rfl⟩
   rw[hy]at hl hcy;clear hy;have HLEN:Hid (mo+1<=maxLen/\(mo+1)*8<=0x800000000000):=ah (by have:=WU.out;exact⟨by simp only[maxLen];omega,by omega⟩);have hq2:wr.iterPos (w2.heap.size+1)=e:=by unfold World.iterPos;rw[hit]
   have HKS:=ah (show k<=100000 by have:=WU.out;omega);have REL:=ah (λ(Al':Option Addr) (co' Zq fl':Nat) (zs':List Int) (p' j':Bool) (w':World) (hm':Zq<=k+1+1) (hf':fl'<=k+1) (hz':zs'++gbF cls (aD t f' ew) (k+1) p' j' fl'=Z) (h:GL w2 s ew Zq (.slice Al' Zq co') zs' w')=>
    show(∃(e f k' mo fl:Nat) (Al:Option Addr) (co:Nat) (zs:List Int) (i:Int) (p j:Bool),Value.slice Al' Zq co'= .slice Al mo co/\Value.int .i64 (k:Int)= .int .i64 i/\i+1=(k':Int)/\Value.bool p'= .bool p/\Value.bool j'= .bool j/\Value.int .i64 (fl':Int)= .int .i64 fl/\GL w2 s e mo (.slice Al mo co) zs w'/\e<=s.size/\s.size<f+e+1/\mo<=k'+1/\fl<=k'/\k'<=e/\k'+(aD t f e).length=n/\zs++gbF cls (aD t f e) k' p j fl=Z)/\s.size-w'.iterPos (w2.heap.size+1)<s.size-wr.iterPos (w2.heap.size+1)from by
     refine⟨⟨ew,f',k+1,Zq,fl',Al',co',zs',(k:Int),p',j',rfl,rfl,by omega,rfl,rfl,rfl,h,by omega,by omega,hm',hf',by omega,by omega,hz'⟩,?_⟩;have q1:w'.iterPos (w2.heap.size+1)=ew:=by unfold World.iterPos;rw[h.it]
     rw[q1,hq2];omega)
   have hwi:wrap64 (i+1)=(k:Int):=by have:=HKS.out;unfold wrap64;omega
   have HFL:=ah (show wrap64 ((fl:Int)+1)=((fl+1:Nat):Int)by have:=HKS.out;unfold wrap64;omega);have ar3:(0:Int)<=k:=by omega
   have ar4:(k:Int)<n:=by omega
   have HM2:=ah (show mo<=k+1+1 by omega);have HM1:=ah (show mo+1<=k+1+1 by omega);have yC:=ah (show fl+1<=k+1 by omega);have HL:=ah hl;clear hl Db hd1 hd2 hf he hq2 hlt hkn hmo hfl hke hne2 hlt2 hik;rcases kN k with hkz|hkz
   ·have hk0:((k:Int)==0)=true:=by simp[hkz]
    have hl:=HL.out;rw[ak (Or.inl hkz)]at hl;have TP:=ah hl;have hk1:(k:Int)=0:=by omega
    have HK1:=ah hk1;clear hl HL hkz hk1;rcases ZH y with rfl|rfl|rfl|rfl|⟨Rb,y13,y4,y5⟩<;>((try (have z12:(y==12)=false:=beq_eq_false_iff_ne.2 Rb;have z13:(y==13)=false:=beq_eq_false_iff_ne.2 y13;have z4:(y==4)=false:=beq_eq_false_iff_ne.2 y4;have z5:(y==5)=false:=beq_eq_false_iff_ne.2 y5));(go_wp2_with fail;refine eX 0 rfl ?_;go_wp2_with fail;go_step3;refine And.intro rfl ?_;show Code.wp _ _ _ _ _;cases p<;>(go_wp2_with fail;(first|rw[Exit.noGoto_normal]|rw[iD]);go_wp2_with fail;(try rw[hwi]);(try rw[HFL.out]);exact REL.out _ _ mo _ _ _ _ _ HM2.out (by first|exact Nat.zero_le _|exact yC.out) (by have h:=TP.out;first|exact h|simpa[Rb,y13,y4,y5,z12,z4,z5]using h) tF.out)))
   ·have hk0:((k:Int)==0)=false:=by simp;omega
    have hk1:¬(k:Int)=0:=by omega
    obtain⟨k1,ajx⟩:∃k1,k-1=k1:=⟨_,rfl⟩
    have hwk:wrap64 ((k:Int)-1)=(k1:Int):=by have:=HKS.out;unfold wrap64;omega
    have hq0:(0:Int)<=k1:=by omega
    have hq1:(k1:Int)<n:=by omega
    have anW:=HCX.out k1 (by omega);have hl:=HL.out;rw[ajx]at hl;obtain⟨x,hx⟩:∃x,cls.getD k1 0=x:=⟨_,rfl⟩
    rw[hx]at hl anW;have HKP:=ah hkz;have HL3:=ah hl;clear hl HL hx hkz ajx;cases hgj:rR x y;case true=>
     have hl:=HL3.out;rw[ak (Or.inr (Or.inl hgj))]at hl;have TP:=ah hl;have TQ:=ah hgj;clear hl hgj;rcases ZH y with rfl|rfl|rfl|rfl|⟨Rb,y13,y4,y5⟩<;>((try (have z12:(y==12)=false:=beq_eq_false_iff_ne.2 Rb;have z13:(y==13)=false:=beq_eq_false_iff_ne.2 y13;have z4:(y==4)=false:=beq_eq_false_iff_ne.2 y4;have z5:(y==5)=false:=beq_eq_false_iff_ne.2 y5));(go_wp2_with fail;refine eX 0 rfl ?_;go_wp2_with (go_at_call 168;refine(lC _ _ _).mono ?_;rintro e' w1 ⟨rfl,rfl⟩;rw[TQ.out]);go_step3;refine And.intro rfl ?_;show Code.wp _ _ _ _ _;cases p<;>(go_wp2_with fail;(first|rw[Exit.noGoto_normal]|rw[iD]);go_wp2_with fail;(try rw[hwi]);(try rw[HFL.out]);exact REL.out _ _ mo _ _ _ _ _ HM2.out (by first|exact Nat.zero_le _|exact yC.out) (by have h:=TP.out;first|exact h|simpa[Rb,y13,y4,y5,z12,z4,z5]using h) tF.out)))
    case false=>
     have TQ:=ah hgj;clear hgj;rcases ZH y with rfl|rfl|rfl|rfl|⟨Rb,y13,y4,y5⟩
     ·cases j;case true=>(have hl:=HL3.out;rw[if_pos (Or.inr (Or.inr (Or.inl ⟨rfl,rfl⟩)))]at hl;have TP:=Lib.hid hl;clear hl;(go_wp2_with fail;refine eX 0 rfl ?_;go_wp2_with (go_at_call 168;refine(lC _ _ _).mono ?_;rintro e' w1 ⟨rfl,rfl⟩;rw[TQ.out]);go_step3;refine And.intro rfl ?_;show Code.wp _ _ _ _ _;cases p<;>(go_wp2_with fail;(first|rw[Exit.noGoto_normal]|rw[iD]);go_wp2_with fail;(try rw[hwi]);(try rw[HFL.out]);exact REL.out _ _ mo _ _ _ _ _ HM2.out (by first|exact Nat.zero_le _|exact yC.out) (by have h:=TP.out;first|exact h|simpa[Rb,y13,y4,y5,z12,z4,z5]using h) tF.out)))
      case false=>(have hl:=HL3.out;rw[if_neg (λh=>h.elim (λh=>absurd h (Nat.ne_of_gt HKP.out)) (λh=>h.elim (λh=>by rw[TQ.out]at h;exact Bool.false_ne_true h) (λh=>h.elim (λh=>by exact Bool.false_ne_true h.1) (λh=>by exact absurd h.1 (by decide)))))]at hl;have Zp:=Lib.hid hl;clear hl;(go_wp2_with fail;refine eX 0 rfl ?_;go_wp2_with (first|(go_at_call 168;refine(lC _ _ _).mono ?_;rintro e' w1 ⟨rfl,rfl⟩;rw[TQ.out])|(at_builtin;refine aY _ rfl (.tmp 53) (.tmp 55) 41 rfl w2.heap.size 3 i0 _ 8 Tryz.underlying41 hI0 hz0 hz1 hz2 rfl (.slice Al mo co) mo (bD zs) rfl tF.out.eF _ 1 1 [.int .i64 e] rfl (bY _ _ _) (by simp[Value.oneCell']) HLEN.out.1 HLEN.out.2 (by rw[World.size_alloc];have:=tF.out.aB.size;omega) ?_;intro v' wp ho hg hn;obtain⟨B1,d1,rfl,_⟩:=aL ho;have nT:=Lib.hid (tF.out.grow ho hg);clear ho hg hn hnx hit));go_step3;rename_i K hK;refine hK _ _ ?_;cases p<;>(go_wp2_with fail;(first|rw[Exit.noGoto_normal]|rw[iD]);go_wp2_with fail;(try rw[hwi]);(try rw[HFL.out]);exact REL.out _ _ (mo+1) _ _ _ _ _ HM1.out (by first|exact Nat.zero_le _|exact yC.out) (by simp only[List.append_assoc,List.cons_append,List.nil_append];have h:=Zp.out;first|exact h|simpa[Rb,y13,y4,y5,z12,z4,z5]using h) nT.out)))
     ·rcases Nat.mod_two_eq_zero_or_one fl with hpa|hpa
      ·have hpj:Int.tmod (fl:Int) 2=0:=by(rw[show(2:Int)=((2:Nat):Int)from rfl,<-Int.ofNat_tmod,hpa];rfl)
       have HPA:=ah hpa;clear hpa;cases j<;>(have hl:=HL3.out;rw[if_neg (λh=>h.elim (λh=>absurd h (Nat.ne_of_gt HKP.out)) (λh=>h.elim (λh=>by rw[TQ.out]at h;exact Bool.false_ne_true h) (λh=>h.elim (λh=>by exact absurd h.2 (by decide)) (λh=>by(have:=HPA.out;omega)))))]at hl;have Zp:=Lib.hid hl;clear hl;(go_wp2_with fail;refine eX 0 rfl ?_;go_wp2_with (first|(go_at_call 168;refine(lC _ _ _).mono ?_;rintro e' w1 ⟨rfl,rfl⟩;rw[TQ.out])|(at_builtin;refine aY _ rfl (.tmp 53) (.tmp 55) 41 rfl w2.heap.size 3 i0 _ 8 Tryz.underlying41 hI0 hz0 hz1 hz2 rfl (.slice Al mo co) mo (bD zs) rfl tF.out.eF _ 1 1 [.int .i64 e] rfl (bY _ _ _) (by simp[Value.oneCell']) HLEN.out.1 HLEN.out.2 (by rw[World.size_alloc];have:=tF.out.aB.size;omega) ?_;intro v' wp ho hg hn;obtain⟨B1,d1,rfl,_⟩:=aL ho;have nT:=Lib.hid (tF.out.grow ho hg);clear ho hg hn hnx hit));go_step3;rename_i K hK;refine hK _ _ ?_;cases p<;>(go_wp2_with fail;(first|rw[Exit.noGoto_normal]|rw[iD]);go_wp2_with fail;(try rw[hwi]);(try rw[HFL.out]);exact REL.out _ _ (mo+1) _ _ _ _ _ HM1.out (by first|exact Nat.zero_le _|exact yC.out) (by simp only[List.append_assoc,List.cons_append,List.nil_append];have h:=Zp.out;first|exact h|simpa[Rb,y13,y4,y5,z12,z4,z5]using h) nT.out)))
      ·have hpj:Int.tmod (fl:Int) 2=1:=by(rw[show(2:Int)=((2:Nat):Int)from rfl,<-Int.ofNat_tmod,hpa];rfl)
       have HPA:=ah hpa;clear hpa;cases j<;>(have hl:=HL3.out;rw[if_pos (Or.inr (Or.inr (Or.inr ⟨rfl,HPA.out⟩)))]at hl;have TP:=Lib.hid hl;clear hl;(go_wp2_with fail;refine eX 0 rfl ?_;go_wp2_with (go_at_call 168;refine(lC _ _ _).mono ?_;rintro e' w1 ⟨rfl,rfl⟩;rw[TQ.out]);go_step3;refine And.intro rfl ?_;show Code.wp _ _ _ _ _;cases p<;>(go_wp2_with fail;(first|rw[Exit.noGoto_normal]|rw[iD]);go_wp2_with fail;(try rw[hwi]);(try rw[HFL.out]);exact REL.out _ _ mo _ _ _ _ _ HM2.out (by first|exact Nat.zero_le _|exact yC.out) (by have h:=TP.out;first|exact h|simpa[Rb,y13,y4,y5,z12,z4,z5]using h) tF.out)))
     ·cases j<;>(have hl:=HL3.out;rw[if_neg (λh=>h.elim (λh=>absurd h (Nat.ne_of_gt HKP.out)) (λh=>h.elim (λh=>by rw[TQ.out]at h;exact Bool.false_ne_true h) (λh=>h.elim (λh=>by exact absurd h.2 (by decide)) (λh=>by exact absurd h.1 (by decide)))))]at hl;have Zp:=Lib.hid hl;clear hl;(go_wp2_with fail;refine eX 0 rfl ?_;go_wp2_with (first|(go_at_call 168;refine(lC _ _ _).mono ?_;rintro e' w1 ⟨rfl,rfl⟩;rw[TQ.out])|(at_builtin;refine aY _ rfl (.tmp 53) (.tmp 55) 41 rfl w2.heap.size 3 i0 _ 8 Tryz.underlying41 hI0 hz0 hz1 hz2 rfl (.slice Al mo co) mo (bD zs) rfl tF.out.eF _ 1 1 [.int .i64 e] rfl (bY _ _ _) (by simp[Value.oneCell']) HLEN.out.1 HLEN.out.2 (by rw[World.size_alloc];have:=tF.out.aB.size;omega) ?_;intro v' wp ho hg hn;obtain⟨B1,d1,rfl,_⟩:=aL ho;have nT:=Lib.hid (tF.out.grow ho hg);clear ho hg hn hnx hit));go_step3;rename_i K hK;refine hK _ _ ?_;cases p<;>(go_wp2_with fail;(first|rw[Exit.noGoto_normal]|rw[iD]);go_wp2_with fail;(try rw[hwi]);(try rw[HFL.out]);exact REL.out _ _ (mo+1) _ _ _ _ _ HM1.out (by first|exact Nat.zero_le _|exact yC.out) (by simp only[List.append_assoc,List.cons_append,List.nil_append];have h:=Zp.out;first|exact h|simpa[Rb,y13,y4,y5,z12,z4,z5]using h) nT.out)))
     ·cases j<;>(have hl:=HL3.out;rw[if_neg (λh=>h.elim (λh=>absurd h (Nat.ne_of_gt HKP.out)) (λh=>h.elim (λh=>by rw[TQ.out]at h;exact Bool.false_ne_true h) (λh=>h.elim (λh=>by exact absurd h.2 (by decide)) (λh=>by exact absurd h.1 (by decide)))))]at hl;have Zp:=Lib.hid hl;clear hl;(go_wp2_with fail;refine eX 0 rfl ?_;go_wp2_with (first|(go_at_call 168;refine(lC _ _ _).mono ?_;rintro e' w1 ⟨rfl,rfl⟩;rw[TQ.out])|(at_builtin;refine aY _ rfl (.tmp 53) (.tmp 55) 41 rfl w2.heap.size 3 i0 _ 8 Tryz.underlying41 hI0 hz0 hz1 hz2 rfl (.slice Al mo co) mo (bD zs) rfl tF.out.eF _ 1 1 [.int .i64 e] rfl (bY _ _ _) (by simp[Value.oneCell']) HLEN.out.1 HLEN.out.2 (by rw[World.size_alloc];have:=tF.out.aB.size;omega) ?_;intro v' wp ho hg hn;obtain⟨B1,d1,rfl,_⟩:=aL ho;have nT:=Lib.hid (tF.out.grow ho hg);clear ho hg hn hnx hit));go_step3;rename_i K hK;refine hK _ _ ?_;cases p<;>(go_wp2_with fail;(first|rw[Exit.noGoto_normal]|rw[iD]);go_wp2_with fail;(try rw[hwi]);(try rw[HFL.out]);exact REL.out _ _ (mo+1) _ _ _ _ _ HM1.out (by first|exact Nat.zero_le _|exact yC.out) (by simp only[List.append_assoc,List.cons_append,List.nil_append];have h:=Zp.out;first|exact h|simpa[Rb,y13,y4,y5,z12,z4,z5]using h) nT.out)))
     ·have z12:(y==12)=false:=dB.2 Rb;have z13:(y==13)=false:=dB.2 y13;have z4:(y==4)=false:=dB.2 y4;have z5:(y==5)=false:=dB.2 y5;cases j<;>(have hl:=HL3.out;rw[if_neg (λh=>h.elim (λh=>absurd h (Nat.ne_of_gt HKP.out)) (λh=>h.elim (λh=>by rw[TQ.out]at h;exact Bool.false_ne_true h) (λh=>h.elim (λh=>by exact Rb h.2) (λh=>by exact y13 h.1))))]at hl;have Zp:=Lib.hid hl;clear hl;(go_wp2_with fail;refine eX 0 rfl ?_;go_wp2_with (first|(go_at_call 168;refine(lC _ _ _).mono ?_;rintro e' w1 ⟨rfl,rfl⟩;rw[TQ.out])|(at_builtin;refine aY _ rfl (.tmp 53) (.tmp 55) 41 rfl w2.heap.size 3 i0 _ 8 Tryz.underlying41 hI0 hz0 hz1 hz2 rfl (.slice Al mo co) mo (bD zs) rfl tF.out.eF _ 1 1 [.int .i64 e] rfl (bY _ _ _) (by simp[Value.oneCell']) HLEN.out.1 HLEN.out.2 (by rw[World.size_alloc];have:=tF.out.aB.size;omega) ?_;intro v' wp ho hg hn;obtain⟨B1,d1,rfl,_⟩:=aL ho;have nT:=Lib.hid (tF.out.grow ho hg);clear ho hg hn hnx hit));go_step3;rename_i K hK;refine hK _ _ ?_;cases p<;>(go_wp2_with fail;(first|rw[Exit.noGoto_normal]|rw[iD]);go_wp2_with fail;(try rw[hwi]);(try rw[HFL.out]);exact REL.out _ _ (mo+1) _ _ _ _ _ HM1.out (by first|exact Nat.zero_le _|exact yC.out) (by simp only[List.append_assoc,List.cons_append,List.nil_append];have h:=Zp.out;first|exact h|simpa[Rb,y13,y4,y5,z12,z4,z5]using h) nT.out)))
  ·obtain rfl:e=s.size:=by omega
   have hz:aD t f s.size=[]:=by
    cases f with
    |zero=>rfl
    |succ f=>unfold aD;rw[aj (by have:=lI.out;omega)]
   rw[hz]at hl;have hzZ:zs=Z:=by rw[<-hl];exact(fq zs).symm
   subst hzZ;clear hl hz;have hnx:=λty=>run_next_end_at (P:=Tryz.prog) wr _ s s.size ty hit hlt;have hmm:mo+1<=100000:=by have:=lI.out;have:=TF.out;omega
   have HMM:=ah hmm;have HLEN:Hid (mo+1<=maxLen/\(mo+1)*8<=0x800000000000):=ah ⟨by simp only[maxLen];omega,by omega⟩;clear hmm hf he hmo hfl hke hkn hlt hik;go_wp2_with (at_builtin;refine aY _ rfl (.tmp 75) (.tmp 78) 41 rfl w2.heap.size 3 i0 _ 8 Tryz.underlying41 hI0 hz0 hz1 hz2 rfl (.slice Al mo co) mo (bD zs) rfl HGL.out.eF _ 1 1 [.int .i64 s.size] rfl (bY _ _ _) (by simp[Value.oneCell']) HLEN.out.1 HLEN.out.2 (by rw[World.size_alloc];have:=HGL.out.aB.size;omega) ?_;intro v' wp ho hg hn;obtain⟨B1,d1,rfl,_⟩:=aL ho;have nT:=Lib.hid (HGL.out.grow ho hg);clear ho hg hn);go_ret;exact⟨B1,mo+1,d1,rfl,by rw[HWB.out,<-lI.out];exact gM nT.out.own HMM.out,HB2.out.trans (nT.out.aB.mono HB2.out.size)⟩
end
structure Ask (W:World):Prop where
 tabs:Lib.Utf8Tabs 2 3 W
 opens:∀w,Below W.heap.size W w->Lg w
 newG:∀w,Below W.heap.size W w->acO w
 ajz:∀w,Below W.heap.size W w->acD w
theorem Ask.go {W w:World} (h:Ask W) (hb:Below W.heap.size W w):Ask w:=
 ⟨kS hb h.tabs,λv hv=>h.opens v (hb.trans (hv.mono hb.size)),λv hv=>h.newG v (hb.trans (hv.mono hb.size)),λv hv=>h.ajz v (hb.trans (hv.mono hb.size))⟩
def kI (s:List UInt8) (fo le wo:Bool):List Left.Pl:=zG (sZ fo) (qE le wo (Dm s) (qm s)) s (s.length+1) 0
def kW (s t:List UInt8) (fo le wo:Bool):List (Nat×Nat):=if t=[]then[]else Left.every (sZ fo t) (kI s fo le wo)
theorem Ou (s t:List UInt8) (fo le wo:Bool):Left.rise s.length (kW s t fo le wo):=by
 unfold kW;split;·trivial
 ·rename_i ht;refine Left.GZ ?_ (TN _ _ (aH _));unfold sZ;split
  ·exact ZC ht
  ·exact ht
theorem zH (s t:List UInt8) (fo le wo:Bool):(kW s t fo le wo).length<=s.length+1:=by
 unfold kW;split;·exact aH _
 ·exact aS (JN _ _) (LC _ _)
theorem VN (s:ByteArray) (fo le wo:Bool) (W:World):Calls Tryz.prog 16 #[.string s, .string ⟨#[]⟩, .agg #[.bool fo, .bool le, .bool wo]] W (jQ [] W):=by go_enter Tryz.func16,Tryz.ntmps16;go_wp2_with fail;go_step3;go_wp2_with fail;rw[Exit.noGoto_ret];go_ret;exact⟨_,rfl,(aF _ W).alloc (ay _) _,⟨rfl, .inl ⟨rfl,rfl⟩⟩⟩
theorem foldS {W:World} (h:Ask W) (x:List UInt8) (w:World) (hb:Below W.heap.size W w) (hx:x.length<=10000):Calls Tryz.prog 69 #[.string ⟨x.toArray⟩] w λe w'=>e= .returned (.string ⟨(wr 3 x).toArray⟩)/\Below w.heap.size w w':=
 acy x w (h.opens w hb) (kS hb h.tabs) hx
theorem VO (s t:List UInt8) (fo le wo:Bool) (W:World) (h:Ask W) (hs:s.length<=10000) (ht:t.length<=10000):
 Calls Tryz.prog 16 #[.string ⟨s.toArray⟩, .string ⟨t.toArray⟩, .agg #[.bool fo, .bool le, .bool wo]] W (jQ (kW s t fo le wo) W):=by
 by_cases hn:t=[]
 ·subst hn;exact VN _ fo le wo W
 ·unfold kW;rw[aj hn];refine ZE _ t (sZ fo t) _ fo le wo W hn (agn _ _) (aS (LC _ _) (by omega)) (λe=>by subst e;rfl) (λe w hb=> ?_) (λw hb=> ?_)
  ·subst e;exact foldS h t w hb ht
  ·have h':=h.go hb;refine VK s fo le wo (Dm s) (qm s) w h'.tabs hs (λ_ x v hv hx=>foldS h' x v hv hx) (λ_ v hv=>acQ s v (h'.go hv).newG hs) (λ_ v hv=> ?_);refine(QZ s v (h'.go hv).ajz hs).mono ?_;rintro e u ⟨A,n,c,e1,e2,_,e3⟩;exact⟨A,n,c,e1,e2,e3⟩
theorem acU (s t:List UInt8) (fo le wo:Bool) (W:World) (h:Ask W) (hs:s.length<=900) (ht:t.length<=10000):
 Calls Tryz.prog 15 #[.string ⟨s.toArray⟩, .string ⟨t.toArray⟩, .agg #[.bool fo, .bool le, .bool wo]] W (qx (Left.kT 0 (kW s t fo le wo)) W):=
 agq _ _ _ fo le wo W (aS (zH s t fo le wo) (by omega)) λw hb=>VO s t fo le wo w (h.go hb) (by omega) ht
