/- SearchWide, walked: grapheme.Bounds, exactly; search.Every, All, Is of texts. -/
import Derived.Test.YtocaiijbhepnnaaGreatDoorFJ
import Derived.Test.YtocaiijbhepnnaaGreatDoorGB
set_option maxRecDepth 100000
set_option maxHeartbeats 8000000
namespace Go.Proofs.YtocaiijbhepnnaaGreatDoor.searchWide
open Go.Shelf Go.RowKit Go.Lib Go.Proofs.YtocaiijbhepnnaaGreatDoor.Am
def zu (c:Int):Bool:=c==1||c==2||c==3
def J2 (x y:Int):Bool:=
 if(x==1&&y==2)=true then true else if(zu x||zu y)=true then false else if(y==4||y==5||y==6||x==7)=true then true
 else if(x==8)=true then(y==8||y==9||y==11)else if(x==9||x==11)=true then(y==9||y==10)else(x==10&&y==10)
theorem WB (c:Int) (W:World):Calls Tryz.prog 229 #[.int .i64 c] W (zl (zu c) W):=by
 unfold zu;by_cases h1:c=1;·subst h1;go_enter Tryz.func229,Tryz.ntmps229;go_wp2;go_ret;exact⟨rfl,rfl⟩
 ·by_cases h2:c=2
  ·subst h2;go_enter Tryz.func229,Tryz.ntmps229;go_wp2;go_ret;exact⟨rfl,rfl⟩
  ·go_enter Tryz.func229,Tryz.ntmps229;go_wp2;go_ret;exact⟨by first|rfl|simp[h1,h2],rfl⟩
theorem jS (x y:Int) (W:World):Calls Tryz.prog 168 #[.int .i64 x, .int .i64 y] W (zl (J2 x y) W):=by
 cases hx:zu x<;>cases hy:zu y;all_goals
  have HX:=ah hx;have HY:=ah hy;clear hx hy;go_enter Tryz.func168,Tryz.ntmps168;go_wp2_with (go_at_call 229;(refine(WB _ _).mono ?_;rintro e w1 ⟨rfl,rfl⟩;first|rw[HX.out]|rw[HY.out]|rw[show zu 1=true from rfl]|rw[show zu 2=true from rfl]));all_goals go_ret
  all_goals refine⟨?_,rfl⟩
  all_goals (have hx:=HX.out;have hy:=HY.out;clear HX HY;unfold J2;simp only[zu]at*;simp_all)
section
open Folds (dec aZ bQ)
noncomputable def zw:ByteArray:=aaY Tryz.f166.body
def Zq (w:World):Prop:=Calls Tryz.prog 95 #[.string zw] w λe w'=>∃d x y,e= .returned (.tuple #[d,x,y])/\Ew w' d jC/\Below w.heap.size w w'
theorem Mk:F6 jC=true:=by decide+kernel
theorem acY (W:World) (hN:Zq W):Calls Tryz.prog 166 #[] W λe w'=>∃d,e= .returned d/\Ew w' d jC/\Below W.heap.size W w':=by have HN:=ah hN;clear hN;go_enter Tryz.func166,Tryz.ntmps166;go_wp2_with (go_at_call 95;refine HN.out.mono ?_;rintro e w1 ⟨d,x,y,rfl,hd,hb⟩;have HD:=ah hd;have HB:=ah hb;clear hd hb);go_ret;exact⟨_,rfl,HD.out,HB.out⟩
def Hu (t:List UInt8):List Int:=(marks t).map λx=>fT jC (fD (x.2:Int))
structure OL (W:World) (s:ByteArray) (e m:Nat) (v:Value) (zs:List Int) (w:World):Prop where
 aD:Below W.heap.size W w
 it:w.heap[W.heap.size]? =some (.stringIter s e)
 own:w.ownsRow W.heap.size 3 1 v m (bX zs)
section
variable {W w w':World} {s:ByteArray} {e m:Nat} {v:Value} {zs:List Int}
theorem OL.below (h:OL W s e m v zs w) (hb:Below w.heap.size w w'):OL W s e m v zs w':=
 ⟨h.aD.trans (hb.mono h.aD.size),bM hb h.it,own_below hb h.own⟩
theorem OL.alloc (h:OL W s e m v zs w) (o:Obj):OL W s e m v zs (w.alloc o):=h.below ((aM _ w).alloc (ay _) o)
theorem OL.gD (h:OL W s e m v zs w) {o:Obj}:(w.alloc o).ownsRow W.heap.size 3 1 v m (bX zs):=(h.alloc o).own
theorem OL.iter (h:OL W s e m v zs w) (e':Nat):OL W s e' m v zs (w.iterAt W.heap.size s e'):=
 ⟨below_iterAt h.aD (ay _) s e',iterAt_heap w _ s e e' h.it,own_iterAt h.it h.own⟩
theorem OL.grow (h:OL W s e m v zs w) {o:Obj} {v':Value} {x:Int} (ho:w'.ownsRow W.heap.size 3 1 v' (m+1) (bX zs++[.int .i64 x])) (hg:(w.alloc o).grownBy w' v.ownBlock):OL W s e (m+1) v' (zs++[x]) w':=by have h':=h.alloc o;refine⟨h'.aD.grown hg h'.aD.size (λk hk=>(bZ h'.own hk).1),?_,by rw[nJ];exact ho⟩;rw[hg.block _ (bU h'.it) (own_ne h'.own h'.it (λ_ h=>by cases h))];exact h'.it
end
def acZ (zs:List Int) (W:World) (e:Ending) (w':World):Prop:=∃A n c,e= .returned (.slice A n c)/\cB w' A n zs/\Below W.heap.size W w'
theorem ac0 (t:List UInt8) (d:Value) (W:World) (hD:Ew W d jC) (hn:t.length<=10000):Calls Tryz.prog 167 #[d, .string ⟨t.toArray⟩] W (acZ (Hu t) W):=by
 obtain⟨s,hs⟩:∃s:ByteArray,(⟨t.toArray⟩:ByteArray)=s:=⟨_,rfl⟩
 have hss:s.size=t.length:=size_mk t s hs;rw[hs];have HS:=ah hs;have oI:=ah hss;have LY:=ah hn;have HD:=ah hD;obtain⟨D,oD,R,oR,cD,rfl,_,_,_⟩:=hD;clear hs hss hn;obtain⟨i0,hI0,hz0,hz1,hz2⟩:=iA l9;go_enter Tryz.func167,Tryz.ntmps167;go_wp2_with fail;go_loopw [5] (λvo wr=>∃(e f m:Nat) (A:Option Addr) (c:Nat) (zs:List Int),vo= .slice A m c/\OL W s e m (.slice A m c) zs wr/\e<=s.size/\s.size<f+e+1/\m<=e/\zs++(aG t f e).map (λx=>fT jC (fD (x.2:Int)))=Hu t) (λ_ wr=>s.size-wr.iterPos W.heap.size);case atStart=>exact⟨0,t.length,0,none,0,[],rfl,⟨(aM _ W).alloc (ay _) _,dH W _,⟨rfl, .inl ⟨rfl,rfl⟩⟩⟩,aL _,by have:=oI.out;omega,ay _,rfl⟩
 case round=>
  obtain⟨e,f,m,A,c,zs,rfl,hOL,he,hf,hm,hl⟩:=hrel;have hit:=hOL.it;have HOL:=ah hOL;clear hOL;by_cases hlt:e<s.size
  ·obtain⟨f',rfl⟩:∃f',f=f'+1:=⟨f-1,by omega⟩
   have hlt2:e<t.length:=by have:=oI.out;omega
   unfold aG at hl;rw[au hlt2,jV]at hl;dsimp only at hl;have hnx:=λty=>run_next_any_at (P:=Tryz.prog) wr _ s e ty hit hlt;rw[ig t e s HS.out]at hnx;have hne2:t.drop e≠[]:=by intro c;rw[lI]at c;have:=oI.out;omega
   have hd1:=aZ (t.drop e);have hd2:=bQ (t.drop e) hne2;rw[dF,<-oI.out]at hd2;obtain⟨r,hr⟩:∃r:Int,((dec (t.drop e)).1:Int)=r:=⟨_,rfl⟩
   obtain⟨wd,hwd⟩:∃wd,(dec (t.drop e)).2=wd:=⟨_,rfl⟩
   rw[hwd]at hd1 hd2 hl;rw[hr]at hl;rw[hr,hwd]at hnx;obtain⟨ew,F5⟩:∃ew,e+wd=ew:=⟨_,rfl⟩
   rw[F5]at hnx hl;obtain⟨cx,hcx⟩:∃cx,fT jC (fD r)=cx:=⟨_,rfl⟩
   rw[hcx]at hl;have HCX:=ah hcx;have HL:=ah hl;clear hr hwd hcx hl hlt2 hne2;have HLEN:=ah (afH hm he (by rw[oI.out];exact LY.out));have tq:=ah (HOL.out.iter ew);have hq2:wr.iterPos W.heap.size=e:=by unfold World.iterPos;rw[hit]
   have KEY:=ah (λ(B1:Option Addr) (d1:Nat) (w':World) (h:OL W s ew (m+1) (.slice B1 (m+1) d1) (zs++[cx]) w')=>
    show(∃(e' f m':Nat) (A:Option Addr) (c:Nat) (zs':List Int),Value.slice B1 (m+1) d1= .slice A m' c/\OL W s e' m' (.slice A m' c) zs' w'/\e'<=s.size/\s.size<f+e'+1/\m'<=e'/\zs'++(aG t f e').map (λx=>fT jC (fD (x.2:Int)))=Hu t)/\s.size-w'.iterPos W.heap.size<s.size-wr.iterPos W.heap.size from by
     refine⟨⟨ew,f',m+1,B1,d1,_,rfl,h,by omega,by omega,by omega,by rw[iJ];exact HL.out⟩,?_⟩;have q1:w'.iterPos W.heap.size=ew:=by unfold World.iterPos;rw[h.it]
     rw[q1,hq2];omega)
   clear F5 hd1 hd2 hf hm he hq2 hlt;go_wp2_with (first|(go_at_call 146;refine(Ol jC Mk r _ _ rfl (by decide+kernel) _ (xK HD.out tq.out.aD)).mono ?_;rintro x wz ⟨rfl,hbz⟩;rw[HCX.out];have xM:=Lib.hid (tq.out.below hbz);clear hbz)|(at_builtin;refine bV _ rfl (.tmp 15) (.tmp 19) 41 rfl W.heap.size 3 i0 _ 8 Tryz.underlying41 hI0 hz0 hz1 hz2 rfl (.slice A m c) m (bX zs) rfl xM.out.gD _ 1 1 [.int .i64 cx] rfl (eT _ _ _) (by simp[Value.oneCell']) HLEN.out.1 HLEN.out.2 (by rw[World.size_alloc];have:=xM.out.aD.size;omega) ?_;intro v' wp ho hg hn;obtain⟨B1,d1,rfl,_⟩:=aW ho;have xL:=Lib.hid (xM.out.grow ho hg);clear ho hg hn hnx hit));exact KEY.out _ _ _ xL.out
  ·obtain rfl:e=s.size:=by omega
   have hz:aG t f s.size=[]:=by
    cases f with
    |zero=>rfl
    |succ f=>unfold aG;rw[ak (by have:=oI.out;omega)]
   rw[hz,List.map_nil,iL]at hl;clear hz;have hnx:=λty=>run_next_end_at (P:=Tryz.prog) wr _ s s.size ty hit hlt;have hmm:m<=100000:=by have:=oI.out;have:=LY.out;omega
   have HM:=ah hmm;have HL:=ah hl;clear hf he hm hmm hl hlt;go_wp2_with fail;go_ret;exact⟨A,m,c,rfl,by rw[<-HL.out];exact kM HOL.out.own HM.out,HOL.out.aD⟩
end
section
open Folds (dec aZ bQ)
section
variable {Q:Exit->Act->World->Prop} {J:Act->World->Prop} {a:Act} {w:World} {l:Nat}
@[go_sem] theorem fU:Exit.jump l J Q .normal a w=Q .normal a w:=rfl
end
theorem dJ {P:Program} {a:Act} {w:World} {Q:Exit->Act->World->Prop} {c rest:Code} (l:Nat) (hf:findLabel c l=some rest)
 (h:c.wp P (Exit.jump l (λa w=>rest.wp P (Exit.noGoto Q) a w) Q) a w):(Code.scope c).wp P Q a w:=by
 refine wp_scope_jumps l (λa w=>rest.wp P (Exit.noGoto Q) a w) (λ_ _=>0) hf h (λa w hJ=>wp_mono hJ ?_);intro e a w hq;cases e with
 |goto l'=>exact hq.elim
 |_=>exact hq
def gbF (cls:List Int):List (Nat×Nat)->Nat->Bool->Bool->Nat->List Int
 |[],_,_,_,_=>[]
 |x::r,k,p,j,fl=>
  let y:=cls.getD k 0
  let rest:=gbF cls r (k+1) (y==12||(p&&y==4)) (p&&y==5) (if y=13 then fl+1 else 0)
  if k=0\/J2 (cls.getD (k-1) 0) y=true\/(j=true/\y=12)\/(y=13/\fl%2=1)then rest else(x.1:Int)::rest
def F7 (t:List UInt8):List Int:=if t=[]then[]else 0::gbF (Hu t) (marks t) 0 false false 0++[(t.length:Int)]
structure GL (w2:World) (s:ByteArray) (e m:Nat) (v:Value) (zs:List Int) (w:World):Prop where
 aD:Below w2.heap.size w2 w
 it:w.heap[w2.heap.size+1]? =some (.stringIter s e)
 own:w.ownsRow w2.heap.size 3 1 v m (bX zs)
section
variable {W w w':World} {s:ByteArray} {e m:Nat} {v:Value} {zs:List Int}
theorem GL.below (h:GL W s e m v zs w) (hb:Below w.heap.size w w'):GL W s e m v zs w':=
 ⟨h.aD.trans (hb.mono h.aD.size),bM hb h.it,own_below hb h.own⟩
theorem GL.alloc (h:GL W s e m v zs w) (o:Obj):GL W s e m v zs (w.alloc o):=h.below ((aM _ w).alloc (ay _) o)
theorem GL.gD (h:GL W s e m v zs w) {o:Obj}:(w.alloc o).ownsRow W.heap.size 3 1 v m (bX zs):=(h.alloc o).own
theorem GL.iter (h:GL W s e m v zs w) (e':Nat):GL W s e' m v zs (w.iterAt (W.heap.size+1) s e'):=
 ⟨below_iterAt h.aD (lV _) s e',iterAt_heap w _ s e e' h.it,own_iterAt h.it h.own⟩
theorem GL.grow (h:GL W s e m v zs w) {o:Obj} {v':Value} {x:Int} (ho:w'.ownsRow W.heap.size 3 1 v' (m+1) (bX zs++[.int .i64 x])) (hg:(w.alloc o).grownBy w' v.ownBlock):GL W s e (m+1) v' (zs++[x]) w':=by have h':=h.alloc o;refine⟨h'.aD.grown hg h'.aD.size (λk hk=>(bZ h'.own hk).1),?_,by rw[nJ];exact ho⟩;rw[hg.block _ (bU h'.it) (own_ne h'.own h'.it (λ_ h=>by cases h))];exact h'.it
theorem GL.start (W:World) (s:ByteArray):GL W s 0 1 (.slice (some ⟨W.heap.size,0,none⟩) 1 1) [0] ((W.alloc (.cells #[.int .i64 0] 3)).alloc (.stringIter s 0)):=by
 refine⟨((aM _ W).alloc (ay _) _).alloc (by simp) _,?_,⟨rfl, .inr ⟨W.heap.size,1,#[.int .i64 0],rfl,ay _,?_,ay _,by decide,rfl,rfl⟩⟩⟩;·have:=dH (W.alloc (.cells #[.int .i64 0] 3)) (.stringIter s 0);rw[jL]at this;exact this
 ·exact(Below.heap_alloc _ _ _ (by simp)).trans (dH _ _)
end
end
section
open Folds (dec aZ bQ)
theorem WC (y:Int):y=12\/y=13\/y=4\/y=5\/(¬y=12/\¬y=13/\¬y=4/\¬y=5):=by omega
theorem Zr (t:List UInt8) (W:World) (hN:∀w,Below W.heap.size W w->Zq w) (hn:t.length<=10000):Calls Tryz.prog 115 #[.string ⟨t.toArray⟩] W (Fa (F7 t) W):=by
 obtain⟨s,hs⟩:∃s:ByteArray,(⟨t.toArray⟩:ByteArray)=s:=⟨_,rfl⟩
 have hss:s.size=t.length:=size_mk t s hs;have HGB:=ah (acY W (hN W (aM _ W)));have HOF:=ah (λd w (hd:Ew w d jC)=>ac0 t d w hd hn);rw[hs]at HOF⊢;have HS:=ah hs;have oI:=ah hss;have LY:=ah hn;clear hs hss hn hN;obtain⟨i0,hI0,hz0,hz1,hz2⟩:=iA l9;by_cases ht:t=[]
 ·have hse:(s==⟨#[]⟩)=true:=by rw[<-HS.out,ht];rfl
  obtain rfl:s=⟨#[]⟩:=by rw[<-HS.out,ht]
  subst ht;go_enter Tryz.func115,Tryz.ntmps115;go_wp2_with fail;go_ret;exact⟨none,0,0,rfl,⟨rfl,by decide,λh=>absurd h (by decide)⟩,aM _ _⟩
 have hse:s.toList.isEmpty=false:=by
  rw[<-HS.out,ByteArray.toList_mk];cases t with
  |nil=>exact absurd rfl ht
  |cons a b=>rfl
 have HT:=ah ht;clear ht;go_enter Tryz.func115,Tryz.ntmps115;go_wp2_with (first|(go_at_call 166;refine HGB.out.mono ?_;rintro e w1 ⟨d,rfl,hd,hb1⟩;have HD:=ah hd;have HB1:=ah hb1;clear hd hb1)|(go_at_call 167;refine(HOF.out _ _ HD.out).mono ?_;rintro e w2 ⟨A,n,c,rfl,hi,hb2⟩;have HI:=ah hi;have HB2:=ah (HB1.out.trans (hb2.mono HB1.out.size));clear hi hb2));obtain⟨cls,hcls⟩:∃l,Hu t=l:=⟨_,rfl⟩
 obtain⟨Z,hZ⟩:∃Z,0::gbF cls (marks t) 0 false false 0=Z:=⟨_,rfl⟩
 have hml:(marks t).length=n:=by rw[<-HI.out.len];unfold Hu;rw[dR]
 have HWB:=ah (show F7 t=Z++[(t.length:Int)]by unfold F7;rw[ak HT.out,hcls,<-hZ]);rw[hcls]at HI;have HZ:=ah hZ;have HML:=ah hml;have hsm:=HI.out.small;have TG:=ah hsm;clear hcls hZ hml hsm HGB HOF HD HB1 hse;go_loopw [4,5,6,7,8] (λvl vi vp vj vf wr=>∃(e f k mo fl:Nat) (Al:Option Addr) (co:Nat) (zs:List Int) (i:Int) (p j:Bool),vl= .slice Al mo co/\vi= .int .i64 i/\i+1=(k:Int)/\vp= .bool p/\vj= .bool j/\vf= .int .i64 fl/\GL w2 s e mo (.slice Al mo co) zs wr/\e<=s.size/\s.size<f+e+1/\mo<=k+1/\fl<=k/\k<=e/\k+(aG t f e).length=n/\zs++gbF cls (aG t f e) k p j fl=Z) (λ_ _ _ _ _ wr=>s.size-wr.iterPos (w2.heap.size+1));case atStart=>
  exact⟨0,t.length,0,1,0,_,_,[0],-1,false,false,rfl,rfl,rfl,rfl,rfl,rfl,GL.start w2 s,aL _,by have:=oI.out;omega,ay _,ay _,ay _,by rw[bL];exact HML.out,HZ.out⟩
 case round=>
  obtain⟨e,f,k,mo,fl,Al,co,zs,i,p,j,rfl,rfl,hik,rfl,rfl,rfl,hGL,he,hf,hmo,hfl,hke,hkn,hl⟩:=hrel;have hit:=hGL.it;have HGL:=ah hGL;clear hGL;by_cases hlt:e<s.size
  ·obtain⟨f',rfl⟩:∃f',f=f'+1:=⟨f-1,by omega⟩
   have hlt2:e<t.length:=by have:=oI.out;omega
   unfold aG at hl hkn;rw[au hlt2]at hl hkn;rw[dx]at hkn;have hnx:=λty=>run_next_any_at (P:=Tryz.prog) wr _ s e ty hit hlt;rw[ig t e s HS.out]at hnx;have hne2:t.drop e≠[]:=by intro c;rw[lI]at c;have:=oI.out;omega
   have hd1:=aZ (t.drop e);have hd2:=bQ (t.drop e) hne2;rw[dF,<-oI.out]at hd2;obtain⟨r0,hr0⟩:∃r0,(dec (t.drop e)).1=r0:=⟨_,rfl⟩
   rw[hr0]at hl hnx;clear hr0;obtain⟨r,hr⟩:∃r:Int,(r0:Int)=r:=⟨_,rfl⟩
   obtain⟨wd,hwd⟩:∃wd,(dec (t.drop e)).2=wd:=⟨_,rfl⟩
   rw[hwd]at hd1 hd2 hl hnx hkn;clear hwd;rw[hr]at hnx;clear hr;obtain⟨ew,F5⟩:∃ew,e+wd=ew:=⟨_,rfl⟩
   rw[F5]at hnx hl hkn;obtain⟨g1,o1,rfl,hg1,hc1⟩:=HI.out.at_ (by omega);have hkl:k<n:=by omega
   have tq:=ah (HGL.out.iter ew);have hcy:=(tq.out.aD.cell (p:=⟨g1,o1+k,none⟩) hg1).trans (hc1 k hkl);have hcx:∀k1,k1<n->(wr.iterAt (w2.heap.size+1) s ew).cell? ⟨g1,o1+k1,none⟩=some (.int .i64 (cls.getD k1 0)):=λk1 h=>(tq.out.aD.cell (p:=⟨g1,o1+k1,none⟩) hg1).trans (hc1 k1 h);have HCX:=ah hcx;clear hcx hc1 hg1;unfold gbF at hl;dsimp only at hl;obtain⟨y,hy⟩:∃y,cls.getD k 0=y:=⟨_,rfl⟩
   rw[hy]at hl hcy;clear hy;have HLEN:Hid (mo+1<=maxLen/\(mo+1)*8<=0x800000000000):=ah (by have:=TG.out;exact⟨by simp only[maxLen];omega,by omega⟩);have hq2:wr.iterPos (w2.heap.size+1)=e:=by unfold World.iterPos;rw[hit]
   have HKS:=ah (show k<=100000 by have:=TG.out;omega);have Zt:=ah (λ(Al':Option Addr) (co' Wp fl':Nat) (zs':List Int) (p' j':Bool) (w':World) (hm':Wp<=k+1+1) (hf':fl'<=k+1) (hz':zs'++gbF cls (aG t f' ew) (k+1) p' j' fl'=Z) (h:GL w2 s ew Wp (.slice Al' Wp co') zs' w')=>
    show(∃(e f k' mo fl:Nat) (Al:Option Addr) (co:Nat) (zs:List Int) (i:Int) (p j:Bool),Value.slice Al' Wp co'= .slice Al mo co/\Value.int .i64 (k:Int)= .int .i64 i/\i+1=(k':Int)/\Value.bool p'= .bool p/\Value.bool j'= .bool j/\Value.int .i64 (fl':Int)= .int .i64 fl/\GL w2 s e mo (.slice Al mo co) zs w'/\e<=s.size/\s.size<f+e+1/\mo<=k'+1/\fl<=k'/\k'<=e/\k'+(aG t f e).length=n/\zs++gbF cls (aG t f e) k' p j fl=Z)/\s.size-w'.iterPos (w2.heap.size+1)<s.size-wr.iterPos (w2.heap.size+1)from by
     refine⟨⟨ew,f',k+1,Wp,fl',Al',co',zs',(k:Int),p',j',rfl,rfl,by omega,rfl,rfl,rfl,h,by omega,by omega,hm',hf',by omega,by omega,hz'⟩,?_⟩;have q1:w'.iterPos (w2.heap.size+1)=ew:=by unfold World.iterPos;rw[h.it]
     rw[q1,hq2];omega)
   have hwi:wrap64 (i+1)=(k:Int):=by have:=HKS.out;unfold wrap64;omega
   have Zu:=ah (show wrap64 ((fl:Int)+1)=((fl+1:Nat):Int)by have:=HKS.out;unfold wrap64;omega);have ank:(0:Int)<=k:=by omega
   have anl:(k:Int)<n:=by omega
   have V3:=ah (show mo<=k+1+1 by omega);have R6:=ah (show mo+1<=k+1+1 by omega);have Zv:=ah (show fl+1<=k+1 by omega);have HL:=ah hl;clear hl F5 hd1 hd2 hf he hq2 hlt hkn hmo hfl hke hne2 hlt2 hik;rcases jI k with hkz|hkz
   ·have hk0:((k:Int)==0)=true:=by simp[hkz]
    have hl:=HL.out;rw[au (Or.inl hkz)]at hl;have Qy:=ah hl;have hk1:(k:Int)=0:=by omega
    have HK1:=ah hk1;clear hl HL hkz hk1;rcases WC y with rfl|rfl|rfl|rfl|⟨Oy,y13,y4,y5⟩<;>((try (have z12:(y==12)=false:=beq_eq_false_iff_ne.2 Oy;have z13:(y==13)=false:=beq_eq_false_iff_ne.2 y13;have z4:(y==4)=false:=beq_eq_false_iff_ne.2 y4;have z5:(y==5)=false:=beq_eq_false_iff_ne.2 y5));(go_wp2_with fail;refine dJ 0 rfl ?_;go_wp2_with fail;go_step3;refine And.intro rfl ?_;show Code.wp _ _ _ _ _;cases p<;>(go_wp2_with fail;(first|rw[Exit.noGoto_normal]|rw[fU]);go_wp2_with fail;(try rw[hwi]);(try rw[Zu.out]);exact Zt.out _ _ mo _ _ _ _ _ V3.out (by first|exact Nat.zero_le _|exact Zv.out) (by have h:=Qy.out;first|exact h|simpa[Oy,y13,y4,y5,z12,z4,z5]using h) tq.out)))
   ·have hk0:((k:Int)==0)=false:=by simp;omega
    have hk1:¬(k:Int)=0:=by omega
    obtain⟨k1,afX⟩:∃k1,k-1=k1:=⟨_,rfl⟩
    have hwk:wrap64 ((k:Int)-1)=(k1:Int):=by have:=HKS.out;unfold wrap64;omega
    have hq0:(0:Int)<=k1:=by omega
    have hq1:(k1:Int)<n:=by omega
    have ajK:=HCX.out k1 (by omega);have hl:=HL.out;rw[afX]at hl;obtain⟨x,hx⟩:∃x,cls.getD k1 0=x:=⟨_,rfl⟩
    rw[hx]at hl ajK;have HKP:=ah hkz;have HL3:=ah hl;clear hl HL hx hkz afX;cases hgj:J2 x y;case true=>
     have hl:=HL3.out;rw[au (Or.inr (Or.inl hgj))]at hl;have Qy:=ah hl;have Qz:=ah hgj;clear hl hgj;rcases WC y with rfl|rfl|rfl|rfl|⟨Oy,y13,y4,y5⟩<;>((try (have z12:(y==12)=false:=beq_eq_false_iff_ne.2 Oy;have z13:(y==13)=false:=beq_eq_false_iff_ne.2 y13;have z4:(y==4)=false:=beq_eq_false_iff_ne.2 y4;have z5:(y==5)=false:=beq_eq_false_iff_ne.2 y5));(go_wp2_with fail;refine dJ 0 rfl ?_;go_wp2_with (go_at_call 168;refine(jS _ _ _).mono ?_;rintro e' w1 ⟨rfl,rfl⟩;rw[Qz.out]);go_step3;refine And.intro rfl ?_;show Code.wp _ _ _ _ _;cases p<;>(go_wp2_with fail;(first|rw[Exit.noGoto_normal]|rw[fU]);go_wp2_with fail;(try rw[hwi]);(try rw[Zu.out]);exact Zt.out _ _ mo _ _ _ _ _ V3.out (by first|exact Nat.zero_le _|exact Zv.out) (by have h:=Qy.out;first|exact h|simpa[Oy,y13,y4,y5,z12,z4,z5]using h) tq.out)))
    case false=>
     have Qz:=ah hgj;clear hgj;rcases WC y with rfl|rfl|rfl|rfl|⟨Oy,y13,y4,y5⟩
     ·cases j;case true=>(have hl:=HL3.out;rw[if_pos (Or.inr (Or.inr (Or.inl ⟨rfl,rfl⟩)))]at hl;have Qy:=Lib.hid hl;clear hl;(go_wp2_with fail;refine dJ 0 rfl ?_;go_wp2_with (go_at_call 168;refine(jS _ _ _).mono ?_;rintro e' w1 ⟨rfl,rfl⟩;rw[Qz.out]);go_step3;refine And.intro rfl ?_;show Code.wp _ _ _ _ _;cases p<;>(go_wp2_with fail;(first|rw[Exit.noGoto_normal]|rw[fU]);go_wp2_with fail;(try rw[hwi]);(try rw[Zu.out]);exact Zt.out _ _ mo _ _ _ _ _ V3.out (by first|exact Nat.zero_le _|exact Zv.out) (by have h:=Qy.out;first|exact h|simpa[Oy,y13,y4,y5,z12,z4,z5]using h) tq.out)))
      case false=>(have hl:=HL3.out;rw[if_neg (λh=>h.elim (λh=>absurd h (Nat.ne_of_gt HKP.out)) (λh=>h.elim (λh=>by rw[Qz.out]at h;exact Bool.false_ne_true h) (λh=>h.elim (λh=>by exact Bool.false_ne_true h.1) (λh=>by exact absurd h.1 (by decide)))))]at hl;have Wo:=Lib.hid hl;clear hl;(go_wp2_with fail;refine dJ 0 rfl ?_;go_wp2_with (first|(go_at_call 168;refine(jS _ _ _).mono ?_;rintro e' w1 ⟨rfl,rfl⟩;rw[Qz.out])|(at_builtin;refine bV _ rfl (.tmp 53) (.tmp 55) 41 rfl w2.heap.size 3 i0 _ 8 Tryz.underlying41 hI0 hz0 hz1 hz2 rfl (.slice Al mo co) mo (bX zs) rfl tq.out.gD _ 1 1 [.int .i64 e] rfl (eT _ _ _) (by simp[Value.oneCell']) HLEN.out.1 HLEN.out.2 (by rw[World.size_alloc];have:=tq.out.aD.size;omega) ?_;intro v' wp ho hg hn;obtain⟨B1,d1,rfl,_⟩:=aW ho;have xL:=Lib.hid (tq.out.grow ho hg);clear ho hg hn hnx hit));go_step3;rename_i K hK;refine hK _ _ ?_;cases p<;>(go_wp2_with fail;(first|rw[Exit.noGoto_normal]|rw[fU]);go_wp2_with fail;(try rw[hwi]);(try rw[Zu.out]);exact Zt.out _ _ (mo+1) _ _ _ _ _ R6.out (by first|exact Nat.zero_le _|exact Zv.out) (by simp only[List.append_assoc,List.cons_append,List.nil_append];have h:=Wo.out;first|exact h|simpa[Oy,y13,y4,y5,z12,z4,z5]using h) xL.out)))
     ·rcases Nat.mod_two_eq_zero_or_one fl with hpa|hpa
      ·have hpj:Int.tmod (fl:Int) 2=0:=by(rw[show(2:Int)=((2:Nat):Int)from rfl,<-Int.ofNat_tmod,hpa];rfl)
       have HPA:=ah hpa;clear hpa;cases j<;>(have hl:=HL3.out;rw[if_neg (λh=>h.elim (λh=>absurd h (Nat.ne_of_gt HKP.out)) (λh=>h.elim (λh=>by rw[Qz.out]at h;exact Bool.false_ne_true h) (λh=>h.elim (λh=>by exact absurd h.2 (by decide)) (λh=>by(have:=HPA.out;omega)))))]at hl;have Wo:=Lib.hid hl;clear hl;(go_wp2_with fail;refine dJ 0 rfl ?_;go_wp2_with (first|(go_at_call 168;refine(jS _ _ _).mono ?_;rintro e' w1 ⟨rfl,rfl⟩;rw[Qz.out])|(at_builtin;refine bV _ rfl (.tmp 53) (.tmp 55) 41 rfl w2.heap.size 3 i0 _ 8 Tryz.underlying41 hI0 hz0 hz1 hz2 rfl (.slice Al mo co) mo (bX zs) rfl tq.out.gD _ 1 1 [.int .i64 e] rfl (eT _ _ _) (by simp[Value.oneCell']) HLEN.out.1 HLEN.out.2 (by rw[World.size_alloc];have:=tq.out.aD.size;omega) ?_;intro v' wp ho hg hn;obtain⟨B1,d1,rfl,_⟩:=aW ho;have xL:=Lib.hid (tq.out.grow ho hg);clear ho hg hn hnx hit));go_step3;rename_i K hK;refine hK _ _ ?_;cases p<;>(go_wp2_with fail;(first|rw[Exit.noGoto_normal]|rw[fU]);go_wp2_with fail;(try rw[hwi]);(try rw[Zu.out]);exact Zt.out _ _ (mo+1) _ _ _ _ _ R6.out (by first|exact Nat.zero_le _|exact Zv.out) (by simp only[List.append_assoc,List.cons_append,List.nil_append];have h:=Wo.out;first|exact h|simpa[Oy,y13,y4,y5,z12,z4,z5]using h) xL.out)))
      ·have hpj:Int.tmod (fl:Int) 2=1:=by(rw[show(2:Int)=((2:Nat):Int)from rfl,<-Int.ofNat_tmod,hpa];rfl)
       have HPA:=ah hpa;clear hpa;cases j<;>(have hl:=HL3.out;rw[if_pos (Or.inr (Or.inr (Or.inr ⟨rfl,HPA.out⟩)))]at hl;have Qy:=Lib.hid hl;clear hl;(go_wp2_with fail;refine dJ 0 rfl ?_;go_wp2_with (go_at_call 168;refine(jS _ _ _).mono ?_;rintro e' w1 ⟨rfl,rfl⟩;rw[Qz.out]);go_step3;refine And.intro rfl ?_;show Code.wp _ _ _ _ _;cases p<;>(go_wp2_with fail;(first|rw[Exit.noGoto_normal]|rw[fU]);go_wp2_with fail;(try rw[hwi]);(try rw[Zu.out]);exact Zt.out _ _ mo _ _ _ _ _ V3.out (by first|exact Nat.zero_le _|exact Zv.out) (by have h:=Qy.out;first|exact h|simpa[Oy,y13,y4,y5,z12,z4,z5]using h) tq.out)))
     ·cases j<;>(have hl:=HL3.out;rw[if_neg (λh=>h.elim (λh=>absurd h (Nat.ne_of_gt HKP.out)) (λh=>h.elim (λh=>by rw[Qz.out]at h;exact Bool.false_ne_true h) (λh=>h.elim (λh=>by exact absurd h.2 (by decide)) (λh=>by exact absurd h.1 (by decide)))))]at hl;have Wo:=Lib.hid hl;clear hl;(go_wp2_with fail;refine dJ 0 rfl ?_;go_wp2_with (first|(go_at_call 168;refine(jS _ _ _).mono ?_;rintro e' w1 ⟨rfl,rfl⟩;rw[Qz.out])|(at_builtin;refine bV _ rfl (.tmp 53) (.tmp 55) 41 rfl w2.heap.size 3 i0 _ 8 Tryz.underlying41 hI0 hz0 hz1 hz2 rfl (.slice Al mo co) mo (bX zs) rfl tq.out.gD _ 1 1 [.int .i64 e] rfl (eT _ _ _) (by simp[Value.oneCell']) HLEN.out.1 HLEN.out.2 (by rw[World.size_alloc];have:=tq.out.aD.size;omega) ?_;intro v' wp ho hg hn;obtain⟨B1,d1,rfl,_⟩:=aW ho;have xL:=Lib.hid (tq.out.grow ho hg);clear ho hg hn hnx hit));go_step3;rename_i K hK;refine hK _ _ ?_;cases p<;>(go_wp2_with fail;(first|rw[Exit.noGoto_normal]|rw[fU]);go_wp2_with fail;(try rw[hwi]);(try rw[Zu.out]);exact Zt.out _ _ (mo+1) _ _ _ _ _ R6.out (by first|exact Nat.zero_le _|exact Zv.out) (by simp only[List.append_assoc,List.cons_append,List.nil_append];have h:=Wo.out;first|exact h|simpa[Oy,y13,y4,y5,z12,z4,z5]using h) xL.out)))
     ·cases j<;>(have hl:=HL3.out;rw[if_neg (λh=>h.elim (λh=>absurd h (Nat.ne_of_gt HKP.out)) (λh=>h.elim (λh=>by rw[Qz.out]at h;exact Bool.false_ne_true h) (λh=>h.elim (λh=>by exact absurd h.2 (by decide)) (λh=>by exact absurd h.1 (by decide)))))]at hl;have Wo:=Lib.hid hl;clear hl;(go_wp2_with fail;refine dJ 0 rfl ?_;go_wp2_with (first|(go_at_call 168;refine(jS _ _ _).mono ?_;rintro e' w1 ⟨rfl,rfl⟩;rw[Qz.out])|(at_builtin;refine bV _ rfl (.tmp 53) (.tmp 55) 41 rfl w2.heap.size 3 i0 _ 8 Tryz.underlying41 hI0 hz0 hz1 hz2 rfl (.slice Al mo co) mo (bX zs) rfl tq.out.gD _ 1 1 [.int .i64 e] rfl (eT _ _ _) (by simp[Value.oneCell']) HLEN.out.1 HLEN.out.2 (by rw[World.size_alloc];have:=tq.out.aD.size;omega) ?_;intro v' wp ho hg hn;obtain⟨B1,d1,rfl,_⟩:=aW ho;have xL:=Lib.hid (tq.out.grow ho hg);clear ho hg hn hnx hit));go_step3;rename_i K hK;refine hK _ _ ?_;cases p<;>(go_wp2_with fail;(first|rw[Exit.noGoto_normal]|rw[fU]);go_wp2_with fail;(try rw[hwi]);(try rw[Zu.out]);exact Zt.out _ _ (mo+1) _ _ _ _ _ R6.out (by first|exact Nat.zero_le _|exact Zv.out) (by simp only[List.append_assoc,List.cons_append,List.nil_append];have h:=Wo.out;first|exact h|simpa[Oy,y13,y4,y5,z12,z4,z5]using h) xL.out)))
     ·have z12:(y==12)=false:=iw.2 Oy;have z13:(y==13)=false:=iw.2 y13;have z4:(y==4)=false:=iw.2 y4;have z5:(y==5)=false:=iw.2 y5;cases j<;>(have hl:=HL3.out;rw[if_neg (λh=>h.elim (λh=>absurd h (Nat.ne_of_gt HKP.out)) (λh=>h.elim (λh=>by rw[Qz.out]at h;exact Bool.false_ne_true h) (λh=>h.elim (λh=>by exact Oy h.2) (λh=>by exact y13 h.1))))]at hl;have Wo:=Lib.hid hl;clear hl;(go_wp2_with fail;refine dJ 0 rfl ?_;go_wp2_with (first|(go_at_call 168;refine(jS _ _ _).mono ?_;rintro e' w1 ⟨rfl,rfl⟩;rw[Qz.out])|(at_builtin;refine bV _ rfl (.tmp 53) (.tmp 55) 41 rfl w2.heap.size 3 i0 _ 8 Tryz.underlying41 hI0 hz0 hz1 hz2 rfl (.slice Al mo co) mo (bX zs) rfl tq.out.gD _ 1 1 [.int .i64 e] rfl (eT _ _ _) (by simp[Value.oneCell']) HLEN.out.1 HLEN.out.2 (by rw[World.size_alloc];have:=tq.out.aD.size;omega) ?_;intro v' wp ho hg hn;obtain⟨B1,d1,rfl,_⟩:=aW ho;have xL:=Lib.hid (tq.out.grow ho hg);clear ho hg hn hnx hit));go_step3;rename_i K hK;refine hK _ _ ?_;cases p<;>(go_wp2_with fail;(first|rw[Exit.noGoto_normal]|rw[fU]);go_wp2_with fail;(try rw[hwi]);(try rw[Zu.out]);exact Zt.out _ _ (mo+1) _ _ _ _ _ R6.out (by first|exact Nat.zero_le _|exact Zv.out) (by simp only[List.append_assoc,List.cons_append,List.nil_append];have h:=Wo.out;first|exact h|simpa[Oy,y13,y4,y5,z12,z4,z5]using h) xL.out)))
  ·obtain rfl:e=s.size:=by omega
   have hz:aG t f s.size=[]:=by
    cases f with
    |zero=>rfl
    |succ f=>unfold aG;rw[ak (by have:=oI.out;omega)]
   rw[hz]at hl;have hzZ:zs=Z:=by rw[<-hl];exact(iL zs).symm
   subst hzZ;clear hl hz;have hnx:=λty=>run_next_end_at (P:=Tryz.prog) wr _ s s.size ty hit hlt;have hmm:mo+1<=100000:=by have:=oI.out;have:=LY.out;omega
   have HMM:=ah hmm;have HLEN:Hid (mo+1<=maxLen/\(mo+1)*8<=0x800000000000):=ah ⟨by simp only[maxLen];omega,by omega⟩;clear hmm hf he hmo hfl hke hkn hlt hik;go_wp2_with (at_builtin;refine bV _ rfl (.tmp 75) (.tmp 78) 41 rfl w2.heap.size 3 i0 _ 8 Tryz.underlying41 hI0 hz0 hz1 hz2 rfl (.slice Al mo co) mo (bX zs) rfl HGL.out.gD _ 1 1 [.int .i64 s.size] rfl (eT _ _ _) (by simp[Value.oneCell']) HLEN.out.1 HLEN.out.2 (by rw[World.size_alloc];have:=HGL.out.aD.size;omega) ?_;intro v' wp ho hg hn;obtain⟨B1,d1,rfl,_⟩:=aW ho;have xL:=Lib.hid (HGL.out.grow ho hg);clear ho hg hn);go_ret;exact⟨B1,mo+1,d1,rfl,by rw[HWB.out,<-oI.out];exact kM xL.out.own HMM.out,HB2.out.trans (xL.out.aD.mono HB2.out.size)⟩
end
structure Ask (W:World):Prop where
 tabs:Lib.Utf8Tabs 2 3 W
 opens:∀w,Below W.heap.size W w->JH w
 newG:∀w,Below W.heap.size W w->Zq w
 afZ:∀w,Below W.heap.size W w->Zg w
theorem Ask.go {W w:World} (h:Ask W) (hb:Below W.heap.size W w):Ask w:=
 ⟨jM hb h.tabs,λv hv=>h.opens v (hb.trans (hv.mono hb.size)),λv hv=>h.newG v (hb.trans (hv.mono hb.size)),λv hv=>h.afZ v (hb.trans (hv.mono hb.size))⟩
def wB (s:List UInt8) (fo le wo:Bool):List Left.Pl:=xR (qL fo) (lK le wo (F7 s) (eu s)) s (s.length+1) 0
def gY (s t:List UInt8) (fo le wo:Bool):List (Nat×Nat):=if t=[]then[]else Left.every (qL fo t) (wB s fo le wo)
theorem Ml (s t:List UInt8) (fo le wo:Bool):Left.rise s.length (gY s t fo le wo):=by
 unfold gY;split;·trivial
 ·rename_i ht;refine Left.EO ?_ (Qx _ _ (aL _));unfold qL;split
  ·exact Wz ht
  ·exact ht
theorem Fe (s t:List UInt8) (fo le wo:Bool):(gY s t fo le wo).length<=s.length+1:=by
 unfold gY;split;·exact aL _
 ·exact bn (Ht _ _) (JX _ _)
theorem Sv (s:ByteArray) (fo le wo:Bool) (W:World):Calls Tryz.prog 16 #[.string s, .string ⟨#[]⟩, .agg #[.bool fo, .bool le, .bool wo]] W (jg [] W):=by go_enter Tryz.func16,Tryz.ntmps16;go_wp2_with fail;go_step3;go_wp2_with fail;rw[Exit.noGoto_ret];go_ret;exact⟨_,rfl,(aM _ W).alloc (ay _) _,⟨rfl, .inl ⟨rfl,rfl⟩⟩⟩
theorem foldS {W:World} (h:Ask W) (x:List UInt8) (w:World) (hb:Below W.heap.size W w) (hx:x.length<=10000):Calls Tryz.prog 69 #[.string ⟨x.toArray⟩] w λe w'=>e= .returned (.string ⟨(wr 3 x).toArray⟩)/\Below w.heap.size w w':=
 Y9 x w (h.opens w hb) (jM hb h.tabs) hx
theorem Hw (s t:List UInt8) (fo le wo:Bool) (W:World) (h:Ask W) (hs:s.length<=10000) (ht:t.length<=10000):
 Calls Tryz.prog 16 #[.string ⟨s.toArray⟩, .string ⟨t.toArray⟩, .agg #[.bool fo, .bool le, .bool wo]] W (jg (gY s t fo le wo) W):=by
 by_cases hn:t=[]
 ·subst hn;exact Sv _ fo le wo W
 ·unfold gY;rw[ak hn];refine WA _ t (qL fo t) _ fo le wo W hn (acV _ _) (bn (JX _ _) (by omega)) (λe=>by subst e;rfl) (λe w hb=> ?_) (λw hb=> ?_)
  ·subst e;exact foldS h t w hb ht
  ·have h':=h.go hb;refine Sn s fo le wo (F7 s) (eu s) w h'.tabs hs (λ_ x v hv hx=>foldS h' x v hv hx) (λ_ v hv=>Zr s v (h'.go hv).newG hs) (λ_ v hv=> ?_);refine(Oq s v (h'.go hv).afZ hs).mono ?_;rintro e u ⟨A,n,c,e1,e2,_,e3⟩;exact⟨A,n,c,e1,e2,e3⟩
theorem ac4 (s t:List UInt8) (fo le wo:Bool) (a b:Nat) (W:World) (h:Ask W) (hs:s.length<=900) (ht:t.length<=10000):
 Calls Tryz.prog 25 #[.string ⟨s.toArray⟩, .string ⟨t.toArray⟩, .agg #[.bool fo, .bool le, .bool wo], .int .i64 a, .int .i64 b] W λe w'=>e= .returned (.bool (decide ((a,b)∈gY s t fo le wo)))/\Below W.heap.size W w':=
 afW _ _ _ fo le wo a b W (bn (Fe s t fo le wo) (by omega)) λw hb=>Hw s t fo le wo w (h.go hb) (by omega) ht
