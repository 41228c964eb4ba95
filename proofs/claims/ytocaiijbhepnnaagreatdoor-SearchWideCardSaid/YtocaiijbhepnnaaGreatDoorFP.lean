/- SearchWide, plain laws: a text is written rune by rune; matches; a region that draws its order; patterns. -/
import Derived.Lib.TrimUEq
import Derived.Lib.ValidU
import Derived.Deep.RegionHeld
import Derived.Test.YtocaiijbhepnnaaGreatDoorAmS
namespace Go.Proofs.YtocaiijbhepnnaaGreatDoor.searchWide
section
namespace rU
def bt (l:List UInt8) (i:Nat):Nat:=(l.getD i 0).toNat
theorem G8 (l:List UInt8) (i:Nat):bt l i<256:=(l.getD i 0).toNat_lt
theorem mM {l x:List UInt8} {i:Nat} (h:i<l.length):bt (l++x) i=bt l i:=by unfold bt;rw[aU,aU,nL h]
end rU
namespace Folds
open rU (bt G8 mM)
open Go.Lib (decodeN)
set_option maxHeartbeats 4000000 in
theorem Ot (n m b0 b1 b2 b3 c1 c2 c3:Nat) (hn:1<=n) (h1:1<n->c1=b1) (h2:2<n->c2=b2) (h3:3<n->c3=b3) (hw:(decodeN (n+m) b0 c1 c2 c3).2<=n):decodeN n b0 b1 b2 b3=decodeN (n+m) b0 c1 c2 c3:=by
 rcases(by omega:n=1\/n=2\/n=3\/4<=n)with rfl|rfl|rfl|h4
 ·clear h1 h2 h3;revert hw;unfold decodeN;repeat' split
  all_goals intro hw
  all_goals first|with_reducible rfl|(exfalso;dsimp only at hw;omega)|(exfalso;omega)
 ·obtain rfl:=h1 (by omega);clear h1 h2 h3;revert hw;unfold decodeN;repeat' split
  all_goals intro hw
  all_goals first|with_reducible rfl|(exfalso;dsimp only at hw;omega)|(exfalso;omega)
 ·obtain rfl:=h1 (by omega);obtain rfl:=h2 (by omega);clear h1 h2 h3;revert hw;unfold decodeN;repeat' split
  all_goals intro hw
  all_goals first|with_reducible rfl|(exfalso;dsimp only at hw;omega)|(exfalso;omega)
 ·obtain rfl:=h1 (by omega);obtain rfl:=h2 (by omega);obtain rfl:=h3 (by omega);clear h1 h2 h3 hw;have e1:(1<n)=True:=eq_true (by omega);have e2:(2<n)=True:=eq_true (by omega);have e3:(3<n)=True:=eq_true (by omega);have f1:(1<n+m)=True:=eq_true (by omega);have f2:(2<n+m)=True:=eq_true (by omega);have f3:(3<n+m)=True:=eq_true (by omega);unfold decodeN;simp only[e1,e2,e3,f1,f2,f3]
def dec (l:List UInt8):Nat×Nat:=decodeN l.length (bt l 0) (bt l 1) (bt l 2) (bt l 3)
theorem aZ (l:List UInt8):1<=(dec l).2:=by
 unfold dec decodeN;repeat' split
 all_goals simp
theorem bQ (l:List UInt8) (h:l≠[]):(dec l).2<=l.length:=by
 have h0:1<=l.length:=by cases l with|nil=>exact absurd rfl h|cons a b=>simp
 unfold dec decodeN;repeat' split
 all_goals (try dsimp only)
 all_goals omega
theorem Zi (l t:List UInt8) (h:l≠[]) (hw:(dec (l++t)).2<=l.length):dec (l++t)=dec l:=by
 have h0:1<=l.length:=by cases l with|nil=>exact absurd rfl h|cons a b=>simp
 unfold dec at hw⊢;rw[mM (show 0<l.length by omega),bT]at hw⊢;exact(Ot l.length t.length _ (bt l 1) (bt l 2) (bt l 3) _ _ _ h0 (λh=>mM h) (λh=>mM h) (λh=>mM h) hw).symm
def one (enc:Nat->List UInt8) (l:List UInt8):List UInt8:=if(dec l).1=65533/\(dec l).2=1 then l.take 1 else enc (dec l).1
def out (enc:Nat->List UInt8):Nat->List UInt8->List UInt8
 |0,_=>[]
 |n+1,l=>if l=[]then[]else one enc l++out enc n (l.drop (dec l).2)
theorem LZ (enc:Nat->List UInt8):∀(n m:Nat) (l:List UInt8),l.length<=n->l.length<=m->out enc n l=out enc m l
 |0,0,_,_,_=>rfl
 |0,m+1,l,h,_=>by
  obtain rfl:l=[]:=pV (by omega);show[]=if([]:List UInt8)=[]then[]else _
  rw[au rfl]
 |n+1,0,l,_,h=>by
  obtain rfl:l=[]:=pV (by omega);show(if([]:List UInt8)=[]then[]else _)=[]
  rw[au rfl]
 |n+1,m+1,l,h,k=>by
  show(if l=[]then[]else _)=(if l=[]then[]else _)
  by_cases c:l=[]
  ·rw[au c,au c]
  ·rw[ak c,ak c,LZ enc n m (l.drop (dec l).2) (by have:=aZ l;rw[dF];omega) (by have:=aZ l;rw[dF];omega)]
def wrt (enc:Nat->List UInt8) (l:List UInt8):List UInt8:=out enc l.length l
theorem L6 (enc:Nat->List UInt8) (l:List UInt8) (h:l≠[]):wrt enc l=one enc l++wrt enc (l.drop (dec l).2):=by
 unfold wrt;obtain⟨n,hn⟩:∃n,l.length=n+1:=⟨l.length-1,by cases l with|nil=>exact absurd rfl h|cons a b=>simp⟩
 rw[hn];show(if l=[]then[]else _)=_;rw[ak h,LZ enc n _ (l.drop (dec l).2) (by have:=aZ l;rw[dF];omega) (ay _)]
theorem ajg (l:List UInt8):Go.Lib.decodeL l=dec l:=Go.Lib.decodeL_N l
end Folds
end
section
namespace Left
abbrev Pl:=Nat×Bool×List UInt8
def cut (rest sh:List UInt8):Option (List UInt8):=if rest.take sh.length=sh then some (rest.drop sh.length)else none
def look:List UInt8->List Pl->Option Nat
 |_,[]=>none
 |rest,p::r=>if rest=[]then(if p.2.1=true then some p.1 else none)else match cut rest p.2.2 with
  |none=>none
  |some nx=>if p.2.2=[]then none else look nx r
def every (want:List UInt8):List Pl->List (Nat×Nat)
 |[]=>[]
 |p::r=>if p.2.1=true then(match look want (p::r)with|some b=>(p.1,b)::every want r|none=>every want r)else every want r
def asc (n:Nat):List Pl->Prop
 |[]=>True
 |p::r=>p.1<=n/\(∀q∈r,p.1<q.1)/\asc n r
theorem Qq {n:Nat}:∀{l:List Pl} {rest:List UInt8} {b:Nat},asc n l->look rest l=some b->b<=n/\∃q∈l,q.1=b
 |[],_,_,_,h=>by cases h
 |p::r,rest,b,ha,h=>by
  unfold look at h;obtain⟨h1,h2,h3⟩:=ha;split at h
  ·split at h
   ·cases h;exact⟨h1,p,nU,rfl⟩
   ·cases h
  ·split at h
   ·cases h
   ·split at h
    ·cases h
    ·obtain⟨e1,q,e2,e3⟩:=Qq h3 h;exact⟨e1,q,lH _ e2,e3⟩
theorem Ou {n:Nat} {p:Pl} {r:List Pl} {want:List UInt8} {b:Nat} (hw:want≠[]) (ha:asc n (p::r)) (h:look want (p::r)=some b):p.1<b/\b<=n:=by
 obtain⟨h1,h2,h3⟩:=ha;unfold look at h;rw[ak hw]at h;split at h;·cases h
 ·split at h
  ·cases h
  ·obtain⟨e1,q,e2,e3⟩:=Qq h3 h;exact⟨by rw[<-e3];exact h2 q e2,e1⟩
def rise (n:Nat):List (Nat×Nat)->Prop
 |[]=>True
 |m::l=>m.1<m.2/\m.2<=n/\(∀x∈l,m.1<x.1)/\rise n l
theorem vZ {want:List UInt8}:∀{l:List Pl} {x:Nat×Nat},x∈every want l->∃q∈l,q.1=x.1
 |[],x,h=>by cases h
 |p::r,x,h=>by
  unfold every at h;split at h
  ·split at h
   ·rcases aT.1 h with rfl|h
    ·exact⟨p,nU,rfl⟩
    ·obtain⟨q,e1,e2⟩:=vZ h;exact⟨q,lH _ e1,e2⟩
   ·obtain⟨q,e1,e2⟩:=vZ h;exact⟨q,lH _ e1,e2⟩
  ·obtain⟨q,e1,e2⟩:=vZ h;exact⟨q,lH _ e1,e2⟩
theorem EO {n:Nat} {want:List UInt8} (hw:want≠[]):∀{l:List Pl},asc n l->rise n (every want l)
 |[],_=>trivial
 |p::r,ha=>by
  have ih:=EO hw ha.2.2;unfold every;split
  ·split
   ·rename_i b hb;obtain⟨e1,e2⟩:=Ou hw ha hb;refine⟨e1,e2,λx hx=> ?_,ih⟩;obtain⟨q,f1,f2⟩:=vZ hx;rw[<-f2];exact ha.2.1 q f1
   ·exact ih
  ·exact ih
def m0:Nat×Nat:=(0,0)
theorem EP {l:List (Nat×Nat)} {i:Nat} (h:i<l.length):l.getD i m0∈l:=by rw[aU,bJ h];exact mK h
theorem L8 {n:Nat}:∀{l:List (Nat×Nat)},rise n l->∀x∈l,x.1<x.2/\x.2<=n
 |[],_,x,hx=>by cases hx
 |m::l,h,x,hx=>by
  rcases aT.1 hx with rfl|hx;·exact⟨h.1,h.2.1⟩
  ·exact L8 h.2.2.2 x hx
end Left
end
section
section
variable {P:Program} {ops:Array Oper} {Q:Exit->Act->World->Prop} {md:Region.Mode} {S:World->Prop} {k:Nat}
def p8 (P:Program) (md:Region.Mode) (ops:Array Oper) (Q:Exit->Act->World->Prop) (S:World->Prop) (k:Nat):Nat->Array Bool->Act->World->Prop
 |0,listed,a,w=>Region.ready md ops listed=[]/\Q .normal a w
 |fuel+1,listed,a,w=>
  (Region.ready md ops listed=[]->Q .normal a w)/\
  ∀i∈Region.ready md ops listed,wpOp P ops Q i (λa' w'=>(i=k\/S w')/\p8 P md ops Q S k fuel (listed.setIfInBounds i true) a' w') a w
theorem ER:∀(fuel:Nat) (listed:Array Bool) (a:Act) (w:World),p8 P md ops Q S k fuel listed a w->wpAny P md ops Q fuel listed a w
 |0,_,_,_,h=>h
 |fuel+1,_,_,_,h=>⟨h.1,λi hi=>wpOp_mono (λa' w' h'=>ER fuel _ a' w' h'.2) (h.2 i hi)⟩
theorem JN {i:Nat} {oi:Oper} {v:Value} (hi:ops[i]? =some oi) (hk:∀ok,ops[k]? =some ok->∃e∈ok.after,Region.binds md e=true/\e.on=i)
 (hsel:∀(j:Nat) (o:Oper) cs b,ops[j]? =some o->o.op≠.select cs b) (hQ:∀c a w,Q (.panic c) (a.put oi.dst v) w->Q (.panic c) a w):
 ∀(fuel:Nat) (listed:Array Bool) (a:Act) (w:World),
  (∀j oj,ops[j]? =some oj->j≠i->listed.getD j true=false->(∀e∈oj.after,Region.binds md e=true->e.on≠i)->oi.apart ops oj=true)->
  i∈Region.ready md ops listed->YieldsIf P ops S oi v a->S w->
  p8 P md ops Q S k fuel (listed.setIfInBounds i true) (a.put oi.dst v) w->p8 P md ops Q S k (fuel+1) listed a w:=by
 intro fuel;induction fuel with
 |zero=>
  intro listed a w _ hr hy hS H;refine⟨λh=>(by rw[h]at hr;cases hr),λj hj=> ?_⟩;by_cases hji:j=i;·subst hji;exact hy.wpOp hi hS ⟨.inr hS,H⟩
  ·have:=ready_mono hj hji;rw[H.1]at this;cases this
 |succ fuel ih=>
  intro listed a w hfree hr hy hS H;refine⟨λh=>(by rw[h]at hr;cases hr),λj hj=> ?_⟩;by_cases hji:j=i;·subst hji;exact hy.wpOp hi hS ⟨.inr hS,H⟩
  ·have h1:=H.2 j (ready_mono hj hji);obtain⟨hjun,oj,hoj,hall⟩:=mem_ready.1 hj;have hnot:∀e∈oj.after,Region.binds md e=true->e.on≠i:=λe he hb heq=>by
    have h1:=hall e he hb;have h0:=(mem_ready.1 hr).1;rw[heq]at h1;rcases aN i listed.size with h'|h';·simp[h']at h0 h1;rw[h0]at h1;cases h1
    ·simp[Array.getElem?_eq_none h']at h1
   have hjk:j≠k:=λc=>by subst c;obtain⟨e,he,hb,hon⟩:=hk oj hoj;exact hnot e he hb hon
   have h2:=wpOp_putIf hoj (hfree j oj hoj hji hjun hnot) (λcs b=>hsel i oi cs b hi) (λcs b=>hsel j oj cs b hoj) hQ hy h1;have hfree':∀k ok,ops[k]? =some ok->k≠i->(listed.setIfInBounds j true).getD k true=false->
    (∀e∈ok.after,Region.binds md e=true->e.on≠i)->oi.apart ops ok=true:=λk ok hk hki hun hno=>by
    refine hfree k ok hk hki ?_ hno;by_cases hjk:j=k;·subst hjk;exact hjun
    ·rw[getD_set_ne true hjk]at hun;exact hun
   refine wpOp_mono (λa' w' h3=> ?_) h2;have hS':=h3.2.1.resolve_left hjk;refine⟨.inr hS',ih (listed.setIfInBounds j true) a' w' hfree' (ready_mono hr (Ne.symm hji)) h3.1 hS' ?_⟩;rw[Array.setIfInBounds_comm _ _ hji];exact h3.2.2
def waitsFor (md:Region.Mode) (ops:Array Oper) (k i:Nat):Bool:=match ops[k]? with
 |some ok=>ok.after.any λe=>Region.binds md e&&e.on==i
 |none=>true
theorem waitsFor_spec {i:Nat} (h:waitsFor md ops k i=true):∀ok,ops[k]? =some ok->∃e∈ok.after,Region.binds md e=true/\e.on=i:=λok hk=>by unfold waitsFor at h;rw[hk]at h;obtain⟨e,he,hb⟩:=Array.any_eq_true'.1 h;rw[aP,dK]at hb;exact⟨e,he,hb.1,hb.2⟩
theorem aB {i:Nat} {oi:Oper} {v:Value} {fuel:Nat} {listed:Array Bool} {a:Act} {w:World} (hi:ops[i]? =some oi)
 (hs:Region.noSelect ops=true) (hf:Region.free md ops listed i=true) (hr:(Region.ready md ops listed).contains i=true) (hk:waitsFor md ops k i=true)
 (hQ:∀c a w,Q (.panic c) (a.put oi.dst v) w->Q (.panic c) a w) (hS:S w) (hy:YieldsIf P ops S oi v a)
 (h:p8 P md ops Q S k fuel (listed.setIfInBounds i true) (a.put oi.dst v) w):p8 P md ops Q S k (fuel+1) listed a w:=
 JN hi (waitsFor_spec hk) (Region.noSelect_spec hs) hQ fuel listed a w (Region.free_spec hi hf) (by simpa using hr) hy hS h
theorem iC {i:Nat} {o:Oper} {fuel:Nat} {listed:Array Bool} {a:Act} {w:World} (hr:Region.ready md ops listed=[i]) (ho:ops[i]? =some o)
 (h:∀K':Act->World->Prop,Shut (∀a w,(i=k\/S w)->p8 P md ops Q S k fuel (listed.setIfInBounds i true) a w->K' a w)->if Region.wanted o (yielded ops a.tmps)=true then Oper.wp P o a w K' Q else K' (a.put o.dst undef) w):
 p8 P md ops Q S k (fuel+1) listed a w:=
 ⟨λh0=>(by rw[hr]at h0;cases h0),λj hj=>by
  rw[hr,dM]at hj;subst hj;exact wpOp_step ho (λK' hK=>h K' (λa w hS hW=>hK a w (And.intro hS hW)))⟩
theorem BM {listed:Array Bool} {a:Act} {w:World} (hr:Region.ready md ops listed=[]) (h:Q .normal a w):
 ∀fuel,p8 P md ops Q S k fuel listed a w
 |0=>⟨hr,h⟩
 |_+1=>⟨λ_=>h,by rw[hr];simp⟩
theorem BN {id:Nat} {a:Act} {w:World} (S:World->Prop) (k:Nat) (hm:P.follows .mixedOrders=true)
 (h:p8 P .any ops Q S k ops.size (Array.replicate ops.size false) a w.drew):(Code.region id ops true).wp P Q a w:=
 wp_region_any hm (ER _ _ _ _ h)
end
end
section
namespace JO
inductive PT where
 |node (op:Nat) (cls:List Nat) (kids:List PT)
def bit (M:List Nat) (i k:Nat):Bool:=(M.getD i 0).testBit k
def iO (n:Nat):List Nat:=List.replicate n 0
def jN (n:Nat):List Nat:=(List.range n).map λi=>1<<<i
def gX (a b:List Nat):List Nat:=(List.range a.length).map λi=>a.getD i 0|||b.getD i 0
def mQ (x:Nat) (b:List Nat):Nat->Nat
 |0=>0
 |k+1=>if x.testBit k then mQ x b k|||b.getD k 0 else mQ x b k
def iD (a b:List Nat):List Nat:=(List.range a.length).map λi=>mQ (a.getD i 0) b a.length
def jk (M:List Nat) (k:Nat):Nat->List Nat
 |0=>M
 |m+1=>let N:=jk M k m;if bit N m k then N.set m (N.getD m 0|||N.getD k 0)else N
def kN (M:List Nat) (n:Nat):Nat->List Nat
 |0=>M
 |k+1=>jk (kN M n k) k n
def ow (a:List Nat):List Nat:=kN (gX a (jN a.length)) a.length a.length
def AY (cls:List Nat) (c:List Int):Nat->Bool:=λi=>decide (i<c.length)&&cls.any (λ(x:Nat)=>decide ((x:Int)=c.getD i 0))
def JQ (cls:List Nat) (c:List Int):List Nat:=(List.range (c.length+1)).map λi=>if AY cls c i then 1<<<(i+1)else 0
mutual
def rows:PT->List Int->List Nat
 | .node op cls kids,c=>
   if op=1 then JQ cls c else if op=2 then sO kids c (jN (c.length+1))else if op=3 then Sl kids c (iO (c.length+1))
   else if op=4 then ow (firstR kids c)else if op=5 then iD (firstR kids c) (ow (firstR kids c))else if op=6 then gX (jN (c.length+1)) (firstR kids c)else jN (c.length+1)
def sO:List PT->List Int->List Nat->List Nat
 |[],_,acc=>acc
 |p::r,c,acc=>sO r c (iD acc (rows p c))
def Sl:List PT->List Int->List Nat->List Nat
 |[],_,acc=>acc
 |p::r,c,acc=>Sl r c (gX acc (rows p c))
def firstR:List PT->List Int->List Nat
 |[],c=>iO (c.length+1)
 |p::_,c=>rows p c
end
def mg (n:Nat) (M:List Nat):Prop:=M.length=n/\∀i k,bit M i k=true->i<n/\k<n
theorem Di {n:Nat} {f:Nat->Nat} {i k:Nat}:bit ((List.range n).map f) i k=(decide (i<n)&&(f i).testBit k):=by
 unfold bit;rw[aU,iU];by_cases h:i<n;·rw[List.getElem?_range h];simp[h]
 ·rw[List.getElem?_eq_none (by simpa using Nat.le_of_not_lt h)];simp[h]
theorem L9 (n i k:Nat):bit (iO n) i k=false:=by unfold bit iO;rw[aU,List.getElem?_replicate];split<;>simp
theorem AZ (n:Nat):mg n (iO n):=⟨List.length_replicate,λi k h=>by rw[L9]at h;cases h⟩
theorem Qr (i k:Nat):(1<<<i).testBit k=decide (i=k):=by rw[Nat.one_shiftLeft,Nat.testBit_two_pow]
theorem wh (n i k:Nat):bit (jN n) i k=true↔i<n/\i=k:=by unfold jN;rw[Di,Qr];simp
theorem qF (n:Nat):mg n (jN n):=⟨by simp[jN],λi k h=>by rw[wh]at h;omega⟩
theorem ES {n:Nat} {a b:List Nat} (ha:mg n a) (hb:mg n b) (i k:Nat):bit (gX a b) i k=true↔bit a i k=true\/bit b i k=true:=by
 unfold gX;rw[Di,Nat.testBit_or];simp only[aP,fH,dG];refine⟨λh=>h.2,λh=>⟨?_,h⟩⟩;rw[ha.1];rcases h with h|h;·exact(ha.2 i k h).1
 ·exact(hb.2 i k h).1
theorem wm {n:Nat} {a b:List Nat} (ha:mg n a) (hb:mg n b):mg n (gX a b):=
 ⟨by simp[gX,ha.1],λi k h=>by rcases(ES ha hb i k).1 h with h|h;exact ha.2 i k h;exact hb.2 i k h⟩
theorem Hf (x:Nat) (b:List Nat) (k:Nat):∀m,(mQ x b m).testBit k=true↔∃j,j<m/\x.testBit j=true/\bit b j k=true
 |0=>by simp[mQ]
 |m+1=>by
  have ih:=Hf x b k m;unfold mQ;by_cases c:x.testBit m=true
  ·rw[au c,Nat.testBit_or,dG,ih];refine⟨λh=> ?_,λ⟨j,h1,h2,h3⟩=> ?_⟩
   ·rcases h with⟨j,h1,h2,h3⟩|h
    ·exact⟨j,by omega,h2,h3⟩
    ·exact⟨m,by omega,c,h⟩
   ·rcases aN j m with d|d
    ·exact .inl ⟨j,d,h2,h3⟩
    ·obtain rfl:j=m:=by omega
     exact .inr h3
  ·rw[ak c,ih];refine⟨λ⟨j,h1,h2,h3⟩=>⟨j,by omega,h2,h3⟩,λ⟨j,h1,h2,h3⟩=> ?_⟩;rcases aN j m with d|d
   ·exact⟨j,d,h2,h3⟩
   ·obtain rfl:j=m:=by omega
    exact absurd h2 c
theorem xO {n:Nat} {a b:List Nat} (ha:mg n a) (i k:Nat):bit (iD a b) i k=true↔∃j,bit a i j=true/\bit b j k=true:=by unfold iD;rw[Di];simp only[aP,fH,Hf,ha.1];refine⟨λ⟨_,j,_,h2,h3⟩=>⟨j,h2,h3⟩,λ⟨j,h2,h3⟩=> ?_⟩;have:=ha.2 i j h2;exact⟨this.1,j,this.2,h2,h3⟩
theorem uy {n:Nat} {a b:List Nat} (ha:mg n a) (hb:mg n b):mg n (iD a b):=
 ⟨by simp[iD,ha.1],λi k h=>by obtain⟨j,h1,h2⟩:=(xO ha i k).1 h;exact⟨(ha.2 i j h1).1,(hb.2 j k h2).2⟩⟩
theorem Zj {M:List Nat} {m x i k:Nat} (hm:m<M.length):bit (M.set m x) i k=if i=m then x.testBit k else bit M i k:=by
 unfold bit;rw[aU,List.getElem?_set];by_cases h:m=i;·subst h;simp[hm]
 ·rw[ak h,ak (λe=>h e.symm),aU]
theorem Hg {n:Nat} {M:List Nat} (k:Nat) (hM:mg n M):∀m,m<=n->(jk M k m).length=n/\∀i j,bit (jk M k m) i j=true↔bit M i j=true\/(i<m/\bit M i k=true/\bit M k j=true)
 |0,_=>⟨hM.1,λi j=>⟨.inl,λh=>by rcases h with h|h;exact h;exact absurd h.1 (iM _)⟩⟩
 |m+1,hm=>by
  obtain⟨l,ih⟩:=Hg k hM m (by omega);have hk:∀j,bit (jk M k m) k j=true↔bit M k j=true:=λj=>by rw[ih];exact⟨λh=>by rcases h with h|h;exact h;exact h.2.2, .inl⟩
  have hc:bit (jk M k m) m k=true↔bit M m k=true:=by rw[ih];exact⟨λh=>by rcases h with h|h;exact h;exact absurd h.1 (dA _), .inl⟩
  unfold jk;by_cases c:bit (jk M k m) m k=true
  ·rw[au c];refine⟨by rw[List.length_set];exact l,λi j=> ?_⟩;rw[Zj (by omega)];by_cases e:i=m
   ·subst e;rw[au rfl,Nat.testBit_or,dG];show bit (jk M k i) i j=true\/bit (jk M k i) k j=true↔_;rw[hk,ih];refine⟨λh=> ?_,λh=> ?_⟩
    ·rcases h with(h|h)|h
     ·exact .inl h
     ·exact absurd h.1 (dA _)
     ·exact .inr ⟨mI _,hc.1 c,h⟩
    ·rcases h with h|h
     ·exact .inl (.inl h)
     ·exact .inr h.2.2
   ·rw[ak e,ih];refine⟨λh=> ?_,λh=> ?_⟩
    ·rcases h with h|h
     ·exact .inl h
     ·exact .inr ⟨by omega,h.2⟩
    ·rcases h with h|h
     ·exact .inl h
     ·exact .inr ⟨by omega,h.2⟩
  ·rw[ak c];refine⟨l,λi j=> ?_⟩;rw[ih];refine⟨λh=> ?_,λh=> ?_⟩
   ·rcases h with h|h
    ·exact .inl h
    ·exact .inr ⟨by omega,h.2⟩
   ·rcases h with h|h
    ·exact .inl h
    ·by_cases e:i=m
     ·subst e;exact absurd (hc.2 h.2.1) c
     ·exact .inr ⟨by omega,h.2⟩
inductive Star (r:Nat->Nat->Prop) (i:Nat):Nat->Prop
 |nil:Star r i i
 |snoc {j k:Nat}:Star r i j->r j k->Star r i k
theorem Star.trans {r:Nat->Nat->Prop} {i j k:Nat} (h:Star r i j):Star r j k->Star r i k:=λg=>by
 induction g with
 |nil=>exact h
 |snoc _ s ih=>exact .snoc ih s
theorem Star.one {r:Nat->Nat->Prop} {i k:Nat} (h:r i k):Star r i k:= .snoc .nil h
theorem Ba {n:Nat} {a:List Nat} (ha:mg n a):∀K,K<=n->mg n (kN (gX a (jN n)) n K)/\
 (∀i k,bit (kN (gX a (jN n)) n K) i k=true->Star (λx y=>bit a x y=true) i k)/\
 (∀i,i<n->bit (kN (gX a (jN n)) n K) i i=true)/\(∀i k,bit a i k=true->bit (kN (gX a (jN n)) n K) i k=true)/\
 (∀i m k,m<K->bit (kN (gX a (jN n)) n K) i m=true->bit (kN (gX a (jN n)) n K) m k=true->bit (kN (gX a (jN n)) n K) i k=true)
 |0,_=>by
  have hf:=wm ha (qF n);have hb:=λi k=>ES ha (qF n) i k;refine⟨hf,λi k h=> ?_,λi hi=> ?_,λi k h=> ?_,λi m k hm=>absurd hm (iM _)⟩
  ·rcases(hb i k).1 h with h|h
   ·exact .one h
   ·obtain⟨_,rfl⟩:=(wh n i k).1 h;exact .nil
  ·exact(hb i i).2 (.inr ((wh n i i).2 ⟨hi,rfl⟩))
  ·exact(hb i k).2 (.inl h)
 |K+1,hK=>by
  obtain⟨f,s,o,b,t⟩:=Ba ha K (by omega);obtain⟨l,hs⟩:=Hg K f n (ay n);have e:kN (gX a (jN n)) n (K+1)=jk (kN (gX a (jN n)) n K) K n:=rfl;rw[e];generalize kN (gX a (jN n)) n K=M at*
  have key:∀i k,bit (jk M K n) i k=true↔bit M i k=true\/(bit M i K=true/\bit M K k=true):=λi k=>by
   rw[hs];refine⟨λh=> ?_,λh=> ?_⟩
   ·rcases h with h|h
    ·exact .inl h
    ·exact .inr h.2
   ·rcases h with h|h
    ·exact .inl h
    ·exact .inr ⟨(f.2 i K h.1).1,h⟩
  refine⟨⟨l,λi k h=> ?_⟩,λi k h=> ?_,λi hi=>(key i i).2 (.inl (o i hi)),λi k h=>(key i k).2 (.inl (b i k h)),λi m k hm h1 h2=> ?_⟩
  ·rcases(key i k).1 h with h|h
   ·exact f.2 i k h
   ·exact⟨(f.2 i K h.1).1,(f.2 K k h.2).2⟩
  ·rcases(key i k).1 h with h|h
   ·exact s i k h
   ·exact(s i K h.1).trans (s K k h.2)
  ·rw[key]at h1 h2⊢;rcases aN m K with c|c
   ·rcases h1 with h1|h1
    ·rcases h2 with h2|h2
     ·exact .inl (t i m k c h1 h2)
     ·exact .inr ⟨t i m K c h1 h2.1,h2.2⟩
    ·rcases h2 with h2|h2
     ·exact .inr ⟨h1.1,t K m k c h1.2 h2⟩
     ·exact .inr ⟨h1.1,h2.2⟩
   ·obtain rfl:m=K:=by omega
    refine .inr ⟨?_,?_⟩
    ·rcases h1 with h1|h1
     ·exact h1
     ·exact h1.1
    ·rcases h2 with h2|h2
     ·exact h2
     ·exact h2.2
theorem Hl {n:Nat} {a:List Nat} (ha:mg n a):mg n (ow a):=by unfold ow;rw[ha.1];exact(Ba ha n (ay n)).1
theorem Wq {n:Nat} {a:List Nat} (ha:mg n a) {i:Nat} (hi:i<n) (k:Nat):bit (ow a) i k=true↔Star (λx y=>bit a x y=true) i k:=by
 unfold ow;rw[ha.1];obtain⟨f,s,o,b,t⟩:=Ba ha n (ay n);refine⟨s i k,λh=> ?_⟩;induction h with
 |nil=>exact o i hi
 |snoc _ g ih=>exact t i _ _ (f.2 _ _ ih).2 ih (b _ _ g)
theorem Qs (cls:List Nat) (c:List Int) (i k:Nat):bit (JQ cls c) i k=true↔i<c.length/\k=i+1/\∃x∈cls,(x:Int)=c.getD i 0:=by
 unfold JQ;rw[Di];simp only[aP,fH];by_cases h:AY cls c i=true
 ·rw[au h,Qr];unfold AY at h;simp only[aP,fH,vO]at h;refine⟨λg=>⟨h.1,?_,h.2⟩,λg=>⟨by omega,?_⟩⟩
  ·have:=jm g.2;omega
  ·exact bg (by omega)
 ·rw[ak h];refine⟨λg=>by simp at g,λg=>absurd ?_ h⟩;unfold AY;simp only[aP,fH,vO];exact⟨g.1,g.2.2⟩
theorem Ws (cls:List Nat) (c:List Int):mg (c.length+1) (JQ cls c):=⟨by simp[JQ],λi k h=>by obtain⟨h1,h2,_⟩:=(Qs cls c i k).1 h;omega⟩
mutual
theorem jR:∀(p:PT) (c:List Int),mg (c.length+1) (rows p c)
 | .node op cls kids,c=>by
   have f:=first_fine kids c;unfold rows;repeat' split
   ·exact Ws cls c
   ·exact Ho kids c (qF _)
   ·exact Qt kids c (AZ _)
   ·exact Hl f
   ·exact uy f (Hl f)
   ·exact wm (qF _) f
   ·exact qF _
theorem Ho:∀(l:List PT) (c:List Int) {acc:List Nat},mg (c.length+1) acc->mg (c.length+1) (sO l c acc)
 |[],_,_,h=>h
 |p::r,c,_,h=>Ho r c (uy h (jR p c))
theorem Qt:∀(l:List PT) (c:List Int) {acc:List Nat},mg (c.length+1) acc->mg (c.length+1) (Sl l c acc)
 |[],_,_,h=>h
 |p::r,c,_,h=>Qt r c (wm h (jR p c))
theorem first_fine:∀(l:List PT) (c:List Int),mg (c.length+1) (firstR l c)
 |[],_=>AZ _
 |p::_,c=>jR p c
end
def bH (p:PT) (c:List Int) (i k:Nat):Prop:=bit (rows p c) i k=true
def kP:List PT->List Int->Nat->Nat->Prop
 |[],_,i,k=>i=k
 |p::r,c,i,k=>∃j,bH p c i j/\kP r c j k
theorem Hq (cls:List Nat) (kids:List PT) (c:List Int) (i k:Nat):bH (.node 1 cls kids) c i k↔i<c.length/\k=i+1/\∃x∈cls,(x:Int)=c.getD i 0:=by unfold bH rows;rw[au rfl];exact Qs cls c i k
theorem ET:∀(l:List PT) (c:List Int) {acc:List Nat} (i k:Nat),mg (c.length+1) acc->(bit (sO l c acc) i k=true↔∃j,bit acc i j=true/\kP l c j k)
 |[],c,acc,i,k,_=>⟨λh=>⟨k,h,rfl⟩,λ⟨j,h,e⟩=>by cases e;exact h⟩
 |p::r,c,acc,i,k,h=>by have ih:=ET r c i k (uy h (jR p c));show bit (sO r c (iD acc (rows p c))) i k=true↔_;rw[ih];refine⟨λ⟨j,h1,h2⟩=> ?_,λ⟨j,h1,m,h2,h3⟩=>⟨m,(xO h i m).2 ⟨j,h1,h2⟩,h3⟩⟩;obtain⟨m,h3,h4⟩:=(xO h i j).1 h1;exact⟨m,h3,j,h4,h2⟩
theorem dI (cls:List Nat) (kids:List PT) (c:List Int) (i k:Nat):bH (.node 2 cls kids) c i k↔i<=c.length/\kP kids c i k:=by unfold bH rows;rw[ak (by decide),au rfl,ET kids c i k (qF _)];refine⟨λ⟨j,h1,h2⟩=> ?_,λ⟨h1,h2⟩=>⟨i,(wh _ _ _).2 ⟨by omega,rfl⟩,h2⟩⟩;obtain⟨h3,rfl⟩:=(wh _ _ _).1 h1;exact⟨by omega,h2⟩
theorem Ma:∀(l:List PT) (c:List Int) {acc:List Nat} (i k:Nat),mg (c.length+1) acc->(bit (Sl l c acc) i k=true↔bit acc i k=true\/∃p∈l,bH p c i k)
 |[],c,acc,i,k,_=>⟨.inl,λh=>by rcases h with h|⟨_,h,_⟩;exact h;cases h⟩
 |p::r,c,acc,i,k,h=>by
  have ih:=Ma r c i k (wm h (jR p c));show bit (Sl r c (gX acc (rows p c))) i k=true↔_;rw[ih,ES h (jR p c)];refine⟨λg=> ?_,λg=> ?_⟩
  ·rcases g with(g|g)|⟨q,g1,g2⟩
   ·exact .inl g
   ·exact .inr ⟨p,nU,g⟩
   ·exact .inr ⟨q,lH _ g1,g2⟩
  ·rcases g with g|⟨q,g1,g2⟩
   ·exact .inl (.inl g)
   ·rcases aT.1 g1 with rfl|g1
    ·exact .inl (.inr g2)
    ·exact .inr ⟨q,g1,g2⟩
theorem Wt (cls:List Nat) (kids:List PT) (c:List Int) (i k:Nat):bH (.node 3 cls kids) c i k↔∃p∈kids,bH p c i k:=by
 have e:rows (.node 3 cls kids) c=Sl kids c (iO (c.length+1)):=by unfold rows;rfl
 show bit (rows (.node 3 cls kids) c) i k=true↔_;rw[e,Ma kids c i k (AZ _),L9];exact⟨λh=>by rcases h with h|h;cases h;exact h, .inr⟩
theorem rW (cls:List Nat) (p:PT) (c:List Int) (i k:Nat) (hi:i<=c.length):bH (.node 4 cls [p]) c i k↔Star (bH p c) i k:=by
 have e:rows (.node 4 cls [p]) c=ow (firstR [p] c):=by rw[rows];rfl
 have e2:firstR [p] c=rows p c:=by rw[firstR]
 show bit (rows (.node 4 cls [p]) c) i k=true↔_;rw[e,e2];exact Wq (jR p c) (i:=i) (by omega) k
theorem uz (cls:List Nat) (kids:List PT) (c:List Int) (i k:Nat):bH (.node 0 cls kids) c i k↔i<=c.length/\i=k:=by unfold bH rows;rw[ak (by decide),ak (by decide),ak (by decide),ak (by decide),ak (by decide),ak (by decide),wh];exact⟨λh=>⟨by omega,h.2⟩,λh=>⟨by omega,h.2⟩⟩
theorem EU {p:PT} {c:List Int} {i k:Nat} (h:bH p c i k):i<=c.length/\k<=c.length:=by have:=(jR p c).2 i k h;omega
end JO
end
section
namespace JO
mutual
def Ov:PT->Bool
 | .node op _ kids=>if op=1 then false else if op=2 then EW kids else if op=3 then JR kids else true
def EW:List PT->Bool
 |[]=>true
 |p::r=>Ov p&&EW r
def JR:List PT->Bool
 |[]=>false
 |p::r=>Ov p||JR r
end
mutual
def Mc:PT->List Nat
 | .node op cls kids=>if op=1 then cls else if op=2 then Dj kids else zm kids
def Dj:List PT->List Nat
 |[]=>[]
 |p::r=>(if EW r=true then Mc p else[])++Dj r
def zm:List PT->List Nat
 |[]=>[]
 |p::r=>Mc p++zm r
end
mutual
def firstP:PT->List Nat
 | .node op cls kids=>if op=1 then cls else if op=2 then firstAll kids else firstAny kids
def firstAll:List PT->List Nat
 |[]=>[]
 |p::r=>firstP p++if Ov p=true then firstAll r else[]
def firstAny:List PT->List Nat
 |[]=>[]
 |p::r=>firstP p++firstAny r
end
mutual
def Wu:PT->Bool
 | .node op _ kids=>decide (op<=4)&&(!decide (op=4)||decide (kids.length=1))&&xP kids
def xP:List PT->Bool
 |[]=>true
 |p::r=>Wu p&&xP r
end
def Edge (d:List Int) (nul:Bool) (L F:List Nat) (i k:Nat):Prop:=i<=k/\(i=k->nul=true)/\(i<k->(∃x∈L,(x:Int)=d.getD (k-1) 0)/\∃x∈F,(x:Int)=d.getD i 0)
theorem Edge.star {d:List Int} {nul:Bool} {L F:List Nat} {r:Nat->Nat->Prop} (h:∀i k,r i k->Edge d nul L F i k) {i k:Nat} (s:Star r i k):Edge d true L F i k:=by
 induction s with
 |nil=>exact⟨ay _,λ_=>rfl,λc=>absurd c (dA _)⟩
 | @snoc j k _ g ih=>
   obtain⟨h1,h2,h3⟩:=h _ _ g;refine⟨bn ih.1 h1,λ_=>rfl,λc=> ?_⟩;have e1:=ih.1;rcases aN i j with c1|c1
   ·rcases aN j k with c2|c2
    ·exact⟨(h3 c2).1,(ih.2.2 c1).2⟩
    ·obtain rfl:j=k:=by omega
     exact ih.2.2 c
   ·obtain rfl:i=j:=by omega
    exact h3 c
mutual
theorem Md:∀(p:PT),Wu p=true->∀(d:List Int) (i k:Nat),bH p d i k->Edge d (Ov p) (Mc p) (firstP p) i k
 | .node op cls kids,hp,d,i,k,h=>by
   rw[Wu,aP,aP]at hp;obtain⟨⟨h4,h5⟩,h6⟩:=hp;have h4:=jm h4;rw[Ov,Mc,firstP];match op,h4 with
   |0,_=>obtain⟨_,rfl⟩:=(uz _ _ _ _ _).1 h;exact⟨ay _,λ_=>rfl,λc=>absurd c (dA _)⟩
   |1,_=>obtain⟨h1,rfl,h2⟩:=(Hq _ _ _ _ _).1 h;exact⟨lV _,λc=>absurd c (by omega),λ_=>⟨h2,h2⟩⟩
   |2,_=>exact Qu kids h6 d i k ((dI _ _ _ _ _).1 h).2
   |3,_=>exact Qv kids h6 d i k ((Wt _ _ _ _ _).1 h)
   |4,_=>
    match kids,h5,h6,h with
    |[p],_,h6,h=>rw[xP,aP]at h6;have h:=(rW _ _ _ _ _ (EU h).1).1 h;have:=Edge.star (λi k g=>Md p h6.1 d i k g) h;simpa[zm,firstAny]using this
theorem Qu:∀(l:List PT),xP l=true->∀(d:List Int) (i k:Nat),kP l d i k->Edge d (EW l) (Dj l) (firstAll l) i k
 |[],_,d,i,k,h=>⟨Nat.le_of_eq h,λ_=>rfl,λc=>absurd (show i=k from h) (by omega)⟩
 |p::r,hp,d,i,k,h=>by
  rw[xP,aP]at hp;obtain⟨j,g1,g2⟩:=h;obtain⟨a1,a2,a3⟩:=Md p hp.1 d i j g1;obtain⟨b1,b2,b3⟩:=Qu r hp.2 d j k g2;rw[EW,Dj,firstAll];refine⟨bn a1 b1,λc=> ?_,λc=>⟨?_,?_⟩⟩;·rw[a2 (by omega),b2 (by omega)];rfl
  ·rcases aN j k with c1|c1
   ·obtain⟨x,hx,e⟩:=(b3 c1).1;exact⟨x,gq _ hx,e⟩
   ·obtain rfl:j=k:=by omega
    obtain⟨x,hx,e⟩:=(a3 c).1;rw[b2 rfl,au rfl];exact⟨x,fG _ hx,e⟩
  ·rcases aN i j with c1|c1
   ·obtain⟨x,hx,e⟩:=(a3 c1).2;exact⟨x,fG _ hx,e⟩
   ·obtain rfl:i=j:=by omega
    obtain⟨x,hx,e⟩:=(b3 c).2;rw[a2 rfl,au rfl];exact⟨x,gq _ hx,e⟩
theorem Qv:∀(l:List PT),xP l=true->∀(d:List Int) (i k:Nat),(∃p∈l,bH p d i k)->Edge d (JR l) (zm l) (firstAny l) i k
 |[],_,d,i,k,h=>by obtain⟨_,h,_⟩:=h;cases h
 |p::r,hp,d,i,k,h=>by
  rw[xP,aP]at hp;obtain⟨q,hq,h⟩:=h;rw[JR,zm,firstAny];rcases aT.1 hq with e|hq;·rw[e]at h;obtain⟨a1,a2,a3⟩:=Md p hp.1 d i k h;exact⟨a1,λc=>by rw[a2 c];rfl,λc=>⟨(a3 c).1.imp λx h=>⟨fG _ h.1,h.2⟩,(a3 c).2.imp λx h=>⟨fG _ h.1,h.2⟩⟩⟩
  ·obtain⟨a1,a2,a3⟩:=Qv r hp.2 d i k ⟨q,hq,h⟩;exact⟨a1,λc=>by rw[a2 c,Bool.or_true],λc=>⟨(a3 c).1.imp λx h=>⟨gq _ h.1,h.2⟩,(a3 c).2.imp λx h=>⟨gq _ h.1,h.2⟩⟩⟩
end
end JO
end
section
namespace EvL
open Go.Proofs.YtocaiijbhepnnaaGreatDoor.searchWide.Left
def inner (want:List UInt8) (part:Nat->Nat->List UInt8) (a:Nat):List Nat->List (Nat×Nat)
 |[]=>[]
 |b::r=>if want.length<(part a b).length then(if part a b=want then[(a,b)]else[])else(if part a b=want then[(a,b)]else[])++inner want part a r
def outer (want:List UInt8) (part:Nat->Nat->List UInt8):List Nat->List (Nat×Nat)
 |[]=>[]
 |a::r=>inner want part a r++outer want part r
def scan (want:List UInt8) (a:Nat) (acc:List UInt8):List Pl->List (Nat×Nat)
 |[]=>[]
 |q::r=>if q.2.1=true then(if want.length<acc.length then(if acc=want then[(a,q.1)]else[])else(if acc=want then[(a,q.1)]else[])++scan want a (acc++q.2.2) r)else scan want a (acc++q.2.2) r
def places (l:List Pl):List Nat:=(l.filter λq=>q.2.1).map λq=>q.1
def Parts (part:Nat->Nat->List UInt8) (a:Nat) (acc:List UInt8):List Pl->Prop
 |[]=>True
 |q::r=>part a q.1=acc/\Parts part a (acc++q.2.2) r
theorem oz {q:Pl} {r:List Pl} (c:q.2.1=true):places (q::r)=q.1::places r:=by simp[places,c]
theorem qG {q:Pl} {r:List Pl} (c:¬q.2.1=true):places (q::r)=places r:=by simp[places,c]
theorem EX (want:List UInt8) (part:Nat->Nat->List UInt8) (a:Nat):∀(l:List Pl) (acc:List UInt8),Parts part a acc l->inner want part a (places l)=scan want a acc l
 |[],_,_=>rfl
 |q::r,acc,h=>by
  have ih:=EX want part a r (acc++q.2.2) h.2;unfold scan;by_cases c:q.2.1=true;·have e:=oz (r:=r) c;rw[au c,e,inner,h.1,ih]
  ·have e:=qG (r:=r) c;rw[ak c,e,ih]
theorem wu (want:List UInt8) (a:Nat):∀(l:List Pl) (acc:List UInt8),(∀x,acc++x≠want)->scan want a acc l=[]
 |[],_,_=>rfl
 |q::r,acc,h=>by
  have ih:=wu want a r (acc++q.2.2) (λx=>by rw[iJ];exact h _);have hn:acc≠want:=by have:=h [];rwa [iL]at this
  unfold scan;rw[ak hn,ih];split
  ·split
   ·rfl
   ·rfl
  ·rfl
def Shows:List Pl->Prop
 |[]=>True
 |q::r=>(r≠[]->q.2.2≠[])/\Shows r
theorem Me {rest sh nx:List UInt8} (h:cut rest sh=some nx):rest=sh++nx:=by
 unfold cut at h;split at h;·rename_i e;cases h;conv=>lhs;rw[<-qQ sh.length rest,e]
 ·cases h
theorem Mf {rest sh:List UInt8} (h:cut rest sh=none) (x:List UInt8):rest≠sh++x:=by rintro rfl;unfold cut at h;rw[au (by rw[List.take_left])]at h;cases h
theorem Hr (want:List UInt8) (a:Nat):∀(l:List Pl) (acc rest:List UInt8),Shows l->acc++rest=want->scan want a acc l=match Left.look rest l with|some b=>[(a,b)]|none=>[]
 |[],_,_,_,_=>rfl
 |q::r,acc,rest,hs,h=>by
  have hlen:¬want.length<acc.length:=by rw[<-h,bT];omega
  unfold scan Left.look;rw[ak hlen];by_cases c:rest=[]
  ·subst c;rw[iL]at h;subst h;rw[au rfl,au rfl];have hz:scan acc a (acc++q.2.2) r=[]:=by
    cases r with
    |nil=>rfl
    |cons x r=>refine wu _ _ _ _ λy e=> ?_;have hq:=hs.1 (nC _ _);have:=dX List.length e;rw[bT,bT]at this;exact hq (List.length_eq_zero_iff.1 (by omega))
   rw[hz];split<;>rfl
  ·have hne:acc≠want:=λe=>c (by
    have:=dX List.length h;rw[bT,e]at this;exact List.length_eq_zero_iff.1 (by omega))
   rw[ak hne,ak c,xE];have e2:∀x:List (Nat×Nat),(if q.2.1=true then x else x)=x:=λx=>by split<;>rfl
   rw[e2];cases hc:cut rest q.2.2 with
   |none=>
    exact wu _ _ _ _ λx e=>Mf hc x (by
     rw[<-h,iJ]at e;exact(List.append_cancel_left e).symm)
   |some nx=>
    have hr:=Me hc;dsimp only;by_cases z:q.2.2=[]
    ·rw[au z];cases r with
     |nil=>rfl
     |cons x r=>exact absurd z (hs.1 (nC _ _))
    ·rw[ak z];exact Hr want a r (acc++q.2.2) nx hs.2 (by rw[iJ,<-hr,h])
def zn (part:Nat->Nat->List UInt8):List Pl->Prop
 |[]=>True
 |p::r=>Parts part p.1 p.2.2 r/\zn part r
theorem BO (want:List UInt8) (part:Nat->Nat->List UInt8) (hw:want≠[]):∀l:List Pl,Shows l->zn part l->outer want part (places l)=every want l
 |[],_,_=>rfl
 |p::r,hs,hp=>by
  have ih:=BO want part hw r hs.2 hp.2;unfold every;by_cases c:p.2.1=true
  ·have e:=oz (r:=r) c;rw[au c,e,outer,ih,EX want part p.1 r _ hp.1];unfold Left.look;rw[ak hw];cases hc:cut want p.2.2 with
   |none=>dsimp only;rw[wu _ _ _ _ (λx e=>Mf hc x e.symm),xE]
   |some nx=>
    dsimp only;by_cases z:p.2.2=[]
    ·rw[au z];cases r with
     |nil=>rfl
     |cons x r=>exact absurd z (hs.1 (nC _ _))
    ·rw[ak z,Hr want p.1 r p.2.2 nx hs.2 (Me hc).symm];cases Left.look nx r<;>rfl
  ·have e:=qG (r:=r) c;rw[ak c,e,ih]
end EvL
end
section
namespace Left
theorem drop_one {l:List (Nat×Nat)} {i:Nat} (h:i<l.length):l.drop i=l.getD i m0::l.drop (i+1):=by rw[nQ h,aU,bJ h];rfl
def Mg (a b:Int):List (Nat×Nat)->Bool
 |[]=>false
 |m::l=>if(m.1:Int)=a/\(m.2:Int)=b then true else Mg a b l
