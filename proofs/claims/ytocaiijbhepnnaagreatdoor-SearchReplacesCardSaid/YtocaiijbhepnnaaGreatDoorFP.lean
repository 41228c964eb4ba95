/- SearchReplaces, plain laws: a text is written rune by rune; matches; a region that draws its order; patterns. -/
import Derived.Lib.TrimUEq
import Derived.Lib.ValidU
import Derived.Deep.RegionHeld
import Derived.Test.YtocaiijbhepnnaaGreatDoorAmS
namespace Go.Proofs.YtocaiijbhepnnaaGreatDoor.searchReplaces
section
namespace uG
def bt (l:List UInt8) (i:Nat):Nat:=(l.getD i 0).toNat
theorem sP (l:List UInt8) (i:Nat):bt l i<256:=(l.getD i 0).toNat_lt
theorem ow {l x:List UInt8} {i:Nat} (h:i<l.length):bt (l++x) i=bt l i:=by unfold bt;rw[aM,aM,pI h]
end uG
namespace Folds
open uG (bt sP ow)
open Go.Lib (decodeN)
set_option maxHeartbeats 4000000 in
theorem Q0 (n m b0 b1 b2 b3 c1 c2 c3:Nat) (hn:1<=n) (h1:1<n->c1=b1) (h2:2<n->c2=b2) (h3:3<n->c3=b3) (hw:(decodeN (n+m) b0 c1 c2 c3).2<=n):decodeN n b0 b1 b2 b3=decodeN (n+m) b0 c1 c2 c3:=by
 rcases(by omega:n=1\/n=2\/n=3\/4<=n)with rfl|rfl|rfl|h4
 ·clear h1 h2 h3;revert hw;unfold decodeN;repeat' split
  all_goals intro hw
  all_goals first|with_reducible rfl|(exfalso;dsimp only at hw;omega)|(exfalso;omega)
 ·obtain rfl:=h1 (by omega);clear h1 h2 h3;revert hw;unfold decodeN;repeat' split
  all_goals intro hw
  all_goals first|with_reducible rfl|(exfalso;dsimp only at hw;omega)|(exfalso;omega)
 ·obtain rfl:=h1 (by omega);obtain rfl:=h2 (by omega);clear h1 h2 h3;revert hw;unfold decodeN;repeat' split
  all_goals intro hw
  all_goals first|with_reducible rfl|(exfalso;dsimp only at hw;omega)|(exfalso;omega)
 ·obtain rfl:=h1 (by omega);obtain rfl:=h2 (by omega);obtain rfl:=h3 (by omega);clear h1 h2 h3 hw;have e1:(1<n)=True:=eq_true (by omega);have e2:(2<n)=True:=eq_true (by omega);have e3:(3<n)=True:=eq_true (by omega);have f1:(1<n+m)=True:=eq_true (by omega);have f2:(2<n+m)=True:=eq_true (by omega);have f3:(3<n+m)=True:=eq_true (by omega);unfold decodeN;simp only[e1,e2,e3,f1,f2,f3]
def dec (l:List UInt8):Nat×Nat:=decodeN l.length (bt l 0) (bt l 1) (bt l 2) (bt l 3)
theorem bf (l:List UInt8):1<=(dec l).2:=by
 unfold dec decodeN;repeat' split
 all_goals simp
theorem Le (l:List UInt8):(dec l).2<=4:=by
 unfold dec decodeN;repeat' split
 all_goals simp
theorem bW (l:List UInt8) (h:l≠[]):(dec l).2<=l.length:=by
 have h0:1<=l.length:=by cases l with|nil=>exact absurd rfl h|cons a b=>simp
 unfold dec decodeN;repeat' split
 all_goals (try dsimp only)
 all_goals omega
theorem acG (l t:List UInt8) (h:l≠[]) (hw:(dec (l++t)).2<=l.length):dec (l++t)=dec l:=by
 have h0:1<=l.length:=by cases l with|nil=>exact absurd rfl h|cons a b=>simp
 unfold dec at hw⊢;rw[ow (show 0<l.length by omega),bG]at hw⊢;exact(Q0 l.length t.length _ (bt l 1) (bt l 2) (bt l 3) _ _ _ h0 (λh=>ow h) (λh=>ow h) (λh=>ow h) hw).symm
def one (enc:Nat->List UInt8) (l:List UInt8):List UInt8:=if(dec l).1=65533/\(dec l).2=1 then l.take 1 else enc (dec l).1
def out (enc:Nat->List UInt8):Nat->List UInt8->List UInt8
 |0,_=>[]
 |n+1,l=>if l=[]then[]else one enc l++out enc n (l.drop (dec l).2)
theorem N9 (enc:Nat->List UInt8):∀(n m:Nat) (l:List UInt8),l.length<=n->l.length<=m->out enc n l=out enc m l
 |0,0,_,_,_=>rfl
 |0,m+1,l,h,_=>by
  obtain rfl:l=[]:=rO (by omega);show[]=if([]:List UInt8)=[]then[]else _
  rw[ak rfl]
 |n+1,0,l,_,h=>by
  obtain rfl:l=[]:=rO (by omega);show(if([]:List UInt8)=[]then[]else _)=[]
  rw[ak rfl]
 |n+1,m+1,l,h,k=>by
  show(if l=[]then[]else _)=(if l=[]then[]else _)
  by_cases c:l=[]
  ·rw[ak c,ak c]
  ·rw[aj c,aj c,N9 enc n m (l.drop (dec l).2) (by have:=bf l;rw[bZ];omega) (by have:=bf l;rw[bZ];omega)]
def wrt (enc:Nat->List UInt8) (l:List UInt8):List UInt8:=out enc l.length l
theorem Oa (enc:Nat->List UInt8) (l:List UInt8) (h:l≠[]):wrt enc l=one enc l++wrt enc (l.drop (dec l).2):=by
 unfold wrt;obtain⟨n,hn⟩:∃n,l.length=n+1:=⟨l.length-1,by cases l with|nil=>exact absurd rfl h|cons a b=>simp⟩
 rw[hn];show(if l=[]then[]else _)=_;rw[aj h,N9 enc n _ (l.drop (dec l).2) (by have:=bf l;rw[bZ];omega) (ay _)]
theorem ant (l:List UInt8):Go.Lib.decodeL l=dec l:=Go.Lib.decodeL_N l
end Folds
end
section
namespace Left
abbrev Pl:=Nat×Bool×List UInt8
def cut (rest sh:List UInt8):Option (List UInt8):=if rest.take sh.length=sh then some (rest.drop sh.length)else none
def look:List UInt8->List Pl->Option Nat
 |_,[]=>none
 |rest,p::r=>if rest=[]then(if p.2.1=true then some p.1 else none)else match cut rest p.2.2 with
  |none=>none
  |some nx=>if p.2.2=[]then none else look nx r
def every (want:List UInt8):List Pl->List (Nat×Nat)
 |[]=>[]
 |p::r=>if p.2.1=true then(match look want (p::r)with|some b=>(p.1,b)::every want r|none=>every want r)else every want r
def asc (n:Nat):List Pl->Prop
 |[]=>True
 |p::r=>p.1<=n/\(∀q∈r,p.1<q.1)/\asc n r
theorem TG {n:Nat}:∀{l:List Pl} {rest:List UInt8} {b:Nat},asc n l->look rest l=some b->b<=n/\∃q∈l,q.1=b
 |[],_,_,_,h=>by cases h
 |p::r,rest,b,ha,h=>by
  unfold look at h;obtain⟨h1,h2,h3⟩:=ha;split at h
  ·split at h
   ·cases h;exact⟨h1,p,pW,rfl⟩
   ·cases h
  ·split at h
   ·cases h
   ·split at h
    ·cases h
    ·obtain⟨e1,q,e2,e3⟩:=TG h3 h;exact⟨e1,q,oh _ e2,e3⟩
theorem Q5 {n:Nat} {p:Pl} {r:List Pl} {want:List UInt8} {b:Nat} (hw:want≠[]) (ha:asc n (p::r)) (h:look want (p::r)=some b):p.1<b/\b<=n:=by
 obtain⟨h1,h2,h3⟩:=ha;unfold look at h;rw[aj hw]at h;split at h;·cases h
 ·split at h
  ·cases h
  ·obtain⟨e1,q,e2,e3⟩:=TG h3 h;exact⟨by rw[<-e3];exact h2 q e2,e1⟩
def rise (n:Nat):List (Nat×Nat)->Prop
 |[]=>True
 |m::l=>m.1<m.2/\m.2<=n/\(∀x∈l,m.1<x.1)/\rise n l
theorem yw {want:List UInt8}:∀{l:List Pl} {x:Nat×Nat},x∈every want l->∃q∈l,q.1=x.1
 |[],x,h=>by cases h
 |p::r,x,h=>by
  unfold every at h;split at h
  ·split at h
   ·rcases aU.1 h with rfl|h
    ·exact⟨p,pW,rfl⟩
    ·obtain⟨q,e1,e2⟩:=yw h;exact⟨q,oh _ e1,e2⟩
   ·obtain⟨q,e1,e2⟩:=yw h;exact⟨q,oh _ e1,e2⟩
  ·obtain⟨q,e1,e2⟩:=yw h;exact⟨q,oh _ e1,e2⟩
theorem GZ {n:Nat} {want:List UInt8} (hw:want≠[]):∀{l:List Pl},asc n l->rise n (every want l)
 |[],_=>trivial
 |p::r,ha=>by
  have ih:=GZ hw ha.2.2;unfold every;split
  ·split
   ·rename_i b hb;obtain⟨e1,e2⟩:=Q5 hw ha hb;refine⟨e1,e2,λx hx=> ?_,ih⟩;obtain⟨q,f1,f2⟩:=yw hx;rw[<-f2];exact ha.2.1 q f1
   ·exact ih
  ·exact ih
def kT:Nat->List (Nat×Nat)->List (Nat×Nat)
 |_,[]=>[]
 |e,m::l=>if e<=m.1 then m::kT m.2 l else kT e l
theorem G5 {n:Nat}:∀{l:List (Nat×Nat)} {e:Nat} {x:Nat×Nat},rise n l->x∈kT e l->x∈l/\e<=x.1/\x.1<x.2
 |[],_,_,_,h=>by cases h
 |m::l,e,x,hr,h=>by
  obtain⟨h1,h2,h3,h4⟩:=hr;unfold kT at h;split at h
  ·rename_i c;rcases aU.1 h with rfl|h
   ·exact⟨pW,c,h1⟩
   ·obtain⟨e1,e2,e3⟩:=G5 h4 h;exact⟨oh _ e1,by omega,e3⟩
  ·obtain⟨e1,e2⟩:=G5 h4 h;exact⟨oh _ e1,e2⟩
def m0:Nat×Nat:=(0,0)
theorem Zr {l:List (Nat×Nat)} {i:Nat} (h:i<l.length):l.getD i m0∈l:=by rw[aM,aX h];exact l6 h
end Left
end
section
section
variable {P:Program} {ops:Array Oper} {Q:Exit->Act->World->Prop} {md:Region.Mode} {S:World->Prop} {k:Nat}
def rQ (P:Program) (md:Region.Mode) (ops:Array Oper) (Q:Exit->Act->World->Prop) (S:World->Prop) (k:Nat):Nat->Array Bool->Act->World->Prop
 |0,listed,a,w=>Region.ready md ops listed=[]/\Q .normal a w
 |fuel+1,listed,a,w=>
  (Region.ready md ops listed=[]->Q .normal a w)/\
  ∀i∈Region.ready md ops listed,wpOp P ops Q i (λa' w'=>(i=k\/S w')/\rQ P md ops Q S k fuel (listed.setIfInBounds i true) a' w') a w
theorem G6:∀(fuel:Nat) (listed:Array Bool) (a:Act) (w:World),rQ P md ops Q S k fuel listed a w->wpAny P md ops Q fuel listed a w
 |0,_,_,_,h=>h
 |fuel+1,_,_,_,h=>⟨h.1,λi hi=>wpOp_mono (λa' w' h'=>G6 fuel _ a' w' h'.2) (h.2 i hi)⟩
theorem Lp {i:Nat} {oi:Oper} {v:Value} (hi:ops[i]? =some oi) (hk:∀ok,ops[k]? =some ok->∃e∈ok.after,Region.binds md e=true/\e.on=i)
 (hsel:∀(j:Nat) (o:Oper) cs b,ops[j]? =some o->o.op≠.select cs b) (hQ:∀c a w,Q (.panic c) (a.put oi.dst v) w->Q (.panic c) a w):
 ∀(fuel:Nat) (listed:Array Bool) (a:Act) (w:World),
  (∀j oj,ops[j]? =some oj->j≠i->listed.getD j true=false->(∀e∈oj.after,Region.binds md e=true->e.on≠i)->oi.apart ops oj=true)->
  i∈Region.ready md ops listed->YieldsIf P ops S oi v a->S w->
  rQ P md ops Q S k fuel (listed.setIfInBounds i true) (a.put oi.dst v) w->rQ P md ops Q S k (fuel+1) listed a w:=by
 intro fuel;induction fuel with
 |zero=>
  intro listed a w _ hr hy hS H;refine⟨λh=>(by rw[h]at hr;cases hr),λj hj=> ?_⟩;by_cases hji:j=i;·subst hji;exact hy.wpOp hi hS ⟨.inr hS,H⟩
  ·have:=ready_mono hj hji;rw[H.1]at this;cases this
 |succ fuel ih=>
  intro listed a w hfree hr hy hS H;refine⟨λh=>(by rw[h]at hr;cases hr),λj hj=> ?_⟩;by_cases hji:j=i;·subst hji;exact hy.wpOp hi hS ⟨.inr hS,H⟩
  ·have h1:=H.2 j (ready_mono hj hji);obtain⟨hjun,oj,hoj,hall⟩:=mem_ready.1 hj;have hnot:∀e∈oj.after,Region.binds md e=true->e.on≠i:=λe he hb heq=>by
    have h1:=hall e he hb;have h0:=(mem_ready.1 hr).1;rw[heq]at h1;rcases aK i listed.size with h'|h';·simp[h']at h0 h1;rw[h0]at h1;cases h1
    ·simp[Array.getElem?_eq_none h']at h1
   have hjk:j≠k:=λc=>by subst c;obtain⟨e,he,hb,hon⟩:=hk oj hoj;exact hnot e he hb hon
   have h2:=wpOp_putIf hoj (hfree j oj hoj hji hjun hnot) (λcs b=>hsel i oi cs b hi) (λcs b=>hsel j oj cs b hoj) hQ hy h1;have hfree':∀k ok,ops[k]? =some ok->k≠i->(listed.setIfInBounds j true).getD k true=false->
    (∀e∈ok.after,Region.binds md e=true->e.on≠i)->oi.apart ops ok=true:=λk ok hk hki hun hno=>by
    refine hfree k ok hk hki ?_ hno;by_cases hjk:j=k;·subst hjk;exact hjun
    ·rw[getD_set_ne true hjk]at hun;exact hun
   refine wpOp_mono (λa' w' h3=> ?_) h2;have hS':=h3.2.1.resolve_left hjk;refine⟨.inr hS',ih (listed.setIfInBounds j true) a' w' hfree' (ready_mono hr (Ne.symm hji)) h3.1 hS' ?_⟩;rw[Array.setIfInBounds_comm _ _ hji];exact h3.2.2
def waitsFor (md:Region.Mode) (ops:Array Oper) (k i:Nat):Bool:=match ops[k]? with
 |some ok=>ok.after.any λe=>Region.binds md e&&e.on==i
 |none=>true
theorem waitsFor_spec {i:Nat} (h:waitsFor md ops k i=true):∀ok,ops[k]? =some ok->∃e∈ok.after,Region.binds md e=true/\e.on=i:=λok hk=>by unfold waitsFor at h;rw[hk]at h;obtain⟨e,he,hb⟩:=Array.any_eq_true'.1 h;rw[aR,bV]at hb;exact⟨e,he,hb.1,hb.2⟩
theorem aJ {i:Nat} {oi:Oper} {v:Value} {fuel:Nat} {listed:Array Bool} {a:Act} {w:World} (hi:ops[i]? =some oi)
 (hs:Region.noSelect ops=true) (hf:Region.free md ops listed i=true) (hr:(Region.ready md ops listed).contains i=true) (hk:waitsFor md ops k i=true)
 (hQ:∀c a w,Q (.panic c) (a.put oi.dst v) w->Q (.panic c) a w) (hS:S w) (hy:YieldsIf P ops S oi v a)
 (h:rQ P md ops Q S k fuel (listed.setIfInBounds i true) (a.put oi.dst v) w):rQ P md ops Q S k (fuel+1) listed a w:=
 Lp hi (waitsFor_spec hk) (Region.noSelect_spec hs) hQ fuel listed a w (Region.free_spec hi hf) (by simpa using hr) hy hS h
theorem qo {i:Nat} {o:Oper} {fuel:Nat} {listed:Array Bool} {a:Act} {w:World} (hr:Region.ready md ops listed=[i]) (ho:ops[i]? =some o)
 (h:∀K':Act->World->Prop,Shut (∀a w,(i=k\/S w)->rQ P md ops Q S k fuel (listed.setIfInBounds i true) a w->K' a w)->if Region.wanted o (yielded ops a.tmps)=true then Oper.wp P o a w K' Q else K' (a.put o.dst undef) w):
 rQ P md ops Q S k (fuel+1) listed a w:=
 ⟨λh0=>(by rw[hr]at h0;cases h0),λj hj=>by
  rw[hr,fD]at hj;subst hj;exact wpOp_step ho (λK' hK=>h K' (λa w hS hW=>hK a w (And.intro hS hW)))⟩
theorem Ob {listed:Array Bool} {a:Act} {w:World} (hr:Region.ready md ops listed=[]) (h:Q .normal a w):
 ∀fuel,rQ P md ops Q S k fuel listed a w
 |0=>⟨hr,h⟩
 |_+1=>⟨λ_=>h,by rw[hr];simp⟩
theorem Oc {id:Nat} {a:Act} {w:World} (S:World->Prop) (k:Nat) (hm:P.follows .mixedOrders=true)
 (h:rQ P .any ops Q S k ops.size (Array.replicate ops.size false) a w.drew):(Code.region id ops true).wp P Q a w:=
 wp_region_any hm (G6 _ _ _ _ h)
end
end
section
namespace Lr
inductive PT where
 |node (op:Nat) (cls:List Nat) (kids:List PT)
def bit (M:List Nat) (i k:Nat):Bool:=(M.getD i 0).testBit k
def jC (n:Nat):List Nat:=List.replicate n 0
def kV (n:Nat):List Nat:=(List.range n).map λi=>1<<<i
def iX (a b:List Nat):List Nat:=(List.range a.length).map λi=>a.getD i 0|||b.getD i 0
def oC (x:Nat) (b:List Nat):Nat->Nat
 |0=>0
 |k+1=>if x.testBit k then oC x b k|||b.getD k 0 else oC x b k
def jk (a b:List Nat):List Nat:=(List.range a.length).map λi=>oC (a.getD i 0) b a.length
def jU (M:List Nat) (k:Nat):Nat->List Nat
 |0=>M
 |m+1=>let N:=jU M k m;if bit N m k then N.set m (N.getD m 0|||N.getD k 0)else N
def mG (M:List Nat) (n:Nat):Nat->List Nat
 |0=>M
 |k+1=>jU (mG M n k) k n
def qp (a:List Nat):List Nat:=mG (iX a (kV a.length)) a.length a.length
def Dg (cls:List Nat) (c:List Int):Nat->Bool:=λi=>decide (i<c.length)&&cls.any (λ(x:Nat)=>decide ((x:Int)=c.getD i 0))
def Ls (cls:List Nat) (c:List Int):List Nat:=(List.range (c.length+1)).map λi=>if Dg cls c i then 1<<<(i+1)else 0
mutual
def rows:PT->List Int->List Nat
 | .node op cls kids,c=>
   if op=1 then Ls cls c else if op=2 then uY kids c (kV (c.length+1))else if op=3 then VI kids c (jC (c.length+1))
   else if op=4 then qp (firstR kids c)else if op=5 then jk (firstR kids c) (qp (firstR kids c))else if op=6 then iX (kV (c.length+1)) (firstR kids c)else kV (c.length+1)
def uY:List PT->List Int->List Nat->List Nat
 |[],_,acc=>acc
 |p::r,c,acc=>uY r c (jk acc (rows p c))
def VI:List PT->List Int->List Nat->List Nat
 |[],_,acc=>acc
 |p::r,c,acc=>VI r c (iX acc (rows p c))
def firstR:List PT->List Int->List Nat
 |[],c=>jC (c.length+1)
 |p::_,c=>rows p c
end
def nQ (n:Nat) (M:List Nat):Prop:=M.length=n/\∀i k,bit M i k=true->i<n/\k<n
theorem Fe {n:Nat} {f:Nat->Nat} {i k:Nat}:bit ((List.range n).map f) i k=(decide (i<n)&&(f i).testBit k):=by
 unfold bit;rw[aM,fQ];by_cases h:i<n;·rw[List.getElem?_range h];simp[h]
 ·rw[List.getElem?_eq_none (by simpa using Nat.le_of_not_lt h)];simp[h]
theorem Od (n i k:Nat):bit (jC n) i k=false:=by unfold bit jC;rw[aM,List.getElem?_replicate];split<;>simp
theorem Dh (n:Nat):nQ n (jC n):=⟨Bf,λi k h=>by rw[Od]at h;cases h⟩
theorem TH (i k:Nat):(1<<<i).testBit k=decide (i=k):=by rw[Nat.one_shiftLeft,Nat.testBit_two_pow]
theorem yx (n i k:Nat):bit (kV n) i k=true↔i<n/\i=k:=by unfold kV;rw[Fe,TH];simp
theorem sW (n:Nat):nQ n (kV n):=⟨by simp[kV],λi k h=>by rw[yx]at h;omega⟩
theorem G7 {n:Nat} {a b:List Nat} (ha:nQ n a) (hb:nQ n b) (i k:Nat):bit (iX a b) i k=true↔bit a i k=true\/bit b i k=true:=by
 unfold iX;rw[Fe,Nat.testBit_or];simp only[aR,iI,cK];refine⟨λh=>h.2,λh=>⟨?_,h⟩⟩;rw[ha.1];rcases h with h|h;·exact(ha.2 i k h).1
 ·exact(hb.2 i k h).1
theorem yA {n:Nat} {a b:List Nat} (ha:nQ n a) (hb:nQ n b):nQ n (iX a b):=
 ⟨by simp[iX,ha.1],λi k h=>by rcases(G7 ha hb i k).1 h with h|h;exact ha.2 i k h;exact hb.2 i k h⟩
theorem JG (x:Nat) (b:List Nat) (k:Nat):∀m,(oC x b m).testBit k=true↔∃j,j<m/\x.testBit j=true/\bit b j k=true
 |0=>by simp[oC]
 |m+1=>by
  have ih:=JG x b k m;unfold oC;by_cases c:x.testBit m=true
  ·rw[ak c,Nat.testBit_or,cK,ih];refine⟨λh=> ?_,λ⟨j,h1,h2,h3⟩=> ?_⟩
   ·rcases h with⟨j,h1,h2,h3⟩|h
    ·exact⟨j,by omega,h2,h3⟩
    ·exact⟨m,by omega,c,h⟩
   ·rcases aK j m with d|d
    ·exact .inl ⟨j,d,h2,h3⟩
    ·obtain rfl:j=m:=by omega
     exact .inr h3
  ·rw[aj c,ih];refine⟨λ⟨j,h1,h2,h3⟩=>⟨j,by omega,h2,h3⟩,λ⟨j,h1,h2,h3⟩=> ?_⟩;rcases aK j m with d|d
   ·exact⟨j,d,h2,h3⟩
   ·obtain rfl:j=m:=by omega
    exact absurd h2 c
theorem zB {n:Nat} {a b:List Nat} (ha:nQ n a) (i k:Nat):bit (jk a b) i k=true↔∃j,bit a i j=true/\bit b j k=true:=by unfold jk;rw[Fe];simp only[aR,iI,JG,ha.1];refine⟨λ⟨_,j,_,h2,h3⟩=>⟨j,h2,h3⟩,λ⟨j,h2,h3⟩=> ?_⟩;have:=ha.2 i j h2;exact⟨this.1,j,this.2,h2,h3⟩
theorem wC {n:Nat} {a b:List Nat} (ha:nQ n a) (hb:nQ n b):nQ n (jk a b):=
 ⟨by simp[jk,ha.1],λi k h=>by obtain⟨j,h1,h2⟩:=(zB ha i k).1 h;exact⟨(ha.2 i j h1).1,(hb.2 j k h2).2⟩⟩
theorem acH {M:List Nat} {m x i k:Nat} (hm:m<M.length):bit (M.set m x) i k=if i=m then x.testBit k else bit M i k:=by
 unfold bit;rw[aM,List.getElem?_set];by_cases h:m=i;·subst h;simp[hm]
 ·rw[aj h,aj (λe=>h e.symm),aM]
theorem JH {n:Nat} {M:List Nat} (k:Nat) (hM:nQ n M):∀m,m<=n->(jU M k m).length=n/\∀i j,bit (jU M k m) i j=true↔bit M i j=true\/(i<m/\bit M i k=true/\bit M k j=true)
 |0,_=>⟨hM.1,λi j=>⟨.inl,λh=>by rcases h with h|h;exact h;exact absurd h.1 (jh _)⟩⟩
 |m+1,hm=>by
  obtain⟨l,ih⟩:=JH k hM m (by omega);have hk:∀j,bit (jU M k m) k j=true↔bit M k j=true:=λj=>by rw[ih];exact⟨λh=>by rcases h with h|h;exact h;exact h.2.2, .inl⟩
  have hc:bit (jU M k m) m k=true↔bit M m k=true:=by rw[ih];exact⟨λh=>by rcases h with h|h;exact h;exact absurd h.1 (dI _), .inl⟩
  unfold jU;by_cases c:bit (jU M k m) m k=true
  ·rw[ak c];refine⟨by rw[List.length_set];exact l,λi j=> ?_⟩;rw[acH (by omega)];by_cases e:i=m
   ·subst e;rw[ak rfl,Nat.testBit_or,cK];show bit (jU M k i) i j=true\/bit (jU M k i) k j=true↔_;rw[hk,ih];refine⟨λh=> ?_,λh=> ?_⟩
    ·rcases h with(h|h)|h
     ·exact .inl h
     ·exact absurd h.1 (dI _)
     ·exact .inr ⟨lX _,hc.1 c,h⟩
    ·rcases h with h|h
     ·exact .inl (.inl h)
     ·exact .inr h.2.2
   ·rw[aj e,ih];refine⟨λh=> ?_,λh=> ?_⟩
    ·rcases h with h|h
     ·exact .inl h
     ·exact .inr ⟨by omega,h.2⟩
    ·rcases h with h|h
     ·exact .inl h
     ·exact .inr ⟨by omega,h.2⟩
  ·rw[aj c];refine⟨l,λi j=> ?_⟩;rw[ih];refine⟨λh=> ?_,λh=> ?_⟩
   ·rcases h with h|h
    ·exact .inl h
    ·exact .inr ⟨by omega,h.2⟩
   ·rcases h with h|h
    ·exact .inl h
    ·by_cases e:i=m
     ·subst e;exact absurd (hc.2 h.2.1) c
     ·exact .inr ⟨by omega,h.2⟩
inductive Star (r:Nat->Nat->Prop) (i:Nat):Nat->Prop
 |nil:Star r i i
 |snoc {j k:Nat}:Star r i j->r j k->Star r i k
theorem Star.trans {r:Nat->Nat->Prop} {i j k:Nat} (h:Star r i j):Star r j k->Star r i k:=λg=>by
 induction g with
 |nil=>exact h
 |snoc _ s ih=>exact .snoc ih s
theorem Star.one {r:Nat->Nat->Prop} {i k:Nat} (h:r i k):Star r i k:= .snoc .nil h
theorem Di {n:Nat} {a:List Nat} (ha:nQ n a):∀K,K<=n->nQ n (mG (iX a (kV n)) n K)/\
 (∀i k,bit (mG (iX a (kV n)) n K) i k=true->Star (λx y=>bit a x y=true) i k)/\
 (∀i,i<n->bit (mG (iX a (kV n)) n K) i i=true)/\(∀i k,bit a i k=true->bit (mG (iX a (kV n)) n K) i k=true)/\
 (∀i m k,m<K->bit (mG (iX a (kV n)) n K) i m=true->bit (mG (iX a (kV n)) n K) m k=true->bit (mG (iX a (kV n)) n K) i k=true)
 |0,_=>by
  have hf:=yA ha (sW n);have hb:=λi k=>G7 ha (sW n) i k;refine⟨hf,λi k h=> ?_,λi hi=> ?_,λi k h=> ?_,λi m k hm=>absurd hm (jh _)⟩
  ·rcases(hb i k).1 h with h|h
   ·exact .one h
   ·obtain⟨_,rfl⟩:=(yx n i k).1 h;exact .nil
  ·exact(hb i i).2 (.inr ((yx n i i).2 ⟨hi,rfl⟩))
  ·exact(hb i k).2 (.inl h)
 |K+1,hK=>by
  obtain⟨f,s,o,b,t⟩:=Di ha K (by omega);obtain⟨l,hs⟩:=JH K f n (ay n);have e:mG (iX a (kV n)) n (K+1)=jU (mG (iX a (kV n)) n K) K n:=rfl;rw[e];generalize mG (iX a (kV n)) n K=M at*
  have key:∀i k,bit (jU M K n) i k=true↔bit M i k=true\/(bit M i K=true/\bit M K k=true):=λi k=>by
   rw[hs];refine⟨λh=> ?_,λh=> ?_⟩
   ·rcases h with h|h
    ·exact .inl h
    ·exact .inr h.2
   ·rcases h with h|h
    ·exact .inl h
    ·exact .inr ⟨(f.2 i K h.1).1,h⟩
  refine⟨⟨l,λi k h=> ?_⟩,λi k h=> ?_,λi hi=>(key i i).2 (.inl (o i hi)),λi k h=>(key i k).2 (.inl (b i k h)),λi m k hm h1 h2=> ?_⟩
  ·rcases(key i k).1 h with h|h
   ·exact f.2 i k h
   ·exact⟨(f.2 i K h.1).1,(f.2 K k h.2).2⟩
  ·rcases(key i k).1 h with h|h
   ·exact s i k h
   ·exact(s i K h.1).trans (s K k h.2)
  ·rw[key]at h1 h2⊢;rcases aK m K with c|c
   ·rcases h1 with h1|h1
    ·rcases h2 with h2|h2
     ·exact .inl (t i m k c h1 h2)
     ·exact .inr ⟨t i m K c h1 h2.1,h2.2⟩
    ·rcases h2 with h2|h2
     ·exact .inr ⟨h1.1,t K m k c h1.2 h2⟩
     ·exact .inr ⟨h1.1,h2.2⟩
   ·obtain rfl:m=K:=by omega
    refine .inr ⟨?_,?_⟩
    ·rcases h1 with h1|h1
     ·exact h1
     ·exact h1.1
    ·rcases h2 with h2|h2
     ·exact h2
     ·exact h2.2
theorem JI {n:Nat} {a:List Nat} (ha:nQ n a):nQ n (qp a):=by unfold qp;rw[ha.1];exact(Di ha n (ay n)).1
theorem Zt {n:Nat} {a:List Nat} (ha:nQ n a) {i:Nat} (hi:i<n) (k:Nat):bit (qp a) i k=true↔Star (λx y=>bit a x y=true) i k:=by
 unfold qp;rw[ha.1];obtain⟨f,s,o,b,t⟩:=Di ha n (ay n);refine⟨s i k,λh=> ?_⟩;induction h with
 |nil=>exact o i hi
 |snoc _ g ih=>exact t i _ _ (f.2 _ _ ih).2 ih (b _ _ g)
theorem TI (cls:List Nat) (c:List Int) (i k:Nat):bit (Ls cls c) i k=true↔i<c.length/\k=i+1/\∃x∈cls,(x:Int)=c.getD i 0:=by
 unfold Ls;rw[Fe];simp only[aR,iI];by_cases h:Dg cls c i=true
 ·rw[ak h,TH];unfold Dg at h;simp only[aR,iI,xS]at h;refine⟨λg=>⟨h.1,?_,h.2⟩,λg=>⟨by omega,?_⟩⟩
  ·have:=jg g.2;omega
  ·exact bE (by omega)
 ·rw[aj h];refine⟨λg=>by simp at g,λg=>absurd ?_ h⟩;unfold Dg;simp only[aR,iI,xS];exact⟨g.1,g.2.2⟩
theorem Zu (cls:List Nat) (c:List Int):nQ (c.length+1) (Ls cls c):=⟨by simp[Ls],λi k h=>by obtain⟨h1,h2,_⟩:=(TI cls c i k).1 h;omega⟩
mutual
theorem lq:∀(p:PT) (c:List Int),nQ (c.length+1) (rows p c)
 | .node op cls kids,c=>by
   have f:=first_fine kids c;unfold rows;repeat' split
   ·exact Zu cls c
   ·exact JJ kids c (sW _)
   ·exact TJ kids c (Dh _)
   ·exact JI f
   ·exact wC f (JI f)
   ·exact yA (sW _) f
   ·exact sW _
theorem JJ:∀(l:List PT) (c:List Int) {acc:List Nat},nQ (c.length+1) acc->nQ (c.length+1) (uY l c acc)
 |[],_,_,h=>h
 |p::r,c,_,h=>JJ r c (wC h (lq p c))
theorem TJ:∀(l:List PT) (c:List Int) {acc:List Nat},nQ (c.length+1) acc->nQ (c.length+1) (VI l c acc)
 |[],_,_,h=>h
 |p::r,c,_,h=>TJ r c (yA h (lq p c))
theorem first_fine:∀(l:List PT) (c:List Int),nQ (c.length+1) (firstR l c)
 |[],_=>Dh _
 |p::_,c=>lq p c
end
def aV (p:PT) (c:List Int) (i k:Nat):Prop:=bit (rows p c) i k=true
def kg:List PT->List Int->Nat->Nat->Prop
 |[],_,i,k=>i=k
 |p::r,c,i,k=>∃j,aV p c i j/\kg r c j k
theorem JK (cls:List Nat) (kids:List PT) (c:List Int) (i k:Nat):aV (.node 1 cls kids) c i k↔i<c.length/\k=i+1/\∃x∈cls,(x:Int)=c.getD i 0:=by unfold aV rows;rw[ak rfl];exact TI cls c i k
theorem G8:∀(l:List PT) (c:List Int) {acc:List Nat} (i k:Nat),nQ (c.length+1) acc->(bit (uY l c acc) i k=true↔∃j,bit acc i j=true/\kg l c j k)
 |[],c,acc,i,k,_=>⟨λh=>⟨k,h,rfl⟩,λ⟨j,h,e⟩=>by cases e;exact h⟩
 |p::r,c,acc,i,k,h=>by have ih:=G8 r c i k (wC h (lq p c));show bit (uY r c (jk acc (rows p c))) i k=true↔_;rw[ih];refine⟨λ⟨j,h1,h2⟩=> ?_,λ⟨j,h1,m,h2,h3⟩=>⟨m,(zB h i m).2 ⟨j,h1,h2⟩,h3⟩⟩;obtain⟨m,h3,h4⟩:=(zB h i j).1 h1;exact⟨m,h3,j,h4,h2⟩
theorem bF (cls:List Nat) (kids:List PT) (c:List Int) (i k:Nat):aV (.node 2 cls kids) c i k↔i<=c.length/\kg kids c i k:=by unfold aV rows;rw[aj (by decide),ak rfl,G8 kids c i k (sW _)];refine⟨λ⟨j,h1,h2⟩=> ?_,λ⟨h1,h2⟩=>⟨i,(yx _ _ _).2 ⟨by omega,rfl⟩,h2⟩⟩;obtain⟨h3,rfl⟩:=(yx _ _ _).1 h1;exact⟨by omega,h2⟩
theorem Oe:∀(l:List PT) (c:List Int) {acc:List Nat} (i k:Nat),nQ (c.length+1) acc->(bit (VI l c acc) i k=true↔bit acc i k=true\/∃p∈l,aV p c i k)
 |[],c,acc,i,k,_=>⟨.inl,λh=>by rcases h with h|⟨_,h,_⟩;exact h;cases h⟩
 |p::r,c,acc,i,k,h=>by
  have ih:=Oe r c i k (yA h (lq p c));show bit (VI r c (iX acc (rows p c))) i k=true↔_;rw[ih,G7 h (lq p c)];refine⟨λg=> ?_,λg=> ?_⟩
  ·rcases g with(g|g)|⟨q,g1,g2⟩
   ·exact .inl g
   ·exact .inr ⟨p,pW,g⟩
   ·exact .inr ⟨q,oh _ g1,g2⟩
  ·rcases g with g|⟨q,g1,g2⟩
   ·exact .inl (.inl g)
   ·rcases aU.1 g1 with rfl|g1
    ·exact .inl (.inr g2)
    ·exact .inr ⟨q,g1,g2⟩
theorem wD (cls:List Nat) (kids:List PT) (c:List Int) (i k:Nat):aV (.node 3 cls kids) c i k↔∃p∈kids,aV p c i k:=by
 have e:rows (.node 3 cls kids) c=VI kids c (jC (c.length+1)):=by unfold rows;rfl
 show bit (rows (.node 3 cls kids) c) i k=true↔_;rw[e,Oe kids c i k (Dh _),Od];exact⟨λh=>by rcases h with h|h;cases h;exact h, .inr⟩
theorem nE (cls:List Nat) (p:PT) (c:List Int) (i k:Nat) (hi:i<=c.length):aV (.node 4 cls [p]) c i k↔Star (aV p c) i k:=by
 have e:rows (.node 4 cls [p]) c=qp (firstR [p] c):=by rw[rows];rfl
 have e2:firstR [p] c=rows p c:=by rw[firstR]
 show bit (rows (.node 4 cls [p]) c) i k=true↔_;rw[e,e2];exact Zt (lq p c) (i:=i) (by omega) k
theorem wE (cls:List Nat) (kids:List PT) (c:List Int) (i k:Nat):aV (.node 0 cls kids) c i k↔i<=c.length/\i=k:=by unfold aV rows;rw[aj (by decide),aj (by decide),aj (by decide),aj (by decide),aj (by decide),aj (by decide),yx];exact⟨λh=>⟨by omega,h.2⟩,λh=>⟨by omega,h.2⟩⟩
theorem G9 {p:PT} {c:List Int} {i k:Nat} (h:aV p c i k):i<=c.length/\k<=c.length:=by have:=(lq p c).2 i k h;omega
end Lr
end
section
namespace Lr
mutual
def Q6:PT->Bool
 | .node op _ kids=>if op=1 then false else if op=2 then He kids else if op=3 then Lu kids else true
def He:List PT->Bool
 |[]=>true
 |p::r=>Q6 p&&He r
def Lu:List PT->Bool
 |[]=>false
 |p::r=>Q6 p||Lu r
end
mutual
def Og:PT->List Nat
 | .node op cls kids=>if op=1 then cls else if op=2 then Fg kids else Bt kids
def Fg:List PT->List Nat
 |[]=>[]
 |p::r=>(if He r=true then Og p else[])++Fg r
def Bt:List PT->List Nat
 |[]=>[]
 |p::r=>Og p++Bt r
end
mutual
def firstP:PT->List Nat
 | .node op cls kids=>if op=1 then cls else if op=2 then firstAll kids else firstAny kids
def firstAll:List PT->List Nat
 |[]=>[]
 |p::r=>firstP p++if Q6 p=true then firstAll r else[]
def firstAny:List PT->List Nat
 |[]=>[]
 |p::r=>firstP p++firstAny r
end
mutual
def Zv:PT->Bool
 | .node op _ kids=>decide (op<=4)&&(!decide (op=4)||decide (kids.length=1))&&zC kids
def zC:List PT->Bool
 |[]=>true
 |p::r=>Zv p&&zC r
end
def Edge (d:List Int) (nul:Bool) (L F:List Nat) (i k:Nat):Prop:=i<=k/\(i=k->nul=true)/\(i<k->(∃x∈L,(x:Int)=d.getD (k-1) 0)/\∃x∈F,(x:Int)=d.getD i 0)
theorem Edge.star {d:List Int} {nul:Bool} {L F:List Nat} {r:Nat->Nat->Prop} (h:∀i k,r i k->Edge d nul L F i k) {i k:Nat} (s:Star r i k):Edge d true L F i k:=by
 induction s with
 |nil=>exact⟨ay _,λ_=>rfl,λc=>absurd c (dI _)⟩
 | @snoc j k _ g ih=>
   obtain⟨h1,h2,h3⟩:=h _ _ g;refine⟨aS ih.1 h1,λ_=>rfl,λc=> ?_⟩;have e1:=ih.1;rcases aK i j with c1|c1
   ·rcases aK j k with c2|c2
    ·exact⟨(h3 c2).1,(ih.2.2 c1).2⟩
    ·obtain rfl:j=k:=by omega
     exact ih.2.2 c
   ·obtain rfl:i=j:=by omega
    exact h3 c
mutual
theorem Oh:∀(p:PT),Zv p=true->∀(d:List Int) (i k:Nat),aV p d i k->Edge d (Q6 p) (Og p) (firstP p) i k
 | .node op cls kids,hp,d,i,k,h=>by
   rw[Zv,aR,aR]at hp;obtain⟨⟨h4,h5⟩,h6⟩:=hp;have h4:=jg h4;rw[Q6,Og,firstP];match op,h4 with
   |0,_=>obtain⟨_,rfl⟩:=(wE _ _ _ _ _).1 h;exact⟨ay _,λ_=>rfl,λc=>absurd c (dI _)⟩
   |1,_=>obtain⟨h1,rfl,h2⟩:=(JK _ _ _ _ _).1 h;exact⟨nJ _,λc=>absurd c (by omega),λ_=>⟨h2,h2⟩⟩
   |2,_=>exact TK kids h6 d i k ((bF _ _ _ _ _).1 h).2
   |3,_=>exact TL kids h6 d i k ((wD _ _ _ _ _).1 h)
   |4,_=>
    match kids,h5,h6,h with
    |[p],_,h6,h=>rw[zC,aR]at h6;have h:=(nE _ _ _ _ _ (G9 h).1).1 h;have:=Edge.star (λi k g=>Oh p h6.1 d i k g) h;simpa[Bt,firstAny]using this
theorem TK:∀(l:List PT),zC l=true->∀(d:List Int) (i k:Nat),kg l d i k->Edge d (He l) (Fg l) (firstAll l) i k
 |[],_,d,i,k,h=>⟨Nat.le_of_eq h,λ_=>rfl,λc=>absurd (show i=k from h) (by omega)⟩
 |p::r,hp,d,i,k,h=>by
  rw[zC,aR]at hp;obtain⟨j,g1,g2⟩:=h;obtain⟨a1,a2,a3⟩:=Oh p hp.1 d i j g1;obtain⟨b1,b2,b3⟩:=TK r hp.2 d j k g2;rw[He,Fg,firstAll];refine⟨aS a1 b1,λc=> ?_,λc=>⟨?_,?_⟩⟩;·rw[a2 (by omega),b2 (by omega)];rfl
  ·rcases aK j k with c1|c1
   ·obtain⟨x,hx,e⟩:=(b3 c1).1;exact⟨x,iV _ hx,e⟩
   ·obtain rfl:j=k:=by omega
    obtain⟨x,hx,e⟩:=(a3 c).1;rw[b2 rfl,ak rfl];exact⟨x,iF _ hx,e⟩
  ·rcases aK i j with c1|c1
   ·obtain⟨x,hx,e⟩:=(a3 c1).2;exact⟨x,iF _ hx,e⟩
   ·obtain rfl:i=j:=by omega
    obtain⟨x,hx,e⟩:=(b3 c).2;rw[a2 rfl,ak rfl];exact⟨x,iV _ hx,e⟩
theorem TL:∀(l:List PT),zC l=true->∀(d:List Int) (i k:Nat),(∃p∈l,aV p d i k)->Edge d (Lu l) (Bt l) (firstAny l) i k
 |[],_,d,i,k,h=>by obtain⟨_,h,_⟩:=h;cases h
 |p::r,hp,d,i,k,h=>by
  rw[zC,aR]at hp;obtain⟨q,hq,h⟩:=h;rw[Lu,Bt,firstAny];rcases aU.1 hq with e|hq;·rw[e]at h;obtain⟨a1,a2,a3⟩:=Oh p hp.1 d i k h;exact⟨a1,λc=>by rw[a2 c];rfl,λc=>⟨(a3 c).1.imp λx h=>⟨iF _ h.1,h.2⟩,(a3 c).2.imp λx h=>⟨iF _ h.1,h.2⟩⟩⟩
  ·obtain⟨a1,a2,a3⟩:=TL r hp.2 d i k ⟨q,hq,h⟩;exact⟨a1,λc=>by rw[a2 c,Bool.or_true],λc=>⟨(a3 c).1.imp λx h=>⟨iV _ h.1,h.2⟩,(a3 c).2.imp λx h=>⟨iV _ h.1,h.2⟩⟩⟩
end
end Lr
end
section
namespace EvL
open Go.Proofs.YtocaiijbhepnnaaGreatDoor.searchReplaces.Left
def inner (want:List UInt8) (part:Nat->Nat->List UInt8) (a:Nat):List Nat->List (Nat×Nat)
 |[]=>[]
 |b::r=>if want.length<(part a b).length then(if part a b=want then[(a,b)]else[])else(if part a b=want then[(a,b)]else[])++inner want part a r
def outer (want:List UInt8) (part:Nat->Nat->List UInt8):List Nat->List (Nat×Nat)
 |[]=>[]
 |a::r=>inner want part a r++outer want part r
def scan (want:List UInt8) (a:Nat) (acc:List UInt8):List Pl->List (Nat×Nat)
 |[]=>[]
 |q::r=>if q.2.1=true then(if want.length<acc.length then(if acc=want then[(a,q.1)]else[])else(if acc=want then[(a,q.1)]else[])++scan want a (acc++q.2.2) r)else scan want a (acc++q.2.2) r
def places (l:List Pl):List Nat:=(l.filter λq=>q.2.1).map λq=>q.1
def Parts (part:Nat->Nat->List UInt8) (a:Nat) (acc:List UInt8):List Pl->Prop
 |[]=>True
 |q::r=>part a q.1=acc/\Parts part a (acc++q.2.2) r
theorem zD {q:Pl} {r:List Pl} (c:q.2.1=true):places (q::r)=q.1::places r:=by simp[places,c]
theorem Dj {q:Pl} {r:List Pl} (c:¬q.2.1=true):places (q::r)=places r:=by simp[places,c]
theorem Hf (want:List UInt8) (part:Nat->Nat->List UInt8) (a:Nat):∀(l:List Pl) (acc:List UInt8),Parts part a acc l->inner want part a (places l)=scan want a acc l
 |[],_,_=>rfl
 |q::r,acc,h=>by
  have ih:=Hf want part a r (acc++q.2.2) h.2;unfold scan;by_cases c:q.2.1=true;·have e:=zD (r:=r) c;rw[ak c,e,inner,h.1,ih]
  ·have e:=Dj (r:=r) c;rw[aj c,e,ih]
theorem yB (want:List UInt8) (a:Nat):∀(l:List Pl) (acc:List UInt8),(∀x,acc++x≠want)->scan want a acc l=[]
 |[],_,_=>rfl
 |q::r,acc,h=>by
  have ih:=yB want a r (acc++q.2.2) (λx=>by rw[dR];exact h _);have hn:acc≠want:=by have:=h [];rwa [fq]at this
  unfold scan;rw[aj hn,ih];split
  ·split
   ·rfl
   ·rfl
  ·rfl
def Shows:List Pl->Prop
 |[]=>True
 |q::r=>(r≠[]->q.2.2≠[])/\Shows r
theorem Oi {rest sh nx:List UInt8} (h:cut rest sh=some nx):rest=sh++nx:=by
 unfold cut at h;split at h;·rename_i e;cases h;conv=>lhs;rw[<-lN sh.length rest,e]
 ·cases h
theorem Oj {rest sh:List UInt8} (h:cut rest sh=none) (x:List UInt8):rest≠sh++x:=by rintro rfl;unfold cut at h;rw[ak (by rw[List.take_left])]at h;cases h
theorem JL (want:List UInt8) (a:Nat):∀(l:List Pl) (acc rest:List UInt8),Shows l->acc++rest=want->scan want a acc l=match Left.look rest l with|some b=>[(a,b)]|none=>[]
 |[],_,_,_,_=>rfl
 |q::r,acc,rest,hs,h=>by
  have hlen:¬want.length<acc.length:=by rw[<-h,bG];omega
  unfold scan Left.look;rw[aj hlen];by_cases c:rest=[]
  ·subst c;rw[fq]at h;subst h;rw[ak rfl,ak rfl];have hz:scan acc a (acc++q.2.2) r=[]:=by
    cases r with
    |nil=>rfl
    |cons x r=>refine yB _ _ _ _ λy e=> ?_;have hq:=hs.1 (oV _ _);have:=eO List.length e;rw[bG,bG]at this;exact hq (List.length_eq_zero_iff.1 (by omega))
   rw[hz];split<;>rfl
  ·have hne:acc≠want:=λe=>c (by
    have:=eO List.length h;rw[bG,e]at this;exact List.length_eq_zero_iff.1 (by omega))
   rw[aj hne,aj c,l9];have e2:∀x:List (Nat×Nat),(if q.2.1=true then x else x)=x:=λx=>by split<;>rfl
   rw[e2];cases hc:cut rest q.2.2 with
   |none=>
    exact yB _ _ _ _ λx e=>Oj hc x (by
     rw[<-h,dR]at e;exact(List.append_cancel_left e).symm)
   |some nx=>
    have hr:=Oi hc;dsimp only;by_cases z:q.2.2=[]
    ·rw[ak z];cases r with
     |nil=>rfl
     |cons x r=>exact absurd z (hs.1 (oV _ _))
    ·rw[aj z];exact JL want a r (acc++q.2.2) nx hs.2 (by rw[dR,<-hr,h])
def Hg (part:Nat->Nat->List UInt8):List Pl->Prop
 |[]=>True
 |p::r=>Parts part p.1 p.2.2 r/\Hg part r
theorem DY (want:List UInt8) (part:Nat->Nat->List UInt8) (hw:want≠[]):∀l:List Pl,Shows l->Hg part l->outer want part (places l)=every want l
 |[],_,_=>rfl
 |p::r,hs,hp=>by
  have ih:=DY want part hw r hs.2 hp.2;unfold every;by_cases c:p.2.1=true
  ·have e:=zD (r:=r) c;rw[ak c,e,outer,ih,Hf want part p.1 r _ hp.1];unfold Left.look;rw[aj hw];cases hc:cut want p.2.2 with
   |none=>dsimp only;rw[yB _ _ _ _ (λx e=>Oj hc x e.symm),l9]
   |some nx=>
    dsimp only;by_cases z:p.2.2=[]
    ·rw[ak z];cases r with
     |nil=>rfl
     |cons x r=>exact absurd z (hs.1 (oV _ _))
    ·rw[aj z,JL want p.1 r p.2.2 nx hs.2 (Oi hc).symm];cases Left.look nx r<;>rfl
  ·have e:=Dj (r:=r) c;rw[aj c,e,ih]
end EvL
end
section
namespace Left
def gN (s u:List UInt8):Nat->List (Nat×Nat)->List UInt8
 |e,[]=>s.drop e
 |e,m::l=>(s.take m.1).drop e++(u++gN s u m.2 l)
def fits (n:Nat):Nat->List (Nat×Nat)->Prop
 |e,[]=>e<=n
 |e,m::l=>e<=m.1/\m.1<=m.2/\m.2<=n/\fits n m.2 l
theorem Dk {n:Nat}:∀{l:List (Nat×Nat)} {e:Nat},rise n l->e<=n->fits n e (kT e l)
 |[],_,_,h=>h
 |m::l,e,hr,h=>by
  obtain⟨h1,h2,h3,h4⟩:=hr;unfold kT;split;·rename_i c;exact⟨c,dD h1,h2,Dk h4 h2⟩
  ·exact Dk h4 h
def total:List (Nat×Nat)->Nat
 |[]=>0
 |m::l=>(m.2-m.1)+total l
theorem Ol {s:List UInt8}:∀{l:List (Nat×Nat)} {e:Nat},fits s.length e l->(gN s [] e l).length+total l+e=s.length
 |[],e,h=>by unfold gN total;rw[bZ];have:e<=s.length:=h;omega
 |m::l,e,h=>by obtain⟨h1,h2,h3,h4⟩:=h;have ih:=Ol h4;unfold gN total;rw[bG,bG,bZ,eU,gQ,qH (by omega)];omega
theorem JM {s t:List UInt8}:∀{l:List (Nat×Nat)} {e:Nat},fits s.length e l->(∀m∈l,(s.take m.2).drop m.1=t)->gN s t e l=s.drop e
 |[],_,_,_=>rfl
 |m::l,e,h,ht=>by
  obtain⟨h1,h2,h3,h4⟩:=h;unfold gN;rw[JM h4 (λx hx=>ht x (oh _ hx)),<-ht m pW];have a1:(s.take m.2).drop m.1++s.drop m.2=s.drop m.1:=by
   conv=>rhs;rw[<-lN m.2 s]
   rw[List.drop_append,eU,qH h3,Nat.sub_eq_zero_of_le h2,oO]
  have a2:(s.take m.1).drop e++s.drop m.1=s.drop e:=by
   conv=>rhs;rw[<-lN m.1 s]
   rw[List.drop_append,eU,qH (by omega),Nat.sub_eq_zero_of_le h1,oO]
  rw[a1,a2]
theorem Lx {s u:List UInt8}:∀{l:List (Nat×Nat)} {e:Nat},(gN s u e l).length<=s.length+l.length*(s.length+u.length)
 |[],e=>by unfold gN;rw[bZ];omega
 |m::l,e=>by have ih:=Lx (s:=s) (u:=u) (l:=l) (e:=m.2);unfold gN;rw[bG,bG,bZ,eU,bK,Nat.succ_mul];omega
