/- SearchEach, plain laws: a text is written rune by rune; matches; a region that draws its order; patterns. -/
import Derived.Lib.DecodeN
import Derived.Lib.TrimUEq
import Derived.Lib.ValidU
import Derived.OrdersHeld
import Derived.RegionTactic
import Derived.Deep.RegionHeld
import Derived.Test.YtocaiijbhepnnaaGreatDoorAmS
namespace Go.Proofs.YtocaiijbhepnnaaGreatDoor.searchEach
section
namespace tX
def bt (l:List UInt8) (i:Nat):Nat:=(l.getD i 0).toNat
theorem rR (l:List UInt8) (i:Nat):bt l i<256:=(l.getD i 0).toNat_lt
theorem nM {l x:List UInt8} {i:Nat} (h:i<l.length):bt (l++x) i=bt l i:=by unfold bt;rw[aM,aM,oL h]
end tX
namespace Folds
open tX (bt rR nM)
open Go.Lib (decodeN)
set_option maxHeartbeats 4000000 in
theorem Qz (n m b0 b1 b2 b3 c1 c2 c3:Nat) (hn:1≤n) (h1:1<n→c1=b1) (h2:2<n→c2=b2) (h3:3<n→c3=b3) (hw:(decodeN (n+m) b0 c1 c2 c3).2≤n):decodeN n b0 b1 b2 b3=decodeN (n+m) b0 c1 c2 c3:=by
 rcases(by omega:n=1∨n=2∨n=3∨4≤n)with rfl|rfl|rfl|h4
 ·clear h1 h2 h3;revert hw;unfold decodeN;repeat' split
  all_goals intro hw
  all_goals first|with_reducible rfl|(exfalso;dsimp only at hw;omega)|(exfalso;omega)
 ·obtain rfl:=h1 (by omega);clear h1 h2 h3;revert hw;unfold decodeN;repeat' split
  all_goals intro hw
  all_goals first|with_reducible rfl|(exfalso;dsimp only at hw;omega)|(exfalso;omega)
 ·obtain rfl:=h1 (by omega);obtain rfl:=h2 (by omega);clear h1 h2 h3;revert hw;unfold decodeN;repeat' split
  all_goals intro hw
  all_goals first|with_reducible rfl|(exfalso;dsimp only at hw;omega)|(exfalso;omega)
 ·obtain rfl:=h1 (by omega);obtain rfl:=h2 (by omega);obtain rfl:=h3 (by omega);clear h1 h2 h3 hw;have e1:(1<n)=True:=eq_true (by omega);have e2:(2<n)=True:=eq_true (by omega);have e3:(3<n)=True:=eq_true (by omega);have f1:(1<n+m)=True:=eq_true (by omega);have f2:(2<n+m)=True:=eq_true (by omega);have f3:(3<n+m)=True:=eq_true (by omega);unfold decodeN;simp only[e1,e2,e3,f1,f2,f3]
def dec (l:List UInt8):Nat×Nat:=decodeN l.length (bt l 0) (bt l 1) (bt l 2) (bt l 3)
theorem aZ (l:List UInt8):1≤(dec l).2:=by
 unfold dec decodeN;repeat' split
 all_goals simp
theorem KN (l:List UInt8):(dec l).2≤4:=by
 unfold dec decodeN;repeat' split
 all_goals simp
theorem bV (l:List UInt8) (h:l≠[]):(dec l).2≤l.length:=by
 have h0:1≤l.length:=by cases l with|nil=>exact absurd rfl h|cons a b=>simp
 unfold dec decodeN;repeat' split
 all_goals (try dsimp only)
 all_goals omega
theorem abU (l t:List UInt8) (h:l≠[]) (hw:(dec (l++t)).2≤l.length):dec (l++t)=dec l:=by
 have h0:1≤l.length:=by cases l with|nil=>exact absurd rfl h|cons a b=>simp
 unfold dec at hw⊢;rw[nM (show 0<l.length by omega),bf]at hw⊢;exact(Qz l.length t.length _ (bt l 1) (bt l 2) (bt l 3) _ _ _ h0 (fun h=>nM h) (fun h=>nM h) (fun h=>nM h) hw).symm
def one (enc:Nat→List UInt8) (l:List UInt8):List UInt8:=if(dec l).1=65533∧(dec l).2=1 then l.take 1 else enc (dec l).1
def out (enc:Nat→List UInt8):Nat→List UInt8→List UInt8
 |0,_=>[]
 |n+1,l=>if l=[]then[]else one enc l++out enc n (l.drop (dec l).2)
theorem Nv (enc:Nat→List UInt8):∀(n m:Nat) (l:List UInt8),l.length≤n→l.length≤m→out enc n l=out enc m l
 |0,0,_,_,_=>rfl
 |0,m+1,l,h,_=>by
  obtain rfl:l=[]:=qN (by omega);show[]=if([]:List UInt8)=[]then[]else _
  rw[ak rfl]
 |n+1,0,l,_,h=>by
  obtain rfl:l=[]:=qN (by omega);show(if([]:List UInt8)=[]then[]else _)=[]
  rw[ak rfl]
 |n+1,m+1,l,h,k=>by
  show(if l=[]then[]else _)=(if l=[]then[]else _)
  by_cases c:l=[]
  ·rw[ak c,ak c]
  ·rw[aj c,aj c,Nv enc n m (l.drop (dec l).2) (by have:=aZ l;rw[dQ];omega) (by have:=aZ l;rw[dQ];omega)]
def wrt (enc:Nat→List UInt8) (l:List UInt8):List UInt8:=out enc l.length l
theorem Nw (enc:Nat→List UInt8) (l:List UInt8) (h:l≠[]):wrt enc l=one enc l++wrt enc (l.drop (dec l).2):=by
 unfold wrt;obtain⟨n,hn⟩:∃n,l.length=n+1:=⟨l.length-1,by cases l with|nil=>exact absurd rfl h|cons a b=>simp⟩
 rw[hn];show(if l=[]then[]else _)=_;rw[aj h,Nv enc n _ (l.drop (dec l).2) (by have:=aZ l;rw[dQ];omega) (ay _)]
theorem amL (l:List UInt8):Go.Lib.decodeL l=dec l:=Go.Lib.decodeL_N l
end Folds
end
section
namespace Left
abbrev Pl:=Nat×Bool×List UInt8
def cut (rest sh:List UInt8):Option (List UInt8):=if rest.take sh.length=sh then some (rest.drop sh.length)else none
def look:List UInt8→List Pl→Option Nat
 |_,[]=>none
 |rest,p::r=>if rest=[]then(if p.2.1=true then some p.1 else none)else match cut rest p.2.2 with
  |none=>none
  |some nx=>if p.2.2=[]then none else look nx r
def every (want:List UInt8):List Pl→List (Nat×Nat)
 |[]=>[]
 |p::r=>if p.2.1=true then(match look want (p::r)with|some b=>(p.1,b)::every want r|none=>every want r)else every want r
def mJ:Nat→List (Nat×Nat)→List (Nat×Nat)
 |_,[]=>[]
 |e,m::l=>if e≤m.1 then m::mJ m.2 l else mJ e l
def m0:Nat×Nat:=(0,0)
end Left
end
section
section
variable {P:Program} {ops:Array Oper} {Q:Exit→Act→World→Prop} {md:Region.Mode} {S:World→Prop} {k:Nat}
def qP (P:Program) (md:Region.Mode) (ops:Array Oper) (Q:Exit→Act→World→Prop) (S:World→Prop) (k:Nat):Nat→Array Bool→Act→World→Prop
 |0,listed,a,w=>Region.ready md ops listed=[]∧Q .normal a w
 |fuel+1,listed,a,w=>
  (Region.ready md ops listed=[]→Q .normal a w)∧
  ∀i∈Region.ready md ops listed,wpOp P ops Q i (fun a' w'=>(i=k∨S w')∧qP P md ops Q S k fuel (listed.setIfInBounds i true) a' w') a w
theorem Gs:∀(fuel:Nat) (listed:Array Bool) (a:Act) (w:World),qP P md ops Q S k fuel listed a w→wpAny P md ops Q fuel listed a w
 |0,_,_,_,h=>h
 |fuel+1,_,_,_,h=>⟨h.1,fun i hi=>wpOp_mono (fun a' w' h'=>Gs fuel _ a' w' h'.2) (h.2 i hi)⟩
theorem KW {i:Nat} {oi:Oper} {v:Value} (hi:ops[i]? =some oi) (hk:∀ok,ops[k]? =some ok→∃e∈ok.after,Region.binds md e=true∧e.on=i)
 (hsel:∀(j:Nat) (o:Oper) cs b,ops[j]? =some o→o.op≠.select cs b) (hQ:∀c a w,Q (.panic c) (a.put oi.dst v) w→Q (.panic c) a w):
 ∀(fuel:Nat) (listed:Array Bool) (a:Act) (w:World),
  (∀j oj,ops[j]? =some oj→j≠i→listed.getD j true=false→(∀e∈oj.after,Region.binds md e=true→e.on≠i)→oi.apart ops oj=true)→
  i∈Region.ready md ops listed→YieldsIf P ops S oi v a→S w→
  qP P md ops Q S k fuel (listed.setIfInBounds i true) (a.put oi.dst v) w→qP P md ops Q S k (fuel+1) listed a w:=by
 intro fuel;induction fuel with
 |zero=>
  intro listed a w _ hr hy hS H;refine⟨fun h=>(by rw[h]at hr;cases hr),fun j hj=> ?_⟩;by_cases hji:j=i;·subst hji;exact hy.wpOp hi hS ⟨.inr hS,H⟩
  ·have:=ready_mono hj hji;rw[H.1]at this;cases this
 |succ fuel ih=>
  intro listed a w hfree hr hy hS H;refine⟨fun h=>(by rw[h]at hr;cases hr),fun j hj=> ?_⟩;by_cases hji:j=i;·subst hji;exact hy.wpOp hi hS ⟨.inr hS,H⟩
  ·have h1:=H.2 j (ready_mono hj hji);obtain⟨hjun,oj,hoj,hall⟩:=mem_ready.1 hj;have hnot:∀e∈oj.after,Region.binds md e=true→e.on≠i:=fun e he hb heq=>by
    have h1:=hall e he hb;have h0:=(mem_ready.1 hr).1;rw[heq]at h1;rcases aK i listed.size with h'|h';·simp[h']at h0 h1;rw[h0]at h1;cases h1
    ·simp[Array.getElem?_eq_none h']at h1
   have hjk:j≠k:=fun c=>by subst c;obtain⟨e,he,hb,hon⟩:=hk oj hoj;exact hnot e he hb hon
   have h2:=wpOp_putIf hoj (hfree j oj hoj hji hjun hnot) (fun cs b=>hsel i oi cs b hi) (fun cs b=>hsel j oj cs b hoj) hQ hy h1;have hfree':∀k ok,ops[k]? =some ok→k≠i→(listed.setIfInBounds j true).getD k true=false→
    (∀e∈ok.after,Region.binds md e=true→e.on≠i)→oi.apart ops ok=true:=fun k ok hk hki hun hno=>by
    refine hfree k ok hk hki ?_ hno;by_cases hjk:j=k;·subst hjk;exact hjun
    ·rw[getD_set_ne true hjk]at hun;exact hun
   refine wpOp_mono (fun a' w' h3=> ?_) h2;have hS':=h3.2.1.resolve_left hjk;refine⟨.inr hS',ih (listed.setIfInBounds j true) a' w' hfree' (ready_mono hr (Ne.symm hji)) h3.1 hS' ?_⟩;rw[Array.setIfInBounds_comm _ _ hji];exact h3.2.2
def waitsFor (md:Region.Mode) (ops:Array Oper) (k i:Nat):Bool:=match ops[k]? with
 |some ok=>ok.after.any fun e=>Region.binds md e&&e.on==i
 |none=>true
theorem waitsFor_spec {i:Nat} (h:waitsFor md ops k i=true):∀ok,ops[k]? =some ok→∃e∈ok.after,Region.binds md e=true∧e.on=i:=fun ok hk=>by unfold waitsFor at h;rw[hk]at h;obtain⟨e,he,hb⟩:=Array.any_eq_true'.1 h;rw[aP,bL]at hb;exact⟨e,he,hb.1,hb.2⟩
theorem aJ {i:Nat} {oi:Oper} {v:Value} {fuel:Nat} {listed:Array Bool} {a:Act} {w:World} (hi:ops[i]? =some oi)
 (hs:Region.noSelect ops=true) (hf:Region.free md ops listed i=true) (hr:(Region.ready md ops listed).contains i=true) (hk:waitsFor md ops k i=true)
 (hQ:∀c a w,Q (.panic c) (a.put oi.dst v) w→Q (.panic c) a w) (hS:S w) (hy:YieldsIf P ops S oi v a)
 (h:qP P md ops Q S k fuel (listed.setIfInBounds i true) (a.put oi.dst v) w):qP P md ops Q S k (fuel+1) listed a w:=
 KW hi (waitsFor_spec hk) (Region.noSelect_spec hs) hQ fuel listed a w (Region.free_spec hi hf) (by simpa using hr) hy hS h
theorem pK {i:Nat} {o:Oper} {fuel:Nat} {listed:Array Bool} {a:Act} {w:World} (hr:Region.ready md ops listed=[i]) (ho:ops[i]? =some o)
 (h:∀K':Act→World→Prop,Shut (∀a w,(i=k∨S w)→qP P md ops Q S k fuel (listed.setIfInBounds i true) a w→K' a w)→if Region.wanted o (yielded ops a.tmps)=true then Oper.wp P o a w K' Q else K' (a.put o.dst undef) w):
 qP P md ops Q S k (fuel+1) listed a w:=
 ⟨fun h0=>(by rw[hr]at h0;cases h0),fun j hj=>by
  rw[hr,fE]at hj;subst hj;exact wpOp_step ho (fun K' hK=>h K' (fun a w hS hW=>hK a w (And.intro hS hW)))⟩
theorem Ny {listed:Array Bool} {a:Act} {w:World} (hr:Region.ready md ops listed=[]) (h:Q .normal a w):
 ∀fuel,qP P md ops Q S k fuel listed a w
 |0=>⟨hr,h⟩
 |_+1=>⟨fun _=>h,by rw[hr];simp⟩
theorem Nz {id:Nat} {a:Act} {w:World} (S:World→Prop) (k:Nat) (hm:P.follows .mixedOrders=true)
 (h:qP P .any ops Q S k ops.size (Array.replicate ops.size false) a w.drew):(Code.region id ops true).wp P Q a w:=
 wp_region_any hm (Gs _ _ _ _ h)
end
end
section
namespace KX
inductive PT where
 |node (op:Nat) (cls:List Nat) (kids:List PT)
def bit (M:List Nat) (i k:Nat):Bool:=(M.getD i 0).testBit k
def jg (n:Nat):List Nat:=List.replicate n 0
def kF (n:Nat):List Nat:=(List.range n).map fun i=>1<<<i
def iO (a b:List Nat):List Nat:=(List.range a.length).map fun i=>a.getD i 0|||b.getD i 0
def nO (x:Nat) (b:List Nat):Nat→Nat
 |0=>0
 |k+1=>if x.testBit k then nO x b k|||b.getD k 0 else nO x b k
def iX (a b:List Nat):List Nat:=(List.range a.length).map fun i=>nO (a.getD i 0) b a.length
def jL (M:List Nat) (k:Nat):Nat→List Nat
 |0=>M
 |m+1=>let N:=jL M k m;if bit N m k then N.set m (N.getD m 0|||N.getD k 0)else N
def lN (M:List Nat) (n:Nat):Nat→List Nat
 |0=>M
 |k+1=>jL (lN M n k) k n
def pQ (a:List Nat):List Nat:=lN (iO a (kF a.length)) a.length a.length
def Cw (cls:List Nat) (c:List Int):Nat→Bool:=fun i=>decide (i<c.length)&&cls.any (fun(x:Nat)=>decide ((x:Int)=c.getD i 0))
def KY (cls:List Nat) (c:List Int):List Nat:=(List.range (c.length+1)).map fun i=>if Cw cls c i then 1<<<(i+1)else 0
mutual
def rows:PT→List Int→List Nat
 | .node op cls kids,c=>
   if op=1 then KY cls c else if op=2 then uH kids c (kF (c.length+1))else if op=3 then U8 kids c (jg (c.length+1))
   else if op=4 then pQ (firstR kids c)else if op=5 then iX (firstR kids c) (pQ (firstR kids c))else if op=6 then iO (kF (c.length+1)) (firstR kids c)else kF (c.length+1)
def uH:List PT→List Int→List Nat→List Nat
 |[],_,acc=>acc
 |p::r,c,acc=>uH r c (iX acc (rows p c))
def U8:List PT→List Int→List Nat→List Nat
 |[],_,acc=>acc
 |p::r,c,acc=>U8 r c (iO acc (rows p c))
def firstR:List PT→List Int→List Nat
 |[],c=>jg (c.length+1)
 |p::_,c=>rows p c
end
def nk (n:Nat) (M:List Nat):Prop:=M.length=n∧∀i k,bit M i k=true→i<n∧k<n
theorem EH {n:Nat} {f:Nat→Nat} {i k:Nat}:bit ((List.range n).map f) i k=(decide (i<n)&&(f i).testBit k):=by
 unfold bit;rw[aM,fF];by_cases h:i<n;·rw[List.getElem?_range h];simp[h]
 ·rw[List.getElem?_eq_none (by simpa using Nat.le_of_not_lt h)];simp[h]
theorem NA (n i k:Nat):bit (jg n) i k=false:=by unfold bit jg;rw[aM,List.getElem?_replicate];split<;>simp
theorem Cy (n:Nat):nk n (jg n):=⟨Ar,fun i k h=>by rw[NA]at h;cases h⟩
theorem SE (i k:Nat):(1<<<i).testBit k=decide (i=k):=by rw[Nat.one_shiftLeft,Nat.testBit_two_pow]
theorem xO (n i k:Nat):bit (kF n) i k=true↔i<n∧i=k:=by unfold kF;rw[EH,SE];simp
theorem rX (n:Nat):nk n (kF n):=⟨by simp[kF],fun i k h=>by rw[xO]at h;omega⟩
theorem Gt {n:Nat} {a b:List Nat} (ha:nk n a) (hb:nk n b) (i k:Nat):bit (iO a b) i k=true↔bit a i k=true∨bit b i k=true:=by
 unfold iO;rw[EH,Nat.testBit_or];simp only[aP,iB,cu];refine⟨fun h=>h.2,fun h=>⟨?_,h⟩⟩;rw[ha.1];rcases h with h|h;·exact(ha.2 i k h).1
 ·exact(hb.2 i k h).1
theorem xP {n:Nat} {a b:List Nat} (ha:nk n a) (hb:nk n b):nk n (iO a b):=
 ⟨by simp[iO,ha.1],fun i k h=>by rcases(Gt ha hb i k).1 h with h|h;exact ha.2 i k h;exact hb.2 i k h⟩
theorem Jj (x:Nat) (b:List Nat) (k:Nat):∀m,(nO x b m).testBit k=true↔∃j,j<m∧x.testBit j=true∧bit b j k=true
 |0=>by simp[nO]
 |m+1=>by
  have ih:=Jj x b k m;unfold nO;by_cases c:x.testBit m=true
  ·rw[ak c,Nat.testBit_or,cu,ih];refine⟨fun h=> ?_,fun⟨j,h1,h2,h3⟩=> ?_⟩
   ·rcases h with⟨j,h1,h2,h3⟩|h
    ·exact⟨j,by omega,h2,h3⟩
    ·exact⟨m,by omega,c,h⟩
   ·rcases aK j m with d|d
    ·exact .inl ⟨j,d,h2,h3⟩
    ·obtain rfl:j=m:=by omega
     exact .inr h3
  ·rw[aj c,ih];refine⟨fun⟨j,h1,h2,h3⟩=>⟨j,by omega,h2,h3⟩,fun⟨j,h1,h2,h3⟩=> ?_⟩;rcases aK j m with d|d
   ·exact⟨j,d,h2,h3⟩
   ·obtain rfl:j=m:=by omega
    exact absurd h2 c
theorem yZ {n:Nat} {a b:List Nat} (ha:nk n a) (i k:Nat):bit (iX a b) i k=true↔∃j,bit a i j=true∧bit b j k=true:=by unfold iX;rw[EH];simp only[aP,iB,Jj,ha.1];refine⟨fun⟨_,j,_,h2,h3⟩=>⟨j,h2,h3⟩,fun⟨j,h2,h3⟩=> ?_⟩;have:=ha.2 i j h2;exact⟨this.1,j,this.2,h2,h3⟩
theorem vO {n:Nat} {a b:List Nat} (ha:nk n a) (hb:nk n b):nk n (iX a b):=
 ⟨by simp[iX,ha.1],fun i k h=>by obtain⟨j,h1,h2⟩:=(yZ ha i k).1 h;exact⟨(ha.2 i j h1).1,(hb.2 j k h2).2⟩⟩
theorem abV {M:List Nat} {m x i k:Nat} (hm:m<M.length):bit (M.set m x) i k=if i=m then x.testBit k else bit M i k:=by
 unfold bit;rw[aM,List.getElem?_set];by_cases h:m=i;·subst h;simp[hm]
 ·rw[aj h,aj (fun e=>h e.symm),aM]
theorem Jk {n:Nat} {M:List Nat} (k:Nat) (hM:nk n M):∀m,m≤n→(jL M k m).length=n∧∀i j,bit (jL M k m) i j=true↔bit M i j=true∨(i<m∧bit M i k=true∧bit M k j=true)
 |0,_=>⟨hM.1,fun i j=>⟨.inl,fun h=>by rcases h with h|h;exact h;exact absurd h.1 (iN _)⟩⟩
 |m+1,hm=>by
  obtain⟨l,ih⟩:=Jk k hM m (by omega);have hk:∀j,bit (jL M k m) k j=true↔bit M k j=true:=fun j=>by rw[ih];exact⟨fun h=>by rcases h with h|h;exact h;exact h.2.2, .inl⟩
  have hc:bit (jL M k m) m k=true↔bit M m k=true:=by rw[ih];exact⟨fun h=>by rcases h with h|h;exact h;exact absurd h.1 (dA _), .inl⟩
  unfold jL;by_cases c:bit (jL M k m) m k=true
  ·rw[ak c];refine⟨by rw[List.length_set];exact l,fun i j=> ?_⟩;rw[abV (by omega)];by_cases e:i=m
   ·subst e;rw[ak rfl,Nat.testBit_or,cu];show bit (jL M k i) i j=true∨bit (jL M k i) k j=true↔_;rw[hk,ih];refine⟨fun h=> ?_,fun h=> ?_⟩
    ·rcases h with(h|h)|h
     ·exact .inl h
     ·exact absurd h.1 (dA _)
     ·exact .inr ⟨kD _,hc.1 c,h⟩
    ·rcases h with h|h
     ·exact .inl (.inl h)
     ·exact .inr h.2.2
   ·rw[aj e,ih];refine⟨fun h=> ?_,fun h=> ?_⟩
    ·rcases h with h|h
     ·exact .inl h
     ·exact .inr ⟨by omega,h.2⟩
    ·rcases h with h|h
     ·exact .inl h
     ·exact .inr ⟨by omega,h.2⟩
  ·rw[aj c];refine⟨l,fun i j=> ?_⟩;rw[ih];refine⟨fun h=> ?_,fun h=> ?_⟩
   ·rcases h with h|h
    ·exact .inl h
    ·exact .inr ⟨by omega,h.2⟩
   ·rcases h with h|h
    ·exact .inl h
    ·by_cases e:i=m
     ·subst e;exact absurd (hc.2 h.2.1) c
     ·exact .inr ⟨by omega,h.2⟩
inductive Star (r:Nat→Nat→Prop) (i:Nat):Nat→Prop
 |nil:Star r i i
 |snoc {j k:Nat}:Star r i j→r j k→Star r i k
theorem Star.trans {r:Nat→Nat→Prop} {i j k:Nat} (h:Star r i j):Star r j k→Star r i k:=fun g=>by
 induction g with
 |nil=>exact h
 |snoc _ s ih=>exact .snoc ih s
theorem Star.one {r:Nat→Nat→Prop} {i k:Nat} (h:r i k):Star r i k:= .snoc .nil h
theorem Cz {n:Nat} {a:List Nat} (ha:nk n a):∀K,K≤n→nk n (lN (iO a (kF n)) n K)∧
 (∀i k,bit (lN (iO a (kF n)) n K) i k=true→Star (fun x y=>bit a x y=true) i k)∧
 (∀i,i<n→bit (lN (iO a (kF n)) n K) i i=true)∧(∀i k,bit a i k=true→bit (lN (iO a (kF n)) n K) i k=true)∧
 (∀i m k,m<K→bit (lN (iO a (kF n)) n K) i m=true→bit (lN (iO a (kF n)) n K) m k=true→bit (lN (iO a (kF n)) n K) i k=true)
 |0,_=>by
  have hf:=xP ha (rX n);have hb:=fun i k=>Gt ha (rX n) i k;refine⟨hf,fun i k h=> ?_,fun i hi=> ?_,fun i k h=> ?_,fun i m k hm=>absurd hm (iN _)⟩
  ·rcases(hb i k).1 h with h|h
   ·exact .one h
   ·obtain⟨_,rfl⟩:=(xO n i k).1 h;exact .nil
  ·exact(hb i i).2 (.inr ((xO n i i).2 ⟨hi,rfl⟩))
  ·exact(hb i k).2 (.inl h)
 |K+1,hK=>by
  obtain⟨f,s,o,b,t⟩:=Cz ha K (by omega);obtain⟨l,hs⟩:=Jk K f n (ay n);have e:lN (iO a (kF n)) n (K+1)=jL (lN (iO a (kF n)) n K) K n:=rfl;rw[e];generalize lN (iO a (kF n)) n K=M at*
  have key:∀i k,bit (jL M K n) i k=true↔bit M i k=true∨(bit M i K=true∧bit M K k=true):=fun i k=>by
   rw[hs];refine⟨fun h=> ?_,fun h=> ?_⟩
   ·rcases h with h|h
    ·exact .inl h
    ·exact .inr h.2
   ·rcases h with h|h
    ·exact .inl h
    ·exact .inr ⟨(f.2 i K h.1).1,h⟩
  refine⟨⟨l,fun i k h=> ?_⟩,fun i k h=> ?_,fun i hi=>(key i i).2 (.inl (o i hi)),fun i k h=>(key i k).2 (.inl (b i k h)),fun i m k hm h1 h2=> ?_⟩
  ·rcases(key i k).1 h with h|h
   ·exact f.2 i k h
   ·exact⟨(f.2 i K h.1).1,(f.2 K k h.2).2⟩
  ·rcases(key i k).1 h with h|h
   ·exact s i k h
   ·exact(s i K h.1).trans (s K k h.2)
  ·rw[key]at h1 h2⊢;rcases aK m K with c|c
   ·rcases h1 with h1|h1
    ·rcases h2 with h2|h2
     ·exact .inl (t i m k c h1 h2)
     ·exact .inr ⟨t i m K c h1 h2.1,h2.2⟩
    ·rcases h2 with h2|h2
     ·exact .inr ⟨h1.1,t K m k c h1.2 h2⟩
     ·exact .inr ⟨h1.1,h2.2⟩
   ·obtain rfl:m=K:=by omega
    refine .inr ⟨?_,?_⟩
    ·rcases h1 with h1|h1
     ·exact h1
     ·exact h1.1
    ·rcases h2 with h2|h2
     ·exact h2
     ·exact h2.2
theorem Jl {n:Nat} {a:List Nat} (ha:nk n a):nk n (pQ a):=by unfold pQ;rw[ha.1];exact(Cz ha n (ay n)).1
theorem YQ {n:Nat} {a:List Nat} (ha:nk n a) {i:Nat} (hi:i<n) (k:Nat):bit (pQ a) i k=true↔Star (fun x y=>bit a x y=true) i k:=by
 unfold pQ;rw[ha.1];obtain⟨f,s,o,b,t⟩:=Cz ha n (ay n);refine⟨s i k,fun h=> ?_⟩;induction h with
 |nil=>exact o i hi
 |snoc _ g ih=>exact t i _ _ (f.2 _ _ ih).2 ih (b _ _ g)
theorem SG (cls:List Nat) (c:List Int) (i k:Nat):bit (KY cls c) i k=true↔i<c.length∧k=i+1∧∃x∈cls,(x:Int)=c.getD i 0:=by
 unfold KY;rw[EH];simp only[aP,iB];by_cases h:Cw cls c i=true
 ·rw[ak h,SE];unfold Cw at h;simp only[aP,iB,xB]at h;refine⟨fun g=>⟨h.1,?_,h.2⟩,fun g=>⟨by omega,?_⟩⟩
  ·have:=iV g.2;omega
  ·exact bB (by omega)
 ·rw[aj h];refine⟨fun g=>by simp at g,fun g=>absurd ?_ h⟩;unfold Cw;simp only[aP,iB,xB];exact⟨g.1,g.2.2⟩
theorem YR (cls:List Nat) (c:List Int):nk (c.length+1) (KY cls c):=⟨by simp[KY],fun i k h=>by obtain⟨h1,h2,_⟩:=(SG cls c i k).1 h;omega⟩
mutual
theorem kL:∀(p:PT) (c:List Int),nk (c.length+1) (rows p c)
 | .node op cls kids,c=>by
   have f:=first_fine kids c;unfold rows;repeat' split
   ·exact YR cls c
   ·exact Jm kids c (rX _)
   ·exact SH kids c (Cy _)
   ·exact Jl f
   ·exact vO f (Jl f)
   ·exact xP (rX _) f
   ·exact rX _
theorem Jm:∀(l:List PT) (c:List Int) {acc:List Nat},nk (c.length+1) acc→nk (c.length+1) (uH l c acc)
 |[],_,_,h=>h
 |p::r,c,_,h=>Jm r c (vO h (kL p c))
theorem SH:∀(l:List PT) (c:List Int) {acc:List Nat},nk (c.length+1) acc→nk (c.length+1) (U8 l c acc)
 |[],_,_,h=>h
 |p::r,c,_,h=>SH r c (xP h (kL p c))
theorem first_fine:∀(l:List PT) (c:List Int),nk (c.length+1) (firstR l c)
 |[],_=>Cy _
 |p::_,c=>kL p c
end
def aS (p:PT) (c:List Int) (i k:Nat):Prop:=bit (rows p c) i k=true
def jS:List PT→List Int→Nat→Nat→Prop
 |[],_,i,k=>i=k
 |p::r,c,i,k=>∃j,aS p c i j∧jS r c j k
theorem Jo (cls:List Nat) (kids:List PT) (c:List Int) (i k:Nat):aS (.node 1 cls kids) c i k↔i<c.length∧k=i+1∧∃x∈cls,(x:Int)=c.getD i 0:=by unfold aS rows;rw[ak rfl];exact SG cls c i k
theorem Gu:∀(l:List PT) (c:List Int) {acc:List Nat} (i k:Nat),nk (c.length+1) acc→(bit (uH l c acc) i k=true↔∃j,bit acc i j=true∧jS l c j k)
 |[],c,acc,i,k,_=>⟨fun h=>⟨k,h,rfl⟩,fun⟨j,h,e⟩=>by cases e;exact h⟩
 |p::r,c,acc,i,k,h=>by have ih:=Gu r c i k (vO h (kL p c));show bit (uH r c (iX acc (rows p c))) i k=true↔_;rw[ih];refine⟨fun⟨j,h1,h2⟩=> ?_,fun⟨j,h1,m,h2,h3⟩=>⟨m,(yZ h i m).2 ⟨j,h1,h2⟩,h3⟩⟩;obtain⟨m,h3,h4⟩:=(yZ h i j).1 h1;exact⟨m,h3,j,h4,h2⟩
theorem bE (cls:List Nat) (kids:List PT) (c:List Int) (i k:Nat):aS (.node 2 cls kids) c i k↔i≤c.length∧jS kids c i k:=by unfold aS rows;rw[aj (by decide),ak rfl,Gu kids c i k (rX _)];refine⟨fun⟨j,h1,h2⟩=> ?_,fun⟨h1,h2⟩=>⟨i,(xO _ _ _).2 ⟨by omega,rfl⟩,h2⟩⟩;obtain⟨h3,rfl⟩:=(xO _ _ _).1 h1;exact⟨by omega,h2⟩
theorem NC:∀(l:List PT) (c:List Int) {acc:List Nat} (i k:Nat),nk (c.length+1) acc→(bit (U8 l c acc) i k=true↔bit acc i k=true∨∃p∈l,aS p c i k)
 |[],c,acc,i,k,_=>⟨.inl,fun h=>by rcases h with h|⟨_,h,_⟩;exact h;cases h⟩
 |p::r,c,acc,i,k,h=>by
  have ih:=NC r c i k (xP h (kL p c));show bit (U8 r c (iO acc (rows p c))) i k=true↔_;rw[ih,Gt h (kL p c)];refine⟨fun g=> ?_,fun g=> ?_⟩
  ·rcases g with(g|g)|⟨q,g1,g2⟩
   ·exact .inl g
   ·exact .inr ⟨p,tC,g⟩
   ·exact .inr ⟨q,zX _ g1,g2⟩
  ·rcases g with g|⟨q,g1,g2⟩
   ·exact .inl (.inl g)
   ·rcases aU.1 g1 with rfl|g1
    ·exact .inl (.inr g2)
    ·exact .inr ⟨q,g1,g2⟩
theorem vP (cls:List Nat) (kids:List PT) (c:List Int) (i k:Nat):aS (.node 3 cls kids) c i k↔∃p∈kids,aS p c i k:=by
 have e:rows (.node 3 cls kids) c=U8 kids c (jg (c.length+1)):=by unfold rows;rfl
 show bit (rows (.node 3 cls kids) c) i k=true↔_;rw[e,NC kids c i k (Cy _),NA];exact⟨fun h=>by rcases h with h|h;cases h;exact h, .inr⟩
theorem mK (cls:List Nat) (p:PT) (c:List Int) (i k:Nat) (hi:i≤c.length):aS (.node 4 cls [p]) c i k↔Star (aS p c) i k:=by
 have e:rows (.node 4 cls [p]) c=pQ (firstR [p] c):=by rw[rows];rfl
 have e2:firstR [p] c=rows p c:=by rw[firstR]
 show bit (rows (.node 4 cls [p]) c) i k=true↔_;rw[e,e2];exact YQ (kL p c) (i:=i) (by omega) k
theorem vQ (cls:List Nat) (kids:List PT) (c:List Int) (i k:Nat):aS (.node 0 cls kids) c i k↔i≤c.length∧i=k:=by unfold aS rows;rw[aj (by decide),aj (by decide),aj (by decide),aj (by decide),aj (by decide),aj (by decide),xO];exact⟨fun h=>⟨by omega,h.2⟩,fun h=>⟨by omega,h.2⟩⟩
theorem Gv {p:PT} {c:List Int} {i k:Nat} (h:aS p c i k):i≤c.length∧k≤c.length:=by have:=(kL p c).2 i k h;omega
end KX
end
section
namespace KX
mutual
def QA:PT→Bool
 | .node op _ kids=>if op=1 then false else if op=2 then Gw kids else if op=3 then KZ kids else true
def Gw:List PT→Bool
 |[]=>true
 |p::r=>QA p&&Gw r
def KZ:List PT→Bool
 |[]=>false
 |p::r=>QA p||KZ r
end
mutual
def ND:PT→List Nat
 | .node op cls kids=>if op=1 then cls else if op=2 then EI kids else AQ kids
def EI:List PT→List Nat
 |[]=>[]
 |p::r=>(if Gw r=true then ND p else[])++EI r
def AQ:List PT→List Nat
 |[]=>[]
 |p::r=>ND p++AQ r
end
mutual
def firstP:PT→List Nat
 | .node op cls kids=>if op=1 then cls else if op=2 then firstAll kids else firstAny kids
def firstAll:List PT→List Nat
 |[]=>[]
 |p::r=>firstP p++if QA p=true then firstAll r else[]
def firstAny:List PT→List Nat
 |[]=>[]
 |p::r=>firstP p++firstAny r
end
mutual
def YS:PT→Bool
 | .node op _ kids=>decide (op≤4)&&(!decide (op=4)||decide (kids.length=1))&&y9 kids
def y9:List PT→Bool
 |[]=>true
 |p::r=>YS p&&y9 r
end
def Edge (d:List Int) (nul:Bool) (L F:List Nat) (i k:Nat):Prop:=i≤k∧(i=k→nul=true)∧(i<k→(∃x∈L,(x:Int)=d.getD (k-1) 0)∧∃x∈F,(x:Int)=d.getD i 0)
theorem Edge.star {d:List Int} {nul:Bool} {L F:List Nat} {r:Nat→Nat→Prop} (h:∀i k,r i k→Edge d nul L F i k) {i k:Nat} (s:Star r i k):Edge d true L F i k:=by
 induction s with
 |nil=>exact⟨ay _,fun _=>rfl,fun c=>absurd c (dA _)⟩
 | @snoc j k _ g ih=>
   obtain⟨h1,h2,h3⟩:=h _ _ g;refine⟨aQ ih.1 h1,fun _=>rfl,fun c=> ?_⟩;have e1:=ih.1;rcases aK i j with c1|c1
   ·rcases aK j k with c2|c2
    ·exact⟨(h3 c2).1,(ih.2.2 c1).2⟩
    ·obtain rfl:j=k:=by omega
     exact ih.2.2 c
   ·obtain rfl:i=j:=by omega
    exact h3 c
mutual
theorem NG:∀(p:PT),YS p=true→∀(d:List Int) (i k:Nat),aS p d i k→Edge d (QA p) (ND p) (firstP p) i k
 | .node op cls kids,hp,d,i,k,h=>by
   rw[YS,aP,aP]at hp;obtain⟨⟨h4,h5⟩,h6⟩:=hp;have h4:=iV h4;rw[QA,ND,firstP];match op,h4 with
   |0,_=>obtain⟨_,rfl⟩:=(vQ _ _ _ _ _).1 h;exact⟨ay _,fun _=>rfl,fun c=>absurd c (dA _)⟩
   |1,_=>obtain⟨h1,rfl,h2⟩:=(Jo _ _ _ _ _).1 h;exact⟨mR _,fun c=>absurd c (by omega),fun _=>⟨h2,h2⟩⟩
   |2,_=>exact SI kids h6 d i k ((bE _ _ _ _ _).1 h).2
   |3,_=>exact SK kids h6 d i k ((vP _ _ _ _ _).1 h)
   |4,_=>
    match kids,h5,h6,h with
    |[p],_,h6,h=>rw[y9,aP]at h6;have h:=(mK _ _ _ _ _ (Gv h).1).1 h;have:=Edge.star (fun i k g=>NG p h6.1 d i k g) h;simpa[AQ,firstAny]using this
theorem SI:∀(l:List PT),y9 l=true→∀(d:List Int) (i k:Nat),jS l d i k→Edge d (Gw l) (EI l) (firstAll l) i k
 |[],_,d,i,k,h=>⟨Nat.le_of_eq h,fun _=>rfl,fun c=>absurd (show i=k from h) (by omega)⟩
 |p::r,hp,d,i,k,h=>by
  rw[y9,aP]at hp;obtain⟨j,g1,g2⟩:=h;obtain⟨a1,a2,a3⟩:=NG p hp.1 d i j g1;obtain⟨b1,b2,b3⟩:=SI r hp.2 d j k g2;rw[Gw,EI,firstAll];refine⟨aQ a1 b1,fun c=> ?_,fun c=>⟨?_,?_⟩⟩;·rw[a2 (by omega),b2 (by omega)];rfl
  ·rcases aK j k with c1|c1
   ·obtain⟨x,hx,e⟩:=(b3 c1).1;exact⟨x,iM _ hx,e⟩
   ·obtain rfl:j=k:=by omega
    obtain⟨x,hx,e⟩:=(a3 c).1;rw[b2 rfl,ak rfl];exact⟨x,iq _ hx,e⟩
  ·rcases aK i j with c1|c1
   ·obtain⟨x,hx,e⟩:=(a3 c1).2;exact⟨x,iq _ hx,e⟩
   ·obtain rfl:i=j:=by omega
    obtain⟨x,hx,e⟩:=(b3 c).2;rw[a2 rfl,ak rfl];exact⟨x,iM _ hx,e⟩
theorem SK:∀(l:List PT),y9 l=true→∀(d:List Int) (i k:Nat),(∃p∈l,aS p d i k)→Edge d (KZ l) (AQ l) (firstAny l) i k
 |[],_,d,i,k,h=>by obtain⟨_,h,_⟩:=h;cases h
 |p::r,hp,d,i,k,h=>by
  rw[y9,aP]at hp;obtain⟨q,hq,h⟩:=h;rw[KZ,AQ,firstAny];rcases aU.1 hq with e|hq;·rw[e]at h;obtain⟨a1,a2,a3⟩:=NG p hp.1 d i k h;exact⟨a1,fun c=>by rw[a2 c];rfl,fun c=>⟨(a3 c).1.imp fun x h=>⟨iq _ h.1,h.2⟩,(a3 c).2.imp fun x h=>⟨iq _ h.1,h.2⟩⟩⟩
  ·obtain⟨a1,a2,a3⟩:=SK r hp.2 d i k ⟨q,hq,h⟩;exact⟨a1,fun c=>by rw[a2 c,Bool.or_true],fun c=>⟨(a3 c).1.imp fun x h=>⟨iM _ h.1,h.2⟩,(a3 c).2.imp fun x h=>⟨iM _ h.1,h.2⟩⟩⟩
end
end KX
end
section
namespace EvL
open Go.Proofs.YtocaiijbhepnnaaGreatDoor.searchEach.Left
def inner (want:List UInt8) (part:Nat→Nat→List UInt8) (a:Nat):List Nat→List (Nat×Nat)
 |[]=>[]
 |b::r=>if want.length<(part a b).length then(if part a b=want then[(a,b)]else[])else(if part a b=want then[(a,b)]else[])++inner want part a r
def outer (want:List UInt8) (part:Nat→Nat→List UInt8):List Nat→List (Nat×Nat)
 |[]=>[]
 |a::r=>inner want part a r++outer want part r
def scan (want:List UInt8) (a:Nat) (acc:List UInt8):List Pl→List (Nat×Nat)
 |[]=>[]
 |q::r=>if q.2.1=true then(if want.length<acc.length then(if acc=want then[(a,q.1)]else[])else(if acc=want then[(a,q.1)]else[])++scan want a (acc++q.2.2) r)else scan want a (acc++q.2.2) r
def places (l:List Pl):List Nat:=(l.filter fun q=>q.2.1).map fun q=>q.1
def Parts (part:Nat→Nat→List UInt8) (a:Nat) (acc:List UInt8):List Pl→Prop
 |[]=>True
 |q::r=>part a q.1=acc∧Parts part a (acc++q.2.2) r
theorem za {q:Pl} {r:List Pl} (c:q.2.1=true):places (q::r)=q.1::places r:=by simp[places,c]
theorem CB {q:Pl} {r:List Pl} (c:¬q.2.1=true):places (q::r)=places r:=by simp[places,c]
theorem Gx (want:List UInt8) (part:Nat→Nat→List UInt8) (a:Nat):∀(l:List Pl) (acc:List UInt8),Parts part a acc l→inner want part a (places l)=scan want a acc l
 |[],_,_=>rfl
 |q::r,acc,h=>by
  have ih:=Gx want part a r (acc++q.2.2) h.2;unfold scan;by_cases c:q.2.1=true;·have e:=za (r:=r) c;rw[ak c,e,inner,h.1,ih]
  ·have e:=CB (r:=r) c;rw[aj c,e,ih]
theorem xQ (want:List UInt8) (a:Nat):∀(l:List Pl) (acc:List UInt8),(∀x,acc++x≠want)→scan want a acc l=[]
 |[],_,_=>rfl
 |q::r,acc,h=>by
  have ih:=xQ want a r (acc++q.2.2) (fun x=>by rw[dI];exact h _);have hn:acc≠want:=by have:=h [];rwa [eD]at this
  unfold scan;rw[aj hn,ih];split
  ·split
   ·rfl
   ·rfl
  ·rfl
def Shows:List Pl→Prop
 |[]=>True
 |q::r=>(r≠[]→q.2.2≠[])∧Shows r
theorem NH {rest sh nx:List UInt8} (h:cut rest sh=some nx):rest=sh++nx:=by
 unfold cut at h;split at h;·rename_i e;cases h;conv=>lhs;rw[←nE sh.length rest,e]
 ·cases h
theorem NI {rest sh:List UInt8} (h:cut rest sh=none) (x:List UInt8):rest≠sh++x:=by rintro rfl;unfold cut at h;rw[ak (by rw[List.take_left])]at h;cases h
theorem Jp (want:List UInt8) (a:Nat):∀(l:List Pl) (acc rest:List UInt8),Shows l→acc++rest=want→scan want a acc l=match Left.look rest l with|some b=>[(a,b)]|none=>[]
 |[],_,_,_,_=>rfl
 |q::r,acc,rest,hs,h=>by
  have hlen:¬want.length<acc.length:=by rw[←h,bf];omega
  unfold scan Left.look;rw[aj hlen];by_cases c:rest=[]
  ·subst c;rw[eD]at h;subst h;rw[ak rfl,ak rfl];have hz:scan acc a (acc++q.2.2) r=[]:=by
    cases r with
    |nil=>rfl
    |cons x r=>refine xQ _ _ _ _ fun y e=> ?_;have hq:=hs.1 (oq _ _);have:=eT List.length e;rw[bf,bf]at this;exact hq (List.length_eq_zero_iff.1 (by omega))
   rw[hz];split<;>rfl
  ·have hne:acc≠want:=fun e=>c (by
    have:=eT List.length h;rw[bf,e]at this;exact List.length_eq_zero_iff.1 (by omega))
   rw[aj hne,aj c,lC];have e2:∀x:List (Nat×Nat),(if q.2.1=true then x else x)=x:=fun x=>by split<;>rfl
   rw[e2];cases hc:cut rest q.2.2 with
   |none=>
    exact xQ _ _ _ _ fun x e=>NI hc x (by
     rw[←h,dI]at e;exact(List.append_cancel_left e).symm)
   |some nx=>
    have hr:=NH hc;dsimp only;by_cases z:q.2.2=[]
    ·rw[ak z];cases r with
     |nil=>rfl
     |cons x r=>exact absurd z (hs.1 (oq _ _))
    ·rw[aj z];exact Jp want a r (acc++q.2.2) nx hs.2 (by rw[dI,←hr,h])
def Gy (part:Nat→Nat→List UInt8):List Pl→Prop
 |[]=>True
 |p::r=>Parts part p.1 p.2.2 r∧Gy part r
theorem Dr (want:List UInt8) (part:Nat→Nat→List UInt8) (hw:want≠[]):∀l:List Pl,Shows l→Gy part l→outer want part (places l)=every want l
 |[],_,_=>rfl
 |p::r,hs,hp=>by
  have ih:=Dr want part hw r hs.2 hp.2;unfold every;by_cases c:p.2.1=true
  ·have e:=za (r:=r) c;rw[ak c,e,outer,ih,Gx want part p.1 r _ hp.1];unfold Left.look;rw[aj hw];cases hc:cut want p.2.2 with
   |none=>dsimp only;rw[xQ _ _ _ _ (fun x e=>NI hc x e.symm),lC]
   |some nx=>
    dsimp only;by_cases z:p.2.2=[]
    ·rw[ak z];cases r with
     |nil=>rfl
     |cons x r=>exact absurd z (hs.1 (oq _ _))
    ·rw[aj z,Jp want p.1 r p.2.2 nx hs.2 (NH hc).symm];cases Left.look nx r<;>rfl
  ·have e:=CB (r:=r) c;rw[aj c,e,ih]
end EvL
end
end Go.Proofs.YtocaiijbhepnnaaGreatDoor.searchEach
