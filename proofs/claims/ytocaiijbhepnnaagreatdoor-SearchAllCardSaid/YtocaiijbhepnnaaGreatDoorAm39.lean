/- The machine's soundness, for drawn regions: who waits for whom; what stands in a slot, and in a block, after some of the operations. -/
import Derived.Test.YtocaiijbhepnnaaGreatDoorAm35
import Derived.Orders
namespace Go.Proofs.YtocaiijbhepnnaaGreatDoor.Am
theorem vg:∀(l:List Nat) (i:Nat),iC l i=l.getD i 0
 |[],i=>by cases i<;>rfl
 |x::l,0=>rfl
 |x::l,i+1=>vg l i
theorem Mj (a b:List Nat) (i:Nat) (h:i<a.length):iC (a++b) i=iC a i:=by rw[vg,vg,aM,oJ h,aM]
theorem vw (ms:List Nat) (e:Nat) (es:List Nat):oW ms (e::es)=((2^e|||iC ms e)|||oW ms es):=rfl
theorem zU {ms ms':List Nat}:∀{es:List Nat},(∀e∈es,iC ms e=iC ms' e)→oW ms es=oW ms' es
 |[],_=>rfl
 |e::es,h=>by rw[vw,vw,h e (by simp),zU (fun x hx=>h x (by simp[hx]))]
theorem FJ {ms:List Nat} {k:Nat}:∀{es:List Nat},(oW ms es).testBit k=true→∃e∈es,k=e∨(iC ms e).testBit k=true
 |[],h=>by have:(0:Nat).testBit k=true:=h;simp at this
 |e::es,h=>by
  rw[vw,Nat.testBit_or,Nat.testBit_or,bZ,bZ]at h;rcases h with(h|h)|h;·refine⟨e,by simp, .inl ?_⟩;rw[Nat.testBit_two_pow]at h;exact(iT h).symm
  ·exact⟨e,by simp, .inr h⟩
  ·obtain⟨e',he,r⟩:=FJ h;exact⟨e',by simp[he],r⟩
theorem yH (ms:List Nat) (o:DO) (l:List DO):masks ms (o::l)=masks (ms++[oW ms o.es]) l:=by show sN (oW ms o.es) (fun m=>masks (List.append ms [m]) l)=_;rw[qg];rfl
theorem BQ:∀(l:List DO) (ms:List Nat) (i:Nat),i<ms.length→iC (masks ms l) i=iC ms i
 |[],_,_,_=>rfl
 |o::l,ms,i,h=>by rw[yH,BQ l _ i (by simp;omega),Mj _ _ _ h]
theorem Ml:∀(l:List DO) (ms:List Nat) (j:Nat) (o:DO),l[j]? =some o→(∀e∈o.es,e<ms.length+j)→iC (masks ms l) (ms.length+j)=oW (masks ms l) o.es
 |[],_,_,_,h,_=>by simp at h
 |x::l,ms,0,o,h,he=>by
  obtain rfl:x=o:=by simpa using h
  rw[yH,BQ l _ _ (by simp)];rw[vg,aM,cO,qK (ay _)];simp only[vX,List.getElem?_cons_zero,Option.getD_some];refine zU fun e hm=> ?_;have:=he e hm;rw[BQ l _ _ (by simp;omega),Mj _ _ _ (by omega)]
 |x::l,ms,j+1,o,h,he=>by rw[yH];have:=Ml l (ms++[oW ms x.es]) j o (by simpa using h) (fun e hm=>by have:=he e hm;simp;omega);rw[bg,List.length_singleton]at this;rw[show ms.length+(j+1)=ms.length+1+j by omega];exact this
theorem FK {i:Nat}:∀{es:List Nat},Iz i es=true→∀e∈es,e<i
 |[],_,e,h=>by cases h
 |x::es,h,e,hm=>by
  have e1:Iz i (x::es)=Bool.rec false (Iz i es) (Nat.ble (Nat.succ x) i):=rfl;rw[e1]at h;cases hb:Nat.ble (Nat.succ x) i;·rw[hb]at h;cases h
  ·rw[hb]at h;rw[aI]at hb;rcases aV.1 hm with rfl|hm
   ·exact hb
   ·exact FK h e hm
theorem CZ {o:DO} {pm:Nat}:∀{l:List DO} {i:Nat},oZ o pm l i=true→∀k x,l[k]? =some x→pm.testBit (i+k)=true∨vB x o=true
 |[],_,_,k,x,h=>by simp at h
 |y::l,i,h,k,x,hk=>by
  have e1:oZ o pm (y::l) i=Bool.rec false (oZ o pm l (i+1)) (Bool.rec (vB y o) true (Nat.testBit pm i)):=rfl;rw[e1]at h;have h2:(Bool.rec (vB y o) true (Nat.testBit pm i):Bool)=true∧oZ o pm l (i+1)=true:=by
   cases hb:(Bool.rec (vB y o) true (Nat.testBit pm i):Bool)
   ·rw[hb]at h;cases h
   ·rw[hb]at h;exact⟨rfl,h⟩
  cases k with
  |zero=>
   obtain rfl:y=x:=by simpa using hk
   rw[cO];cases ht:Nat.testBit pm i;·rw[ht]at h2;exact .inr h2.1
   ·exact .inl rfl
  |succ k=>have:=CZ h2.2 k x (by simpa using hk);rwa [show i+1+k=i+(k+1)by omega]at this
theorem Xr {ms:List Nat}:∀{l:List DO} {i:Nat} {ahead:List DO},okD ms l i ahead=true→∀j o,l[j]? =some o→
 o.ok=true∧Iz (i+j) o.es=true∧oZ o (iC ms (i+j)) (ahead++l.take j) 0=true
 |[],_,_,_,j,o,h=>by simp at h
 |x::l,i,ahead,h,j,o,hj=>by
  have e1:okD ms (x::l) i ahead=aA x.ok (aA (oZ x (iC ms i) ahead 0) (aA (Iz i x.es) (okD ms l (i+1) (ahead++[x])))):=rfl;rw[e1]at h;obtain⟨h1,h⟩:=au h;obtain⟨h2,h⟩:=au h;obtain⟨h3,h4⟩:=au h;cases j with
  |zero=>
   obtain rfl:x=o:=by simpa using hj
   rw[cO,List.take_zero,eF];exact⟨h1,h3,h2⟩
  |succ j=>have:=Xr h4 j o (by simpa using hj);rw[show i+1+j=i+(j+1)by omega,dJ]at this;exact this
theorem BU {a b:DO} (h:vB a b=true):(a.dn=0∨(a.dn∉b.rs∧a.dn≠b.dn))∧(b.dn=0∨b.dn∉a.rs):=by
 unfold vB at h;obtain⟨h1,h2⟩:=au h;constructor
 ·cases hz:Nat.beq a.dn (nat_lit 0)
  ·rw[hz]at h1;obtain⟨h3,h4⟩:=au h1;right;constructor
   ·intro c;rw[nU.2 c]at h3;cases h3
   ·intro c;rw[c,sG]at h4;cases h4
  ·exact .inl (aO hz)
 ·cases hz:Nat.beq b.dn (nat_lit 0)
  ·rw[hz]at h2;right;intro c;rw[nU.2 c]at h2;cases h2
  ·exact .inl (aO hz)
section
variable (e0:Nat→AV) (dn:Nat→Nat) (V:Nat→AV) (S S':Nat→Bool)
def yI:Nat→Nat→AV
 |0,t=>e0 t
 |i+1,t=>if S i=true∧dn i=t+1 then V i else yI i t
variable {e0 dn V S S'}
theorem yJ {i t:Nat} (h:∀k,k<i→dn k=t+1→S k=S' k):yI e0 dn V S i t=yI e0 dn V S' i t:=by
 induction i with
 |zero=>rfl
 |succ i ih=>
  simp only[yI];by_cases c:dn i=t+1;·rw[h i (by omega) c,ih (fun k hk=>h k (by omega))]
  ·rw[aj (fun x=>c x.2),aj (fun x=>c x.2),ih (fun k hk=>h k (by omega))]
theorem yK {i N t:Nat} (hN:i≤N) (h:∀j,i≤j→j<N→S j=true→dn j≠t+1):yI e0 dn V S N t=yI e0 dn V S i t:=by
 induction N with
 |zero=>have:i=0:=by omega
        subst this;rfl
 |succ N ih=>
  by_cases c:i=N+1;·subst c;rfl
  ·simp only[yI];rw[aj (fun x=>h N (by omega) (by omega) x.1 x.2)];exact ih (by omega) (fun j h1 h2=>h j h1 (by omega))
end
section
variable (Hh:Nat→H) (Tc:Nat→Nat→Prop) (S S':Nat→Bool)
open Classical in
noncomputable def l9:Nat→Nat→Option xU
 |0,b=>if b<(Hh 0).next then(Hh 0).get b else none
 |i+1,b=>if S i=true∧Tc i b then(Hh (i+1)).get b else l9 i b
variable {Hh Tc S S'}
theorem yL {i b:Nat} (h:∀k,k<i→Tc k b→S k=S' k):l9 Hh Tc S i b=l9 Hh Tc S' i b:=by
 induction i with
 |zero=>rfl
 |succ i ih=>
  simp only[l9];by_cases c:Tc i b;·rw[h i (by omega) c,ih (fun k hk=>h k (by omega))]
  ·rw[aj (fun x=>c x.2),aj (fun x=>c x.2),ih (fun k hk=>h k (by omega))]
theorem yM {i N b:Nat} (hN:i≤N) (h:∀j,i≤j→j<N→S j=true→¬Tc j b):l9 Hh Tc S N b=l9 Hh Tc S i b:=by
 induction N with
 |zero=>have:i=0:=by omega
        subst this;rfl
 |succ N ih=>
  by_cases c:i=N+1;·subst c;rfl
  ·simp only[l9];rw[aj (fun x=>h N (by omega) (by omega) x.1 x.2)];exact ih (by omega) (fun j h1 h2=>h j h1 (by omega))
end
def cnt (S:Nat→Bool):Nat→Nat
 |0=>0
 |i+1=>cnt S i+(if S i=true then 0 else 1)
def ins (S:Nat→Bool) (i:Nat):Nat→Bool:=fun j=>if j=i then true else S j
theorem o7 (S:Nat→Bool) (i:Nat):ins S i i=true:=by simp[ins]
theorem qP (S:Nat→Bool) {i j:Nat} (h:j≠i):ins S i j=S j:=by simp[ins,h]
theorem Xt {S:Nat→Bool} {i:Nat}:∀{N},N≤i→cnt (ins S i) N=cnt S N
 |0,_=>rfl
 |N+1,h=>by simp only[cnt];rw[Xt (by omega),qP S (by omega)]
theorem Ry {S:Nat→Bool} {i:Nat} (hi:S i=false):∀{N},i<N→cnt (ins S i) N+1=cnt S N
 |0,h=>by omega
 |N+1,h=>by
  simp only[cnt];by_cases c:i=N;·subst c;rw[Xt (ay _),o7,hi];simp
  ·rw[qP S (by omega)];have:=Ry hi (N:=N) (by omega);omega
theorem zV {S:Nat→Bool}:∀{N},cnt S N=0→∀j,j<N→S j=true
 |0,_,j,h=>by omega
 |N+1,h,j,hj=>by
  simp only[cnt]at h;by_cases c:j=N
  ·subst c;by_cases hs:S j=true
   ·exact hs
   ·rw[aj hs]at h;omega
  ·exact zV (N:=N) (by omega) j (by omega)
theorem Rz {S:Nat→Bool}:∀{N},cnt S N≠0→∃j,j<N∧S j=false∧∀k,k<j→S k=true
 |0,h=>absurd rfl h
 |N+1,h=>by
  by_cases c:cnt S N=0
  ·have hall:=zV c;simp only[cnt,c]at h;refine⟨N,by omega,?_,hall⟩;cases hs:S N
   ·rfl
   ·rw[hs]at h;simp at h
  ·obtain⟨j,h1,h2,h3⟩:=Rz (N:=N) c;exact⟨j,by omega,h2,h3⟩
noncomputable def uD (en:Env):List Nat→Env
 |[]=>Pq
 |t::l=>(pT t).f ((gT t).f en) (uD en l)
theorem rH {en:Env} {t:Nat} (ht:t<256):∀{l:List Nat},(∀x∈l,x<256)→(gT t).f (uD en l)=if t∈l then(gT t).f en else .bad
 |[],_=>by rw[aj (by simp)];exact Kg ht
 |x::l,h=>by
  have hx:=h x (by simp);have ih:=rH (en:=en) ht (l:=l) (fun y hy=>h y (by simp[hy]));simp only[uD];by_cases c:x=t;·subst c;rw[sW hx,ak (by simp)]
  ·rw[uY hx ht c,ih];by_cases d:t∈l
   ·rw[if_pos d,if_pos (by simp[d])]
   ·rw[if_neg d,if_neg (by simp[d];exact fun e=>c e.symm)]
def xV (ops:Array Oper) (i:Nat):Nat:=match ops[i]? with|some o=>uK o|none=>0
def wl (Hh:Nat→H) (i:Nat):List Nat:=(Hh (i+1)).log.take ((Hh (i+1)).ln-(Hh i).ln)
def C8 (Hh:Nat→H) (X:Nat→Bool) (i b:Nat):Prop:=X i=true∧b<(Hh (i+1)).next∧(b∈wl Hh i∨(Hh i).next≤b)
structure SF (h h':H) (W:List Nat):Prop where
 next:h.next≤h'.next
 log:h'.log=W++h.log
 ln:h'.ln=h.ln+W.length
 kept:∀b,b<h.next→b∉W→h'.get b=h.get b
 live:∀b,b∈W→b<h.next→∃x,h.get b=some x
theorem Ext.sf {ι ι':bn} {h h':H} {w w':World} {W:List Nat} (e:Ext ι h w ι' h' w' W):SF h h' W:=⟨e.next,e.log,e.ln,e.kept,e.live⟩
noncomputable def recAt (E:Nat→Env) (Hh:Nat→H) (i:Nat) (o:Oper):Rc:=qb o.op i (E i) (Hh i) (Hh (i+1))
structure Rg (g:G) (n:Nat) (cx:Cx) (df:List Df) (ops:Array Oper) (ms:List Nat) (E:Nat→Env) (Hh:Nat→H) (V:Nat→AV) (X:Nat→Bool):Prop where
 st:∀(j:Nat) (o:Oper),ops[j]? =some o→StepT g cx df ops.toList E Hh V X j o
 ok:∀(j:Nat) (o:Oper),ops[j]? =some o→iq n ops.toList o=true
 dr:∀(j:Nat) (o:Oper),ops[j]? =some o→tq (p8 g o.op)=true
 ind:∀(k j:Nat) (ok oj:Oper),k<j→ops[k]? =some ok→ops[j]? =some oj→X k=true→X j=true→(iC ms j).testBit k=false→Ind (recAt E Hh k ok) (recAt E Hh j oj)
 apart:∀(k j:Nat) (ok oj:Oper),k<j→ops[k]? =some ok→ops[j]? =some oj→(iC ms j).testBit k=false→vB (lq g ops.toList ok) (lq g ops.toList oj)=true
 es:∀(j:Nat) (o:Oper),ops[j]? =some o→∀e∈mM o,e<j
 msk:∀(j:Nat) (o:Oper) (k:Nat),ops[j]? =some o→(iC ms j).testBit k=true→∃e∈mM o,k=e∨(iC ms e).testBit k=true
 text:∀(i:Nat),i≤ops.size→∃(ι:bn) (t:Array Value) (w:World),iB ι n (E i) t∧WR ι (Hh i) w
 sf:∀(i:Nat),i<ops.size→X i=true→SF (Hh i) (Hh (i+1)) (wl Hh i)
section
variable {P:Program} {g:G} {n:Nat} {cx:Cx} {df:List Df} {ops:Array Oper} {ms:List Nat} {E:Nat→Env} {Hh:Nat→H} {V:Nat→AV} {X:Nat→Bool} {S:Nat→Bool}
theorem opAt {i:Nat} (h:i<ops.size):∃o,ops[i]? =some o:=⟨ops[i],ni h⟩
theorem BX {i:Nat} {o:Oper} (h:ops[i]? =some o):i<ops.size:=(fu.1 h).1
theorem Rg.ahn (R:Rg g n cx df ops ms E Hh V X) {i:Nat} (hi:i<ops.size):(Hh i).next≤(Hh (i+1)).next:=by
 cases hx:X i with
 |true=>exact(R.sf i hi hx).next
 |false=>obtain⟨o,ho⟩:=opAt hi;rw[((R.st i o ho).no hx).2.2];exact ay _
theorem Rg.mono (R:Rg g n cx df ops ms E Hh V X) {i:Nat}:∀{j:Nat},i≤j→j≤ops.size→(Hh i).next≤(Hh j).next
 |0,h,_=>by have:i=0:=by omega
            subst this;exact ay _
 |j+1,h,hj=>by
  by_cases c:i=j+1;·subst c;exact ay _
  ·exact aT (R.mono (j:=j) (by omega) (by omega)) (R.ahn (by omega))
theorem Xu {i:Nat} {o:Oper}:(recAt E Hh i o).lo=(Hh i).next:=by unfold recAt qb;split<;>rfl
theorem Xv {i:Nat} {o:Oper}:(recAt E Hh i o).hi=(Hh (i+1)).next:=by unfold recAt qb;split<;>rfl
theorem Rg.wrt (R:Rg g n cx df ops ms E Hh V X) {i:Nat} {o:Oper} (ho:ops[i]? =some o) (hx:X i=true) {b:Nat} (hb:b∈wl Hh i) (hl:b<(Hh i).next):b∈(recAt E Hh i o).wrt:=by
 have sf:=R.sf i (BX ho) hx;have:(recAt E Hh i o).wrt=below (Hh i).next (Nat.sub (Hh (i+1)).ln (Hh i).ln) (Hh (i+1)).log:=by unfold recAt qb;split<;>rfl
 rw[this,sf.ln,sf.log];have e:Nat.sub ((Hh i).ln+(wl Hh i).length) (Hh i).ln=(wl Hh i).length:=oK _ _;rw[e];exact Iy hb hl
def Acc (E:Nat→Env) (Hh:Nat→H) (i:Nat) (o:Oper) (b:Nat):Prop:=(recAt E Hh i o).call=true∨b∈(recAt E Hh i o).acc
theorem Kj {i:Nat} {o:Oper} {b:Nat} (h:b∈(recAt E Hh i o).wrt):Acc E Hh i o b:=by
 unfold Acc;unfold recAt qb at h⊢;split at h;·right;exact iK _ h
 ·left;rfl
theorem Rg.cur (R:Rg g n cx df ops ms E Hh V X) {b:Nat}:∀{i:Nat},i≤ops.size→b<(Hh i).next→l9 Hh (C8 Hh X) (fun _=>true) i b=(Hh i).get b
 |0,_,hb=>by simp only[l9];rw[ak hb]
 |i+1,hi,hb=>by
  simp only[l9];by_cases c:C8 Hh X i b;·rw[ak ⟨rfl,c⟩]
  ·rw[aj (fun x=>c x.2)];obtain⟨o,ho⟩:=opAt (show i<ops.size by omega);cases hx:X i with
   |false=>have e:=((R.st i o ho).no hx).2.2;rw[e]at hb⊢;exact R.cur (by omega) hb
   |true=>
    have sf:=R.sf i (by omega) hx;have h1:b∉wl Hh i:=fun d=>c ⟨hx,hb, .inl d⟩;have h2:b<(Hh i).next:=by
     rcases aK b (Hh i).next with d|d
     ·exact d
     ·exact absurd ⟨hx,hb, .inr d⟩ c
    rw[sf.kept b h2 h1];exact R.cur (by omega) h2
def Closed (N:Nat) (ms:List Nat) (S:Nat→Bool):Prop:=∀j k,j<N→S j=true→(iC ms j).testBit k=true→S k=true
theorem Eh {S:Nat→Bool} (hc:Closed ops.size ms S) {i j:Nat} (hi:S i=false) (hj:S j=true) (hjn:j<ops.size):(iC ms j).testBit i=false:=by
 cases hb:(iC ms j).testBit i;·rfl
 ·rw[hc j i hjn hj hb]at hi;cases hi
theorem Rg.seen (R:Rg g n cx df ops ms E Hh V X) (hc:Closed ops.size ms S) {i:Nat} {o:Oper} (ho:ops[i]? =some o) (hS:S i=false) (hr:∀k,(iC ms i).testBit k=true→S k=true) (hx:X i=true)
 {b:Nat} (hb:b<(Hh i).next) (ha:Acc E Hh i o b):l9 Hh (C8 Hh X) S ops.size b=(Hh i).get b:=by
 have hi:=BX ho;rw[yM (i:=i) (by omega),←R.cur (dW hi) hb]
 ·refine yL fun k hk ht=> ?_;obtain⟨ok,hok⟩:=opAt (show k<ops.size by omega);cases hs:S k with
  |true=>rfl
  |false=>
   exfalso;have hnb:(iC ms i).testBit k=false:=by
    cases hb2:(iC ms i).testBit k;·rfl
    ·rw[hr k hb2]at hs;cases hs
   obtain⟨i1,_,i3⟩:=R.ind k i ok o hk hok ho ht.1 hx hnb;rcases aK b (Hh k).next with d|d
   ·rcases ht.2.2 with e|e
    ·exact i1 b (R.wrt hok ht.1 e d) ha
    ·omega
   ·exact i3 b (by rw[Xu];exact d) (by rw[Xv];exact ht.2.1) ha
 ·intro j hj hjn hsj ht;by_cases e:j=i
  ·subst e;rw[hS]at hsj;cases hsj
  ·obtain⟨oj,hoj⟩:=opAt hjn;have hnb:=Eh hc hS hsj hjn;obtain⟨_,i2,_⟩:=R.ind i j o oj (by omega) ho hoj hx ht.1 hnb;have hm:=R.mono (i:=i) (j:=j) (by omega) (by omega);rcases ht.2.2 with d|d
   ·exact i2 b (R.wrt hoj ht.1 d (by omega)) ha
   ·omega
theorem Rg.last (R:Rg g n cx df ops ms E Hh V X) (hc:Closed ops.size ms S) {i:Nat} {o:Oper} (ho:ops[i]? =some o) (hS:S i=false) {b:Nat} (hb:C8 Hh X i b):
 l9 Hh (C8 Hh X) (ins S i) ops.size b=(Hh (i+1)).get b:=by
 have hi:=BX ho;rw[yM (i:=i+1) (by omega)];·simp only[l9];rw[ak ⟨o7 _ _,hb⟩]
 ·intro j hj hjn hsj ht;rw[qP _ (by omega)]at hsj;obtain⟨oj,hoj⟩:=opAt hjn;have hnb:=Eh hc hS hsj hjn;obtain⟨i1,_,i3⟩:=R.ind i j o oj (by omega) ho hoj hb.1 ht.1 hnb;have hm:=R.mono (i:=i+1) (j:=j) (by omega) (by omega);have hbj:b<(Hh j).next:=bK hb.2.1 hm
  have Pw:b∈(recAt E Hh j oj).wrt:=by
   rcases ht.2.2 with d|d;·exact R.wrt hoj ht.1 d hbj
   ·omega
  rcases aK b (Hh i).next with d|d
  ·rcases hb.2.2 with e|e
   ·exact i1 b (R.wrt ho hb.1 e d) (Kj Pw)
   ·omega
  ·exact i3 b (by rw[Xu];exact d) (by rw[Xv];exact hb.2.1) (Kj Pw)
theorem rJ {i b:Nat} (hb:¬C8 Hh X i b) (N:Nat):l9 Hh (C8 Hh X) (ins S i) N b=l9 Hh (C8 Hh X) S N b:=by
 refine yL fun k _ ht=> ?_;by_cases e:k=i;·subst e;exact absurd ht hb
 ·exact qP S e
theorem Kk {o:Oper}:uK o=match o.dst with|some d=>d+1|none=>0:=rfl
theorem Rg.Xw (R:Rg g n cx df ops ms E Hh V X) {t:Nat} (ht:t<n) (hn:n≤256):∀{i:Nat},i≤ops.size→yI (fun t=>(gT t).f (E 0)) (xV ops) V (fun _=>true) i t=(gT t).f (E i)
 |0,_=>rfl
 |i+1,hi=>by
  obtain⟨o,ho⟩:=opAt (show i<ops.size by omega);have he:=(R.st i o ho).env;have hok:=R.ok i o ho;have ih:=R.Xw ht hn (i:=i) (by omega);simp only[yI];have hd:xV ops i=uK o:=by unfold xV;rw[ho]
  rw[hd,he,ih,Kk];cases hdst:o.dst with
  |none=>rw[aj (by simp)];rfl
  |some d=>
   have hdn:=zN hok d hdst;show _=(gT t).f ((pT d).f (V i) (E i));by_cases c:d=t;·subst c;rw[ak ⟨trivial,rfl⟩,sW (bK hdn hn)]
   ·rw[aj (by simp;exact c),uY (bK hdn hn) (bK ht hn) c]
noncomputable def C9 (g:G) (ops:Array Oper) (o:Oper):List Nat:=(lq g ops.toList o).rs
theorem Rg.aho (R:Rg g n cx df ops ms E Hh V X) (hc:Closed ops.size ms S) {i:Nat} {o:Oper} (ho:ops[i]? =some o) (hS:S i=false) (hr:∀k,(iC ms i).testBit k=true→S k=true)
 {t:Nat} (ht:t<n) (hn:n≤256) (hrd:t+1∈C9 g ops o):yI (fun t=>(gT t).f (E 0)) (xV ops) V S ops.size t=(gT t).f (E i):=by
 have hi:=BX ho;rw[yK (i:=i) (by omega),←R.Xw ht hn (dW hi)]
 ·refine yJ fun k hk hd=> ?_;obtain⟨ok,hok⟩:=opAt (show k<ops.size by omega);cases hs:S k with
  |true=>rfl
  |false=>
   exfalso;have hnb:(iC ms i).testBit k=false:=by
    cases hb2:(iC ms i).testBit k;·rfl
    ·rw[hr k hb2]at hs;cases hs
   have hd':(lq g ops.toList ok).dn=t+1:=by
    have:xV ops k=uK ok:=by unfold xV;rw[hok]
    rw[this]at hd;exact hd
   obtain⟨h1,_⟩:=BU (R.apart k i ok o hk hok ho hnb);rw[hd']at h1;rcases h1 with h1|h1;·omega
   ·exact h1.1 hrd
 ·intro j hj hjn hsj hd;by_cases e:j=i
  ·subst e;rw[hS]at hsj;cases hsj
  ·obtain⟨oj,hoj⟩:=opAt hjn;have hnb:=Eh hc hS hsj hjn;have hd':(lq g ops.toList oj).dn=t+1:=by
    have:xV ops j=uK oj:=by unfold xV;rw[hoj]
    rw[this]at hd;exact hd
   obtain⟨_,h2⟩:=BU (R.apart i j o oj (by omega) ho hoj hnb);rw[hd']at h2;rcases h2 with h2|h2;·omega
   ·exact h2 hrd
theorem Rg.adh (R:Rg g n cx df ops ms E Hh V X) (hc:Closed ops.size ms S) {i:Nat} {o:Oper} (ho:ops[i]? =some o) (hS:S i=false) {t:Nat}:
 yI (fun t=>(gT t).f (E 0)) (xV ops) V (ins S i) ops.size t=if uK o=t+1 then V i else yI (fun t=>(gT t).f (E 0)) (xV ops) V S ops.size t:=by
 have hi:=BX ho;have hdi:xV ops i=uK o:=by unfold xV;rw[ho]
 by_cases c:uK o=t+1
 ·rw[ak c,yK (i:=i+1) (by omega)]
  ·simp only[yI];rw[ak ⟨o7 _ _,by rw[hdi];exact c⟩]
  ·intro j hj hjn hsj hd;rw[qP _ (by omega)]at hsj;obtain⟨oj,hoj⟩:=opAt hjn;have hnb:=Eh hc hS hsj hjn;obtain⟨h1,_⟩:=BU (R.apart i j o oj (by omega) ho hoj hnb);have hdj:xV ops j=uK oj:=by unfold xV;rw[hoj]
   rcases h1 with h1|h1;·have h1:uK o=0:=h1;omega
   ·have h1:uK o≠uK oj:=h1.2;rw[hdj]at hd;omega
 ·rw[aj c];refine yJ fun k _ hd=> ?_;by_cases e:k=i
  ·subst e;rw[hdi]at hd;exact absurd hd c
  ·exact qP S e
end
def FL (ι:bn) (m:Nat):bn:=fun b=>if b<m then ι b else none
theorem tC {ι:bn} {m b:Nat} (h:b<m):FL ι m b=ι b:=by simp[FL,h]
theorem RA {ι:bn} {m b:Nat} (h:m≤b):FL ι m b=none:=by simp[FL];omega
theorem wM {ι:bn} {m b:Nat} {x:Nm} (h:FL ι m b=some x):b<m∧ι b=some x:=by
 by_cases c:b<m;·rw[tC c]at h;exact⟨c,h⟩
 ·rw[RA (by omega)]at h;cases h
def Px (ι ι':bn) (lo hi:Nat):bn:=fun b=>if lo≤b∧b<hi then ι' b else ι b
theorem zW {ι ι':bn} {lo hi b:Nat} (h1:lo≤b) (h2:b<hi):Px ι ι' lo hi b=ι' b:=by simp[Px,h1,h2]
theorem mR {ι ι':bn} {lo hi b:Nat} (h:b<lo∨hi≤b):Px ι ι' lo hi b=ι b:=by unfold Px;rw[aj (by omega)]
structure Inv (n:Nat) (ops:Array Oper) (E:Nat→Env) (Hh:Nat→H) (V:Nat→AV) (X:Nat→Bool) (WW:List Nat) (ι0:bn) (w0:World) (ds:List Deferred)
 (S:Nat→Bool) (ι:bn) (a:Go.Act) (w:World):Prop where
 sz:a.tmps.size=n
 env:∀t,t<n→VR ι (yI (fun t=>(gT t).f (E 0)) (xV ops) V S ops.size t) (a.tmps.getD t undef)
 wJ:a.defers=ds
 blk:∀b x,l9 Hh (C8 Hh X) S ops.size b=some x→∃m o,ι b=some m∧w.heap[m.B]? =some o∧BR ι x o m
 inj:∀b b' x x' m m',l9 Hh (C8 Hh X) S ops.size b=some x→l9 Hh (C8 Hh X) S ops.size b'=some x'→ι b=some m→ι b'=some m'→m.B=m'.B→b=b'
 dom:∀b m,ι b=some m→b<(Hh 0).next∨∃k,k<ops.size∧S k=true∧X k=true∧(Hh k).next≤b∧b<(Hh (k+1)).next
 old:∀b,b<(Hh 0).next→ι b=ι0 b
 size:w0.heap.size≤w.heap.size
 heap:∀k,k<w0.heap.size→(∀b∈WW,∀m,ι0 b=some m→m.B≠k)→w.heap[k]? =w0.heap[k]?
 new:∀b m,(Hh 0).next≤b→ι b=some m→w0.heap.size≤m.B∨∃b0∈WW,∃m0,ι0 b0=some m0∧m0.B=m.B
 os:w.os=w0.os
 tape:w.tape=w0.tape
 out:w.output=w0.output
theorem Loc.of {ι ι':bn} {h h':H} {w w':World} {W:List Nat} (k:WR ι h w) (k':WR ι' h' w') (e:Ext ι h w ι' h' w' W):Loc ι h w ι' h' w' W where
 toExt:=e
 most:=k'.most
 fresh:=k'.fresh
 blk b x _ hb hx:=k'.blk b x trivial hb hx
 inj1 b x m hb hbn hx hm:=by
  rcases e.new b m hb hm with h1|⟨b0,hb0,m0,hm0,hB⟩
  ·exact .inl h1
  ·refine .inr ⟨b0,hb0,m0,hm0,hB,?_⟩;have hlt:b0<h.next:=k.lt hm0;cases hg:h'.get b0 with
   |none=>rfl
   |some y=>
    have BZ:ι' b0=some m0:=by rw[e.Ed b0 hlt];exact hm0
    have:=k'.inj b0 b y x m0 m trivial trivial (bK hlt e.next) hbn hg hx BZ hm hB;omega
 inj2 b b' x x' m m' _ _ hb hb' hx hx' hm hm' hB:=k'.inj b b' x x' m m' trivial trivial hb hb' hx hx' hm hm' hB
section
variable {P:Program} {g:G} {n:Nat} {cx:Cx} {df:List Df} {ops:Array Oper} {ms:List Nat} {E:Nat→Env} {Hh:Nat→H} {V:Nat→AV} {X:Nat→Bool} {S:Nat→Bool} {WW:List Nat} {ι0 ι:bn} {w0 w:World} {ds:List Deferred} {a:Go.Act}
theorem Inv.unnamed (R:Rg g n cx df ops ms E Hh V X) (I:Inv n ops E Hh V X WW ι0 w0 ds S ι a w) {i:Nat} (hi:i<ops.size) (hS:S i=false) {b:Nat} (h1:(Hh i).next≤b) (h2:b<(Hh (i+1)).next):ι b=none:=by
 cases hb:ι b with
 |none=>rfl
 |some m=>
  exfalso;rcases I.dom b m hb with h|⟨k,hk,hsk,_,h3,h4⟩
  ·have:=R.mono (i:=0) (j:=i) (by omega) (by omega);omega
  ·rcases kU k i with c|c|c
   ·have:=R.mono (i:=k+1) (j:=i) (by omega) (by omega);omega
   ·subst c;rw[hS]at hsk;cases hsk
   ·have:=R.mono (i:=i+1) (j:=k) (by omega) (by omega);omega
theorem Inv.adi (R:Rg g n cx df ops ms E Hh V X) {i:Nat} (hi:i≤ops.size):∃(ι1:bn) (t:Array Value) (w1:World),iB ι1 n (E i) t∧WR ι1 (Hh i) w1∧∀b m,ι1 b=some m→FL ι (Hh i).next b=ι b:=by obtain⟨ι1,t,w1,h1,h2⟩:=R.text i hi;exact⟨ι1,t,w1,h1,h2,fun b m hb=>tC (h2.lt hb)⟩
theorem Inv.wr (R:Rg g n cx df ops ms E Hh V X) (hc:Closed ops.size ms S) (I:Inv n ops E Hh V X WW ι0 w0 ds S ι a w) {i:Nat} {o:Oper} (ho:ops[i]? =some o) (hS:S i=false) (hr:∀k,(iC ms i).testBit k=true→S k=true) (hx:X i=true):
 WR (FL ι (Hh i).next) (Hh i) w (Acc E Hh i o):=by
 have hi:=BX ho;obtain⟨ι1,t,w1,h1,h2,hcut⟩:=Inv.adi (ι:=ι) R (dW hi);refine⟨h2.most,fun b hb=>RA hb,fun b x hD hb hxb=> ?_,fun b b' x x' m m' hD hD' hb hb' hx1 hx2 hm hm' hB=> ?_⟩;·have hs:=R.seen hc ho hS hr hx hb hD;obtain⟨m,ob,q1,q2,q3⟩:=I.blk b x (by rw[hs];exact hxb);obtain⟨m1,o1,_,_,q4⟩:=h2.blk b x trivial hb hxb;exact⟨m,ob,by rw[tC hb];exact q1,q2,BR.cut hcut q4 q3⟩
 ·have hs:=R.seen hc ho hS hr hx hb hD;have hs':=R.seen hc ho hS hr hx hb' hD';rw[tC hb]at hm;rw[tC hb']at hm';exact I.inj b b' x x' m m' (by rw[hs];exact hx1) (by rw[hs'];exact hx2) hm hm' hB
theorem Inv.en (R:Rg g n cx df ops ms E Hh V X) (hc:Closed ops.size ms S) (I:Inv n ops E Hh V X WW ι0 w0 ds S ι a w) {i:Nat} {o:Oper} (ho:ops[i]? =some o) (hS:S i=false) (hr:∀k,(iC ms i).testBit k=true→S k=true)
 {l:List Nat} (hl:∀t∈l,t<n∧t+1∈C9 g ops o):iB (FL ι (Hh i).next) n (uD (E i) l) a.tmps:=by
 have hi:=BX ho;obtain⟨ι1,tt,w1,h1,h2,hcut⟩:=Inv.adi (ι:=ι) R (dW hi);have hn:=h1.most;have adj:∀x∈l,x<256:=fun x hx=>bK (hl x hx).1 hn;refine⟨I.sz,hn,fun t ht=> ?_,fun t h1 h2=> ?_⟩
 ·rw[rH (bK ht hn) adj];by_cases c:t∈l
  ·rw[ak c];have hv:=I.env t ht;rw[R.aho hc ho hS hr ht hn (hl t c).2]at hv;exact VR.cut hcut (h1.at_ t ht) hv
  ·rw[aj c];exact trivial
 ·rw[rH h2 adj,aj (fun c=>by have:=(hl t c).1;omega)]
theorem Inv.gi (R:Rg g n cx df ops ms E Hh V X) (I:Inv n ops E Hh V X WW ι0 w0 ds S ι a w) (k0:WR ι0 (Hh 0) w0) (hG:GI ι0) {i:Nat} (hi:i≤ops.size):GI (FL ι (Hh i).next):=by intro x hx;obtain⟨cs,e⟩:=hG x hx;have hlt:=k0.lt e;have:=R.mono (i:=0) (j:=i) (by omega) hi;exact⟨cs,by rw[tC (by omega),I.old x hlt];exact e⟩
theorem Inv.step (R:Rg g n cx df ops ms E Hh V X) (hc:Closed ops.size ms S) (I:Inv n ops E Hh V X WW ι0 w0 ds S ι a w) {i:Nat} {o:Oper} (ho:ops[i]? =some o) (hS:S i=false) (hr:∀k,(iC ms i).testBit k=true→S k=true) (hx:X i=true)
 (hWW:∀b∈wl Hh i,b∈WW) {ι':bn} {w':World} {W:List Nat} {v':Value} (L:Loc (FL ι (Hh i).next) (Hh i) w ι' (Hh (i+1)) w' W) (hv:VR ι' (V i) v'):
 ∃ι2,Inv n ops E Hh V X WW ι0 w0 ds (ins S i) ι2 (a.put o.dst v') w':=by
 have hi:=BX ho
 have sf:=R.sf i hi hx
 have hW:W=wl Hh i:=by
  have h1:=L.log
  rw[sf.log]at h1
  exact(List.append_cancel_right h1).symm
 subst hW
 have hns:∀b,(Hh i).next≤b→b<(Hh (i+1)).next→ι b=none:=fun b h1 h2=>I.unnamed R hi hS h1 h2
 have hm1:(Hh i).next≤(Hh (i+1)).next:=sf.next
 have h0i:=R.mono (i:=0) (j:=i) (by omega) (by omega)
 have hle:ι.le (Px ι ι' (Hh i).next (Hh (i+1)).next):=fun b m hb=>by
  by_cases c:(Hh i).next≤b∧b<(Hh (i+1)).next
  ·rw[hns b c.1 c.2]at hb;cases hb
  ·rw[mR (by omega)];exact hb
 have hle':ι'.le (Px ι ι' (Hh i).next (Hh (i+1)).next):=fun b m hb=>by
  rcases aK b (Hh i).next with c|c
  ·rw[mR (.inl c),←tC (ι:=ι) c,←L.Ed b c];exact hb
  ·rcases aK b (Hh (i+1)).next with d|d
   ·rw[zW c d];exact hb
   ·rw[L.fresh b d]at hb;cases hb
 have chg:∀b,b∈wl Hh i→b<(Hh i).next→∃y,l9 Hh (C8 Hh X) S ops.size b=some y∧(Hh i).get b=some y:=fun b hb hl=>by
  obtain⟨y,hy⟩:=sf.live b hb hl
  exact⟨y,by rw[R.seen hc ho hS hr hx hl (Kj (R.wrt ho hx hb hl))];exact hy,hy⟩
 have tch:∀b,C8 Hh X i b↔(b<(Hh (i+1)).next∧(b∈wl Hh i∨(Hh i).next≤b)):=fun b=>⟨fun h=>h.2,fun h=>⟨hx,h⟩⟩
 have back:∀b x,b<(Hh i).next∨(Hh (i+1)).next≤b→l9 Hh (C8 Hh X) (ins S i) ops.size b=some x→∃y,l9 Hh (C8 Hh X) S ops.size b=some y:=fun b x hb hx'=>by
  by_cases c:C8 Hh X i b
  ·rcases hb with hb|hb
   ·rcases c.2.2 with d|d
    ·obtain⟨y,hy,_⟩:=chg b d hb;exact⟨y,hy⟩
    ·omega
   ·have:=c.2.1;omega
  ·rw[rJ c]at hx';exact⟨x,hx'⟩
 have al1:∀b x m,l9 Hh (C8 Hh X) S ops.size b=some x→ι b=some m→m.B<w.heap.size:=fun b x m hb hm=>by
  obtain⟨m1,o1,q1,q2,_⟩:=I.blk b x hb
  rw[hm]at q1;cases q1
  exact(fu.1 q2).1
 refine⟨Px ι ι' (Hh i).next (Hh (i+1)).next,?_,?_,?_,?_,?_,?_,?_,?_,?_,?_,?_,?_,?_⟩
 ·
  have:=I.sz
  cases hd:o.dst<;>simp[Act.put,this]
 ·
  intro t ht
  rw[R.adh hc ho hS]
  have hv0:=(I.env t ht).mono hle
  rw[Kk]
  cases hd:o.dst with
  |none=>
   rw[aj (by simp)];exact hv0
  |some d=>
   show VR _ _ ((a.tmps.setIfInBounds d v').getD t undef)
   by_cases c:d=t
   ·subst c
    rw[ak rfl,uO _ _ (by rw[I.sz];exact ht)]
    exact hv.mono hle'
   ·rw[aj (by simp;exact c),getD_set_ne _ _ c]
    exact hv0
 ·rw[put_defers];exact I.wJ
 ·
  intro b x hb
  by_cases c:C8 Hh X i b
  ·rw[R.last hc ho hS c]at hb
   obtain⟨m,ob,q1,q2,q3⟩:=L.blk b x c.2.2 c.2.1 hb
   exact⟨m,ob,hle' _ _ q1,q2,q3.mono hle'⟩
  ·rw[rJ c]at hb
   obtain⟨m,ob,q1,q2,q3⟩:=I.blk b x hb
   refine⟨m,ob,hle _ _ q1,?_,q3.mono hle⟩
   rw[L.heap m.B (fu.1 q2).1,q2]
   intro b1 hb1 m1 Xx hB
   obtain⟨hlt,Mq⟩:=wM Xx
   obtain⟨y,hy,_⟩:=chg b1 hb1 hlt
   have:=I.inj b1 b y x m1 m hy hb Mq q1 hB
   subst this
   exact c ⟨hx,by omega, .inl hb1⟩
 ·
  have mix:∀b b' x x' m m',(Hh i).next≤b→b<(Hh (i+1)).next→(b'<(Hh i).next∨(Hh (i+1)).next≤b')→l9 Hh (C8 Hh X) (ins S i) ops.size b=some x→l9 Hh (C8 Hh X) (ins S i) ops.size b'=some x'→
   ι' b=some m→ι b'=some m'→m.B≠m'.B:=fun b b' x x' m m' h1 h2 h3 hb hb' hm hm' hB=>by
   have ct:C8 Hh X i b:=⟨hx,h2, .inr h1⟩
   rw[R.last hc ho hS ct]at hb
   obtain⟨y',hy'⟩:=back b' x' h3 hb'
   have hlt:=al1 b' y' m' hy' hm'
   rcases L.inj1 b x m h1 h2 hb hm with q|⟨b0,hb0,m0,hm0,hB0,Xy⟩
   ·omega
   ·obtain⟨hl0,BZ⟩:=wM hm0
    obtain⟨y,hy,_⟩:=chg b0 hb0 hl0
    have:=I.inj b0 b' y y' m0 m' hy hy' BZ hm' (hB0.trans hB)
    subst this
    have ct':C8 Hh X i b0:=⟨hx,by omega, .inl hb0⟩
    rw[R.last hc ho hS ct',Xy]at hb'
    cases hb'
  intro b b' x x' m m' hb hb' hm hm' hB
  by_cases c:(Hh i).next≤b∧b<(Hh (i+1)).next
  ·rw[zW c.1 c.2]at hm
   by_cases c':(Hh i).next≤b'∧b'<(Hh (i+1)).next
   ·rw[zW c'.1 c'.2]at hm'
    rw[R.last hc ho hS ⟨hx,c.2, .inr c.1⟩]at hb
    rw[R.last hc ho hS ⟨hx,c'.2, .inr c'.1⟩]at hb'
    exact L.inj2 b b' x x' m m' c.1 c'.1 c.2 c'.2 hb hb' hm hm' hB
   ·rw[mR (by omega)]at hm'
    exact absurd hB (mix b b' x x' m m' c.1 c.2 (by omega) hb hb' hm hm')
  ·rw[mR (by omega)]at hm
   by_cases c':(Hh i).next≤b'∧b'<(Hh (i+1)).next
   ·rw[zW c'.1 c'.2]at hm'
    exact absurd hB.symm (mix b' b x' x m' m c'.1 c'.2 (by omega) hb' hb hm' hm)
   ·rw[mR (by omega)]at hm'
    obtain⟨y,hy⟩:=back b x (by omega) hb
    obtain⟨y',hy'⟩:=back b' x' (by omega) hb'
    exact I.inj b b' y y' m m' hy hy' hm hm' hB
 ·
  intro b m hb
  by_cases c:(Hh i).next≤b∧b<(Hh (i+1)).next
  ·exact .inr ⟨i,hi,o7 _ _,hx,c.1,c.2⟩
  ·rw[mR (by omega)]at hb
   rcases I.dom b m hb with h|⟨k,hk,hsk,h1,h2⟩
   ·exact .inl h
   ·refine .inr ⟨k,hk,?_,h1,h2⟩
    by_cases e:k=i
    ·subst e;exact o7 _ _
    ·rw[qP _ e];exact hsk
 ·intro b hb
  rw[mR (.inl (by omega))];exact I.old b hb
 ·exact aT I.size L.size
 ·intro k hk hn
  rw[L.heap k (bK hk I.size),I.heap k hk hn]
  intro b1 hb1 m1 Xx hB
  obtain⟨hlt,Mq⟩:=wM Xx
  rcases aK b1 (Hh 0).next with d|d
  ·rw[I.old b1 d]at Mq
   exact hn b1 (hWW b1 hb1) m1 Mq hB
  ·rcases I.new b1 m1 d Mq with q|⟨b0,hb0,m0,hm0,hB0⟩
   ·omega
   ·exact hn b0 hb0 m0 hm0 (hB0.trans hB)
 ·intro b m hb hm
  by_cases c:(Hh i).next≤b∧b<(Hh (i+1)).next
  ·rw[zW c.1 c.2]at hm
   rcases L.new b m c.1 hm with q|⟨b0,hb0,m0,hm0,hB0⟩
   ·exact .inl (aT I.size q)
   ·obtain⟨hlt,BZ⟩:=wM hm0
    rcases aK b0 (Hh 0).next with d|d
    ·rw[I.old b0 d]at BZ
     exact .inr ⟨b0,hWW b0 hb0,m0,BZ,hB0⟩
    ·rcases I.new b0 m0 d BZ with q|⟨b1,hb1,m1,hm1,hB1⟩
     ·left;omega
     ·exact .inr ⟨b1,hb1,m1,hm1,hB1.trans hB0⟩
  ·rw[mR (by omega)]at hm
   exact I.new b m hb hm
 ·exact L.os.trans I.os
 ·exact L.tape.trans I.tape
 ·exact L.out.trans I.out
end
section
variable {P:Program} {g:G} {n:Nat} {cx:Cx} {df:List Df} {ops:Array Oper} {ms:List Nat} {E:Nat→Env} {Hh:Nat→H} {V:Nat→AV} {X:Nat→Bool} {S:Nat→Bool} {WW:List Nat} {ι0 ι:bn} {w0 w:World} {ds:List Deferred} {a:Go.Act} {b:Frame} {cs:List Frame}
theorem Inv.skip (R:Rg g n cx df ops ms E Hh V X) (hc:Closed ops.size ms S) (I:Inv n ops E Hh V X WW ι0 w0 ds S ι a w) {i:Nat} {o:Oper} (ho:ops[i]? =some o) (hS:S i=false) (hx:X i=false):
 Inv n ops E Hh V X WW ι0 w0 ds (ins S i) ι (a.put o.dst undef) w:=by
 have hv:=((R.st i o ho).no hx).2.1;have hnt:∀b,¬C8 Hh X i b:=fun b h=>by rw[h.1]at hx;cases hx
 refine⟨?_,?_,?_,?_,?_,?_,I.old,I.size,I.heap,I.new,I.os,I.tape,I.out⟩;·have:=I.sz;cases hd:o.dst<;>simp[Act.put,this]
 ·intro t ht;rw[R.adh hc ho hS,Kk];cases hd:o.dst with
  |none=>rw[aj (by simp)];exact I.env t ht
  |some d=>
   show VR _ _ ((a.tmps.setIfInBounds d undef).getD t undef);by_cases c:d=t;·subst c;rw[ak rfl,uO _ _ (by rw[I.sz];exact ht),hv];exact⟨#[],rfl,rfl⟩
   ·rw[aj (by simp;exact c),getD_set_ne _ _ c];exact I.env t ht
 ·rw[put_defers];exact I.wJ
 ·intro b x hb;rw[rJ (hnt b)]at hb;exact I.blk b x hb
 ·intro b b' x x' m m' hb hb' hm hm' hB;rw[rJ (hnt b)]at hb;rw[rJ (hnt b')]at hb';exact I.inj b b' x x' m m' hb hb' hm hm' hB
 ·intro b m hb;rcases I.dom b m hb with h|⟨k,hk,hsk,h1,h2⟩
  ·exact .inl h
  ·refine .inr ⟨k,hk,?_,h1,h2⟩;by_cases e:k=i
   ·subst e;exact o7 _ _
   ·rw[qP _ e];exact hsk
noncomputable def Uj (g:G) (ops:Array Oper) (o:Oper):List Nat:=((C9 g ops o).filter (fun s=>s !=0)).map (fun s=>s-1)
theorem wN {o:Oper} {t:Nat}:t∈Uj g ops o↔t+1∈C9 g ops o:=by
 unfold Uj;rw[dA];constructor
 ·rintro⟨s,hs,rfl⟩;rw[nE]at hs;have:s≠0:=by simpa using hs.2
  rw[show s-1+1=s by omega];exact hs.1
 ·intro h;exact⟨t+1,by rw[nE];exact⟨h,by simp⟩,by omega⟩
theorem Ca {t:Nat}:∀{l:List Operand},t+1∈slots l↔.tmp t∈l
 |[]=>⟨(fun h=>by cases h),(fun h=>by cases h)⟩
 |x::l=>by
  have e:slots (x::l)=slot x++slots l:=rfl
  rw[e,jl,aV,Ca]
  have:t+1∈slot x↔Operand.tmp t=x:=by
   cases x with
   |tmp u=>
    show t+1∈[u+1]↔_
    rw[fE]
    exact⟨fun h=>by have:t=u:=by omega
                    rw[this],fun h=>by injection h with h;rw[h]⟩
   |_=>exact⟨(fun h=>by cases h),(fun h=>by cases h)⟩
  rw[this]
theorem Py {o:Oper}:C9 g ops o=wO ops.toList o++slots o.op.operands.toList:=rfl
theorem FM {o:Oper} (hok:iq n ops.toList o=true) {t:Nat} (h:t+1∈C9 g ops o):t<n:=by
 rw[Py,jl]at h;rcases h with h|h
 ·unfold iq at hok;simp only[aP]at hok;have h3:=hok.2;unfold wO at h;cases hg:o.guard with
  |none=>rw[hg]at h;cases h
  |some jw=>
   obtain⟨j,wn⟩:=jw;rw[hg]at h h3;dsimp only at h h3;cases hj:ops.toList[j]? with
   |none=>rw[hj]at h;cases h
   |some x=>
    rw[hj]at h h3;dsimp only at h h3;rw[fE]at h;cases hd:x.dst with
    |none=>rw[hd]at h3;cases h3
    |some d=>
     rw[hd]at h3;have h3:Nat.blt d n=true:=h3;have:uK x=d+1:=by unfold uK;rw[hd]
     rw[this]at h;have:=Ke h3;omega
 ·have h1:=Ca.1 h;have:=fU.1 (yE hok) _ h1;exact Ke this
theorem aa0 {o:Oper} {en:Env} (hok:iq n ops.toList o=true) (hn:n≤256):∀x∈o.op.operands.toList,(ev x).f (uD en (Uj g ops o))=(ev x).f en:=by
 intro x hx;have aeA:∀y∈Uj g ops o,y<256:=fun y hy=>bK (FM hok (wN.1 hy)) hn;cases x with
 |tmp t=>
  have hm:t+1∈C9 g ops o:=by rw[Py];exact iK _ (Ca.2 hx)
  show(gT t).f (uD en (Uj g ops o))=(gT t).f en;rw[rH (bK (FM hok hm) hn) aeA,ak (wN.2 hm)]
 |_=>rfl
theorem aa1 {o:Oper} {en:Env} (hok:iq n ops.toList o=true) (hn:n≤256):OM ops.toList o (uD en (Uj g ops o))=OM ops.toList o en:=by
 have aeA:∀y∈Uj g ops o,y<256:=fun y hy=>bK (FM hok (wN.1 hy)) hn;unfold OM;cases hg:o.guard with
 |none=>rfl
 |some jw=>
  obtain⟨j,wn⟩:=jw;dsimp only;cases ht:zO ops.toList j with
  |none=>rfl
  |some t=>
   dsimp only;have hm:t+1∈C9 g ops o:=by
    rw[Py];refine ig _ ?_;unfold wO;rw[hg];dsimp only;unfold zO at ht;cases hj:ops.toList[j]? with
    |none=>rw[hj]at ht;cases ht
    |some x=>
     rw[hj]at ht;dsimp only at ht⊢;have:uK x=t+1:=by unfold uK;rw[ht]
     rw[this];exact fE.2 rfl
   rw[rH (bK (FM hok hm) hn) aeA,ak (wN.2 hm)]
theorem Xz {ι:bn} {en:Env} {o:Oper} (hok:iq n ops.toList o=true) (hE:iB ι n en a.tmps):
 (OM ops.toList o en= .t→Region.wanted o (yielded ops a.tmps)=true)∧(OM ops.toList o en= .f→Region.wanted o (yielded ops a.tmps)=false):=by
 cases hg:o.guard with
 |none=>
  have e:OM ops.toList o en= .t:=by unfold OM;rw[hg]
  rw[e];exact⟨(fun _=>by unfold Region.wanted;rw[hg]),(fun h=>by cases h)⟩
 |some jw=>
  obtain⟨j,wn⟩:=jw;cases ht:zO ops.toList j with
  |none=>
   have e:OM ops.toList o en= .none:=by unfold OM;rw[hg];dsimp only;rw[ht];rfl
   rw[e];exact⟨(fun h=>by cases h),(fun h=>by cases h)⟩
  |some t=>
   have e:OM ops.toList o en=Ma wn ((gT t).f en):=by unfold OM;rw[hg];dsimp only;rw[ht]
   rw[e];exact L9 hok hE hg ht
theorem Uk {op:Op} {x:Act} (hk:p8 g op= .plain x):x=Hy g op∨∀en h,x.f en h= .fail:=by
 cases op with
 |call c=>
  cases hc:c.callee with
  |value f=>simp only[p8,hc]at hk;cases hk
  |invoke r m=>simp only[p8,hc]at hk;cases hk
  |builtin bb=>cases bb<;>first
   |(simp only[p8,hc]at hk;cases hk;exact .inl rfl)
   |(simp only[p8,hc]at hk;cases hk)
 |defer c=>cases hc:c.callee<;>simp only[p8,hc]at hk<;>cases hk<;>exact .inr fun _ _=>rfl
 |_=>cases hk;exact .inl rfl
theorem Inv.op (hg:kN P g) (R:Rg g n cx df ops ms E Hh V X) (hc:Closed ops.size ms S) (I:Inv n ops E Hh V X WW ι0 w0 ds S ι a w) (hcx:TY P cx) (k0:WR ι0 (Hh 0) w0) (hG:GI ι0)
 {i:Nat} {rest:List Nat} {kk:List Item} {o:Oper} (ho:ops[i]? =some o) (hS:S i=false) (hr:∀k,(iC ms i).testBit k=true→S k=true) (hWW:X i=true→∀b∈wl Hh i,b∈WW):
 ∃ι2 a2 w2,Steps P (lone (St b a (.inRegion ops (i::rest)::kk)) cs w) (lone (St b a2 (.inRegion ops rest::kk)) cs w2)∧Inv n ops E Hh V X WW ι0 w0 ds (ins S i) ι2 a2 w2:=by
 have hi:=BX ho;have hok:=R.ok i o ho;have hop:=yE hok;obtain⟨_,_,_,hE1,_⟩:=R.text i (dW hi);have hn:=hE1.most;have hE:=I.en R hc ho hS hr (l:=Uj g ops o) (fun t ht=>⟨FM hok (wN.1 ht),wN.1 ht⟩);have hgd:=Xz hok hE;rw[aa1 hok hn]at hgd;have hGi:=I.gi R k0 hG (dW hi);cases hx:X i with
 |false=>
  obtain⟨h1,_,_⟩:=(R.st i o ho).no hx;have hw:=hgd.2 h1;have hstep:Go.step P (lone (St b a (.inRegion ops (i::rest)::kk)) cs w)= .next (lone (St b (a.put ((ops[i]?).bind (·.dst)) undef) (.inRegion ops rest::kk)) cs w):=
   Fq (by rw[ho];exact hw)
  rw[ho]at hstep;exact⟨ι,a.put o.dst undef,w, .one hstep,I.skip R hc ho hS hx⟩
 |true=>
  obtain⟨h1,h2⟩:=(R.st i o ho).run hx;have hw:=hgd.1 h1;have hwr:=I.wr R hc ho hS hr hx;have hev:=aa0 (g:=g) (en:=E i) hok hn;have hdr:=R.dr i o ho;cases hk:p8 g o.op with
  |plain x=>
   rw[hk]at h2;obtain⟨e,_⟩:=h2;have e':x.f (uD (E i) (Uj g ops o)) (Hh i)= .ok (V i) (Hh (i+1)):=by
    rcases Uk hk with rfl|hf;·rw[Ug o.op hev];exact e
    ·rw[hf]at e;cases e
   obtain⟨ι',W,v',w',hs,hv,hL⟩:=Fv (b:=b) (cs:=cs) (rest:=rest) (kk:=kk) hg hwr hE hGi ho hop hw hk e' (fun f hf bl hbl=>by
    rw[Uh o.op hev hf]at hbl;right;unfold recAt qb;rw[hf];exact ig _ hbl)
   obtain⟨ι2,hI⟩:=I.step R hc ho hS hr hx (hWW hx) hL hv;exact⟨ι2,_,w',hs,hI⟩
  |call f as=>
   rw[hk]at h2;obtain⟨e,_⟩:=h2;obtain⟨c,r,hoc,rfl,hacc,ahp,hcv⟩:=Mc hk;have hops:∀y∈c.operands.toList,(ev y).f (uD (E i) (Uj g ops o))=(ev y).f (E i):=fun y hy=>hev y (by rw[hoc];exact hy);have hr1:(ev r).f (uD (E i) (Uj g ops o))=(ev r).f (E i):=hops r (by rw[ahp];simp);have hf:f.f (uD (E i) (Uj g ops o))=f.f (E i):=by
    rcases hcv with⟨_,rfl⟩|⟨nm,_,rfl⟩
    ·exact hr1
    ·show Xd _ _=Xd _ _;rw[hr1]
   have has:(opsL c.args.toList).f (uD (E i) (Uj g ops o))=(opsL c.args.toList).f (E i):=oV _ (fun y hy=>hops y (by
    rw[ahp,qM];exact iK _ hy))
   have hcall:(recAt E Hh i o).call=true:=by unfold recAt qb;rw[hacc]
   have ahq:WR (FL ι (Hh i).next) (Hh i) w:=⟨hwr.most,hwr.fresh,fun b x _ h1 h2=>hwr.blk b x (.inl hcall) h1 h2,fun b b' x x' m m' _ _=>hwr.inj b b' x x' m m' (.inl hcall) (.inl hcall)⟩
   obtain⟨ι',W,v',w',hs,hv,hwr2,hext⟩:=Io (b:=b) (cs:=cs) (rest:=rest) (kk:=kk) hcx ahq hE hGi ho hop hw hk (v:=V i) (h':=Hh (i+1)) (by rw[hf,has];exact e);obtain⟨ι2,hI⟩:=I.step R hc ho hS hr hx (hWW hx) (Loc.of ahq hwr2 hext) hv;exact⟨ι2,_,w',hs,hI⟩
  |defer f as=>rw[hk]at hdr;cases hdr
  |recover=>rw[hk]at hdr;cases hdr
theorem Rg.ready (R:Rg g n cx df ops ms E Hh V X) (hc:Closed ops.size ms S) {i:Nat} {o:Oper} (ho:ops[i]? =some o) (he:∀e∈mM o,S e=true):∀k,(iC ms i).testBit k=true→S k=true:=by
 intro k hb;obtain⟨e,hm,h⟩:=R.msk i o k ho hb;rcases h with rfl|h;·exact he k hm
 ·exact hc e k (Nat.lt_trans (R.es i o ho e hm) (BX ho)) (he e hm) h
theorem Rg.closed (_R:Rg g n cx df ops ms E Hh V X) (hc:Closed ops.size ms S) {i:Nat} (hr:∀k,(iC ms i).testBit k=true→S k=true):Closed ops.size ms (ins S i):=by
 intro j k hj hs hb;by_cases ck:k=i;·subst ck;exact o7 _ _
 rw[qP _ ck];by_cases cj:j=i;·subst cj;exact hr k hb
 ·rw[qP _ cj]at hs;exact hc j k hj hs hb
def SL (listed:Array Bool):Nat→Bool:=fun j=>listed.getD j false
theorem XA {listed:Array Bool} {i:Nat} (hi:i<listed.size):SL (listed.setIfInBounds i true)=ins (SL listed) i:=by
 funext j;unfold SL ins;by_cases c:j=i;·subst c;simp[hi]
 ·rw[aj c,iJ,kr (fun e=>c e.symm)];show _=listed.getD j false;rw[iJ]
theorem Ul {o:Oper} {e:Edge} (he:e∈o.after) (hb:Region.binds .any e=true):e.on∈mM o:=by unfold mM;rw[dA];exact⟨e,by rw[nE];exact⟨by simpa using he,hb⟩,rfl⟩
theorem Um {o:Oper} {x:Nat} (h:x∈mM o):∃e∈o.after,Region.binds .any e=true∧e.on=x:=by unfold mM at h;rw[dA]at h;obtain⟨e,he,rfl⟩:=h;rw[nE]at he;exact⟨e,by simpa using he.1,he.2,rfl⟩
theorem aa2 (hg:kN P g) (R:Rg g n cx df ops ms E Hh V X) (hcx:TY P cx) (k0:WR ι0 (Hh 0) w0) (hG:GI ι0) {kk:List Item} (hWW:∀i,i<ops.size→X i=true→∀b∈wl Hh i,b∈WW):
 ∀(fuel t:Nat) (listed:Array Bool) (ι:bn) (a:Go.Act) (w:World),listed.size=ops.size→Closed ops.size ms (SL listed)→Inv n ops E Hh V X WW ι0 w0 ds (SL listed) ι a w→cnt (SL listed) ops.size≤fuel→
  ∃ι2 a2 w2 S2,Steps P (lone (St b a (.inRegion ops (Region.linearise.go .any ops fuel t listed [])::kk)) cs w) (lone (St b a2 (.inRegion ops []::kk)) cs w2)∧Inv n ops E Hh V X WW ι0 w0 ds S2 ι2 a2 w2∧∀j,j<ops.size→S2 j=true:=by
 intro fuel;induction fuel with
 |zero=>intro t listed ι a w hsz hc I hcnt;refine⟨ι,a,w,SL listed,?_,I,zV (by omega)⟩;simp only[Region.linearise.go,List.reverse_nil];exact .refl _ _
 |succ fuel ih=>
  intro t listed ι a w hsz hc I hcnt;simp only[Region.linearise.go];change ∃ι2 a2 w2 S2,Steps P (lone (St b a (.inRegion ops (match(Region.ready .any ops listed)[t%(Region.ready .any ops listed).length]? with
   |some i=>Region.linearise.go .any ops fuel (t/(Region.ready .any ops listed).length) (listed.setIfInBounds i true) [i]
   |none=>[].reverse)::kk)) cs w) _∧_∧_
  cases hi:(Region.ready .any ops listed)[t%(Region.ready .any ops listed).length]? with
  |none=>
   have hnil:Region.ready .any ops listed=[]:=by
    cases hr:Region.ready .any ops listed with
    |nil=>rfl
    |cons x xs=>rw[hr]at hi;have hlt:t%(x::xs).length<(x::xs).length:=Nat.mod_lt _ (by simp);simp at hi;simp at hlt;omega
   refine⟨ι,a,w,SL listed, .refl _ _,I,zV ?_⟩;by_cases hz:cnt (SL listed) ops.size=0;·exact hz
   ·exfalso;obtain⟨j,hj,hs,hall⟩:=Rz hz;obtain⟨o,ho⟩:=opAt hj;have:j∈Region.ready .any ops listed:=by
     rw[mem_ready];refine⟨?_,o,ho,fun e he hb=> ?_⟩
     ·have:listed.getD j false=false:=hs;have hlt:j<listed.size:=by omega
      simp[hlt]at this⊢;exact this
     ·exact hall e.on (R.es j o ho e.on (Ul he hb))
    rw[hnil]at this;cases this
  |some i=>
   have hmem:=sM hi;rw[mem_ready]at hmem;obtain⟨hun,o,ho,hall⟩:=hmem;have hilt:i<listed.size:=by rw[hsz];exact BX ho
   have hS:SL listed i=false:=by unfold SL;simp[hilt]at hun⊢;exact hun
   have he:∀x∈mM o,SL listed x=true:=fun x hx=>by obtain⟨e,h1,h2,rfl⟩:=Um hx;exact hall e h1 h2
   have hr:=R.ready hc ho he;obtain⟨ι1,a1,w1,hs1,I1⟩:=I.op (b:=b) (cs:=cs) (kk:=kk) (rest:=Region.linearise.go .any ops fuel (t/(Region.ready .any ops listed).length) (listed.setIfInBounds i true) []) hg R hc hcx k0 hG ho hS hr (hWW i (BX ho));have hc1:=R.closed hc hr;rw[←XA hilt]at I1 hc1;have ahr:cnt (SL (listed.setIfInBounds i true)) ops.size≤fuel:=by rw[XA hilt];have:=Ry hS (BX ho);omega
   obtain⟨ι2,a2,w2,S2,hs2,I2,ahs⟩:=ih (t/(Region.ready .any ops listed).length) (listed.setIfInBounds i true) ι1 a1 w1 (by simp[hsz]) hc1 I1 ahr;refine⟨ι2,a2,w2,S2,?_,I2,ahs⟩;dsimp only;rw[linearise_go_acc,List.reverse_singleton,List.singleton_append];exact hs1.trans hs2
end
end Go.Proofs.YtocaiijbhepnnaaGreatDoor.Am
