/- The machine's soundness, for drawn regions: who waits for whom; what stands in a slot, and in a block, after some of the operations. -/
import Derived.Test.YtocaiijbhepnnaaGreatDoorAm35
import Derived.Orders
namespace Go.Proofs.YtocaiijbhepnnaaGreatDoor.Am
theorem tX:∀(l:List Nat) (i:Nat),fV l i=l.getD i 0
 |[],i=>by cases i<;>rfl
 |x::l,0=>rfl
 |x::l,i+1=>tX l i
theorem Ka (a b:List Nat) (i:Nat) (h:i<a.length):fV (a++b) i=fV a i:=by rw[tX,tX,aG,pF h,aG]
theorem tY (ms:List Nat) (e:Nat) (es:List Nat):nL ms (e::es)=((2^e|||fV ms e)|||nL ms es):=rfl
theorem yO {ms ms':List Nat}:∀{es:List Nat},(∀e∈es,fV ms e=fV ms' e)->nL ms es=nL ms' es
 |[],_=>rfl
 |e::es,h=>by rw[tY,tY,h e (by simp),yO (λx hx=>h x (by simp[hx]))]
theorem DZ {ms:List Nat} {k:Nat}:∀{es:List Nat},(nL ms es).testBit k=true->∃e∈es,k=e\/(fV ms e).testBit k=true
 |[],h=>by have:(0:Nat).testBit k=true:=h;simp at this
 |e::es,h=>by
  rw[tY,Nat.testBit_or,Nat.testBit_or,dI,dI]at h;rcases h with(h|h)|h;·refine⟨e,by simp, .inl ?_⟩;rw[Nat.testBit_two_pow]at h;exact(gK h).symm
  ·exact⟨e,by simp, .inr h⟩
  ·obtain⟨e',he,r⟩:=DZ h;exact⟨e',by simp[he],r⟩
theorem xk (ms:List Nat) (o:DO) (l:List DO):masks ms (o::l)=masks (ms++[nL ms o.es]) l:=by show sN (nL ms o.es) (λm=>masks (List.append ms [m]) l)=_;rw[oq];rfl
theorem Aa:∀(l:List DO) (ms:List Nat) (i:Nat),i<ms.length->fV (masks ms l) i=fV ms i
 |[],_,_,_=>rfl
 |o::l,ms,i,h=>by rw[xk,Aa l _ i (by simp;omega),Ka _ _ _ h]
theorem Kc:∀(l:List DO) (ms:List Nat) (j:Nat) (o:DO),l[j]? =some o->(∀e∈o.es,e<ms.length+j)->fV (masks ms l) (ms.length+j)=nL (masks ms l) o.es
 |[],_,_,_,h,_=>by simp at h
 |x::l,ms,0,o,h,he=>by
  obtain rfl:x=o:=by simpa using h
  rw[xk,Aa l _ _ (by simp)];rw[tX,aG,dG,pG (ay _)];simp only[uR,List.getElem?_cons_zero,Option.getD_some];refine yO λe hm=> ?_;have:=he e hm;rw[Aa l _ _ (by simp;omega),Ka _ _ _ (by omega)]
 |x::l,ms,j+1,o,h,he=>by rw[xk];have:=Kc l (ms++[nL ms x.es]) j o (by simpa using h) (λe hm=>by have:=he e hm;simp;omega);rw[bV,List.length_singleton]at this;rw[show ms.length+(j+1)=ms.length+1+j by omega];exact this
theorem D5 {i:Nat}:∀{es:List Nat},F3 i es=true->∀e∈es,e<i
 |[],_,e,h=>by cases h
 |x::es,h,e,hm=>by
  have e1:F3 i (x::es)=Bool.rec false (F3 i es) (Nat.ble (Nat.succ x) i):=rfl;rw[e1]at h;cases hb:Nat.ble (Nat.succ x) i;·rw[hb]at h;cases h
  ·rw[hb]at h;rw[aD]at hb;rcases aR.1 hm with rfl|hm
   ·exact hb
   ·exact D5 h e hm
theorem Bd {o:DO} {pm:Nat}:∀{l:List DO} {i:Nat},nM o pm l i=true->∀k x,l[k]? =some x->pm.testBit (i+k)=true\/tZ x o=true
 |[],_,_,k,x,h=>by simp at h
 |y::l,i,h,k,x,hk=>by
  have e1:nM o pm (y::l) i=Bool.rec false (nM o pm l (i+1)) (Bool.rec (tZ y o) true (Nat.testBit pm i)):=rfl;rw[e1]at h;have h2:(Bool.rec (tZ y o) true (Nat.testBit pm i):Bool)=true/\nM o pm l (i+1)=true:=by
   cases hb:(Bool.rec (tZ y o) true (Nat.testBit pm i):Bool)
   ·rw[hb]at h;cases h
   ·rw[hb]at h;exact⟨rfl,h⟩
  cases k with
  |zero=>
   obtain rfl:y=x:=by simpa using hk
   rw[dG];cases ht:Nat.testBit pm i;·rw[ht]at h2;exact .inr h2.1
   ·exact .inl rfl
  |succ k=>have:=Bd h2.2 k x (by simpa using hk);rwa [show i+1+k=i+(k+1)by omega]at this
theorem Ud {ms:List Nat}:∀{l:List DO} {i:Nat} {ahead:List DO},okD ms l i ahead=true->∀j o,l[j]? =some o->
 o.ok=true/\F3 (i+j) o.es=true/\nM o (fV ms (i+j)) (ahead++l.take j) 0=true
 |[],_,_,_,j,o,h=>by simp at h
 |x::l,i,ahead,h,j,o,hj=>by
  have e1:okD ms (x::l) i ahead=aA x.ok (aA (nM x (fV ms i) ahead 0) (aA (F3 i x.es) (okD ms l (i+1) (ahead++[x])))):=rfl;rw[e1]at h;obtain⟨h1,h⟩:=ak h;obtain⟨h2,h⟩:=ak h;obtain⟨h3,h4⟩:=ak h;cases j with
  |zero=>
   obtain rfl:x=o:=by simpa using hj
   rw[dG,List.take_zero,ji];exact⟨h1,h3,h2⟩
  |succ j=>have:=Ud h4 j o (by simpa using hj);rw[show i+1+j=i+(j+1)by omega,iL]at this;exact this
theorem Ac {a b:DO} (h:tZ a b=true):(a.dn=0\/(a.dn∉b.rs/\a.dn≠b.dn))/\(b.dn=0\/b.dn∉a.rs):=by
 unfold tZ at h;obtain⟨h1,h2⟩:=ak h;constructor
 ·cases hz:Nat.beq a.dn (nat_lit 0)
  ·rw[hz]at h1;obtain⟨h3,h4⟩:=ak h1;right;constructor
   ·intro c;rw[mP.2 c]at h3;cases h3
   ·intro c;rw[c,qN]at h4;cases h4
  ·exact .inl (aI hz)
 ·cases hz:Nat.beq b.dn (nat_lit 0)
  ·rw[hz]at h2;right;intro c;rw[mP.2 c]at h2;cases h2
  ·exact .inl (aI hz)
section
variable (e0:Nat->AV) (dn:Nat->Nat) (V:Nat->AV) (S S':Nat->Bool)
def xq:Nat->Nat->AV
 |0,t=>e0 t
 |i+1,t=>if S i=true/\dn i=t+1 then V i else xq i t
variable {e0 dn V S S'}
theorem xu {i t:Nat} (h:∀k,k<i->dn k=t+1->S k=S' k):xq e0 dn V S i t=xq e0 dn V S' i t:=by
 induction i with
 |zero=>rfl
 |succ i ih=>
  simp only[xq];by_cases c:dn i=t+1;·rw[h i (by omega) c,ih (λk hk=>h k (by omega))]
  ·rw[aj (λx=>c x.2),aj (λx=>c x.2),ih (λk hk=>h k (by omega))]
theorem xw {i N t:Nat} (hN:i<=N) (h:∀j,i<=j->j<N->S j=true->dn j≠t+1):xq e0 dn V S N t=xq e0 dn V S i t:=by
 induction N with
 |zero=>have:i=0:=by omega
        subst this;rfl
 |succ N ih=>
  by_cases c:i=N+1;·subst c;rfl
  ·simp only[xq];rw[aj (λx=>h N (by omega) (by omega) x.1 x.2)];exact ih (by omega) (λj h1 h2=>h j h1 (by omega))
end
section
variable (Hh:Nat->H) (Tc:Nat->Nat->Prop) (S S':Nat->Bool)
open Classical in
noncomputable def kU:Nat->Nat->Option wF
 |0,b=>if b<(Hh 0).next then(Hh 0).get b else none
 |i+1,b=>if S i=true/\Tc i b then(Hh (i+1)).get b else kU i b
variable {Hh Tc S S'}
theorem xA {i b:Nat} (h:∀k,k<i->Tc k b->S k=S' k):kU Hh Tc S i b=kU Hh Tc S' i b:=by
 induction i with
 |zero=>rfl
 |succ i ih=>
  simp only[kU];by_cases c:Tc i b;·rw[h i (by omega) c,ih (λk hk=>h k (by omega))]
  ·rw[aj (λx=>c x.2),aj (λx=>c x.2),ih (λk hk=>h k (by omega))]
theorem xB {i N b:Nat} (hN:i<=N) (h:∀j,i<=j->j<N->S j=true->¬Tc j b):kU Hh Tc S N b=kU Hh Tc S i b:=by
 induction N with
 |zero=>have:i=0:=by omega
        subst this;rfl
 |succ N ih=>
  by_cases c:i=N+1;·subst c;rfl
  ·simp only[kU];rw[aj (λx=>h N (by omega) (by omega) x.1 x.2)];exact ih (by omega) (λj h1 h2=>h j h1 (by omega))
end
def cnt (S:Nat->Bool):Nat->Nat
 |0=>0
 |i+1=>cnt S i+(if S i=true then 0 else 1)
def ins (S:Nat->Bool) (i:Nat):Nat->Bool:=λj=>if j=i then true else S j
theorem nN (S:Nat->Bool) (i:Nat):ins S i i=true:=by simp[ins]
theorem pV (S:Nat->Bool) {i j:Nat} (h:j≠i):ins S i j=S j:=by simp[ins,h]
theorem Ue {S:Nat->Bool} {i:Nat}:∀{N},N<=i->cnt (ins S i) N=cnt S N
 |0,_=>rfl
 |N+1,h=>by simp only[cnt];rw[Ue (by omega),pV S (by omega)]
theorem OZ {S:Nat->Bool} {i:Nat} (hi:S i=false):∀{N},i<N->cnt (ins S i) N+1=cnt S N
 |0,h=>by omega
 |N+1,h=>by
  simp only[cnt];by_cases c:i=N;·subst c;rw[Ue (ay _),nN,hi];simp
  ·rw[pV S (by omega)];have:=OZ hi (N:=N) (by omega);omega
theorem yP {S:Nat->Bool}:∀{N},cnt S N=0->∀j,j<N->S j=true
 |0,_,j,h=>by omega
 |N+1,h,j,hj=>by
  simp only[cnt]at h;by_cases c:j=N
  ·subst c;by_cases hs:S j=true
   ·exact hs
   ·rw[aj hs]at h;omega
  ·exact yP (N:=N) (by omega) j (by omega)
theorem O1 {S:Nat->Bool}:∀{N},cnt S N≠0->∃j,j<N/\S j=false/\∀k,k<j->S k=true
 |0,h=>absurd rfl h
 |N+1,h=>by
  by_cases c:cnt S N=0
  ·have hall:=yP c;simp only[cnt,c]at h;refine⟨N,by omega,?_,hall⟩;cases hs:S N
   ·rfl
   ·rw[hs]at h;simp at h
  ·obtain⟨j,h1,h2,h3⟩:=O1 (N:=N) c;exact⟨j,by omega,h2,h3⟩
noncomputable def sM (en:Env):List Nat->Env
 |[]=>MN
 |t::l=>(pT t).f ((gT t).f en) (sM en l)
theorem qx {en:Env} {t:Nat} (ht:t<256):∀{l:List Nat},(∀x∈l,x<256)->(gT t).f (sM en l)=if t∈l then(gT t).f en else .bad
 |[],_=>by rw[aj (by simp)];exact Iz ht
 |x::l,h=>by
  have hx:=h x (by simp);have ih:=qx (en:=en) ht (l:=l) (λy hy=>h y (by simp[hy]));simp only[sM];by_cases c:x=t;·subst c;rw[rD hx,au (by simp)]
  ·rw[tT hx ht c,ih];by_cases d:t∈l
   ·rw[if_pos d,if_pos (by simp[d])]
   ·rw[if_neg d,if_neg (by simp[d];exact λe=>c e.symm)]
def wG (ops:Array Oper) (i:Nat):Nat:=match ops[i]? with|some o=>sV o|none=>0
def wl (Hh:Nat->H) (i:Nat):List Nat:=(Hh (i+1)).log.take ((Hh (i+1)).ln-(Hh i).ln)
def Bf (Hh:Nat->H) (X:Nat->Bool) (i b:Nat):Prop:=X i=true/\b<(Hh (i+1)).next/\(b∈wl Hh i\/(Hh i).next<=b)
structure SF (h h':H) (W:List Nat):Prop where
 next:h.next<=h'.next
 log:h'.log=W++h.log
 ln:h'.ln=h.ln+W.length
 kept:∀b,b<h.next->b∉W->h'.get b=h.get b
 live:∀b,b∈W->b<h.next->∃x,h.get b=some x
theorem Ext.sf {ι ι':aV} {h h':H} {w w':World} {W:List Nat} (e:Ext ι h w ι' h' w' W):SF h h' W:=⟨e.next,e.log,e.ln,e.kept,e.live⟩
noncomputable def recAt (E:Nat->Env) (Hh:Nat->H) (i:Nat) (o:Oper):Rc:=nZ o.op i (E i) (Hh i) (Hh (i+1))
structure Rg (g:G) (n:Nat) (cx:Cx) (df:List Df) (ops:Array Oper) (ms:List Nat) (E:Nat->Env) (Hh:Nat->H) (V:Nat->AV) (X:Nat->Bool):Prop where
 st:∀(j:Nat) (o:Oper),ops[j]? =some o->StepT g cx df ops.toList E Hh V X j o
 ok:∀(j:Nat) (o:Oper),ops[j]? =some o->fK n ops.toList o=true
 dr:∀(j:Nat) (o:Oper),ops[j]? =some o->rG (nX g o.op)=true
 ind:∀(k j:Nat) (ok oj:Oper),k<j->ops[k]? =some ok->ops[j]? =some oj->X k=true->X j=true->(fV ms j).testBit k=false->Ind (recAt E Hh k ok) (recAt E Hh j oj)
 apart:∀(k j:Nat) (ok oj:Oper),k<j->ops[k]? =some ok->ops[j]? =some oj->(fV ms j).testBit k=false->tZ (j6 g ops.toList ok) (j6 g ops.toList oj)=true
 es:∀(j:Nat) (o:Oper),ops[j]? =some o->∀e∈lH o,e<j
 msk:∀(j:Nat) (o:Oper) (k:Nat),ops[j]? =some o->(fV ms j).testBit k=true->∃e∈lH o,k=e\/(fV ms e).testBit k=true
 text:∀(i:Nat),i<=ops.size->∃(ι:aV) (t:Array Value) (w:World),fU ι n (E i) t/\WR ι (Hh i) w
 sf:∀(i:Nat),i<ops.size->X i=true->SF (Hh i) (Hh (i+1)) (wl Hh i)
section
variable {P:Program} {g:G} {n:Nat} {cx:Cx} {df:List Df} {ops:Array Oper} {ms:List Nat} {E:Nat->Env} {Hh:Nat->H} {V:Nat->AV} {X:Nat->Bool} {S:Nat->Bool}
theorem opAt {i:Nat} (h:i<ops.size):∃o,ops[i]? =some o:=⟨ops[i],l6 h⟩
theorem Ad {i:Nat} {o:Oper} (h:ops[i]? =some o):i<ops.size:=(dM.1 h).1
theorem Rg.adL (R:Rg g n cx df ops ms E Hh V X) {i:Nat} (hi:i<ops.size):(Hh i).next<=(Hh (i+1)).next:=by
 cases hx:X i with
 |true=>exact(R.sf i hi hx).next
 |false=>obtain⟨o,ho⟩:=opAt hi;rw[((R.st i o ho).no hx).2.2];exact ay _
theorem Rg.mono (R:Rg g n cx df ops ms E Hh V X) {i:Nat}:∀{j:Nat},i<=j->j<=ops.size->(Hh i).next<=(Hh j).next
 |0,h,_=>by have:i=0:=by omega
            subst this;exact ay _
 |j+1,h,hj=>by
  by_cases c:i=j+1;·subst c;exact ay _
  ·exact bF (R.mono (j:=j) (by omega) (by omega)) (R.adL (by omega))
theorem Uf {i:Nat} {o:Oper}:(recAt E Hh i o).lo=(Hh i).next:=by unfold recAt nZ;split<;>rfl
theorem Ug {i:Nat} {o:Oper}:(recAt E Hh i o).hi=(Hh (i+1)).next:=by unfold recAt nZ;split<;>rfl
theorem Rg.wrt (R:Rg g n cx df ops ms E Hh V X) {i:Nat} {o:Oper} (ho:ops[i]? =some o) (hx:X i=true) {b:Nat} (hb:b∈wl Hh i) (hl:b<(Hh i).next):b∈(recAt E Hh i o).wrt:=by
 have sf:=R.sf i (Ad ho) hx;have:(recAt E Hh i o).wrt=below (Hh i).next (Nat.sub (Hh (i+1)).ln (Hh i).ln) (Hh (i+1)).log:=by unfold recAt nZ;split<;>rfl
 rw[this,sf.ln,sf.log];have e:Nat.sub ((Hh i).ln+(wl Hh i).length) (Hh i).ln=(wl Hh i).length:=uW _ _;rw[e];exact FZ hb hl
def Acc (E:Nat->Env) (Hh:Nat->H) (i:Nat) (o:Oper) (b:Nat):Prop:=(recAt E Hh i o).call=true\/b∈(recAt E Hh i o).acc
theorem IE {i:Nat} {o:Oper} {b:Nat} (h:b∈(recAt E Hh i o).wrt):Acc E Hh i o b:=by
 unfold Acc;unfold recAt nZ at h⊢;split at h;·right;exact iM _ h
 ·left;rfl
theorem Rg.cur (R:Rg g n cx df ops ms E Hh V X) {b:Nat}:∀{i:Nat},i<=ops.size->b<(Hh i).next->kU Hh (Bf Hh X) (λ_=>true) i b=(Hh i).get b
 |0,_,hb=>by simp only[kU];rw[au hb]
 |i+1,hi,hb=>by
  simp only[kU];by_cases c:Bf Hh X i b;·rw[au ⟨rfl,c⟩]
  ·rw[aj (λx=>c x.2)];obtain⟨o,ho⟩:=opAt (show i<ops.size by omega);cases hx:X i with
   |false=>have e:=((R.st i o ho).no hx).2.2;rw[e]at hb⊢;exact R.cur (by omega) hb
   |true=>
    have sf:=R.sf i (by omega) hx;have h1:b∉wl Hh i:=λd=>c ⟨hx,hb, .inl d⟩;have h2:b<(Hh i).next:=by
     rcases aF b (Hh i).next with d|d
     ·exact d
     ·exact absurd ⟨hx,hb, .inr d⟩ c
    rw[sf.kept b h2 h1];exact R.cur (by omega) h2
def Closed (N:Nat) (ms:List Nat) (S:Nat->Bool):Prop:=∀j k,j<N->S j=true->(fV ms j).testBit k=true->S k=true
theorem Cj {S:Nat->Bool} (hc:Closed ops.size ms S) {i j:Nat} (hi:S i=false) (hj:S j=true) (hjn:j<ops.size):(fV ms j).testBit i=false:=by
 cases hb:(fV ms j).testBit i;·rfl
 ·rw[hc j i hjn hj hb]at hi;cases hi
theorem Rg.seen (R:Rg g n cx df ops ms E Hh V X) (hc:Closed ops.size ms S) {i:Nat} {o:Oper} (ho:ops[i]? =some o) (hS:S i=false) (hr:∀k,(fV ms i).testBit k=true->S k=true) (hx:X i=true)
 {b:Nat} (hb:b<(Hh i).next) (ha:Acc E Hh i o b):kU Hh (Bf Hh X) S ops.size b=(Hh i).get b:=by
 have hi:=Ad ho;rw[xB (i:=i) (by omega),<-R.cur (iG hi) hb]
 ·refine xA λk hk ht=> ?_;obtain⟨ok,hok⟩:=opAt (show k<ops.size by omega);cases hs:S k with
  |true=>rfl
  |false=>
   exfalso;have hnb:(fV ms i).testBit k=false:=by
    cases hb2:(fV ms i).testBit k;·rfl
    ·rw[hr k hb2]at hs;cases hs
   obtain⟨i1,_,i3⟩:=R.ind k i ok o hk hok ho ht.1 hx hnb;rcases aF b (Hh k).next with d|d
   ·rcases ht.2.2 with e|e
    ·exact i1 b (R.wrt hok ht.1 e d) ha
    ·omega
   ·exact i3 b (by rw[Uf];exact d) (by rw[Ug];exact ht.2.1) ha
 ·intro j hj hjn hsj ht;by_cases e:j=i
  ·subst e;rw[hS]at hsj;cases hsj
  ·obtain⟨oj,hoj⟩:=opAt hjn;have hnb:=Cj hc hS hsj hjn;obtain⟨_,i2,_⟩:=R.ind i j o oj (by omega) ho hoj hx ht.1 hnb;have hm:=R.mono (i:=i) (j:=j) (by omega) (by omega);rcases ht.2.2 with d|d
   ·exact i2 b (R.wrt hoj ht.1 d (by omega)) ha
   ·omega
theorem Rg.last (R:Rg g n cx df ops ms E Hh V X) (hc:Closed ops.size ms S) {i:Nat} {o:Oper} (ho:ops[i]? =some o) (hS:S i=false) {b:Nat} (hb:Bf Hh X i b):
 kU Hh (Bf Hh X) (ins S i) ops.size b=(Hh (i+1)).get b:=by
 have hi:=Ad ho;rw[xB (i:=i+1) (by omega)];·simp only[kU];rw[au ⟨nN _ _,hb⟩]
 ·intro j hj hjn hsj ht;rw[pV _ (by omega)]at hsj;obtain⟨oj,hoj⟩:=opAt hjn;have hnb:=Cj hc hS hsj hjn;obtain⟨i1,_,i3⟩:=R.ind i j o oj (by omega) ho hoj hb.1 ht.1 hnb;have hm:=R.mono (i:=i+1) (j:=j) (by omega) (by omega);have hbj:b<(Hh j).next:=bJ hb.2.1 hm
  have hwj:b∈(recAt E Hh j oj).wrt:=by
   rcases ht.2.2 with d|d;·exact R.wrt hoj ht.1 d hbj
   ·omega
  rcases aF b (Hh i).next with d|d
  ·rcases hb.2.2 with e|e
   ·exact i1 b (R.wrt ho hb.1 e d) (IE hwj)
   ·omega
  ·exact i3 b (by rw[Uf];exact d) (by rw[Ug];exact hb.2.1) (IE hwj)
theorem qy {i b:Nat} (hb:¬Bf Hh X i b) (N:Nat):kU Hh (Bf Hh X) (ins S i) N b=kU Hh (Bf Hh X) S N b:=by
 refine xA λk _ ht=> ?_;by_cases e:k=i;·subst e;exact absurd ht hb
 ·exact pV S e
theorem IG {o:Oper}:sV o=match o.dst with|some d=>d+1|none=>0:=rfl
theorem Rg.Uh (R:Rg g n cx df ops ms E Hh V X) {t:Nat} (ht:t<n) (hn:n<=256):∀{i:Nat},i<=ops.size->xq (λt=>(gT t).f (E 0)) (wG ops) V (λ_=>true) i t=(gT t).f (E i)
 |0,_=>rfl
 |i+1,hi=>by
  obtain⟨o,ho⟩:=opAt (show i<ops.size by omega);have he:=(R.st i o ho).env;have hok:=R.ok i o ho;have ih:=R.Uh ht hn (i:=i) (by omega);simp only[xq];have hd:wG ops i=sV o:=by unfold wG;rw[ho]
  rw[hd,he,ih,IG];cases hdst:o.dst with
  |none=>rw[aj (by simp)];rfl
  |some d=>
   have hdn:=yK hok d hdst;show _=(gT t).f ((pT d).f (V i) (E i));by_cases c:d=t;·subst c;rw[au ⟨trivial,rfl⟩,rD (bJ hdn hn)]
   ·rw[aj (by simp;exact c),tT (bJ hdn hn) (bJ ht hn) c]
noncomputable def Bg (g:G) (ops:Array Oper) (o:Oper):List Nat:=(j6 g ops.toList o).rs
theorem Rg.adM (R:Rg g n cx df ops ms E Hh V X) (hc:Closed ops.size ms S) {i:Nat} {o:Oper} (ho:ops[i]? =some o) (hS:S i=false) (hr:∀k,(fV ms i).testBit k=true->S k=true)
 {t:Nat} (ht:t<n) (hn:n<=256) (hrd:t+1∈Bg g ops o):xq (λt=>(gT t).f (E 0)) (wG ops) V S ops.size t=(gT t).f (E i):=by
 have hi:=Ad ho;rw[xw (i:=i) (by omega),<-R.Uh ht hn (iG hi)]
 ·refine xu λk hk hd=> ?_;obtain⟨ok,hok⟩:=opAt (show k<ops.size by omega);cases hs:S k with
  |true=>rfl
  |false=>
   exfalso;have hnb:(fV ms i).testBit k=false:=by
    cases hb2:(fV ms i).testBit k;·rfl
    ·rw[hr k hb2]at hs;cases hs
   have hd':(j6 g ops.toList ok).dn=t+1:=by
    have:wG ops k=sV ok:=by unfold wG;rw[hok]
    rw[this]at hd;exact hd
   obtain⟨h1,_⟩:=Ac (R.apart k i ok o hk hok ho hnb);rw[hd']at h1;rcases h1 with h1|h1;·omega
   ·exact h1.1 hrd
 ·intro j hj hjn hsj hd;by_cases e:j=i
  ·subst e;rw[hS]at hsj;cases hsj
  ·obtain⟨oj,hoj⟩:=opAt hjn;have hnb:=Cj hc hS hsj hjn;have hd':(j6 g ops.toList oj).dn=t+1:=by
    have:wG ops j=sV oj:=by unfold wG;rw[hoj]
    rw[this]at hd;exact hd
   obtain⟨_,h2⟩:=Ac (R.apart i j o oj (by omega) ho hoj hnb);rw[hd']at h2;rcases h2 with h2|h2;·omega
   ·exact h2 hrd
theorem Rg.ZQ (R:Rg g n cx df ops ms E Hh V X) (hc:Closed ops.size ms S) {i:Nat} {o:Oper} (ho:ops[i]? =some o) (hS:S i=false) {t:Nat}:
 xq (λt=>(gT t).f (E 0)) (wG ops) V (ins S i) ops.size t=if sV o=t+1 then V i else xq (λt=>(gT t).f (E 0)) (wG ops) V S ops.size t:=by
 have hi:=Ad ho;have hdi:wG ops i=sV o:=by unfold wG;rw[ho]
 by_cases c:sV o=t+1
 ·rw[au c,xw (i:=i+1) (by omega)]
  ·simp only[xq];rw[au ⟨nN _ _,by rw[hdi];exact c⟩]
  ·intro j hj hjn hsj hd;rw[pV _ (by omega)]at hsj;obtain⟨oj,hoj⟩:=opAt hjn;have hnb:=Cj hc hS hsj hjn;obtain⟨h1,_⟩:=Ac (R.apart i j o oj (by omega) ho hoj hnb);have hdj:wG ops j=sV oj:=by unfold wG;rw[hoj]
   rcases h1 with h1|h1;·have h1:sV o=0:=h1;omega
   ·have h1:sV o≠sV oj:=h1.2;rw[hdj]at hd;omega
 ·rw[aj c];refine xu λk _ hd=> ?_;by_cases e:k=i
  ·subst e;rw[hdi]at hd;exact absurd hd c
  ·exact pV S e
end
def D6 (ι:aV) (m:Nat):aV:=λb=>if b<m then ι b else none
theorem rJ {ι:aV} {m b:Nat} (h:b<m):D6 ι m b=ι b:=by simp[D6,h]
theorem O4 {ι:aV} {m b:Nat} (h:m<=b):D6 ι m b=none:=by simp[D6];omega
theorem vF {ι:aV} {m b:Nat} {x:Nm} (h:D6 ι m b=some x):b<m/\ι b=some x:=by
 by_cases c:b<m;·rw[rJ c]at h;exact⟨c,h⟩
 ·rw[O4 (by omega)]at h;cases h
def MP (ι ι':aV) (lo hi:Nat):aV:=λb=>if lo<=b/\b<hi then ι' b else ι b
theorem yQ {ι ι':aV} {lo hi b:Nat} (h1:lo<=b) (h2:b<hi):MP ι ι' lo hi b=ι' b:=by simp[MP,h1,h2]
theorem lM {ι ι':aV} {lo hi b:Nat} (h:b<lo\/hi<=b):MP ι ι' lo hi b=ι b:=by unfold MP;rw[aj (by omega)]
structure Inv (n:Nat) (ops:Array Oper) (E:Nat->Env) (Hh:Nat->H) (V:Nat->AV) (X:Nat->Bool) (WW:List Nat) (ι0:aV) (w0:World) (ds:List Deferred)
 (S:Nat->Bool) (ι:aV) (a:Go.Act) (w:World):Prop where
 sz:a.tmps.size=n
 env:∀t,t<n->VR ι (xq (λt=>(gT t).f (E 0)) (wG ops) V S ops.size t) (a.tmps.getD t undef)
 vC:a.defers=ds
 blk:∀b x,kU Hh (Bf Hh X) S ops.size b=some x->∃m o,ι b=some m/\w.heap[m.B]? =some o/\BR ι x o m
 inj:∀b b' x x' m m',kU Hh (Bf Hh X) S ops.size b=some x->kU Hh (Bf Hh X) S ops.size b'=some x'->ι b=some m->ι b'=some m'->m.B=m'.B->b=b'
 dom:∀b m,ι b=some m->b<(Hh 0).next\/∃k,k<ops.size/\S k=true/\X k=true/\(Hh k).next<=b/\b<(Hh (k+1)).next
 old:∀b,b<(Hh 0).next->ι b=ι0 b
 size:w0.heap.size<=w.heap.size
 heap:∀k,k<w0.heap.size->(∀b∈WW,∀m,ι0 b=some m->m.B≠k)->w.heap[k]? =w0.heap[k]?
 new:∀b m,(Hh 0).next<=b->ι b=some m->w0.heap.size<=m.B\/∃b0∈WW,∃m0,ι0 b0=some m0/\m0.B=m.B
 os:w.os=w0.os
 tape:w.tape=w0.tape
 out:w.output=w0.output
theorem Loc.of {ι ι':aV} {h h':H} {w w':World} {W:List Nat} (k:WR ι h w) (k':WR ι' h' w') (e:Ext ι h w ι' h' w' W):Loc ι h w ι' h' w' W where
 toExt:=e
 most:=k'.most
 fresh:=k'.fresh
 blk b x _ hb hx:=k'.blk b x trivial hb hx
 inj1 b x m hb hbn hx hm:=by
  rcases e.new b m hb hm with h1|⟨b0,hb0,m0,hm0,hB⟩
  ·exact .inl h1
  ·refine .inr ⟨b0,hb0,m0,hm0,hB,?_⟩;have hlt:b0<h.next:=k.lt hm0;cases hg:h'.get b0 with
   |none=>rfl
   |some y=>
    have Ae:ι' b0=some m0:=by rw[e.Ce b0 hlt];exact hm0
    have:=k'.inj b0 b y x m0 m trivial trivial (bJ hlt e.next) hbn hg hx Ae hm hB;omega
 inj2 b b' x x' m m' _ _ hb hb' hx hx' hm hm' hB:=k'.inj b b' x x' m m' trivial trivial hb hb' hx hx' hm hm' hB
section
variable {P:Program} {g:G} {n:Nat} {cx:Cx} {df:List Df} {ops:Array Oper} {ms:List Nat} {E:Nat->Env} {Hh:Nat->H} {V:Nat->AV} {X:Nat->Bool} {S:Nat->Bool} {WW:List Nat} {ι0 ι:aV} {w0 w:World} {ds:List Deferred} {a:Go.Act}
theorem Inv.unnamed (R:Rg g n cx df ops ms E Hh V X) (I:Inv n ops E Hh V X WW ι0 w0 ds S ι a w) {i:Nat} (hi:i<ops.size) (hS:S i=false) {b:Nat} (h1:(Hh i).next<=b) (h2:b<(Hh (i+1)).next):ι b=none:=by
 cases hb:ι b with
 |none=>rfl
 |some m=>
  exfalso;rcases I.dom b m hb with h|⟨k,hk,hsk,_,h3,h4⟩
  ·have:=R.mono (i:=0) (j:=i) (by omega) (by omega);omega
  ·rcases kZ k i with c|c|c
   ·have:=R.mono (i:=k+1) (j:=i) (by omega) (by omega);omega
   ·subst c;rw[hS]at hsk;cases hsk
   ·have:=R.mono (i:=i+1) (j:=k) (by omega) (by omega);omega
theorem Inv.ZR (R:Rg g n cx df ops ms E Hh V X) {i:Nat} (hi:i<=ops.size):∃(ι1:aV) (t:Array Value) (w1:World),fU ι1 n (E i) t/\WR ι1 (Hh i) w1/\∀b m,ι1 b=some m->D6 ι (Hh i).next b=ι b:=by obtain⟨ι1,t,w1,h1,h2⟩:=R.text i hi;exact⟨ι1,t,w1,h1,h2,λb m hb=>rJ (h2.lt hb)⟩
theorem Inv.wr (R:Rg g n cx df ops ms E Hh V X) (hc:Closed ops.size ms S) (I:Inv n ops E Hh V X WW ι0 w0 ds S ι a w) {i:Nat} {o:Oper} (ho:ops[i]? =some o) (hS:S i=false) (hr:∀k,(fV ms i).testBit k=true->S k=true) (hx:X i=true):
 WR (D6 ι (Hh i).next) (Hh i) w (Acc E Hh i o):=by
 have hi:=Ad ho;obtain⟨ι1,t,w1,h1,h2,hcut⟩:=Inv.ZR (ι:=ι) R (iG hi);refine⟨h2.most,λb hb=>O4 hb,λb x hD hb hxb=> ?_,λb b' x x' m m' hD hD' hb hb' hx1 hx2 hm hm' hB=> ?_⟩;·have hs:=R.seen hc ho hS hr hx hb hD;obtain⟨m,ob,q1,q2,q3⟩:=I.blk b x (by rw[hs];exact hxb);obtain⟨m1,o1,_,_,q4⟩:=h2.blk b x trivial hb hxb;exact⟨m,ob,by rw[rJ hb];exact q1,q2,BR.cut hcut q4 q3⟩
 ·have hs:=R.seen hc ho hS hr hx hb hD;have hs':=R.seen hc ho hS hr hx hb' hD';rw[rJ hb]at hm;rw[rJ hb']at hm';exact I.inj b b' x x' m m' (by rw[hs];exact hx1) (by rw[hs'];exact hx2) hm hm' hB
theorem Inv.en (R:Rg g n cx df ops ms E Hh V X) (hc:Closed ops.size ms S) (I:Inv n ops E Hh V X WW ι0 w0 ds S ι a w) {i:Nat} {o:Oper} (ho:ops[i]? =some o) (hS:S i=false) (hr:∀k,(fV ms i).testBit k=true->S k=true)
 {l:List Nat} (hl:∀t∈l,t<n/\t+1∈Bg g ops o):fU (D6 ι (Hh i).next) n (sM (E i) l) a.tmps:=by
 have hi:=Ad ho;obtain⟨ι1,tt,w1,h1,h2,hcut⟩:=Inv.ZR (ι:=ι) R (iG hi);have hn:=h1.most;have ZT:∀x∈l,x<256:=λx hx=>bJ (hl x hx).1 hn;refine⟨I.sz,hn,λt ht=> ?_,λt h1 h2=> ?_⟩
 ·rw[qx (bJ ht hn) ZT];by_cases c:t∈l
  ·rw[au c];have hv:=I.env t ht;rw[R.adM hc ho hS hr ht hn (hl t c).2]at hv;exact VR.cut hcut (h1.at_ t ht) hv
  ·rw[aj c];exact trivial
 ·rw[qx h2 ZT,aj (λc=>by have:=(hl t c).1;omega)]
theorem Inv.gi (R:Rg g n cx df ops ms E Hh V X) (I:Inv n ops E Hh V X WW ι0 w0 ds S ι a w) (k0:WR ι0 (Hh 0) w0) (hG:GI ι0) {i:Nat} (hi:i<=ops.size):GI (D6 ι (Hh i).next):=by intro x hx;obtain⟨cs,e⟩:=hG x hx;have hlt:=k0.lt e;have:=R.mono (i:=0) (j:=i) (by omega) hi;exact⟨cs,by rw[rJ (by omega),I.old x hlt];exact e⟩
theorem Inv.step (R:Rg g n cx df ops ms E Hh V X) (hc:Closed ops.size ms S) (I:Inv n ops E Hh V X WW ι0 w0 ds S ι a w) {i:Nat} {o:Oper} (ho:ops[i]? =some o) (hS:S i=false) (hr:∀k,(fV ms i).testBit k=true->S k=true) (hx:X i=true)
 (XU:∀b∈wl Hh i,b∈WW) {ι':aV} {w':World} {W:List Nat} {v':Value} (L:Loc (D6 ι (Hh i).next) (Hh i) w ι' (Hh (i+1)) w' W) (hv:VR ι' (V i) v'):
 ∃ι2,Inv n ops E Hh V X WW ι0 w0 ds (ins S i) ι2 (a.put o.dst v') w':=by
 have hi:=Ad ho
 have sf:=R.sf i hi hx
 have hW:W=wl Hh i:=by
  have h1:=L.log
  rw[sf.log]at h1
  exact(List.append_cancel_right h1).symm
 subst hW
 have hns:∀b,(Hh i).next<=b->b<(Hh (i+1)).next->ι b=none:=λb h1 h2=>I.unnamed R hi hS h1 h2
 have hm1:(Hh i).next<=(Hh (i+1)).next:=sf.next
 have h0i:=R.mono (i:=0) (j:=i) (by omega) (by omega)
 have hle:ι.le (MP ι ι' (Hh i).next (Hh (i+1)).next):=λb m hb=>by
  by_cases c:(Hh i).next<=b/\b<(Hh (i+1)).next
  ·rw[hns b c.1 c.2]at hb;cases hb
  ·rw[lM (by omega)];exact hb
 have hle':ι'.le (MP ι ι' (Hh i).next (Hh (i+1)).next):=λb m hb=>by
  rcases aF b (Hh i).next with c|c
  ·rw[lM (.inl c),<-rJ (ι:=ι) c,<-L.Ce b c];exact hb
  ·rcases aF b (Hh (i+1)).next with d|d
   ·rw[yQ c d];exact hb
   ·rw[L.fresh b d]at hb;cases hb
 have chg:∀b,b∈wl Hh i->b<(Hh i).next->∃y,kU Hh (Bf Hh X) S ops.size b=some y/\(Hh i).get b=some y:=λb hb hl=>by
  obtain⟨y,hy⟩:=sf.live b hb hl
  exact⟨y,by rw[R.seen hc ho hS hr hx hl (IE (R.wrt ho hx hb hl))];exact hy,hy⟩
 have tch:∀b,Bf Hh X i b↔(b<(Hh (i+1)).next/\(b∈wl Hh i\/(Hh i).next<=b)):=λb=>⟨λh=>h.2,λh=>⟨hx,h⟩⟩
 have back:∀b x,b<(Hh i).next\/(Hh (i+1)).next<=b->kU Hh (Bf Hh X) (ins S i) ops.size b=some x->∃y,kU Hh (Bf Hh X) S ops.size b=some y:=λb x hb hx'=>by
  by_cases c:Bf Hh X i b
  ·rcases hb with hb|hb
   ·rcases c.2.2 with d|d
    ·obtain⟨y,hy,_⟩:=chg b d hb;exact⟨y,hy⟩
    ·omega
   ·have:=c.2.1;omega
  ·rw[qy c]at hx';exact⟨x,hx'⟩
 have ahq:∀b x m,kU Hh (Bf Hh X) S ops.size b=some x->ι b=some m->m.B<w.heap.size:=λb x m hb hm=>by
  obtain⟨m1,o1,q1,q2,_⟩:=I.blk b x hb
  rw[hm]at q1;cases q1
  exact(dM.1 q2).1
 refine⟨MP ι ι' (Hh i).next (Hh (i+1)).next,?_,?_,?_,?_,?_,?_,?_,?_,?_,?_,?_,?_,?_⟩
 ·
  have:=I.sz
  cases hd:o.dst<;>simp[Act.put,this]
 ·
  intro t ht
  rw[R.ZQ hc ho hS]
  have hv0:=(I.env t ht).mono hle
  rw[IG]
  cases hd:o.dst with
  |none=>
   rw[aj (by simp)];exact hv0
  |some d=>
   show VR _ _ ((a.tmps.setIfInBounds d v').getD t undef)
   by_cases c:d=t
   ·subst c
    rw[au rfl,tq _ _ (by rw[I.sz];exact ht)]
    exact hv.mono hle'
   ·rw[aj (by simp;exact c),getD_set_ne _ _ c]
    exact hv0
 ·rw[put_defers];exact I.vC
 ·
  intro b x hb
  by_cases c:Bf Hh X i b
  ·rw[R.last hc ho hS c]at hb
   obtain⟨m,ob,q1,q2,q3⟩:=L.blk b x c.2.2 c.2.1 hb
   exact⟨m,ob,hle' _ _ q1,q2,q3.mono hle'⟩
  ·rw[qy c]at hb
   obtain⟨m,ob,q1,q2,q3⟩:=I.blk b x hb
   refine⟨m,ob,hle _ _ q1,?_,q3.mono hle⟩
   rw[L.heap m.B (dM.1 q2).1,q2]
   intro b1 hb1 m1 Ui hB
   obtain⟨hlt,Ke⟩:=vF Ui
   obtain⟨y,hy,_⟩:=chg b1 hb1 hlt
   have:=I.inj b1 b y x m1 m hy hb Ke q1 hB
   subst this
   exact c ⟨hx,by omega, .inl hb1⟩
 ·
  have mix:∀b b' x x' m m',(Hh i).next<=b->b<(Hh (i+1)).next->(b'<(Hh i).next\/(Hh (i+1)).next<=b')->kU Hh (Bf Hh X) (ins S i) ops.size b=some x->kU Hh (Bf Hh X) (ins S i) ops.size b'=some x'->
   ι' b=some m->ι b'=some m'->m.B≠m'.B:=λb b' x x' m m' h1 h2 h3 hb hb' hm hm' hB=>by
   have ct:Bf Hh X i b:=⟨hx,h2, .inr h1⟩
   rw[R.last hc ho hS ct]at hb
   obtain⟨y',hy'⟩:=back b' x' h3 hb'
   have hlt:=ahq b' y' m' hy' hm'
   rcases L.inj1 b x m h1 h2 hb hm with q|⟨b0,hb0,m0,hm0,hB0,Uj⟩
   ·omega
   ·obtain⟨hl0,Ae⟩:=vF hm0
    obtain⟨y,hy,_⟩:=chg b0 hb0 hl0
    have:=I.inj b0 b' y y' m0 m' hy hy' Ae hm' (hB0.trans hB)
    subst this
    have ct':Bf Hh X i b0:=⟨hx,by omega, .inl hb0⟩
    rw[R.last hc ho hS ct',Uj]at hb'
    cases hb'
  intro b b' x x' m m' hb hb' hm hm' hB
  by_cases c:(Hh i).next<=b/\b<(Hh (i+1)).next
  ·rw[yQ c.1 c.2]at hm
   by_cases c':(Hh i).next<=b'/\b'<(Hh (i+1)).next
   ·rw[yQ c'.1 c'.2]at hm'
    rw[R.last hc ho hS ⟨hx,c.2, .inr c.1⟩]at hb
    rw[R.last hc ho hS ⟨hx,c'.2, .inr c'.1⟩]at hb'
    exact L.inj2 b b' x x' m m' c.1 c'.1 c.2 c'.2 hb hb' hm hm' hB
   ·rw[lM (by omega)]at hm'
    exact absurd hB (mix b b' x x' m m' c.1 c.2 (by omega) hb hb' hm hm')
  ·rw[lM (by omega)]at hm
   by_cases c':(Hh i).next<=b'/\b'<(Hh (i+1)).next
   ·rw[yQ c'.1 c'.2]at hm'
    exact absurd hB.symm (mix b' b x' x m' m c'.1 c'.2 (by omega) hb' hb hm' hm)
   ·rw[lM (by omega)]at hm'
    obtain⟨y,hy⟩:=back b x (by omega) hb
    obtain⟨y',hy'⟩:=back b' x' (by omega) hb'
    exact I.inj b b' y y' m m' hy hy' hm hm' hB
 ·
  intro b m hb
  by_cases c:(Hh i).next<=b/\b<(Hh (i+1)).next
  ·exact .inr ⟨i,hi,nN _ _,hx,c.1,c.2⟩
  ·rw[lM (by omega)]at hb
   rcases I.dom b m hb with h|⟨k,hk,hsk,h1,h2⟩
   ·exact .inl h
   ·refine .inr ⟨k,hk,?_,h1,h2⟩
    by_cases e:k=i
    ·subst e;exact nN _ _
    ·rw[pV _ e];exact hsk
 ·intro b hb
  rw[lM (.inl (by omega))];exact I.old b hb
 ·exact bF I.size L.size
 ·intro k hk hn
  rw[L.heap k (bJ hk I.size),I.heap k hk hn]
  intro b1 hb1 m1 Ui hB
  obtain⟨hlt,Ke⟩:=vF Ui
  rcases aF b1 (Hh 0).next with d|d
  ·rw[I.old b1 d]at Ke
   exact hn b1 (XU b1 hb1) m1 Ke hB
  ·rcases I.new b1 m1 d Ke with q|⟨b0,hb0,m0,hm0,hB0⟩
   ·omega
   ·exact hn b0 hb0 m0 hm0 (hB0.trans hB)
 ·intro b m hb hm
  by_cases c:(Hh i).next<=b/\b<(Hh (i+1)).next
  ·rw[yQ c.1 c.2]at hm
   rcases L.new b m c.1 hm with q|⟨b0,hb0,m0,hm0,hB0⟩
   ·exact .inl (bF I.size q)
   ·obtain⟨hlt,Ae⟩:=vF hm0
    rcases aF b0 (Hh 0).next with d|d
    ·rw[I.old b0 d]at Ae
     exact .inr ⟨b0,XU b0 hb0,m0,Ae,hB0⟩
    ·rcases I.new b0 m0 d Ae with q|⟨b1,hb1,m1,hm1,hB1⟩
     ·left;omega
     ·exact .inr ⟨b1,hb1,m1,hm1,hB1.trans hB0⟩
  ·rw[lM (by omega)]at hm
   exact I.new b m hb hm
 ·exact L.os.trans I.os
 ·exact L.tape.trans I.tape
 ·exact L.out.trans I.out
end
section
variable {P:Program} {g:G} {n:Nat} {cx:Cx} {df:List Df} {ops:Array Oper} {ms:List Nat} {E:Nat->Env} {Hh:Nat->H} {V:Nat->AV} {X:Nat->Bool} {S:Nat->Bool} {WW:List Nat} {ι0 ι:aV} {w0 w:World} {ds:List Deferred} {a:Go.Act} {b:Frame} {cs:List Frame}
theorem Inv.skip (R:Rg g n cx df ops ms E Hh V X) (hc:Closed ops.size ms S) (I:Inv n ops E Hh V X WW ι0 w0 ds S ι a w) {i:Nat} {o:Oper} (ho:ops[i]? =some o) (hS:S i=false) (hx:X i=false):
 Inv n ops E Hh V X WW ι0 w0 ds (ins S i) ι (a.put o.dst undef) w:=by
 have hv:=((R.st i o ho).no hx).2.1;have hnt:∀b,¬Bf Hh X i b:=λb h=>by rw[h.1]at hx;cases hx
 refine⟨?_,?_,?_,?_,?_,?_,I.old,I.size,I.heap,I.new,I.os,I.tape,I.out⟩;·have:=I.sz;cases hd:o.dst<;>simp[Act.put,this]
 ·intro t ht;rw[R.ZQ hc ho hS,IG];cases hd:o.dst with
  |none=>rw[aj (by simp)];exact I.env t ht
  |some d=>
   show VR _ _ ((a.tmps.setIfInBounds d undef).getD t undef);by_cases c:d=t;·subst c;rw[au rfl,tq _ _ (by rw[I.sz];exact ht),hv];exact⟨#[],rfl,rfl⟩
   ·rw[aj (by simp;exact c),getD_set_ne _ _ c];exact I.env t ht
 ·rw[put_defers];exact I.vC
 ·intro b x hb;rw[qy (hnt b)]at hb;exact I.blk b x hb
 ·intro b b' x x' m m' hb hb' hm hm' hB;rw[qy (hnt b)]at hb;rw[qy (hnt b')]at hb';exact I.inj b b' x x' m m' hb hb' hm hm' hB
 ·intro b m hb;rcases I.dom b m hb with h|⟨k,hk,hsk,h1,h2⟩
  ·exact .inl h
  ·refine .inr ⟨k,hk,?_,h1,h2⟩;by_cases e:k=i
   ·subst e;exact nN _ _
   ·rw[pV _ e];exact hsk
noncomputable def QJ (g:G) (ops:Array Oper) (o:Oper):List Nat:=((Bg g ops o).filter (λs=>s !=0)).map (λs=>s-1)
theorem vG {o:Oper} {t:Nat}:t∈QJ g ops o↔t+1∈Bg g ops o:=by
 unfold QJ;rw[bX];constructor
 ·rintro⟨s,hs,rfl⟩;rw[kg]at hs;have:s≠0:=by simpa using hs.2
  rw[show s-1+1=s by omega];exact hs.1
 ·intro h;exact⟨t+1,by rw[kg];exact⟨h,by simp⟩,by omega⟩
theorem Af {t:Nat}:∀{l:List Operand},t+1∈slots l↔.tmp t∈l
 |[]=>⟨(λh=>by cases h),(λh=>by cases h)⟩
 |x::l=>by
  have e:slots (x::l)=slot x++slots l:=rfl
  rw[e,iE,aR,Af]
  have:t+1∈slot x↔Operand.tmp t=x:=by
   cases x with
   |tmp u=>
    show t+1∈[u+1]↔_
    rw[eG]
    exact⟨λh=>by have:t=u:=by omega
                 rw[this],λh=>by injection h with h;rw[h]⟩
   |_=>exact⟨(λh=>by cases h),(λh=>by cases h)⟩
  rw[this]
theorem MQ {o:Oper}:Bg g ops o=vH ops.toList o++slots o.op.operands.toList:=rfl
theorem D7 {o:Oper} (hok:fK n ops.toList o=true) {t:Nat} (h:t+1∈Bg g ops o):t<n:=by
 rw[MQ,iE]at h;rcases h with h|h
 ·unfold fK at hok;simp only[aQ]at hok;have h3:=hok.2;unfold vH at h;cases hg:o.guard with
  |none=>rw[hg]at h;cases h
  |some jw=>
   obtain⟨j,wn⟩:=jw;rw[hg]at h h3;dsimp only at h h3;cases hj:ops.toList[j]? with
   |none=>rw[hj]at h;cases h
   |some x=>
    rw[hj]at h h3;dsimp only at h h3;rw[eG]at h;cases hd:x.dst with
    |none=>rw[hd]at h3;cases h3
    |some d=>
     rw[hd]at h3;have h3:Nat.blt d n=true:=h3;have:sV x=d+1:=by unfold sV;rw[hd]
     rw[this]at h;have:=Iy h3;omega
 ·have h1:=Af.1 h;have:=dZ.1 (wY hok) _ h1;exact Iy this
theorem XV {o:Oper} {en:Env} (hok:fK n ops.toList o=true) (hn:n<=256):∀x∈o.op.operands.toList,(ev x).f (sM en (QJ g ops o))=(ev x).f en:=by
 intro x hx;have aa4:∀y∈QJ g ops o,y<256:=λy hy=>bJ (D7 hok (vG.1 hy)) hn;cases x with
 |tmp t=>
  have hm:t+1∈Bg g ops o:=by rw[MQ];exact iM _ (Af.2 hx)
  show(gT t).f (sM en (QJ g ops o))=(gT t).f en;rw[qx (bJ (D7 hok hm) hn) aa4,au (vG.2 hm)]
 |_=>rfl
theorem XW {o:Oper} {en:Env} (hok:fK n ops.toList o=true) (hn:n<=256):Ma ops.toList o (sM en (QJ g ops o))=Ma ops.toList o en:=by
 have aa4:∀y∈QJ g ops o,y<256:=λy hy=>bJ (D7 hok (vG.1 hy)) hn;unfold Ma;cases hg:o.guard with
 |none=>rfl
 |some jw=>
  obtain⟨j,wn⟩:=jw;dsimp only;cases ht:yL ops.toList j with
  |none=>rfl
  |some t=>
   dsimp only;have hm:t+1∈Bg g ops o:=by
    rw[MQ];refine iF _ ?_;unfold vH;rw[hg];dsimp only;unfold yL at ht;cases hj:ops.toList[j]? with
    |none=>rw[hj]at ht;cases ht
    |some x=>
     rw[hj]at ht;dsimp only at ht⊢;have:sV x=t+1:=by unfold sV;rw[ht]
     rw[this];exact eG.2 rfl
   rw[qx (bJ (D7 hok hm) hn) aa4,au (vG.2 hm)]
theorem Uk {ι:aV} {en:Env} {o:Oper} (hok:fK n ops.toList o=true) (hE:fU ι n en a.tmps):
 (Ma ops.toList o en= .t->Region.wanted o (yielded ops a.tmps)=true)/\(Ma ops.toList o en= .f->Region.wanted o (yielded ops a.tmps)=false):=by
 cases hg:o.guard with
 |none=>
  have e:Ma ops.toList o en= .t:=by unfold Ma;rw[hg]
  rw[e];exact⟨(λ_=>by unfold Region.wanted;rw[hg]),(λh=>by cases h)⟩
 |some jw=>
  obtain⟨j,wn⟩:=jw;cases ht:yL ops.toList j with
  |none=>
   have e:Ma ops.toList o en= .none:=by unfold Ma;rw[hg];dsimp only;rw[ht];rfl
   rw[e];exact⟨(λh=>by cases h),(λh=>by cases h)⟩
  |some t=>
   have e:Ma ops.toList o en=J2 wn ((gT t).f en):=by unfold Ma;rw[hg];dsimp only;rw[ht]
   rw[e];exact JZ hok hE hg ht
theorem QK {op:Op} {x:Act} (hk:nX g op= .plain x):x=Fx g op\/∀en h,x.f en h= .fail:=by
 cases op with
 |call c=>
  cases hc:c.callee with
  |value f=>simp only[nX,hc]at hk;cases hk
  |invoke r m=>simp only[nX,hc]at hk;cases hk
  |builtin bb=>cases bb<;>first
   |(simp only[nX,hc]at hk;cases hk;exact .inl rfl)
   |(simp only[nX,hc]at hk;cases hk)
 |defer c=>cases hc:c.callee<;>simp only[nX,hc]at hk<;>cases hk<;>exact .inr λ_ _=>rfl
 |_=>cases hk;exact .inl rfl
theorem Inv.op (hg:jP P g) (R:Rg g n cx df ops ms E Hh V X) (hc:Closed ops.size ms S) (I:Inv n ops E Hh V X WW ι0 w0 ds S ι a w) (hcx:Qy P cx) (k0:WR ι0 (Hh 0) w0) (hG:GI ι0)
 {i:Nat} {rest:List Nat} {kk:List Item} {o:Oper} (ho:ops[i]? =some o) (hS:S i=false) (hr:∀k,(fV ms i).testBit k=true->S k=true) (XU:X i=true->∀b∈wl Hh i,b∈WW):
 ∃ι2 a2 w2,Steps P (lone (St b a (.inRegion ops (i::rest)::kk)) cs w) (lone (St b a2 (.inRegion ops rest::kk)) cs w2)/\Inv n ops E Hh V X WW ι0 w0 ds (ins S i) ι2 a2 w2:=by
 have hi:=Ad ho;have hok:=R.ok i o ho;have hop:=wY hok;obtain⟨_,_,_,hE1,_⟩:=R.text i (iG hi);have hn:=hE1.most;have hE:=I.en R hc ho hS hr (l:=QJ g ops o) (λt ht=>⟨D7 hok (vG.1 ht),vG.1 ht⟩);have hgd:=Uk hok hE;rw[XW hok hn]at hgd;have hGi:=I.gi R k0 hG (iG hi);cases hx:X i with
 |false=>
  obtain⟨h1,_,_⟩:=(R.st i o ho).no hx;have hw:=hgd.2 h1;have hstep:Go.step P (lone (St b a (.inRegion ops (i::rest)::kk)) cs w)= .next (lone (St b (a.put ((ops[i]?).bind (·.dst)) undef) (.inRegion ops rest::kk)) cs w):=
   DC (by rw[ho];exact hw)
  rw[ho]at hstep;exact⟨ι,a.put o.dst undef,w, .one hstep,I.skip R hc ho hS hx⟩
 |true=>
  obtain⟨h1,h2⟩:=(R.st i o ho).run hx;have hw:=hgd.1 h1;have hwr:=I.wr R hc ho hS hr hx;have hev:=XV (g:=g) (en:=E i) hok hn;have hdr:=R.dr i o ho;cases hk:nX g o.op with
  |plain x=>
   rw[hk]at h2;obtain⟨e,_⟩:=h2;have e':x.f (sM (E i) (QJ g ops o)) (Hh i)= .ok (V i) (Hh (i+1)):=by
    rcases QK hk with rfl|hf;·rw[QG o.op hev];exact e
    ·rw[hf]at e;cases e
   obtain⟨ι',W,v',w',hs,hv,hL⟩:=DI (b:=b) (cs:=cs) (rest:=rest) (kk:=kk) hg hwr hE hGi ho hop hw hk e' (λf hf bl hbl=>by
    rw[QH o.op hev hf]at hbl;right;unfold recAt nZ;rw[hf];exact iF _ hbl)
   obtain⟨ι2,hI⟩:=I.step R hc ho hS hr hx (XU hx) hL hv;exact⟨ι2,_,w',hs,hI⟩
  |call f as=>
   rw[hk]at h2;obtain⟨e,_⟩:=h2;obtain⟨c,r,hoc,rfl,hacc,adN,hcv⟩:=J3 hk;have hops:∀y∈c.operands.toList,(ev y).f (sM (E i) (QJ g ops o))=(ev y).f (E i):=λy hy=>hev y (by rw[hoc];exact hy);have hr1:(ev r).f (sM (E i) (QJ g ops o))=(ev r).f (E i):=hops r (by rw[adN];simp);have hf:f.f (sM (E i) (QJ g ops o))=f.f (E i):=by
    rcases hcv with⟨_,rfl⟩|⟨nm,_,rfl⟩
    ·exact hr1
    ·show TM _ _=TM _ _;rw[hr1]
   have has:(opsL c.args.toList).f (sM (E i) (QJ g ops o))=(opsL c.args.toList).f (E i):=nK _ (λy hy=>hops y (by
    rw[adN,pR];exact iM _ hy))
   have hcall:(recAt E Hh i o).call=true:=by unfold recAt nZ;rw[hacc]
   have adO:WR (D6 ι (Hh i).next) (Hh i) w:=⟨hwr.most,hwr.fresh,λb x _ h1 h2=>hwr.blk b x (.inl hcall) h1 h2,λb b' x x' m m' _ _=>hwr.inj b b' x x' m m' (.inl hcall) (.inl hcall)⟩
   obtain⟨ι',W,v',w',hs,hv,hwr2,hext⟩:=FT (b:=b) (cs:=cs) (rest:=rest) (kk:=kk) hcx adO hE hGi ho hop hw hk (v:=V i) (h':=Hh (i+1)) (by rw[hf,has];exact e);obtain⟨ι2,hI⟩:=I.step R hc ho hS hr hx (XU hx) (Loc.of adO hwr2 hext) hv;exact⟨ι2,_,w',hs,hI⟩
  |defer f as=>rw[hk]at hdr;cases hdr
  |recover=>rw[hk]at hdr;cases hdr
theorem Rg.ready (R:Rg g n cx df ops ms E Hh V X) (hc:Closed ops.size ms S) {i:Nat} {o:Oper} (ho:ops[i]? =some o) (he:∀e∈lH o,S e=true):∀k,(fV ms i).testBit k=true->S k=true:=by
 intro k hb;obtain⟨e,hm,h⟩:=R.msk i o k ho hb;rcases h with rfl|h;·exact he k hm
 ·exact hc e k (Nat.lt_trans (R.es i o ho e hm) (Ad ho)) (he e hm) h
theorem Rg.closed (_R:Rg g n cx df ops ms E Hh V X) (hc:Closed ops.size ms S) {i:Nat} (hr:∀k,(fV ms i).testBit k=true->S k=true):Closed ops.size ms (ins S i):=by
 intro j k hj hs hb;by_cases ck:k=i;·subst ck;exact nN _ _
 rw[pV _ ck];by_cases cj:j=i;·subst cj;exact hr k hb
 ·rw[pV _ cj]at hs;exact hc j k hj hs hb
def SL (listed:Array Bool):Nat->Bool:=λj=>listed.getD j false
theorem Ul {listed:Array Bool} {i:Nat} (hi:i<listed.size):SL (listed.setIfInBounds i true)=ins (SL listed) i:=by
 funext j;unfold SL ins;by_cases c:j=i;·subst c;simp[hi]
 ·rw[aj c,gJ,jF (λe=>c e.symm)];show _=listed.getD j false;rw[gJ]
theorem QL {o:Oper} {e:Edge} (he:e∈o.after) (hb:Region.binds .any e=true):e.on∈lH o:=by unfold lH;rw[bX];exact⟨e,by rw[kg];exact⟨by simpa using he,hb⟩,rfl⟩
theorem QM {o:Oper} {x:Nat} (h:x∈lH o):∃e∈o.after,Region.binds .any e=true/\e.on=x:=by unfold lH at h;rw[bX]at h;obtain⟨e,he,rfl⟩:=h;rw[kg]at he;exact⟨e,by simpa using he.1,he.2,rfl⟩
theorem XY (hg:jP P g) (R:Rg g n cx df ops ms E Hh V X) (hcx:Qy P cx) (k0:WR ι0 (Hh 0) w0) (hG:GI ι0) {kk:List Item} (XU:∀i,i<ops.size->X i=true->∀b∈wl Hh i,b∈WW):
 ∀(fuel t:Nat) (listed:Array Bool) (ι:aV) (a:Go.Act) (w:World),listed.size=ops.size->Closed ops.size ms (SL listed)->Inv n ops E Hh V X WW ι0 w0 ds (SL listed) ι a w->cnt (SL listed) ops.size<=fuel->
  ∃ι2 a2 w2 S2,Steps P (lone (St b a (.inRegion ops (Region.linearise.go .any ops fuel t listed [])::kk)) cs w) (lone (St b a2 (.inRegion ops []::kk)) cs w2)/\Inv n ops E Hh V X WW ι0 w0 ds S2 ι2 a2 w2/\∀j,j<ops.size->S2 j=true:=by
 intro fuel;induction fuel with
 |zero=>intro t listed ι a w hsz hc I hcnt;refine⟨ι,a,w,SL listed,?_,I,yP (by omega)⟩;simp only[Region.linearise.go,List.reverse_nil];exact .refl _ _
 |succ fuel ih=>
  intro t listed ι a w hsz hc I hcnt;simp only[Region.linearise.go];change ∃ι2 a2 w2 S2,Steps P (lone (St b a (.inRegion ops (match(Region.ready .any ops listed)[t%(Region.ready .any ops listed).length]? with
   |some i=>Region.linearise.go .any ops fuel (t/(Region.ready .any ops listed).length) (listed.setIfInBounds i true) [i]
   |none=>[].reverse)::kk)) cs w) _/\_/\_
  cases hi:(Region.ready .any ops listed)[t%(Region.ready .any ops listed).length]? with
  |none=>
   have hnil:Region.ready .any ops listed=[]:=by
    cases hr:Region.ready .any ops listed with
    |nil=>rfl
    |cons x xs=>rw[hr]at hi;have hlt:t%(x::xs).length<(x::xs).length:=Nat.mod_lt _ (by simp);simp at hi;simp at hlt;omega
   refine⟨ι,a,w,SL listed, .refl _ _,I,yP ?_⟩;by_cases hz:cnt (SL listed) ops.size=0;·exact hz
   ·exfalso;obtain⟨j,hj,hs,hall⟩:=O1 hz;obtain⟨o,ho⟩:=opAt hj;have:j∈Region.ready .any ops listed:=by
     rw[mem_ready];refine⟨?_,o,ho,λe he hb=> ?_⟩
     ·have:listed.getD j false=false:=hs;have hlt:j<listed.size:=by omega
      simp[hlt]at this⊢;exact this
     ·exact hall e.on (R.es j o ho e.on (QL he hb))
    rw[hnil]at this;cases this
  |some i=>
   have hmem:=pI hi;rw[mem_ready]at hmem;obtain⟨hun,o,ho,hall⟩:=hmem;have hilt:i<listed.size:=by rw[hsz];exact Ad ho
   have hS:SL listed i=false:=by unfold SL;simp[hilt]at hun⊢;exact hun
   have he:∀x∈lH o,SL listed x=true:=λx hx=>by obtain⟨e,h1,h2,rfl⟩:=QM hx;exact hall e h1 h2
   have hr:=R.ready hc ho he;obtain⟨ι1,a1,w1,hs1,I1⟩:=I.op (b:=b) (cs:=cs) (kk:=kk) (rest:=Region.linearise.go .any ops fuel (t/(Region.ready .any ops listed).length) (listed.setIfInBounds i true) []) hg R hc hcx k0 hG ho hS hr (XU i (Ad ho));have hc1:=R.closed hc hr;rw[<-Ul hilt]at I1 hc1;have adP:cnt (SL (listed.setIfInBounds i true)) ops.size<=fuel:=by rw[Ul hilt];have:=OZ hS (Ad ho);omega
   obtain⟨ι2,a2,w2,S2,hs2,I2,adQ⟩:=ih (t/(Region.ready .any ops listed).length) (listed.setIfInBounds i true) ι1 a1 w1 (by simp[hsz]) hc1 I1 adP;refine⟨ι2,a2,w2,S2,?_,I2,adQ⟩;dsimp only;rw[linearise_go_acc,List.reverse_singleton,List.singleton_append];exact hs1.trans hs2
