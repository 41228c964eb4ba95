/- The machine's soundness, for drawn regions: who waits for whom; what stands in a slot, and in a block, after some of the operations. -/
import Derived.Test.YtocaiijbhepnnaaGreatDoorAm35
import Derived.Orders
namespace Go.Proofs.YtocaiijbhepnnaaGreatDoor.Am
theorem tY:∀(l:List Nat) (i:Nat),gI l i=l.getD i 0
 |[],i=>by cases i<;>rfl
 |x::l,0=>rfl
 |x::l,i+1=>tY l i
theorem KV (a b:List Nat) (i:Nat) (h:i<a.length):gI (a++b) i=gI a i:=by rw[tY,tY,aU,nL h,aU]
theorem tZ (ms:List Nat) (e:Nat) (es:List Nat):nV ms (e::es)=((2^e|||gI ms e)|||nV ms es):=rfl
theorem yQ {ms ms':List Nat}:∀{es:List Nat},(∀e∈es,gI ms e=gI ms' e)->nV ms es=nV ms' es
 |[],_=>rfl
 |e::es,h=>by rw[tZ,tZ,h e (by simp),yQ (λx hx=>h x (by simp[hx]))]
theorem Eh {ms:List Nat} {k:Nat}:∀{es:List Nat},(nV ms es).testBit k=true->∃e∈es,k=e\/(gI ms e).testBit k=true
 |[],h=>by have:(0:Nat).testBit k=true:=h;simp at this
 |e::es,h=>by
  rw[tZ,Nat.testBit_or,Nat.testBit_or,dG,dG]at h;rcases h with(h|h)|h;·refine⟨e,by simp, .inl ?_⟩;rw[Nat.testBit_two_pow]at h;exact(jm h).symm
  ·exact⟨e,by simp, .inr h⟩
  ·obtain⟨e',he,r⟩:=Eh h;exact⟨e',by simp[he],r⟩
theorem xu (ms:List Nat) (o:DO) (l:List DO):masks ms (o::l)=masks (ms++[nV ms o.es]) l:=by show sN (nV ms o.es) (λm=>masks (List.append ms [m]) l)=_;rw[oN];rfl
theorem Aq:∀(l:List DO) (ms:List Nat) (i:Nat),i<ms.length->gI (masks ms l) i=gI ms i
 |[],_,_,_=>rfl
 |o::l,ms,i,h=>by rw[xu,Aq l _ i (by simp;omega),KV _ _ _ h]
theorem KW:∀(l:List DO) (ms:List Nat) (j:Nat) (o:DO),l[j]? =some o->(∀e∈o.es,e<ms.length+j)->gI (masks ms l) (ms.length+j)=nV (masks ms l) o.es
 |[],_,_,_,h,_=>by simp at h
 |x::l,ms,0,o,h,he=>by
  obtain rfl:x=o:=by simpa using h
  rw[xu,Aq l _ _ (by simp)];rw[tY,aU,cK,pK (ay _)];simp only[uN,List.getElem?_cons_zero,Option.getD_some];refine yQ λe hm=> ?_;have:=he e hm;rw[Aq l _ _ (by simp;omega),KV _ _ _ (by omega)]
 |x::l,ms,j+1,o,h,he=>by rw[xu];have:=KW l (ms++[nV ms x.es]) j o (by simpa using h) (λe hm=>by have:=he e hm;simp;omega);rw[bT,List.length_singleton]at this;rw[show ms.length+(j+1)=ms.length+1+j by omega];exact this
theorem Ei {i:Nat}:∀{es:List Nat},Gz i es=true->∀e∈es,e<i
 |[],_,e,h=>by cases h
 |x::es,h,e,hm=>by
  have e1:Gz i (x::es)=Bool.rec false (Gz i es) (Nat.ble (Nat.succ x) i):=rfl;rw[e1]at h;cases hb:Nat.ble (Nat.succ x) i;·rw[hb]at h;cases h
  ·rw[hb]at h;rw[aH]at hb;rcases aT.1 hm with rfl|hm
   ·exact hb
   ·exact Ei h e hm
theorem BD {o:DO} {pm:Nat}:∀{l:List DO} {i:Nat},nW o pm l i=true->∀k x,l[k]? =some x->pm.testBit (i+k)=true\/uf x o=true
 |[],_,_,k,x,h=>by simp at h
 |y::l,i,h,k,x,hk=>by
  have e1:nW o pm (y::l) i=Bool.rec false (nW o pm l (i+1)) (Bool.rec (uf y o) true (Nat.testBit pm i)):=rfl;rw[e1]at h;have h2:(Bool.rec (uf y o) true (Nat.testBit pm i):Bool)=true/\nW o pm l (i+1)=true:=by
   cases hb:(Bool.rec (uf y o) true (Nat.testBit pm i):Bool)
   ·rw[hb]at h;cases h
   ·rw[hb]at h;exact⟨rfl,h⟩
  cases k with
  |zero=>
   obtain rfl:y=x:=by simpa using hk
   rw[cK];cases ht:Nat.testBit pm i;·rw[ht]at h2;exact .inr h2.1
   ·exact .inl rfl
  |succ k=>have:=BD h2.2 k x (by simpa using hk);rwa [show i+1+k=i+(k+1)by omega]at this
theorem U9 {ms:List Nat}:∀{l:List DO} {i:Nat} {ahead:List DO},okD ms l i ahead=true->∀j o,l[j]? =some o->
 o.ok=true/\Gz (i+j) o.es=true/\nW o (gI ms (i+j)) (ahead++l.take j) 0=true
 |[],_,_,_,j,o,h=>by simp at h
 |x::l,i,ahead,h,j,o,hj=>by
  have e1:okD ms (x::l) i ahead=aA x.ok (aA (nW x (gI ms i) ahead 0) (aA (Gz i x.es) (okD ms l (i+1) (ahead++[x])))):=rfl;rw[e1]at h;obtain⟨h1,h⟩:=aj h;obtain⟨h2,h⟩:=aj h;obtain⟨h3,h4⟩:=aj h;cases j with
  |zero=>
   obtain rfl:x=o:=by simpa using hj
   rw[cK,List.take_zero,iL];exact⟨h1,h3,h2⟩
  |succ j=>have:=U9 h4 j o (by simpa using hj);rw[show i+1+j=i+(j+1)by omega,iJ]at this;exact this
theorem Ar {a b:DO} (h:uf a b=true):(a.dn=0\/(a.dn∉b.rs/\a.dn≠b.dn))/\(b.dn=0\/b.dn∉a.rs):=by
 unfold uf at h;obtain⟨h1,h2⟩:=aj h;constructor
 ·cases hz:Nat.beq a.dn (nat_lit 0)
  ·rw[hz]at h1;obtain⟨h3,h4⟩:=aj h1;right;constructor
   ·intro c;rw[ni.2 c]at h3;cases h3
   ·intro c;rw[c,qP]at h4;cases h4
  ·exact .inl (aR hz)
 ·cases hz:Nat.beq b.dn (nat_lit 0)
  ·rw[hz]at h2;right;intro c;rw[ni.2 c]at h2;cases h2
  ·exact .inl (aR hz)
section
variable (e0:Nat->AV) (dn:Nat->Nat) (V:Nat->AV) (S S':Nat->Bool)
def xw:Nat->Nat->AV
 |0,t=>e0 t
 |i+1,t=>if S i=true/\dn i=t+1 then V i else xw i t
variable {e0 dn V S S'}
theorem xA {i t:Nat} (h:∀k,k<i->dn k=t+1->S k=S' k):xw e0 dn V S i t=xw e0 dn V S' i t:=by
 induction i with
 |zero=>rfl
 |succ i ih=>
  simp only[xw];by_cases c:dn i=t+1;·rw[h i (by omega) c,ih (λk hk=>h k (by omega))]
  ·rw[ak (λx=>c x.2),ak (λx=>c x.2),ih (λk hk=>h k (by omega))]
theorem xB {i N t:Nat} (hN:i<=N) (h:∀j,i<=j->j<N->S j=true->dn j≠t+1):xw e0 dn V S N t=xw e0 dn V S i t:=by
 induction N with
 |zero=>have:i=0:=by omega
        subst this;rfl
 |succ N ih=>
  by_cases c:i=N+1;·subst c;rfl
  ·simp only[xw];rw[ak (λx=>h N (by omega) (by omega) x.1 x.2)];exact ih (by omega) (λj h1 h2=>h j h1 (by omega))
end
section
variable (Hh:Nat->H) (Tc:Nat->Nat->Prop) (S S':Nat->Bool)
open Classical in
noncomputable def lg:Nat->Nat->Option wH
 |0,b=>if b<(Hh 0).next then(Hh 0).get b else none
 |i+1,b=>if S i=true/\Tc i b then(Hh (i+1)).get b else lg i b
variable {Hh Tc S S'}
theorem xC {i b:Nat} (h:∀k,k<i->Tc k b->S k=S' k):lg Hh Tc S i b=lg Hh Tc S' i b:=by
 induction i with
 |zero=>rfl
 |succ i ih=>
  simp only[lg];by_cases c:Tc i b;·rw[h i (by omega) c,ih (λk hk=>h k (by omega))]
  ·rw[ak (λx=>c x.2),ak (λx=>c x.2),ih (λk hk=>h k (by omega))]
theorem xD {i N b:Nat} (hN:i<=N) (h:∀j,i<=j->j<N->S j=true->¬Tc j b):lg Hh Tc S N b=lg Hh Tc S i b:=by
 induction N with
 |zero=>have:i=0:=by omega
        subst this;rfl
 |succ N ih=>
  by_cases c:i=N+1;·subst c;rfl
  ·simp only[lg];rw[ak (λx=>h N (by omega) (by omega) x.1 x.2)];exact ih (by omega) (λj h1 h2=>h j h1 (by omega))
end
def cnt (S:Nat->Bool):Nat->Nat
 |0=>0
 |i+1=>cnt S i+(if S i=true then 0 else 1)
def ins (S:Nat->Bool) (i:Nat):Nat->Bool:=λj=>if j=i then true else S j
theorem nX (S:Nat->Bool) (i:Nat):ins S i i=true:=by simp[ins]
theorem pW (S:Nat->Bool) {i j:Nat} (h:j≠i):ins S i j=S j:=by simp[ins,h]
theorem Va {S:Nat->Bool} {i:Nat}:∀{N},N<=i->cnt (ins S i) N=cnt S N
 |0,_=>rfl
 |N+1,h=>by simp only[cnt];rw[Va (by omega),pW S (by omega)]
theorem PK {S:Nat->Bool} {i:Nat} (hi:S i=false):∀{N},i<N->cnt (ins S i) N+1=cnt S N
 |0,h=>by omega
 |N+1,h=>by
  simp only[cnt];by_cases c:i=N;·subst c;rw[Va (ay _),nX,hi];simp
  ·rw[pW S (by omega)];have:=PK hi (N:=N) (by omega);omega
theorem yR {S:Nat->Bool}:∀{N},cnt S N=0->∀j,j<N->S j=true
 |0,_,j,h=>by omega
 |N+1,h,j,hj=>by
  simp only[cnt]at h;by_cases c:j=N
  ·subst c;by_cases hs:S j=true
   ·exact hs
   ·rw[ak hs]at h;omega
  ·exact yR (N:=N) (by omega) j (by omega)
theorem PN {S:Nat->Bool}:∀{N},cnt S N≠0->∃j,j<N/\S j=false/\∀k,k<j->S k=true
 |0,h=>absurd rfl h
 |N+1,h=>by
  by_cases c:cnt S N=0
  ·have hall:=yR c;simp only[cnt,c]at h;refine⟨N,by omega,?_,hall⟩;cases hs:S N
   ·rfl
   ·rw[hs]at h;simp at h
  ·obtain⟨j,h1,h2,h3⟩:=PN (N:=N) c;exact⟨j,by omega,h2,h3⟩
noncomputable def sK (en:Env):List Nat->Env
 |[]=>NG
 |t::l=>(pT t).f ((gT t).f en) (sK en l)
theorem qw {en:Env} {t:Nat} (ht:t<256):∀{l:List Nat},(∀x∈l,x<256)->(gT t).f (sK en l)=if t∈l then(gT t).f en else .bad
 |[],_=>by rw[ak (by simp)];exact Jm ht
 |x::l,h=>by
  have hx:=h x (by simp);have ih:=qw (en:=en) ht (l:=l) (λy hy=>h y (by simp[hy]));simp only[sK];by_cases c:x=t;·subst c;rw[rD hx,au (by simp)]
  ·rw[tV hx ht c,ih];by_cases d:t∈l
   ·rw[if_pos d,if_pos (by simp[d])]
   ·rw[if_neg d,if_neg (by simp[d];exact λe=>c e.symm)]
def wI (ops:Array Oper) (i:Nat):Nat:=match ops[i]? with|some o=>sZ o|none=>0
def wl (Hh:Nat->H) (i:Nat):List Nat:=(Hh (i+1)).log.take ((Hh (i+1)).ln-(Hh i).ln)
def BF (Hh:Nat->H) (X:Nat->Bool) (i b:Nat):Prop:=X i=true/\b<(Hh (i+1)).next/\(b∈wl Hh i\/(Hh i).next<=b)
structure SF (h h':H) (W:List Nat):Prop where
 next:h.next<=h'.next
 log:h'.log=W++h.log
 ln:h'.ln=h.ln+W.length
 kept:∀b,b<h.next->b∉W->h'.get b=h.get b
 live:∀b,b∈W->b<h.next->∃x,h.get b=some x
theorem Ext.sf {ι ι':aX} {h h':H} {w w':World} {W:List Nat} (e:Ext ι h w ι' h' w' W):SF h h' W:=⟨e.next,e.log,e.ln,e.kept,e.live⟩
noncomputable def recAt (E:Nat->Env) (Hh:Nat->H) (i:Nat) (o:Oper):Rc:=oK o.op i (E i) (Hh i) (Hh (i+1))
structure Rg (g:G) (n:Nat) (cx:Cx) (df:List Df) (ops:Array Oper) (ms:List Nat) (E:Nat->Env) (Hh:Nat->H) (V:Nat->AV) (X:Nat->Bool):Prop where
 st:∀(j:Nat) (o:Oper),ops[j]? =some o->StepT g cx df ops.toList E Hh V X j o
 ok:∀(j:Nat) (o:Oper),ops[j]? =some o->gu n ops.toList o=true
 dr:∀(j:Nat) (o:Oper),ops[j]? =some o->rG (oH g o.op)=true
 ind:∀(k j:Nat) (ok oj:Oper),k<j->ops[k]? =some ok->ops[j]? =some oj->X k=true->X j=true->(gI ms j).testBit k=false->Ind (recAt E Hh k ok) (recAt E Hh j oj)
 apart:∀(k j:Nat) (ok oj:Oper),k<j->ops[k]? =some ok->ops[j]? =some oj->(gI ms j).testBit k=false->uf (kr g ops.toList ok) (kr g ops.toList oj)=true
 es:∀(j:Nat) (o:Oper),ops[j]? =some o->∀e∈lW o,e<j
 msk:∀(j:Nat) (o:Oper) (k:Nat),ops[j]? =some o->(gI ms j).testBit k=true->∃e∈lW o,k=e\/(gI ms e).testBit k=true
 text:∀(i:Nat),i<=ops.size->∃(ι:aX) (t:Array Value) (w:World),gH ι n (E i) t/\WR ι (Hh i) w
 sf:∀(i:Nat),i<ops.size->X i=true->SF (Hh i) (Hh (i+1)) (wl Hh i)
section
variable {P:Program} {g:G} {n:Nat} {cx:Cx} {df:List Df} {ops:Array Oper} {ms:List Nat} {E:Nat->Env} {Hh:Nat->H} {V:Nat->AV} {X:Nat->Bool} {S:Nat->Bool}
theorem opAt {i:Nat} (h:i<ops.size):∃o,ops[i]? =some o:=⟨ops[i],mD h⟩
theorem Au {i:Nat} {o:Oper} (h:ops[i]? =some o):i<ops.size:=(dQ.1 h).1
theorem Rg.aeL (R:Rg g n cx df ops ms E Hh V X) {i:Nat} (hi:i<ops.size):(Hh i).next<=(Hh (i+1)).next:=by
 cases hx:X i with
 |true=>exact(R.sf i hi hx).next
 |false=>obtain⟨o,ho⟩:=opAt hi;rw[((R.st i o ho).no hx).2.2];exact ay _
theorem Rg.mono (R:Rg g n cx df ops ms E Hh V X) {i:Nat}:∀{j:Nat},i<=j->j<=ops.size->(Hh i).next<=(Hh j).next
 |0,h,_=>by have:i=0:=by omega
            subst this;exact ay _
 |j+1,h,hj=>by
  by_cases c:i=j+1;·subst c;exact ay _
  ·exact bn (R.mono (j:=j) (by omega) (by omega)) (R.aeL (by omega))
theorem Vb {i:Nat} {o:Oper}:(recAt E Hh i o).lo=(Hh i).next:=by unfold recAt oK;split<;>rfl
theorem Vd {i:Nat} {o:Oper}:(recAt E Hh i o).hi=(Hh (i+1)).next:=by unfold recAt oK;split<;>rfl
theorem Rg.wrt (R:Rg g n cx df ops ms E Hh V X) {i:Nat} {o:Oper} (ho:ops[i]? =some o) (hx:X i=true) {b:Nat} (hb:b∈wl Hh i) (hl:b<(Hh i).next):b∈(recAt E Hh i o).wrt:=by
 have sf:=R.sf i (Au ho) hx;have:(recAt E Hh i o).wrt=below (Hh i).next (Nat.sub (Hh (i+1)).ln (Hh i).ln) (Hh (i+1)).log:=by unfold recAt oK;split<;>rfl
 rw[this,sf.ln,sf.log];have e:Nat.sub ((Hh i).ln+(wl Hh i).length) (Hh i).ln=(wl Hh i).length:=pJ _ _;rw[e];exact Gy hb hl
def Acc (E:Nat->Env) (Hh:Nat->H) (i:Nat) (o:Oper) (b:Nat):Prop:=(recAt E Hh i o).call=true\/b∈(recAt E Hh i o).acc
theorem Jq {i:Nat} {o:Oper} {b:Nat} (h:b∈(recAt E Hh i o).wrt):Acc E Hh i o b:=by
 unfold Acc;unfold recAt oK at h⊢;split at h;·right;exact gq _ h
 ·left;rfl
theorem Rg.cur (R:Rg g n cx df ops ms E Hh V X) {b:Nat}:∀{i:Nat},i<=ops.size->b<(Hh i).next->lg Hh (BF Hh X) (λ_=>true) i b=(Hh i).get b
 |0,_,hb=>by simp only[lg];rw[au hb]
 |i+1,hi,hb=>by
  simp only[lg];by_cases c:BF Hh X i b;·rw[au ⟨rfl,c⟩]
  ·rw[ak (λx=>c x.2)];obtain⟨o,ho⟩:=opAt (show i<ops.size by omega);cases hx:X i with
   |false=>have e:=((R.st i o ho).no hx).2.2;rw[e]at hb⊢;exact R.cur (by omega) hb
   |true=>
    have sf:=R.sf i (by omega) hx;have h1:b∉wl Hh i:=λd=>c ⟨hx,hb, .inl d⟩;have h2:b<(Hh i).next:=by
     rcases aN b (Hh i).next with d|d
     ·exact d
     ·exact absurd ⟨hx,hb, .inr d⟩ c
    rw[sf.kept b h2 h1];exact R.cur (by omega) h2
def Closed (N:Nat) (ms:List Nat) (S:Nat->Bool):Prop:=∀j k,j<N->S j=true->(gI ms j).testBit k=true->S k=true
theorem CU {S:Nat->Bool} (hc:Closed ops.size ms S) {i j:Nat} (hi:S i=false) (hj:S j=true) (hjn:j<ops.size):(gI ms j).testBit i=false:=by
 cases hb:(gI ms j).testBit i;·rfl
 ·rw[hc j i hjn hj hb]at hi;cases hi
theorem Rg.seen (R:Rg g n cx df ops ms E Hh V X) (hc:Closed ops.size ms S) {i:Nat} {o:Oper} (ho:ops[i]? =some o) (hS:S i=false) (hr:∀k,(gI ms i).testBit k=true->S k=true) (hx:X i=true)
 {b:Nat} (hb:b<(Hh i).next) (ha:Acc E Hh i o b):lg Hh (BF Hh X) S ops.size b=(Hh i).get b:=by
 have hi:=Au ho;rw[xD (i:=i) (by omega),<-R.cur (dN hi) hb]
 ·refine xC λk hk ht=> ?_;obtain⟨ok,hok⟩:=opAt (show k<ops.size by omega);cases hs:S k with
  |true=>rfl
  |false=>
   exfalso;have hnb:(gI ms i).testBit k=false:=by
    cases hb2:(gI ms i).testBit k;·rfl
    ·rw[hr k hb2]at hs;cases hs
   obtain⟨i1,_,i3⟩:=R.ind k i ok o hk hok ho ht.1 hx hnb;rcases aN b (Hh k).next with d|d
   ·rcases ht.2.2 with e|e
    ·exact i1 b (R.wrt hok ht.1 e d) ha
    ·omega
   ·exact i3 b (by rw[Vb];exact d) (by rw[Vd];exact ht.2.1) ha
 ·intro j hj hjn hsj ht;by_cases e:j=i
  ·subst e;rw[hS]at hsj;cases hsj
  ·obtain⟨oj,hoj⟩:=opAt hjn;have hnb:=CU hc hS hsj hjn;obtain⟨_,i2,_⟩:=R.ind i j o oj (by omega) ho hoj hx ht.1 hnb;have hm:=R.mono (i:=i) (j:=j) (by omega) (by omega);rcases ht.2.2 with d|d
   ·exact i2 b (R.wrt hoj ht.1 d (by omega)) ha
   ·omega
theorem Rg.last (R:Rg g n cx df ops ms E Hh V X) (hc:Closed ops.size ms S) {i:Nat} {o:Oper} (ho:ops[i]? =some o) (hS:S i=false) {b:Nat} (hb:BF Hh X i b):
 lg Hh (BF Hh X) (ins S i) ops.size b=(Hh (i+1)).get b:=by
 have hi:=Au ho;rw[xD (i:=i+1) (by omega)];·simp only[lg];rw[au ⟨nX _ _,hb⟩]
 ·intro j hj hjn hsj ht;rw[pW _ (by omega)]at hsj;obtain⟨oj,hoj⟩:=opAt hjn;have hnb:=CU hc hS hsj hjn;obtain⟨i1,_,i3⟩:=R.ind i j o oj (by omega) ho hoj hb.1 ht.1 hnb;have hm:=R.mono (i:=i+1) (j:=j) (by omega) (by omega);have hbj:b<(Hh j).next:=bC hb.2.1 hm
  have YD:b∈(recAt E Hh j oj).wrt:=by
   rcases ht.2.2 with d|d;·exact R.wrt hoj ht.1 d hbj
   ·omega
  rcases aN b (Hh i).next with d|d
  ·rcases hb.2.2 with e|e
   ·exact i1 b (R.wrt ho hb.1 e d) (Jq YD)
   ·omega
  ·exact i3 b (by rw[Vb];exact d) (by rw[Vd];exact hb.2.1) (Jq YD)
theorem qx {i b:Nat} (hb:¬BF Hh X i b) (N:Nat):lg Hh (BF Hh X) (ins S i) N b=lg Hh (BF Hh X) S N b:=by
 refine xC λk _ ht=> ?_;by_cases e:k=i;·subst e;exact absurd ht hb
 ·exact pW S e
theorem Jr {o:Oper}:sZ o=match o.dst with|some d=>d+1|none=>0:=rfl
theorem Rg.Ve (R:Rg g n cx df ops ms E Hh V X) {t:Nat} (ht:t<n) (hn:n<=256):∀{i:Nat},i<=ops.size->xw (λt=>(gT t).f (E 0)) (wI ops) V (λ_=>true) i t=(gT t).f (E i)
 |0,_=>rfl
 |i+1,hi=>by
  obtain⟨o,ho⟩:=opAt (show i<ops.size by omega);have he:=(R.st i o ho).env;have hok:=R.ok i o ho;have ih:=R.Ve ht hn (i:=i) (by omega);simp only[xw];have hd:wI ops i=sZ o:=by unfold wI;rw[ho]
  rw[hd,he,ih,Jr];cases hdst:o.dst with
  |none=>rw[ak (by simp)];rfl
  |some d=>
   have hdn:=yM hok d hdst;show _=(gT t).f ((pT d).f (V i) (E i));by_cases c:d=t;·subst c;rw[au ⟨trivial,rfl⟩,rD (bC hdn hn)]
   ·rw[ak (by simp;exact c),tV (bC hdn hn) (bC ht hn) c]
noncomputable def BG (g:G) (ops:Array Oper) (o:Oper):List Nat:=(kr g ops.toList o).rs
theorem Rg.aeM (R:Rg g n cx df ops ms E Hh V X) (hc:Closed ops.size ms S) {i:Nat} {o:Oper} (ho:ops[i]? =some o) (hS:S i=false) (hr:∀k,(gI ms i).testBit k=true->S k=true)
 {t:Nat} (ht:t<n) (hn:n<=256) (hrd:t+1∈BG g ops o):xw (λt=>(gT t).f (E 0)) (wI ops) V S ops.size t=(gT t).f (E i):=by
 have hi:=Au ho;rw[xB (i:=i) (by omega),<-R.Ve ht hn (dN hi)]
 ·refine xA λk hk hd=> ?_;obtain⟨ok,hok⟩:=opAt (show k<ops.size by omega);cases hs:S k with
  |true=>rfl
  |false=>
   exfalso;have hnb:(gI ms i).testBit k=false:=by
    cases hb2:(gI ms i).testBit k;·rfl
    ·rw[hr k hb2]at hs;cases hs
   have hd':(kr g ops.toList ok).dn=t+1:=by
    have:wI ops k=sZ ok:=by unfold wI;rw[hok]
    rw[this]at hd;exact hd
   obtain⟨h1,_⟩:=Ar (R.apart k i ok o hk hok ho hnb);rw[hd']at h1;rcases h1 with h1|h1;·omega
   ·exact h1.1 hrd
 ·intro j hj hjn hsj hd;by_cases e:j=i
  ·subst e;rw[hS]at hsj;cases hsj
  ·obtain⟨oj,hoj⟩:=opAt hjn;have hnb:=CU hc hS hsj hjn;have hd':(kr g ops.toList oj).dn=t+1:=by
    have:wI ops j=sZ oj:=by unfold wI;rw[hoj]
    rw[this]at hd;exact hd
   obtain⟨_,h2⟩:=Ar (R.apart i j o oj (by omega) ho hoj hnb);rw[hd']at h2;rcases h2 with h2|h2;·omega
   ·exact h2 hrd
theorem Rg.aaI (R:Rg g n cx df ops ms E Hh V X) (hc:Closed ops.size ms S) {i:Nat} {o:Oper} (ho:ops[i]? =some o) (hS:S i=false) {t:Nat}:
 xw (λt=>(gT t).f (E 0)) (wI ops) V (ins S i) ops.size t=if sZ o=t+1 then V i else xw (λt=>(gT t).f (E 0)) (wI ops) V S ops.size t:=by
 have hi:=Au ho;have hdi:wI ops i=sZ o:=by unfold wI;rw[ho]
 by_cases c:sZ o=t+1
 ·rw[au c,xB (i:=i+1) (by omega)]
  ·simp only[xw];rw[au ⟨nX _ _,by rw[hdi];exact c⟩]
  ·intro j hj hjn hsj hd;rw[pW _ (by omega)]at hsj;obtain⟨oj,hoj⟩:=opAt hjn;have hnb:=CU hc hS hsj hjn;obtain⟨h1,_⟩:=Ar (R.apart i j o oj (by omega) ho hoj hnb);have hdj:wI ops j=sZ oj:=by unfold wI;rw[hoj]
   rcases h1 with h1|h1;·have h1:sZ o=0:=h1;omega
   ·have h1:sZ o≠sZ oj:=h1.2;rw[hdj]at hd;omega
 ·rw[ak c];refine xA λk _ hd=> ?_;by_cases e:k=i
  ·subst e;rw[hdi]at hd;exact absurd hd c
  ·exact pW S e
end
def Ej (ι:aX) (m:Nat):aX:=λb=>if b<m then ι b else none
theorem rH {ι:aX} {m b:Nat} (h:b<m):Ej ι m b=ι b:=by simp[Ej,h]
theorem PO {ι:aX} {m b:Nat} (h:m<=b):Ej ι m b=none:=by simp[Ej];omega
theorem vB {ι:aX} {m b:Nat} {x:Nm} (h:Ej ι m b=some x):b<m/\ι b=some x:=by
 by_cases c:b<m;·rw[rH c]at h;exact⟨c,h⟩
 ·rw[PO (by omega)]at h;cases h
def NI (ι ι':aX) (lo hi:Nat):aX:=λb=>if lo<=b/\b<hi then ι' b else ι b
theorem yS {ι ι':aX} {lo hi b:Nat} (h1:lo<=b) (h2:b<hi):NI ι ι' lo hi b=ι' b:=by simp[NI,h1,h2]
theorem l7 {ι ι':aX} {lo hi b:Nat} (h:b<lo\/hi<=b):NI ι ι' lo hi b=ι b:=by unfold NI;rw[ak (by omega)]
structure Inv (n:Nat) (ops:Array Oper) (E:Nat->Env) (Hh:Nat->H) (V:Nat->AV) (X:Nat->Bool) (WW:List Nat) (ι0:aX) (w0:World) (ds:List Deferred)
 (S:Nat->Bool) (ι:aX) (a:Go.Act) (w:World):Prop where
 sz:a.tmps.size=n
 env:∀t,t<n->VR ι (xw (λt=>(gT t).f (E 0)) (wI ops) V S ops.size t) (a.tmps.getD t undef)
 uZ:a.defers=ds
 blk:∀b x,lg Hh (BF Hh X) S ops.size b=some x->∃m o,ι b=some m/\w.heap[m.B]? =some o/\BR ι x o m
 inj:∀b b' x x' m m',lg Hh (BF Hh X) S ops.size b=some x->lg Hh (BF Hh X) S ops.size b'=some x'->ι b=some m->ι b'=some m'->m.B=m'.B->b=b'
 dom:∀b m,ι b=some m->b<(Hh 0).next\/∃k,k<ops.size/\S k=true/\X k=true/\(Hh k).next<=b/\b<(Hh (k+1)).next
 old:∀b,b<(Hh 0).next->ι b=ι0 b
 size:w0.heap.size<=w.heap.size
 heap:∀k,k<w0.heap.size->(∀b∈WW,∀m,ι0 b=some m->m.B≠k)->w.heap[k]? =w0.heap[k]?
 new:∀b m,(Hh 0).next<=b->ι b=some m->w0.heap.size<=m.B\/∃b0∈WW,∃m0,ι0 b0=some m0/\m0.B=m.B
 os:w.os=w0.os
 tape:w.tape=w0.tape
 out:w.output=w0.output
theorem Loc.of {ι ι':aX} {h h':H} {w w':World} {W:List Nat} (k:WR ι h w) (k':WR ι' h' w') (e:Ext ι h w ι' h' w' W):Loc ι h w ι' h' w' W where
 toExt:=e
 most:=k'.most
 fresh:=k'.fresh
 blk b x _ hb hx:=k'.blk b x trivial hb hx
 inj1 b x m hb hbn hx hm:=by
  rcases e.new b m hb hm with h1|⟨b0,hb0,m0,hm0,hB⟩
  ·exact .inl h1
  ·refine .inr ⟨b0,hb0,m0,hm0,hB,?_⟩;have hlt:b0<h.next:=k.lt hm0;cases hg:h'.get b0 with
   |none=>rfl
   |some y=>
    have Av:ι' b0=some m0:=by rw[e.CP b0 hlt];exact hm0
    have:=k'.inj b0 b y x m0 m trivial trivial (bC hlt e.next) hbn hg hx Av hm hB;omega
 inj2 b b' x x' m m' _ _ hb hb' hx hx' hm hm' hB:=k'.inj b b' x x' m m' trivial trivial hb hb' hx hx' hm hm' hB
section
variable {P:Program} {g:G} {n:Nat} {cx:Cx} {df:List Df} {ops:Array Oper} {ms:List Nat} {E:Nat->Env} {Hh:Nat->H} {V:Nat->AV} {X:Nat->Bool} {S:Nat->Bool} {WW:List Nat} {ι0 ι:aX} {w0 w:World} {ds:List Deferred} {a:Go.Act}
theorem Inv.unnamed (R:Rg g n cx df ops ms E Hh V X) (I:Inv n ops E Hh V X WW ι0 w0 ds S ι a w) {i:Nat} (hi:i<ops.size) (hS:S i=false) {b:Nat} (h1:(Hh i).next<=b) (h2:b<(Hh (i+1)).next):ι b=none:=by
 cases hb:ι b with
 |none=>rfl
 |some m=>
  exfalso;rcases I.dom b m hb with h|⟨k,hk,hsk,_,h3,h4⟩
  ·have:=R.mono (i:=0) (j:=i) (by omega) (by omega);omega
  ·rcases mH k i with c|c|c
   ·have:=R.mono (i:=k+1) (j:=i) (by omega) (by omega);omega
   ·subst c;rw[hS]at hsk;cases hsk
   ·have:=R.mono (i:=i+1) (j:=k) (by omega) (by omega);omega
theorem Inv.aaJ (R:Rg g n cx df ops ms E Hh V X) {i:Nat} (hi:i<=ops.size):∃(ι1:aX) (t:Array Value) (w1:World),gH ι1 n (E i) t/\WR ι1 (Hh i) w1/\∀b m,ι1 b=some m->Ej ι (Hh i).next b=ι b:=by obtain⟨ι1,t,w1,h1,h2⟩:=R.text i hi;exact⟨ι1,t,w1,h1,h2,λb m hb=>rH (h2.lt hb)⟩
theorem Inv.wr (R:Rg g n cx df ops ms E Hh V X) (hc:Closed ops.size ms S) (I:Inv n ops E Hh V X WW ι0 w0 ds S ι a w) {i:Nat} {o:Oper} (ho:ops[i]? =some o) (hS:S i=false) (hr:∀k,(gI ms i).testBit k=true->S k=true) (hx:X i=true):
 WR (Ej ι (Hh i).next) (Hh i) w (Acc E Hh i o):=by
 have hi:=Au ho;obtain⟨ι1,t,w1,h1,h2,hcut⟩:=Inv.aaJ (ι:=ι) R (dN hi);refine⟨h2.most,λb hb=>PO hb,λb x hD hb hxb=> ?_,λb b' x x' m m' hD hD' hb hb' hx1 hx2 hm hm' hB=> ?_⟩;·have hs:=R.seen hc ho hS hr hx hb hD;obtain⟨m,ob,q1,q2,q3⟩:=I.blk b x (by rw[hs];exact hxb);obtain⟨m1,o1,_,_,q4⟩:=h2.blk b x trivial hb hxb;exact⟨m,ob,by rw[rH hb];exact q1,q2,BR.cut hcut q4 q3⟩
 ·have hs:=R.seen hc ho hS hr hx hb hD;have hs':=R.seen hc ho hS hr hx hb' hD';rw[rH hb]at hm;rw[rH hb']at hm';exact I.inj b b' x x' m m' (by rw[hs];exact hx1) (by rw[hs'];exact hx2) hm hm' hB
theorem Inv.en (R:Rg g n cx df ops ms E Hh V X) (hc:Closed ops.size ms S) (I:Inv n ops E Hh V X WW ι0 w0 ds S ι a w) {i:Nat} {o:Oper} (ho:ops[i]? =some o) (hS:S i=false) (hr:∀k,(gI ms i).testBit k=true->S k=true)
 {l:List Nat} (hl:∀t∈l,t<n/\t+1∈BG g ops o):gH (Ej ι (Hh i).next) n (sK (E i) l) a.tmps:=by
 have hi:=Au ho;obtain⟨ι1,tt,w1,h1,h2,hcut⟩:=Inv.aaJ (ι:=ι) R (dN hi);have hn:=h1.most;have aaK:∀x∈l,x<256:=λx hx=>bC (hl x hx).1 hn;refine⟨I.sz,hn,λt ht=> ?_,λt h1 h2=> ?_⟩
 ·rw[qw (bC ht hn) aaK];by_cases c:t∈l
  ·rw[au c];have hv:=I.env t ht;rw[R.aeM hc ho hS hr ht hn (hl t c).2]at hv;exact VR.cut hcut (h1.at_ t ht) hv
  ·rw[ak c];exact trivial
 ·rw[qw h2 aaK,ak (λc=>by have:=(hl t c).1;omega)]
theorem Inv.gi (R:Rg g n cx df ops ms E Hh V X) (I:Inv n ops E Hh V X WW ι0 w0 ds S ι a w) (k0:WR ι0 (Hh 0) w0) (hG:GI ι0) {i:Nat} (hi:i<=ops.size):GI (Ej ι (Hh i).next):=by intro x hx;obtain⟨cs,e⟩:=hG x hx;have hlt:=k0.lt e;have:=R.mono (i:=0) (j:=i) (by omega) hi;exact⟨cs,by rw[rH (by omega),I.old x hlt];exact e⟩
theorem Inv.step (R:Rg g n cx df ops ms E Hh V X) (hc:Closed ops.size ms S) (I:Inv n ops E Hh V X WW ι0 w0 ds S ι a w) {i:Nat} {o:Oper} (ho:ops[i]? =some o) (hS:S i=false) (hr:∀k,(gI ms i).testBit k=true->S k=true) (hx:X i=true)
 (YE:∀b∈wl Hh i,b∈WW) {ι':aX} {w':World} {W:List Nat} {v':Value} (L:Loc (Ej ι (Hh i).next) (Hh i) w ι' (Hh (i+1)) w' W) (hv:VR ι' (V i) v'):
 ∃ι2,Inv n ops E Hh V X WW ι0 w0 ds (ins S i) ι2 (a.put o.dst v') w':=by
 have hi:=Au ho
 have sf:=R.sf i hi hx
 have hW:W=wl Hh i:=by
  have h1:=L.log
  rw[sf.log]at h1
  exact(List.append_cancel_right h1).symm
 subst hW
 have hns:∀b,(Hh i).next<=b->b<(Hh (i+1)).next->ι b=none:=λb h1 h2=>I.unnamed R hi hS h1 h2
 have hm1:(Hh i).next<=(Hh (i+1)).next:=sf.next
 have h0i:=R.mono (i:=0) (j:=i) (by omega) (by omega)
 have hle:ι.le (NI ι ι' (Hh i).next (Hh (i+1)).next):=λb m hb=>by
  by_cases c:(Hh i).next<=b/\b<(Hh (i+1)).next
  ·rw[hns b c.1 c.2]at hb;cases hb
  ·rw[l7 (by omega)];exact hb
 have hle':ι'.le (NI ι ι' (Hh i).next (Hh (i+1)).next):=λb m hb=>by
  rcases aN b (Hh i).next with c|c
  ·rw[l7 (.inl c),<-rH (ι:=ι) c,<-L.CP b c];exact hb
  ·rcases aN b (Hh (i+1)).next with d|d
   ·rw[yS c d];exact hb
   ·rw[L.fresh b d]at hb;cases hb
 have chg:∀b,b∈wl Hh i->b<(Hh i).next->∃y,lg Hh (BF Hh X) S ops.size b=some y/\(Hh i).get b=some y:=λb hb hl=>by
  obtain⟨y,hy⟩:=sf.live b hb hl
  exact⟨y,by rw[R.seen hc ho hS hr hx hl (Jq (R.wrt ho hx hb hl))];exact hy,hy⟩
 have tch:∀b,BF Hh X i b↔(b<(Hh (i+1)).next/\(b∈wl Hh i\/(Hh i).next<=b)):=λb=>⟨λh=>h.2,λh=>⟨hx,h⟩⟩
 have back:∀b x,b<(Hh i).next\/(Hh (i+1)).next<=b->lg Hh (BF Hh X) (ins S i) ops.size b=some x->∃y,lg Hh (BF Hh X) S ops.size b=some y:=λb x hb hx'=>by
  by_cases c:BF Hh X i b
  ·rcases hb with hb|hb
   ·rcases c.2.2 with d|d
    ·obtain⟨y,hy,_⟩:=chg b d hb;exact⟨y,hy⟩
    ·omega
   ·have:=c.2.1;omega
  ·rw[qx c]at hx';exact⟨x,hx'⟩
 have aiX:∀b x m,lg Hh (BF Hh X) S ops.size b=some x->ι b=some m->m.B<w.heap.size:=λb x m hb hm=>by
  obtain⟨m1,o1,q1,q2,_⟩:=I.blk b x hb
  rw[hm]at q1;cases q1
  exact(dQ.1 q2).1
 refine⟨NI ι ι' (Hh i).next (Hh (i+1)).next,?_,?_,?_,?_,?_,?_,?_,?_,?_,?_,?_,?_,?_⟩
 ·
  have:=I.sz
  cases hd:o.dst<;>simp[Act.put,this]
 ·
  intro t ht
  rw[R.aaI hc ho hS]
  have hv0:=(I.env t ht).mono hle
  rw[Jr]
  cases hd:o.dst with
  |none=>
   rw[ak (by simp)];exact hv0
  |some d=>
   show VR _ _ ((a.tmps.setIfInBounds d v').getD t undef)
   by_cases c:d=t
   ·subst c
    rw[au rfl,tC _ _ (by rw[I.sz];exact ht)]
    exact hv.mono hle'
   ·rw[ak (by simp;exact c),getD_set_ne _ _ c]
    exact hv0
 ·rw[put_defers];exact I.uZ
 ·
  intro b x hb
  by_cases c:BF Hh X i b
  ·rw[R.last hc ho hS c]at hb
   obtain⟨m,ob,q1,q2,q3⟩:=L.blk b x c.2.2 c.2.1 hb
   exact⟨m,ob,hle' _ _ q1,q2,q3.mono hle'⟩
  ·rw[qx c]at hb
   obtain⟨m,ob,q1,q2,q3⟩:=I.blk b x hb
   refine⟨m,ob,hle _ _ q1,?_,q3.mono hle⟩
   rw[L.heap m.B (dQ.1 q2).1,q2]
   intro b1 hb1 m1 Vf hB
   obtain⟨hlt,KX⟩:=vB Vf
   obtain⟨y,hy,_⟩:=chg b1 hb1 hlt
   have:=I.inj b1 b y x m1 m hy hb KX q1 hB
   subst this
   exact c ⟨hx,by omega, .inl hb1⟩
 ·
  have mix:∀b b' x x' m m',(Hh i).next<=b->b<(Hh (i+1)).next->(b'<(Hh i).next\/(Hh (i+1)).next<=b')->lg Hh (BF Hh X) (ins S i) ops.size b=some x->lg Hh (BF Hh X) (ins S i) ops.size b'=some x'->
   ι' b=some m->ι b'=some m'->m.B≠m'.B:=λb b' x x' m m' h1 h2 h3 hb hb' hm hm' hB=>by
   have ct:BF Hh X i b:=⟨hx,h2, .inr h1⟩
   rw[R.last hc ho hS ct]at hb
   obtain⟨y',hy'⟩:=back b' x' h3 hb'
   have hlt:=aiX b' y' m' hy' hm'
   rcases L.inj1 b x m h1 h2 hb hm with q|⟨b0,hb0,m0,hm0,hB0,Vg⟩
   ·omega
   ·obtain⟨hl0,Av⟩:=vB hm0
    obtain⟨y,hy,_⟩:=chg b0 hb0 hl0
    have:=I.inj b0 b' y y' m0 m' hy hy' Av hm' (hB0.trans hB)
    subst this
    have ct':BF Hh X i b0:=⟨hx,by omega, .inl hb0⟩
    rw[R.last hc ho hS ct',Vg]at hb'
    cases hb'
  intro b b' x x' m m' hb hb' hm hm' hB
  by_cases c:(Hh i).next<=b/\b<(Hh (i+1)).next
  ·rw[yS c.1 c.2]at hm
   by_cases c':(Hh i).next<=b'/\b'<(Hh (i+1)).next
   ·rw[yS c'.1 c'.2]at hm'
    rw[R.last hc ho hS ⟨hx,c.2, .inr c.1⟩]at hb
    rw[R.last hc ho hS ⟨hx,c'.2, .inr c'.1⟩]at hb'
    exact L.inj2 b b' x x' m m' c.1 c'.1 c.2 c'.2 hb hb' hm hm' hB
   ·rw[l7 (by omega)]at hm'
    exact absurd hB (mix b b' x x' m m' c.1 c.2 (by omega) hb hb' hm hm')
  ·rw[l7 (by omega)]at hm
   by_cases c':(Hh i).next<=b'/\b'<(Hh (i+1)).next
   ·rw[yS c'.1 c'.2]at hm'
    exact absurd hB.symm (mix b' b x' x m' m c'.1 c'.2 (by omega) hb' hb hm' hm)
   ·rw[l7 (by omega)]at hm'
    obtain⟨y,hy⟩:=back b x (by omega) hb
    obtain⟨y',hy'⟩:=back b' x' (by omega) hb'
    exact I.inj b b' y y' m m' hy hy' hm hm' hB
 ·
  intro b m hb
  by_cases c:(Hh i).next<=b/\b<(Hh (i+1)).next
  ·exact .inr ⟨i,hi,nX _ _,hx,c.1,c.2⟩
  ·rw[l7 (by omega)]at hb
   rcases I.dom b m hb with h|⟨k,hk,hsk,h1,h2⟩
   ·exact .inl h
   ·refine .inr ⟨k,hk,?_,h1,h2⟩
    by_cases e:k=i
    ·subst e;exact nX _ _
    ·rw[pW _ e];exact hsk
 ·intro b hb
  rw[l7 (.inl (by omega))];exact I.old b hb
 ·exact bn I.size L.size
 ·intro k hk hn
  rw[L.heap k (bC hk I.size),I.heap k hk hn]
  intro b1 hb1 m1 Vf hB
  obtain⟨hlt,KX⟩:=vB Vf
  rcases aN b1 (Hh 0).next with d|d
  ·rw[I.old b1 d]at KX
   exact hn b1 (YE b1 hb1) m1 KX hB
  ·rcases I.new b1 m1 d KX with q|⟨b0,hb0,m0,hm0,hB0⟩
   ·omega
   ·exact hn b0 hb0 m0 hm0 (hB0.trans hB)
 ·intro b m hb hm
  by_cases c:(Hh i).next<=b/\b<(Hh (i+1)).next
  ·rw[yS c.1 c.2]at hm
   rcases L.new b m c.1 hm with q|⟨b0,hb0,m0,hm0,hB0⟩
   ·exact .inl (bn I.size q)
   ·obtain⟨hlt,Av⟩:=vB hm0
    rcases aN b0 (Hh 0).next with d|d
    ·rw[I.old b0 d]at Av
     exact .inr ⟨b0,YE b0 hb0,m0,Av,hB0⟩
    ·rcases I.new b0 m0 d Av with q|⟨b1,hb1,m1,hm1,hB1⟩
     ·left;omega
     ·exact .inr ⟨b1,hb1,m1,hm1,hB1.trans hB0⟩
  ·rw[l7 (by omega)]at hm
   exact I.new b m hb hm
 ·exact L.os.trans I.os
 ·exact L.tape.trans I.tape
 ·exact L.out.trans I.out
end
section
variable {P:Program} {g:G} {n:Nat} {cx:Cx} {df:List Df} {ops:Array Oper} {ms:List Nat} {E:Nat->Env} {Hh:Nat->H} {V:Nat->AV} {X:Nat->Bool} {S:Nat->Bool} {WW:List Nat} {ι0 ι:aX} {w0 w:World} {ds:List Deferred} {a:Go.Act} {b:Frame} {cs:List Frame}
theorem Inv.skip (R:Rg g n cx df ops ms E Hh V X) (hc:Closed ops.size ms S) (I:Inv n ops E Hh V X WW ι0 w0 ds S ι a w) {i:Nat} {o:Oper} (ho:ops[i]? =some o) (hS:S i=false) (hx:X i=false):
 Inv n ops E Hh V X WW ι0 w0 ds (ins S i) ι (a.put o.dst undef) w:=by
 have hv:=((R.st i o ho).no hx).2.1;have hnt:∀b,¬BF Hh X i b:=λb h=>by rw[h.1]at hx;cases hx
 refine⟨?_,?_,?_,?_,?_,?_,I.old,I.size,I.heap,I.new,I.os,I.tape,I.out⟩;·have:=I.sz;cases hd:o.dst<;>simp[Act.put,this]
 ·intro t ht;rw[R.aaI hc ho hS,Jr];cases hd:o.dst with
  |none=>rw[ak (by simp)];exact I.env t ht
  |some d=>
   show VR _ _ ((a.tmps.setIfInBounds d undef).getD t undef);by_cases c:d=t;·subst c;rw[au rfl,tC _ _ (by rw[I.sz];exact ht),hv];exact⟨#[],rfl,rfl⟩
   ·rw[ak (by simp;exact c),getD_set_ne _ _ c];exact I.env t ht
 ·rw[put_defers];exact I.uZ
 ·intro b x hb;rw[qx (hnt b)]at hb;exact I.blk b x hb
 ·intro b b' x x' m m' hb hb' hm hm' hB;rw[qx (hnt b)]at hb;rw[qx (hnt b')]at hb';exact I.inj b b' x x' m m' hb hb' hm hm' hB
 ·intro b m hb;rcases I.dom b m hb with h|⟨k,hk,hsk,h1,h2⟩
  ·exact .inl h
  ·refine .inr ⟨k,hk,?_,h1,h2⟩;by_cases e:k=i
   ·subst e;exact nX _ _
   ·rw[pW _ e];exact hsk
noncomputable def RH (g:G) (ops:Array Oper) (o:Oper):List Nat:=((BG g ops o).filter (λs=>s !=0)).map (λs=>s-1)
theorem vC {o:Oper} {t:Nat}:t∈RH g ops o↔t+1∈BG g ops o:=by
 unfold RH;rw[dw];constructor
 ·rintro⟨s,hs,rfl⟩;rw[kC]at hs;have:s≠0:=by simpa using hs.2
  rw[show s-1+1=s by omega];exact hs.1
 ·intro h;exact⟨t+1,by rw[kC];exact⟨h,by simp⟩,by omega⟩
theorem Ay {t:Nat}:∀{l:List Operand},t+1∈slots l↔.tmp t∈l
 |[]=>⟨(λh=>by cases h),(λh=>by cases h)⟩
 |x::l=>by
  have e:slots (x::l)=slot x++slots l:=rfl
  rw[e,fZ,aT,Ay]
  have:t+1∈slot x↔Operand.tmp t=x:=by
   cases x with
   |tmp u=>
    show t+1∈[u+1]↔_
    rw[dM]
    exact⟨λh=>by have:t=u:=by omega
                 rw[this],λh=>by injection h with h;rw[h]⟩
   |_=>exact⟨(λh=>by cases h),(λh=>by cases h)⟩
  rw[this]
theorem NJ {o:Oper}:BG g ops o=vD ops.toList o++slots o.op.operands.toList:=rfl
theorem El {o:Oper} (hok:gu n ops.toList o=true) {t:Nat} (h:t+1∈BG g ops o):t<n:=by
 rw[NJ,fZ]at h;rcases h with h|h
 ·unfold gu at hok;simp only[aP]at hok;have h3:=hok.2;unfold vD at h;cases hg:o.guard with
  |none=>rw[hg]at h;cases h
  |some jw=>
   obtain⟨j,wn⟩:=jw;rw[hg]at h h3;dsimp only at h h3;cases hj:ops.toList[j]? with
   |none=>rw[hj]at h;cases h
   |some x=>
    rw[hj]at h h3;dsimp only at h h3;rw[dM]at h;cases hd:x.dst with
    |none=>rw[hd]at h3;cases h3
    |some d=>
     rw[hd]at h3;have h3:Nat.blt d n=true:=h3;have:sZ x=d+1:=by unfold sZ;rw[hd]
     rw[this]at h;have:=Jl h3;omega
 ·have h1:=Ay.1 h;have:=iK.1 (w9 hok) _ h1;exact Jl this
theorem YF {o:Oper} {en:Env} (hok:gu n ops.toList o=true) (hn:n<=256):∀x∈o.op.operands.toList,(ev x).f (sK en (RH g ops o))=(ev x).f en:=by
 intro x hx;have abW:∀y∈RH g ops o,y<256:=λy hy=>bC (El hok (vC.1 hy)) hn;cases x with
 |tmp t=>
  have hm:t+1∈BG g ops o:=by rw[NJ];exact gq _ (Ay.2 hx)
  show(gT t).f (sK en (RH g ops o))=(gT t).f en;rw[qw (bC (El hok hm) hn) abW,au (vC.2 hm)]
 |_=>rfl
theorem YG {o:Oper} {en:Env} (hok:gu n ops.toList o=true) (hn:n<=256):M8 ops.toList o (sK en (RH g ops o))=M8 ops.toList o en:=by
 have abW:∀y∈RH g ops o,y<256:=λy hy=>bC (El hok (vC.1 hy)) hn;unfold M8;cases hg:o.guard with
 |none=>rfl
 |some jw=>
  obtain⟨j,wn⟩:=jw;dsimp only;cases ht:yN ops.toList j with
  |none=>rfl
  |some t=>
   dsimp only;have hm:t+1∈BG g ops o:=by
    rw[NJ];refine fG _ ?_;unfold vD;rw[hg];dsimp only;unfold yN at ht;cases hj:ops.toList[j]? with
    |none=>rw[hj]at ht;cases ht
    |some x=>
     rw[hj]at ht;dsimp only at ht⊢;have:sZ x=t+1:=by unfold sZ;rw[ht]
     rw[this];exact dM.2 rfl
   rw[qw (bC (El hok hm) hn) abW,au (vC.2 hm)]
theorem Vh {ι:aX} {en:Env} {o:Oper} (hok:gu n ops.toList o=true) (hE:gH ι n en a.tmps):
 (M8 ops.toList o en= .t->Region.wanted o (yielded ops a.tmps)=true)/\(M8 ops.toList o en= .f->Region.wanted o (yielded ops a.tmps)=false):=by
 cases hg:o.guard with
 |none=>
  have e:M8 ops.toList o en= .t:=by unfold M8;rw[hg]
  rw[e];exact⟨(λ_=>by unfold Region.wanted;rw[hg]),(λh=>by cases h)⟩
 |some jw=>
  obtain⟨j,wn⟩:=jw;cases ht:yN ops.toList j with
  |none=>
   have e:M8 ops.toList o en= .none:=by unfold M8;rw[hg];dsimp only;rw[ht];rfl
   rw[e];exact⟨(λh=>by cases h),(λh=>by cases h)⟩
  |some t=>
   have e:M8 ops.toList o en=KM wn ((gT t).f en):=by unfold M8;rw[hg];dsimp only;rw[ht]
   rw[e];exact KL hok hE hg ht
theorem RI {op:Op} {x:Act} (hk:oH g op= .plain x):x=F4 g op\/∀en h,x.f en h= .fail:=by
 cases op with
 |call c=>
  cases hc:c.callee with
  |value f=>simp only[oH,hc]at hk;cases hk
  |invoke r m=>simp only[oH,hc]at hk;cases hk
  |builtin bb=>cases bb<;>first
   |(simp only[oH,hc]at hk;cases hk;exact .inl rfl)
   |(simp only[oH,hc]at hk;cases hk)
 |defer c=>cases hc:c.callee<;>simp only[oH,hc]at hk<;>cases hk<;>exact .inr λ_ _=>rfl
 |_=>cases hk;exact .inl rfl
theorem Inv.op (hg:jT P g) (R:Rg g n cx df ops ms E Hh V X) (hc:Closed ops.size ms S) (I:Inv n ops E Hh V X WW ι0 w0 ds S ι a w) (hcx:Ru P cx) (k0:WR ι0 (Hh 0) w0) (hG:GI ι0)
 {i:Nat} {rest:List Nat} {kk:List Item} {o:Oper} (ho:ops[i]? =some o) (hS:S i=false) (hr:∀k,(gI ms i).testBit k=true->S k=true) (YE:X i=true->∀b∈wl Hh i,b∈WW):
 ∃ι2 a2 w2,Steps P (lone (St b a (.inRegion ops (i::rest)::kk)) cs w) (lone (St b a2 (.inRegion ops rest::kk)) cs w2)/\Inv n ops E Hh V X WW ι0 w0 ds (ins S i) ι2 a2 w2:=by
 have hi:=Au ho;have hok:=R.ok i o ho;have hop:=w9 hok;obtain⟨_,_,_,hE1,_⟩:=R.text i (dN hi);have hn:=hE1.most;have hE:=I.en R hc ho hS hr (l:=RH g ops o) (λt ht=>⟨El hok (vC.1 ht),vC.1 ht⟩);have hgd:=Vh hok hE;rw[YG hok hn]at hgd;have hGi:=I.gi R k0 hG (dN hi);cases hx:X i with
 |false=>
  obtain⟨h1,_,_⟩:=(R.st i o ho).no hx;have hw:=hgd.2 h1;have hstep:Go.step P (lone (St b a (.inRegion ops (i::rest)::kk)) cs w)= .next (lone (St b (a.put ((ops[i]?).bind (·.dst)) undef) (.inRegion ops rest::kk)) cs w):=
   DZ (by rw[ho];exact hw)
  rw[ho]at hstep;exact⟨ι,a.put o.dst undef,w, .one hstep,I.skip R hc ho hS hx⟩
 |true=>
  obtain⟨h1,h2⟩:=(R.st i o ho).run hx;have hw:=hgd.1 h1;have hwr:=I.wr R hc ho hS hr hx;have hev:=YF (g:=g) (en:=E i) hok hn;have hdr:=R.dr i o ho;cases hk:oH g o.op with
  |plain x=>
   rw[hk]at h2;obtain⟨e,_⟩:=h2;have e':x.f (sK (E i) (RH g ops o)) (Hh i)= .ok (V i) (Hh (i+1)):=by
    rcases RI hk with rfl|hf;·rw[RD o.op hev];exact e
    ·rw[hf]at e;cases e
   obtain⟨ι',W,v',w',hs,hv,hL⟩:=D6 (b:=b) (cs:=cs) (rest:=rest) (kk:=kk) hg hwr hE hGi ho hop hw hk e' (λf hf bl hbl=>by
    rw[RF o.op hev hf]at hbl;right;unfold recAt oK;rw[hf];exact fG _ hbl)
   obtain⟨ι2,hI⟩:=I.step R hc ho hS hr hx (YE hx) hL hv;exact⟨ι2,_,w',hs,hI⟩
  |call f as=>
   rw[hk]at h2;obtain⟨e,_⟩:=h2;obtain⟨c,r,hoc,rfl,hacc,aeN,hcv⟩:=KN hk;have hops:∀y∈c.operands.toList,(ev y).f (sK (E i) (RH g ops o))=(ev y).f (E i):=λy hy=>hev y (by rw[hoc];exact hy);have hr1:(ev r).f (sK (E i) (RH g ops o))=(ev r).f (E i):=hops r (by rw[aeN];simp);have hf:f.f (sK (E i) (RH g ops o))=f.f (E i):=by
    rcases hcv with⟨_,rfl⟩|⟨nm,_,rfl⟩
    ·exact hr1
    ·show UQ _ _=UQ _ _;rw[hr1]
   have has:(opsL c.args.toList).f (sK (E i) (RH g ops o))=(opsL c.args.toList).f (E i):=nT _ (λy hy=>hops y (by
    rw[aeN,pR];exact gq _ hy))
   have hcall:(recAt E Hh i o).call=true:=by unfold recAt oK;rw[hacc]
   have aeO:WR (Ej ι (Hh i).next) (Hh i) w:=⟨hwr.most,hwr.fresh,λb x _ h1 h2=>hwr.blk b x (.inl hcall) h1 h2,λb b' x x' m m' _ _=>hwr.inj b b' x x' m m' (.inl hcall) (.inl hcall)⟩
   obtain⟨ι',W,v',w',hs,hv,hwr2,hext⟩:=Gs (b:=b) (cs:=cs) (rest:=rest) (kk:=kk) hcx aeO hE hGi ho hop hw hk (v:=V i) (h':=Hh (i+1)) (by rw[hf,has];exact e);obtain⟨ι2,hI⟩:=I.step R hc ho hS hr hx (YE hx) (Loc.of aeO hwr2 hext) hv;exact⟨ι2,_,w',hs,hI⟩
  |defer f as=>rw[hk]at hdr;cases hdr
  |recover=>rw[hk]at hdr;cases hdr
theorem Rg.ready (R:Rg g n cx df ops ms E Hh V X) (hc:Closed ops.size ms S) {i:Nat} {o:Oper} (ho:ops[i]? =some o) (he:∀e∈lW o,S e=true):∀k,(gI ms i).testBit k=true->S k=true:=by
 intro k hb;obtain⟨e,hm,h⟩:=R.msk i o k ho hb;rcases h with rfl|h;·exact he k hm
 ·exact hc e k (Nat.lt_trans (R.es i o ho e hm) (Au ho)) (he e hm) h
theorem Rg.closed (_R:Rg g n cx df ops ms E Hh V X) (hc:Closed ops.size ms S) {i:Nat} (hr:∀k,(gI ms i).testBit k=true->S k=true):Closed ops.size ms (ins S i):=by
 intro j k hj hs hb;by_cases ck:k=i;·subst ck;exact nX _ _
 rw[pW _ ck];by_cases cj:j=i;·subst cj;exact hr k hb
 ·rw[pW _ cj]at hs;exact hc j k hj hs hb
def SL (listed:Array Bool):Nat->Bool:=λj=>listed.getD j false
theorem Vi {listed:Array Bool} {i:Nat} (hi:i<listed.size):SL (listed.setIfInBounds i true)=ins (SL listed) i:=by
 funext j;unfold SL ins;by_cases c:j=i;·subst c;simp[hi]
 ·rw[ak c,gV,jH (λe=>c e.symm)];show _=listed.getD j false;rw[gV]
theorem RJ {o:Oper} {e:Edge} (he:e∈o.after) (hb:Region.binds .any e=true):e.on∈lW o:=by unfold lW;rw[dw];exact⟨e,by rw[kC];exact⟨by simpa using he,hb⟩,rfl⟩
theorem RL {o:Oper} {x:Nat} (h:x∈lW o):∃e∈o.after,Region.binds .any e=true/\e.on=x:=by unfold lW at h;rw[dw]at h;obtain⟨e,he,rfl⟩:=h;rw[kC]at he;exact⟨e,by simpa using he.1,he.2,rfl⟩
theorem YH (hg:jT P g) (R:Rg g n cx df ops ms E Hh V X) (hcx:Ru P cx) (k0:WR ι0 (Hh 0) w0) (hG:GI ι0) {kk:List Item} (YE:∀i,i<ops.size->X i=true->∀b∈wl Hh i,b∈WW):
 ∀(fuel t:Nat) (listed:Array Bool) (ι:aX) (a:Go.Act) (w:World),listed.size=ops.size->Closed ops.size ms (SL listed)->Inv n ops E Hh V X WW ι0 w0 ds (SL listed) ι a w->cnt (SL listed) ops.size<=fuel->
  ∃ι2 a2 w2 S2,Steps P (lone (St b a (.inRegion ops (Region.linearise.go .any ops fuel t listed [])::kk)) cs w) (lone (St b a2 (.inRegion ops []::kk)) cs w2)/\Inv n ops E Hh V X WW ι0 w0 ds S2 ι2 a2 w2/\∀j,j<ops.size->S2 j=true:=by
 intro fuel;induction fuel with
 |zero=>intro t listed ι a w hsz hc I hcnt;refine⟨ι,a,w,SL listed,?_,I,yR (by omega)⟩;simp only[Region.linearise.go,List.reverse_nil];exact .refl _ _
 |succ fuel ih=>
  intro t listed ι a w hsz hc I hcnt;simp only[Region.linearise.go];change ∃ι2 a2 w2 S2,Steps P (lone (St b a (.inRegion ops (match(Region.ready .any ops listed)[t%(Region.ready .any ops listed).length]? with
   |some i=>Region.linearise.go .any ops fuel (t/(Region.ready .any ops listed).length) (listed.setIfInBounds i true) [i]
   |none=>[].reverse)::kk)) cs w) _/\_/\_
  cases hi:(Region.ready .any ops listed)[t%(Region.ready .any ops listed).length]? with
  |none=>
   have hnil:Region.ready .any ops listed=[]:=by
    cases hr:Region.ready .any ops listed with
    |nil=>rfl
    |cons x xs=>rw[hr]at hi;have hlt:t%(x::xs).length<(x::xs).length:=Nat.mod_lt _ (by simp);simp at hi;simp at hlt;omega
   refine⟨ι,a,w,SL listed, .refl _ _,I,yR ?_⟩;by_cases hz:cnt (SL listed) ops.size=0;·exact hz
   ·exfalso;obtain⟨j,hj,hs,hall⟩:=PN hz;obtain⟨o,ho⟩:=opAt hj;have:j∈Region.ready .any ops listed:=by
     rw[mem_ready];refine⟨?_,o,ho,λe he hb=> ?_⟩
     ·have:listed.getD j false=false:=hs;have hlt:j<listed.size:=by omega
      simp[hlt]at this⊢;exact this
     ·exact hall e.on (R.es j o ho e.on (RJ he hb))
    rw[hnil]at this;cases this
  |some i=>
   have hmem:=qW hi;rw[mem_ready]at hmem;obtain⟨hun,o,ho,hall⟩:=hmem;have hilt:i<listed.size:=by rw[hsz];exact Au ho
   have hS:SL listed i=false:=by unfold SL;simp[hilt]at hun⊢;exact hun
   have he:∀x∈lW o,SL listed x=true:=λx hx=>by obtain⟨e,h1,h2,rfl⟩:=RL hx;exact hall e h1 h2
   have hr:=R.ready hc ho he;obtain⟨ι1,a1,w1,hs1,I1⟩:=I.op (b:=b) (cs:=cs) (kk:=kk) (rest:=Region.linearise.go .any ops fuel (t/(Region.ready .any ops listed).length) (listed.setIfInBounds i true) []) hg R hc hcx k0 hG ho hS hr (YE i (Au ho));have hc1:=R.closed hc hr;rw[<-Vi hilt]at I1 hc1;have aeP:cnt (SL (listed.setIfInBounds i true)) ops.size<=fuel:=by rw[Vi hilt];have:=PK hS (Au ho);omega
   obtain⟨ι2,a2,w2,S2,hs2,I2,aeQ⟩:=ih (t/(Region.ready .any ops listed).length) (listed.setIfInBounds i true) ι1 a1 w1 (by simp[hsz]) hc1 I1 aeP;refine⟨ι2,a2,w2,S2,?_,I2,aeQ⟩;dsimp only;rw[linearise_go_acc,List.reverse_singleton,List.singleton_append];exact hs1.trans hs2
