/- The machine's soundness: maps. -/
import Derived.Test.YtocaiijbhepnnaaGreatDoorAm16
import Derived.MapKept
import Derived.Laws.BytesString
namespace Go.Proofs.YtocaiijbhepnnaaGreatDoor.Am
open MapKept
theorem first_push:∀{l:List MapEntry} {k:Value} (x:MapEntry),bC l k none->bC (l++[x]) k none\/x.key=k
 |[],k,x,_=>by
   by_cases e:x.key=k;·exact .inr e
   ·exact .inl (.inr ⟨e,rfl⟩)
 |y::r,k,x,h=>by
  rcases h with⟨_,h⟩|⟨h1,h2⟩
  ·cases h
  ·rcases first_push x h2 with h3|h3
   ·exact .inl (.inr ⟨h1,h3⟩)
   ·exact .inr h3
theorem first_push_same:∀{l:List MapEntry} (x:MapEntry),bC l x.key none->bC (l++[x]) x.key (some x)
 |[],_,_=> .inl ⟨rfl,rfl⟩
 |_::_,x,h=>by
  rcases h with⟨_,h⟩|⟨h1,h2⟩
  ·cases h
  ·exact .inr ⟨h1,first_push_same x h2⟩
theorem first_append:∀{l:List MapEntry} {k:Value} {e:MapEntry} (r:List MapEntry),bC l k (some e)->bC (l++r) k (some e)
 |[],_,_,_,h=>by cases h
 |_::_,_,_,r,h=>by
  rcases h with⟨h1,h2⟩|⟨h1,h2⟩
  ·exact .inl ⟨h1,h2⟩
  ·exact .inr ⟨h1,first_append r h2⟩
theorem first_key:∀{l:List MapEntry} {k:Value} {e:MapEntry},bC l k (some e)->e.key=k
 |[],_,_,h=>by cases h
 |_::_,_,_,h=>by
  rcases h with⟨h1,h2⟩|⟨_,h2⟩
  ·cases h2;exact h1
  ·exact first_key h2
theorem find_none {d:TypeDesc} {k:Value} (hk:IsKey d k):∀(l:List MapEntry) (i:Nat),(∀x∈l,IsKey d x.key)->bC l k none->Instr.findNow d k l i=some none
 |[],_,_,_=>rfl
 |x::r,i,hl,h=>by
  rcases h with⟨_,h⟩|⟨h1,h2⟩
  ·cases h
  ·obtain⟨b,hb,hiff⟩:=sameNow_of_keys hk (hl x (.head _));have:b=false:=by
    cases b;·rfl
    ·exact absurd (hiff.1 rfl).symm h1
   subst this;simp only[Instr.findNow,hb];exact find_none hk r _ (λy hy=>hl y (.tail _ hy)) h2
theorem find_some {d:TypeDesc} {k:Value} (hk:IsKey d k):∀(l:List MapEntry) (i:Nat) {e:MapEntry},(∀x∈l,IsKey d x.key)->bC l k (some e)->
 ∃j,Instr.findNow d k l i=some (some (i+j,e.val))/\l[j]? =some e/\(∀e',e'.key=k->bC (l.set j e') k (some e'))/\
  (∀k' o e',k'≠k->e'.key=k->bC l k' o->bC (l.set j e') k' o)
 |[],_,_,_,h=>by cases h
 |x::r,i,e,hl,h=>by
  rcases h with⟨h1,h2⟩|⟨h1,h2⟩
  ·cases h2;obtain⟨b,hb,hiff⟩:=sameNow_of_keys hk (hl _ (.head _));have:b=true:=hiff.2 h1.symm;subst this;refine⟨0,by simp[Instr.findNow,hb],rfl,λe' he'=> .inl ⟨he',rfl⟩,λk' o e' hne he' hf=> ?_⟩;rcases hf with⟨h3,_⟩|⟨_,h4⟩
   ·exact absurd (h3.symm.trans h1) hne
   ·exact .inr ⟨λc=>hne (c.symm.trans he'),h4⟩
  ·obtain⟨b,hb,hiff⟩:=sameNow_of_keys hk (hl x (.head _));have:b=false:=by
    cases b;·rfl
    ·exact absurd (hiff.1 rfl).symm h1
   subst this;obtain⟨j,h3,h4,h5,h6⟩:=find_some hk r (i+1) (λy hy=>hl y (.tail _ hy)) h2;refine⟨j+1,?_,h4,λe' he'=> .inr ⟨h1,h5 e' he'⟩,λk' o e' hne he' hf=> ?_⟩;·simp only[Instr.findNow,hb];rw[h3,l8,Nat.add_comm 1 j]
   ·rcases hf with⟨h7,h8⟩|⟨h7,h8⟩
    ·exact .inl ⟨h7,h8⟩
    ·exact .inr ⟨h7,h6 k' o e' hne he' h8⟩
theorem Str.eq_iff (a b:Str):a.eq b=true↔a=b:=by
 unfold Str.eq;cases h1:Nat.beq a.len b.len;·simp only[aZ,false_iff];intro e;rw[e,qN]at h1;cases h1
 ·have h1':=aI h1;show Nat.beq _ _=true↔_;rw[Nat.beq_eq];cases a;cases b;simp only at h1';subst h1';simp
theorem lu (k:Str) (p:Str×AV) (r:List (Str×AV)):nH k (p::r)=if p.1=k then some p.2 else nH k r:=by
 have e:nH k (p::r)=Bool.rec (motive:=λ_=>Option AV) (nH k r) (some p.2) (p.1.eq k):=rfl;rw[e];cases h:p.1.eq k;·rw[aj (λc=>by rw[(Str.eq_iff _ _).2 c]at h;cases h)]
 ·rw[au ((Str.eq_iff _ _).1 h)]
theorem Qo (k:Str) (v:AV) (p:Str×AV) (r:List (Str×AV)):H6 k v (p::r)=if p.1=k then(p.1,v)::r else p::H6 k v r:=by
 have e:H6 k v (p::r)=Bool.rec (motive:=λ_=>List (Str×AV)) (p::H6 k v r) ((p.1,v)::r) (p.1.eq k):=rfl;rw[e];cases h:p.1.eq k;·rw[aj (λc=>by rw[(Str.eq_iff _ _).2 c]at h;cases h)]
 ·rw[au ((Str.eq_iff _ _).1 h)]
theorem Dn (k:Str) (v:AV) (k':Str):∀l:List (Str×AV),nH k' (H6 k v l)=if k'=k then some v else nH k' l
 |[]=>by
   have e:H6 k v []=[(k,v)]:=rfl;rw[e,lu];by_cases h:k'=k;·rw[au h,au h.symm]
   ·rw[aj h,aj (λc=>h c.symm)]
 |p::r=>by
  rw[Qo,lu];by_cases hp:p.1=k
  ·rw[au hp,lu];by_cases h:k'=k
   ·rw[au h,au (by rw[hp,h])]
   ·rw[aj h,aj (λc=>h (c.symm.trans hp)),aj (λc=>h (c.symm.trans hp))]
  ·rw[aj hp,lu,Dn k v k' r];by_cases h:k'=k
   ·rw[au h,aj (λc=>hp (c.trans h)),au h]
   ·rw[aj h,aj h]
section
variable {P:Program} {g:G} {ι:aV} {h h':H} {w:World} {D:Nat->Prop}
theorem JF (hg:jP P g) {t:TypeId} {y:Ty} (ht:g.ty t=some y):∃i z,P.info? t=some i/\i.zero=some z/\VR ι (zeroV y) z:=by obtain⟨_,_,i,z,hi,hs,_,hz,hzv,hzs,hzz⟩:=hg.ty _ _ ht;exact⟨i,z,hi,hz,by rw[zeroV,hzz];exact SX ι z⟩
def ag7 (P:Program) (t:TypeId):MK->Prop
 | .none=>True
 | .ints kd=>∃kt et,P.underlying t=some (.map kt et)/\P.underlying kt=some (.int kd)
 | .strs=>∃kt et,P.underlying t=some (.map kt et)/\P.underlying kt=some .string
theorem qW (hg:jP P g) (t:TypeId):ag7 P t (dV g t):=by
 unfold dV;split
 ·rename_i hd;split
  ·rename_i hd';exact⟨_,_,(hg.ty _ _ hd).1,(hg.ty _ _ hd').1⟩
  ·rename_i hd';exact⟨_,_,(hg.ty _ _ hd).1,(hg.ty _ _ hd').1⟩
  ·trivial
 ·trivial
theorem WR.map (k:WR ι h w D) {b:Nat} (hD:D b) {m:Nm} (e:ι b=some m) {x:wF} (hb:h.get b=some x):∃o,w.heap[m.B]? =some o/\BR ι x o m:=by obtain⟨m',o,h1,h2,h3⟩:=k.blk b _ hD (k.lt e) hb;rw[e]at h1;cases h1;exact⟨o,h2,h3⟩
theorem nI {t kt et:TypeId} {d:TypeDesc} {r:Nat} {es:Array MapEntry} {c:Nat} {key z:Value} {i:TypeInfo} {o:Option MapEntry} (ok:Bool)
 (ht:P.underlying t=some (.map kt et)) (hk:P.underlying kt=some d) (hr:w.heap[r]? =some (.map es c)) (hkey:IsKey d key) (hks:∀x∈es.toList,IsKey d x.key)
 (hi:P.info? et=some i) (hz:i.zero=some z) (hf:bC es.toList key o):
 (Instr.lookup t (.map (some r)) key ok).run P w= .ok (if ok then .tuple #[match o with|some e=>e.val|none=>z, .bool o.isSome]else match o with|some e=>e.val|none=>z) w:=by
 have hck:∀(b:Bool),(Instr.checkKey b 10000 kt key).run P w= .ok () w:=λb=>run_checkKey (n:=9999) hk hkey b;have hgo:=run_getObj_map (P:=P) hr;cases o with
 |none=>have hfn:=find_none hkey es.toList 0 hks hf;simp only[Instr.lookup,Sem.run_bind,aB ht,Result.andThen_ok,hgo,Sem.run_pure,hck,run_findKey hk hfn,lq hi hz];cases ok<;>rfl
 |some e=>obtain⟨j,hfn,_⟩:=find_some hkey es.toList 0 hks hf;simp only[Instr.lookup,Sem.run_bind,aB ht,Result.andThen_ok,hgo,Sem.run_pure,hck,run_findKey hk hfn];cases ok<;>rfl
theorem tC {t kt et:TypeId} {d:TypeDesc} {key z:Value} {i:TypeInfo} (ok:Bool)
 (ht:P.underlying t=some (.map kt et)) (hk:P.underlying kt=some d) (hkey:IsKey d key)
 (hi:P.info? et=some i) (hz:i.zero=some z):
 (Instr.lookup t (.map none) key ok).run P w= .ok (if ok then .tuple #[z, .bool false]else z) w:=by
 have hck:∀(b:Bool),(Instr.checkKey b 10000 kt key).run P w= .ok () w:=λb=>run_checkKey (n:=9999) hk hkey b;have hfn:Instr.findNow d key [] 0=some none:=rfl;simp only[Instr.lookup,Sem.run_bind,aB ht,Result.andThen_ok,Sem.run_pure,hck,run_findKey hk hfn,lq hi hz]
theorem yA {ok b:Bool} {v v':AV} (e:okA ok v b h= .ok v' h'):h'=h/\v'=(if ok then .fT (.cons v (.cons (.bool b) .nil))else v):=by
 unfold okA at e;split at e;·cases e;exact⟨rfl,rfl⟩
 ·obtain⟨h1,h2,_⟩:=pz e;exact⟨h2,h1⟩
theorem uY {ok b:Bool} {v:AV} {x:Value} (hv:VR ι v x):VR ι (if ok then .fT (.cons v (.cons (.bool b) .nil))else v) (if ok then .tuple #[x, .bool b]else x):=by
 cases ok;·exact hv
 ·exact⟨_,rfl,_,_,rfl,hv,_,_,rfl,rfl,rfl⟩
theorem Qp (hg:jP P g) (k:WR ι h w D) {t kt et:TypeId} {y ye:Ty} (ht:g.ty t=some y) (hd:y.desc= .map kt et) (he:g.ty et=some ye) {x i v:AV} {vx vi:Value} (hx:VR ι x vx) (hi:VR ι i vi) {ok:Bool}
 (hD:∀b∈aM x,D b) (e:H7 (dV g t) (zeroV ye) x i ok h= .ok v h'):aH P ι h w (Instr.lookup t vx vi ok) v h':=by
 obtain⟨ie,z,hie,hz,hzv⟩:=JF (ι:=ι) hg he;have hut:=(hg.ty _ _ ht).1;rw[hd]at hut;have hmk:=qW hg t;generalize dV g t=mk at e hmk;unfold H7 at e;split at e
 ·cases hx;split at e
  ·rename_i hok;obtain⟨h1,h2⟩:=yA e;subst h1;rw[h2];unfold ZB at hok;split at hok
   ·obtain⟨kt',et',h3,h4⟩:=hmk;rw[hut]at h3;cases h3;split at hok
    ·cases hi;exact aH.ret k (tC ok hut h4 (gQ hok).symm hie hz) (uY hzv)
    ·cases hok
   ·obtain⟨kt',et',h3,h4⟩:=hmk;rw[hut]at h3;cases h3;split at hok
    ·obtain⟨s,rfl,_⟩:=hi;exact aH.ret k (tC ok hut h4 trivial hie hz) (uY hzv)
    ·cases hok
   ·cases hok
  ·cases e
 ·rename_i b;obtain⟨m,hm,rfl⟩:=hx;split at e
  ·rename_i blk hb;obtain⟨o,ho,hbr⟩:=k.map (hD b (by simp[aM])) hm hb;unfold mapKey at e;split at e
   ·rename_i kd;obtain⟨kt',et',h3,h4⟩:=hmk;rw[hut]at h3;cases h3;split at e
    ·rename_i BA n c tr lk kd2 ix;split at e
     ·rename_i h5 h6 h7;rw[aD]at h5;have h6:=gQ h6;have h7:=gQ h7;subst h6;subst h7;cases hi;obtain⟨es,rfl,_,_,⟨hks,_⟩,hent⟩:=hbr;have Dp:∀x∈es.toList,IsKey (.int BA) x.key:=λx hx=>by obtain⟨q,_,hq⟩:=hks x hx;rw[hq];rfl
      have hent:=hent ix h5;dsimp only at e;split at e;·rename_i av JG;rw[JG]at hent;obtain⟨en,hf,hrel⟩:=hent;obtain⟨h1,h2⟩:=yA e;subst h1;rw[h2];exact aH.ret k (nI ok hut h4 ho (show IsKey (.int BA) (.int BA (Int.ofNat ix))from rfl) Dp hie hz hf) (uY hrel)
      ·rename_i JG;rw[JG]at hent;obtain⟨h1,h2⟩:=yA e;subst h1;rw[h2];exact aH.ret k (nI ok hut h4 ho (show IsKey (.int BA) (.int BA (Int.ofNat ix))from rfl) Dp hie hz hent) (uY hzv)
     ·cases e
    ·cases e
   ·obtain⟨kt',et',h3,h4⟩:=hmk;rw[hut]at h3;cases h3;split at e
    ·rename_i n c l s;obtain⟨s,rfl,rfl⟩:=hi;obtain⟨es,rfl,_,_,hks,hent⟩:=hbr;have Dp:∀x∈es.toList,IsKey .string x.key:=λx hx=>by obtain⟨q,hq⟩:=hks x hx;rw[hq];trivial
     have hent:=hent s;dsimp only at e;split at e;·rename_i av JG;rw[JG]at hent;obtain⟨en,hf,hrel⟩:=hent;obtain⟨h1,h2⟩:=yA e;subst h1;rw[h2];exact aH.ret k (nI ok hut h4 ho (show IsKey .string (.string s)from trivial) Dp hie hz hf) (uY hrel)
     ·rename_i JG;rw[JG]at hent;obtain⟨h1,h2⟩:=yA e;subst h1;rw[h2];exact aH.ret k (nI ok hut h4 ho (show IsKey .string (.string s)from trivial) Dp hie hz hent) (uY hzv)
    ·cases e
   ·cases e
  ·cases e
 ·cases e
def bump (o:Option MapEntry) (n:Nat):Nat:=
 match o with
 |some _=>n
 |none=>n+1
theorem Dq {t kt et:TypeId} {d:TypeDesc} {r:Nat} {es:Array MapEntry} {c:Nat} {key val:Value} {o:Option MapEntry}
 (ht:P.underlying t=some (.map kt et)) (hk:P.underlying kt=some d) (hr:w.heap[r]? =some (.map es c)) (hkey:IsKey d key) (hks:∀x∈es.toList,IsKey d x.key)
 (hf:bC es.toList key o):∃es',(Instr.mapUpdate t (.map (some r)) key val).run P w= .ok () {w with heap:=w.heap.setIfInBounds r (.map es' (bump o c))}/\
  (∃e,e.key=key/\e.val=val/\bC es'.toList key (some e))/\(∀k' o',k'≠key->bC es.toList k' o'->bC es'.toList k' o')/\
  (∀x∈es'.toList,x∈es.toList\/x.key=key)/\es'.size=bump o es.size/\((∀x∈es.toList,x.born<c)->∀x∈es'.toList,x.born<bump o c):=by
 have hck:∀(b:Bool),(Instr.checkKey b 10000 kt key).run P w= .ok () w:=λb=>run_checkKey (n:=9999) hk hkey b;have hgo:=run_getObj_map (P:=P) hr;cases o with
 |none=>
  have hfn:=find_none hkey es.toList 0 hks hf;refine⟨es.push {key,val,born:=c},?_,⟨{key,val,born:=c},rfl,rfl,?_⟩,λk' o' hne hf'=> ?_,λx hx=> ?_,by simp[bump],λhb x hx=> ?_⟩;·simp only[Instr.mapUpdate,Sem.run_bind,aB ht,Result.andThen_ok,hgo,hck,run_findKey hk hfn,run_setObj_map _ hr];rfl
  ·rw[qX];exact first_push_same {key,val,born:=c} hf
  ·rw[qX];cases o' with
   |none=>
    rcases first_push {key,val,born:=c} hf' with h1|h1;·exact h1
    ·exact absurd h1.symm hne
   |some e=>exact first_append _ hf'
  ·rw[qX]at hx;rcases iE.1 hx with hx|hx
   ·exact .inl hx
   ·rw[eG]at hx;exact .inr (by rw[hx])
  ·rw[qX]at hx;rcases iE.1 hx with hx|hx
   ·exact Nat.lt_succ_of_lt (hb x hx)
   ·rw[eG]at hx;rw[hx];exact ow c
 |some e=>
  obtain⟨j,hfn,hj,h1,h2⟩:=find_some hkey es.toList 0 hks hf;rw[bI]at hfn;have hek:=first_key hf;have hja:es[j]? =some e:=by rw[<-dN];exact hj
  have hl:(es.modify j λe=>{e with key:=key,val:=val}).toList=es.toList.set j {e with key:=key,val:=val}:=by
   apply yw;intro i;rw[dN,uZ];by_cases hij:j=i;·subst hij;have hlt:j<es.toList.length:=(pJ.1 hj).1;rw[au rfl,hja,List.getElem?_set_self hlt];rfl
   ·rw[aj hij,List.getElem?_set_ne hij,dN]
  refine⟨es.modify j λe=>{e with key:=key,val:=val},?_,⟨{e with key:=key,val:=val},rfl,rfl,?_⟩,λk' o' hne hf'=> ?_,λx hx=> ?_,by simp[bump],λhb x hx=> ?_⟩
  ·have hst:(Instr.keyThatStays ((es[j]?.map (·.key)).getD key) key).run P w= .ok key w:=by rw[hja];show(Instr.keyThatStays e.key key).run P w=_;rw[hek];exact run_keyThatStays hkey
   simp only[Instr.mapUpdate,Sem.run_bind,aB ht,Result.andThen_ok,hgo,hck,run_findKey hk hfn,hst,run_setObj_map _ hr];rfl
  ·rw[hl];exact h1 _ rfl
  ·rw[hl];exact h2 k' o' _ hne rfl hf'
  ·rw[hl]at hx;rcases List.mem_or_eq_of_mem_set hx with hx|hx
   ·exact .inl hx
   ·exact .inr (by rw[hx])
  ·rw[hl]at hx;rcases List.mem_or_eq_of_mem_set hx with hx|hx
   ·exact hb x hx
   ·rw[hx];exact hb e (pI hj)
theorem Loc.mO (k:WR ι h w D) {b:Nat} {m:Nm} (hm:ι b=some m) {x0 x:wF} (hb:h.get b=some x0) {o0 o:Obj} (hw:w.heap[m.B]? =some o0) (hbr:BR ι x o m):
 Loc ι h w ι (h.set b x) {w with heap:=w.heap.setIfInBounds m.B o} [b]:=by
 have hB:m.B<w.heap.size:=(dM.1 hw).1;refine Loc.mkSet k (k.lt hm) hb m hm o (by simp) (λi _ hne=> ?_) (by simp[hB]) hbr rfl rfl rfl;rw[jF (λe=>hne e.symm)]
theorem tF {kd:IntKind} {i j:Int} (h:(Value.int kd i)= .int kd j):i=j:=by cases h;rfl
theorem JH (hg:jP P g) (k:WR ι h w D) {t:TypeId} {x i v val:AV} {vx vi vv:Value} (hx:VR ι x vx) (hi:VR ι i vi) (hv:VR ι val vv)
 (hD:∀b∈aM x,D b) (e:zT (dV g t) x i val h= .ok v h'):v= .fT .nil/\Dh P ι h w (Instr.mapUpdate t vx vi vv) h':=by
 have hmk:=qW hg t;generalize dV g t=mk at e hmk;unfold zT at e;split at e
 ·rename_i b;obtain⟨m,hm,rfl⟩:=hx;split at e
  ·rename_i blk hb;obtain⟨o,ho,hbr⟩:=k.map (hD b (by simp[aM])) hm hb;unfold mapKey at e;split at e
   ·rename_i kd;obtain⟨kt',et',hut,h4⟩:=hmk;split at e
    ·rename_i BA n c tr lk kd2 ix;split at e
     ·rename_i h5 h6 h7;rw[aD]at h5;have h6:=gQ h6;have h7:=gQ h7;subst h6;subst h7;cases hi;obtain⟨es,rfl,hsz,hsh,⟨hks,hlk,_⟩,hent⟩:=hbr;have Dp:∀x∈es.toList,IsKey (.int BA) x.key:=λx hx=>by obtain⟨q,_,hq⟩:=hks x hx;rw[hq];rfl
      have h5':ix<4^11:=by have:ix<=4194303:=h5;omega
      have fin:∀(n' c':Nat) (o:Option MapEntry),bC es.toList (.int BA (Int.ofNat ix)) o->n'=(bump o es.size)->c'=(bump o c)->
       Dh P ι h w (Instr.mapUpdate t (.map (some m.B)) (.int BA (Int.ofNat ix)) vv) (h.set b (.zU BA n' c' (E.put (some val) 11 (path 11 ix) tr) 0)):=by
       intro n' c' o hf hn' hc';obtain⟨es',hrun,⟨en,hek,hev,hfe⟩,hoth,hmem,hsz',hbn⟩:=Dq (val:=vv) hut h4 ho (show IsKey (.int BA) (.int BA (Int.ofNat ix))from rfl) Dp hf;refine⟨ι,_,[b],hrun,Loc.mO k hm hb ho ⟨es',by rw[hc'],by rw[hsz',hn'],hsh,⟨λe he=> ?_,by rw[hc'];exact hbn hlk,λi h0=>by omega⟩,λi hi=> ?_⟩⟩
       ·rcases hmem e he with h1|h1
        ·exact hks e h1
        ·exact⟨_,h5,h1⟩
       ·have hi':i<4^11:=by have:i<=4194303:=hi;omega
        by_cases hii:i=ix;·subst hii;rw[E.cO];exact⟨en,hfe,by rw[hev];exact hv⟩
        ·rw[E.eX _ _ _ _ h5' hi' (λc=>hii c.symm)];have hne:(Value.int BA (i:Int))≠.int BA (Int.ofNat ix):=λc=>hii (Int.ofNat.inj (tF c));have:=hent i hi;split at this
         ·exact hoth _ _ hne this
         ·obtain⟨e1,h1,h2⟩:=this;exact⟨e1,hoth _ _ hne h1,h2⟩
      have oz:=hent ix h5;dsimp only at e;split at e;·rename_i av JG;rw[JG]at oz;obtain⟨en,hf,hrel⟩:=oz;cases e;exact⟨rfl,fin n c (some en) hf hsz.symm rfl⟩
      ·rename_i JG;rw[JG]at oz;cases e;exact⟨rfl,fin (n+1) (c+1) none oz (by rw[hsz];rfl) rfl⟩
     ·cases e
    ·cases e
   ·obtain⟨kt',et',hut,h4⟩:=hmk;split at e
    ·rename_i n c l s;obtain⟨s,rfl,rfl⟩:=hi;obtain⟨es,rfl,hsz,hsh,hks,hent⟩:=hbr;have Dp:∀x∈es.toList,IsKey .string x.key:=λx hx=>by obtain⟨q,hq⟩:=hks x hx;rw[hq];trivial
     have fin:∀(n' c':Nat) (o:Option MapEntry),bC es.toList (.string s) o->n'=(bump o es.size)->c'=(bump o c)->
      Dh P ι h w (Instr.mapUpdate t (.map (some m.B)) (.string s) vv) (h.set b (.smap n' c' (H6 (Str.of s) val l))):=by
      intro n' c' o hf hn' hc';obtain⟨es',hrun,⟨en,hek,hev,hfe⟩,hoth,hmem,hsz',hbn⟩:=Dq (val:=vv) hut h4 ho (show IsKey .string (.string s)from trivial) Dp hf;refine⟨ι,_,[b],hrun,Loc.mO k hm hb ho ⟨es',by rw[hc'],by rw[hsz',hn'],hsh,λe he=> ?_,λs'=> ?_⟩⟩
      ·rcases hmem e he with h1|h1
       ·exact hks e h1
       ·exact⟨_,h1⟩
      ·rw[Dn];by_cases hii:Str.of s'=Str.of s
       ·rw[au hii];obtain rfl:=Str.Sj hii;exact⟨en,hfe,by rw[hev];exact hv⟩
       ·rw[aj hii];have hne:(Value.string s')≠.string s:=λc=>hii (by cases c;rfl);have:=hent s';split at this
        ·exact hoth _ _ hne this
        ·obtain⟨e1,h1,h2⟩:=this;exact⟨e1,hoth _ _ hne h1,h2⟩
     have oz:=hent s;dsimp only at e;split at e;·rename_i av JG;rw[JG]at oz;obtain⟨en,hf,hrel⟩:=oz;cases e;exact⟨rfl,fin n c (some en) hf hsz.symm rfl⟩
     ·rename_i JG;rw[JG]at oz;cases e;exact⟨rfl,fin (n+1) (c+1) none oz (by rw[hsz];rfl) rfl⟩
    ·cases e
   ·cases e
  ·cases e
 ·cases e
theorem findIdx_last {r:List MapEntry} {x:MapEntry} {es:Array MapEntry} {p:MapEntry->Bool} (he:es.toList=r++[x]) (h1:∀y∈r,p y=false) (h2:p x=true):es.findIdx? p=some r.length:=by
 obtain⟨l⟩:=es;have he:l=r++[x]:=he;subst he;rw[List.findIdx?_toArray,List.findIdx?_append];have:List.findIdx? p r=none:=by rw[List.findIdx?_eq_none_iff];exact h1
 rw[this];simp[List.findIdx?_cons,h2]
theorem modify_last {r:List MapEntry} {x:MapEntry} {es:Array MapEntry} {f:MapEntry->MapEntry} (he:es.toList=r++[x]):(es.modify r.length f).toList=r++[f x]:=by
 apply yw;intro i;rw[dN,uZ,<-dN,he];by_cases hi:r.length=i;·subst hi;rw[au rfl];simp
 ·rw[aj hi];rcases aF i r.length with c|c
  ·rw[pF c,pF c]
  ·rw[pG c,pG c];obtain⟨j,hj⟩:∃j,i-r.length=j+1:=⟨i-r.length-1,by omega⟩
   rw[hj];rfl
theorem first_last:∀{r:List MapEntry} {x x':MapEntry} {k:Value} {o:Option MapEntry},x.key≠k->x'.key=x.key->bC (r++[x]) k o->bC (r++[x']) k o
 |[],x,x',k,o,hne,hk,h=>by
   rcases h with⟨h1,_⟩|⟨_,h2⟩
   ·exact absurd h1 hne
   ·exact .inr ⟨by rw[hk];exact hne,h2⟩
 |y::r,x,x',k,o,hne,hk,h=>by
  rcases h with h1|⟨h1,h2⟩
  ·exact .inl h1
  ·exact .inr ⟨h1,first_last hne hk h2⟩
theorem Qq (hg:jP P g) (k:WR ι h w D) {t kt et:TypeId} {y ye:Ty} (ht:g.ty t=some y) (hd:y.desc= .map kt et) (he:g.ty et=some ye) {x i v:AV} {vx vi:Value} (hx:VR ι x vx) (hi:VR ι i vi)
 (hD:∀b∈aM x,D b) (e:H8 (dV g t) (zeroV ye) x i h= .ok v h'):aH P ι h w (Instr.mapEntry t vx vi) v h':=by
 obtain⟨ie,z,hie,hz,hzv⟩:=JF (ι:=ι) hg he;have hut:=(hg.ty _ _ ht).1;rw[hd]at hut;have hmk:=qW hg t;generalize dV g t=mk at e hmk;unfold H8 at e;split at e
 ·rename_i b;obtain⟨m,hm,rfl⟩:=hx;split at e
  ·rename_i blk hb;obtain⟨o,ho,hbr⟩:=k.map (hD b (by simp[aM])) hm hb;unfold mapKey at e;split at e
   ·rename_i kd;obtain⟨kt',et',h3,h4⟩:=hmk;rw[hut]at h3;cases h3;split at e
    ·rename_i BA n c tr lk kd2 ix;split at e
     ·rename_i h5 h6 h7;rw[aD]at h5;have h6:=gQ h6;have h7:=gQ h7;subst h6;subst h7;cases hi;obtain⟨es,rfl,hsz,hsh,⟨hks,hlk,_⟩,hent⟩:=hbr;have Dp:∀x∈es.toList,IsKey (.int BA) x.key:=λx hx=>by obtain⟨q,_,hq⟩:=hks x hx;rw[hq];rfl
      have hkey:IsKey (.int BA) (.int BA (Int.ofNat ix)):=rfl;have h5':ix<4^11:=by have:ix<=4194303:=h5;omega
      have oz:=hent ix h5;dsimp only at e;split at e;·cases e
      ·rename_i JG;rw[JG]at oz;cases e;have hck:∀(b:Bool),(Instr.checkKey b 10000 kt (.int BA (Int.ofNat ix))).run P w= .ok () w:=λb=>run_checkKey (n:=9999) h4 hkey b;have hgo:=run_getObj_map (P:=P) ho;have hfn:=find_none hkey es.toList 0 Dp oz;refine⟨ι,{w with heap:=w.heap.setIfInBounds m.B (.map (es.push {key:= .int BA (Int.ofNat ix),val:=z,born:=c}) (c+1))},[b], .tuple #[z, .int .i64 c],?_,⟨_,rfl,_,_,rfl,hzv,_,_,rfl,rfl,rfl⟩,
        Loc.mO k hm hb ho ⟨es.push {key:= .int BA (Int.ofNat ix),val:=z,born:=c},rfl,by simp[hsz],hsh,⟨λx hx=> ?_,λx hx=> ?_,λj hj=> ?_⟩,λj hj=> ?_⟩⟩
       ·simp only[Instr.mapEntry,Sem.run_bind,aB hut,Result.andThen_ok,hgo,hck,run_findKey h4 hfn,lq hie hz,run_setObj_map _ ho,Sem.run_pure];rfl
       ·rw[qX]at hx;rcases iE.1 hx with hx|hx
        ·exact hks x hx
        ·rw[eG]at hx;exact⟨_,h5,by rw[hx];rfl⟩
       ·rw[qX]at hx;rcases iE.1 hx with hx|hx
        ·exact Nat.lt_succ_of_lt (hlk x hx)
        ·rw[eG]at hx;rw[hx];exact ow c
       ·have hj:ix=j:=Nat.succ.inj hj;subst hj;exact⟨es.toList,_,qX,rfl,oz,rfl,λx hx=>Nat.succ_lt_succ (hlk x hx)⟩
       ·have hj':j<4^11:=by have:j<=4194303:=hj;omega
        rw[qX];by_cases hii:j=ix;·subst hii;rw[E.cO];exact⟨_,first_push_same {key:= .int BA (Int.ofNat j),val:=z,born:=c} oz,hzv⟩
        ·rw[E.eX _ _ _ _ h5' hj' (λc=>hii c.symm)];have hne:(Value.int BA (Int.ofNat ix))≠.int BA (j:Int):=λc=>hii (Int.ofNat.inj (tF c)).symm;have hx:=hent j hj;split at hx
         ·rcases first_push {key:= .int BA (Int.ofNat ix),val:=z,born:=c} hx with h1|h1
          ·exact h1
          ·exact absurd h1 hne
         ·obtain⟨e1,h1,h2⟩:=hx;exact⟨e1,first_append _ h1,h2⟩
     ·cases e
    ·cases e
   ·split at e<;>cases e
   ·cases e
  ·cases e
 ·cases e
theorem SY (k:WR ι h w D) {t:TypeId} {x s v val:AV} {vx vs vv:Value} (hx:VR ι x vx) (hs:VR ι s vs) (hv:VR ι val vv)
 (hD:∀b∈aM x,D b) (e:H9 x s val h= .ok v h'):v= .fT .nil/\Dh P ι h w (Instr.entryStore t vx vs vv) h':=by
 unfold H9 at e;split at e
 ·rename_i b kd0 st;obtain⟨m,hm,rfl⟩:=hx;cases hs;split at e
  ·rename_i kd n c tr lk hb;obtain⟨o,ho,hbr⟩:=k.map (hD b (by simp[aM])) hm hb;split at e
   ·rename_i ix;split at e
    ·rename_i h1 h2;rw[aD]at h2;have h1:st+1=c:=aI h1;cases e;obtain⟨es,rfl,hsz,hsh,⟨hks,hlk,hl⟩,hent⟩:=hbr;obtain⟨r,en,hes,hek,hfr,hb1,hb2⟩:=hl ix rfl;have h5':ix<4^11:=by have:ix<=4194303:=h2;omega
     have hgo:=run_getObj_map (P:=P) ho;have hfi:es.findIdx? (λe=>(e.born:Int)==Int.ofNat st)=some r.length:=by
      refine findIdx_last hes (λy hy=> ?_) ?_;·have:=hb2 y hy;rw[dH];intro c;have:y.born=st:=Int.ofNat.inj c;omega
      ·rw[cZ];show Int.ofNat en.born=Int.ofNat st;congr 1;omega
     have hml:(es.modify r.length λe=>{e with val:=vv}).toList=r++[{en with val:=vv}]:=modify_last hes;refine⟨rfl,ι,_,[b],?_,Loc.mO k hm hb ho (o:= .map (es.modify r.length λe=>{e with val:=vv}) c) ⟨_,rfl,by simp[hsz],hsh,⟨λx hx=> ?_,λx hx=> ?_,λj hj=> ?_⟩,λj hj=> ?_⟩⟩;·simp only[Instr.entryStore,Sem.run_bind,Result.andThen_ok,hgo,asInt,asIntOf,Sem.run_pure];rw[hfi];simp only[run_setObj_map _ ho]
     ·rw[hml]at hx;rcases iE.1 hx with hx|hx
      ·exact hks x (by rw[hes];exact iF _ hx)
      ·rw[eG]at hx;exact⟨ix,h2,by rw[hx];exact hek⟩
     ·rw[hml]at hx;rcases iE.1 hx with hx|hx
      ·exact hlk x (by rw[hes];exact iF _ hx)
      ·rw[eG]at hx;rw[hx];show en.born<c;omega
     ·have hj:0=j+1:=hj;omega
     ·have hj':j<4^11:=by have:j<=4194303:=hj;omega
      rw[hml];by_cases hii:j=ix;·subst hii;rw[E.cO];refine⟨{en with val:=vv},?_,hv⟩;have:=first_push_same {en with val:=vv} (l:=r) (by show bC r en.key none;rw[hek];exact hfr);rw[<-hek];exact this
      ·rw[E.eX _ _ _ _ h5' hj' (λc=>hii c.symm)];have hne:en.key≠.int kd (j:Int):=λc=>by rw[hek]at c;exact hii (Int.ofNat.inj (tF c)).symm
       have hx:=hent j hj;rw[hes]at hx;split at hx;·exact first_last hne rfl hx
       ·obtain⟨e1,h1,h2⟩:=hx;exact⟨e1,first_last hne rfl h1,h2⟩
    ·cases e
   ·cases e
  ·cases e
 ·cases e
end
open MapKept
section
variable {P:Program} {g:G} {ι:aV} {h h':H} {w:World} {D:Nat->Prop}
theorem tH (o:Obj) (w:World):(newObj o).run P w= .ok w.heap.size (World.grown w w.drawn o):=rfl
theorem AY (k:WR ι h w D) (hg:jP P g) {t:TypeId} {v:AV} (e:qm (dV g t) h= .ok v h') (r:Option Value) (hr:∀x,r=some x->∃kd n,x= .int kd n):
 aH P ι h w (Instr.makeMap t r) v h':=by
 have hmk:=qW hg t;generalize dV g t=mk at e hmk;have hrun:∀kt et,P.underlying t=some (.map kt et)->(Instr.makeMap t r).run P w= .ok (.map (some w.heap.size)) (World.grown w w.drawn (.map #[] 0)):=by
  intro kt et hu;cases r with
  |none=>simp only[Instr.makeMap,Sem.run_bind,Sem.run_pure,Result.andThen_ok,tH]
  |some x=>obtain⟨kd,n,rfl⟩:=hr x rfl;simp only[Instr.makeMap,Sem.run_bind,Sem.run_pure,Result.andThen_ok,tH,aB hu,asInt,asIntOf]
 unfold qm at e;split at e;·rename_i kd hroom;obtain⟨kt,et,hu,_⟩:=hmk;cases e;refine⟨_,_,[],_,hrun kt et hu,⟨⟨w.heap.size,0,0⟩,aV.add_same _ _ _,rfl⟩,Loc.yh k (H.jX.1 hroom) _ ⟨w.heap.size,0,0⟩ (.map #[] 0) (by simp[World.grown]) gH (Nat.le_refl _) gI ?_ rfl rfl rfl⟩;refine⟨#[],rfl,rfl,rfl,⟨by simp,by simp,λi h0=>by have h0:0=i+1:=h0;omega⟩,λi _=> ?_⟩;rw[E.vg];exact rfl
 ·rename_i hroom;obtain⟨kt,et,hu,_⟩:=hmk;cases e;refine⟨_,_,[],_,hrun kt et hu,⟨⟨w.heap.size,0,0⟩,aV.add_same _ _ _,rfl⟩,Loc.yh k (H.jX.1 hroom) _ ⟨w.heap.size,0,0⟩ (.map #[] 0) (by simp[World.grown]) gH (Nat.le_refl _) gI ?_ rfl rfl rfl⟩;exact⟨#[],rfl,rfl,rfl,by simp,λs=>rfl⟩
 ·cases e
theorem S9 (k:WR ι h w D) (hg:jP P g) {t:TypeId} {y:Ty} (ht:g.ty t=some y) (hd:y.desc= .string) {x v:AV} {vx:Value} (hx:VR ι x vx) (e:Mh x h= .ok v h'):aH P ι h w (Instr.range t vx) v h':=by
 have hut:=(hg.ty _ _ ht).1;rw[hd]at hut;unfold Mh at e;split at e
 ·obtain⟨b,rfl,rfl⟩:=hx;split at e
  ·rename_i hroom;cases e;refine⟨_,_,[], .pointer (some ⟨w.heap.size,0,none⟩),?_,BZ (m:=⟨w.heap.size,0,0⟩) rfl,Loc.yh k (H.jX.1 hroom) _ ⟨w.heap.size,0,0⟩ (.stringIter b 0) (by simp[World.grown]) gH (Nat.le_refl _) (gI (n:=w.drawn)) ⟨rfl,b,rfl,rfl⟩ rfl rfl rfl⟩;simp only[Instr.range,Sem.run_bind,aB hut,Result.andThen_ok,Sem.run_pure,tH]
  ·cases e
 ·cases e
theorem Ta {ι:aV}:∀(a:AV) (l:List Value),fQ ι a l->∀o,l.length<=o->Bw a o= .bad:=
 iW (λ_ _=>rfl) (λa t x xs _ _ ih o ho=>by
  cases o with
  |zero=>simp at ho
  |succ o=>exact ih o (by simpa using ho))
theorem Mi (k:WR ι h w D) {x v:AV} {vx:Value} {i:Nat} (hx:VR ι x vx) (e:sQ (tJ x i) h= .ok v h'):aH P ι h w (Instr.extract vx i) v h':=by
 obtain⟨e1,e2,hv⟩:=pz e;subst e2;have hv':=hv;rw[<-e1]at hv';unfold tJ at e1;split at e1
 ·obtain⟨xs,rfl,hxs⟩:=hx;have hlt:i<xs.size:=by
   rcases aF i xs.size with c|c;·exact c
   ·exact absurd (Ta _ _ hxs i (by simpa using c)) hv
  refine aH.ret k (v':=xs.toList.getD i undef) ?_ (by rw[e1];exact gu hxs i);simp only[Instr.extract,l6 hlt,Sem.run_pure];simp[hlt]
 ·exact absurd e1 hv'
theorem Ia (k:WR ι h w D) (hg:jP P g) {t:TypeId} {y:Ty} (ht:g.ty t=some y) (hd:∀ms,y.desc≠.interface ms) {x:AV} {vx:Value} (hx:VR ι x vx):aH P ι h w (Instr.makeInterface t vx) (.sH t x) h:=by refine aH.ret k (v':= .iface t vx) ?_ ⟨vx,rfl,hx⟩;simp only[Instr.makeInterface,Sem.run_bind,aB (hg.ty _ _ ht).1,Result.andThen_ok];rfl
theorem JI (k:WR ι h w D) {f:FuncId} {x y:AV} {xs ys:Array Value} (hx:fQ ι x xs.toList) (hy:fQ ι y ys.toList):aH P ι h w (Instr.makeFunc (.func f) xs ys) (.fn f x y) h:=
 aH.ret k (v':= .func (.func f) xs ys) rfl (.inl ⟨xs,ys,rfl,hx,hy⟩)
theorem Fq (k:WR ι h w D) {t:Nat} {nm:String} {x:AV} {vx:Value} (hx:VR ι (.sH t x) vx):aH P ι h w (Instr.makeFunc (.method nm) #[vx] #[]) (.fn 0 (.sH t x) (.str (Str.of nm.toUTF8))) h:=by obtain⟨y,rfl,hy⟩:=hx;exact aH.ret k (v':= .func (.method nm) #[.iface t y] #[]) rfl (.inr ⟨.iface t y,nm,rfl,⟨y,rfl,hy⟩,nm.toUTF8,rfl,rfl⟩)
theorem aaN (k:WR ι h w D) (hg:jP P g) {t ty:TypeId} {y:Ty} (ht:g.ty t=some y) {x v:AV} {vx:Value} {ts:Array TypeId} (hts:ts[0]? =some t) (hx:VR ι x vx) (hD:∀b∈aM x,D b) (e:Td y.desc x h= .ok v h'):
 aH P ι h w (Builtin.len_ ts ty #[vx]) v h':=by
 have hut:=(hg.ty _ _ ht).1;have hx0:(#[vx]:Array Value)[0]? =some vx:=rfl;unfold Td at e;split at e
 ·rename_i hd;rw[hd]at hut;split at e
  ·obtain⟨b,rfl,rfl⟩:=hx;rw[oq]at e;cases e;refine aH.ret k (v':=goInt b.size) ?_ (by rw[Str.eY];rfl);simp only[Builtin.len_,hts,hx0,Sem.run_bind,aB hut,Result.andThen_ok,Sem.run_pure]
  ·cases e
 ·rename_i hd;rw[hd]at hut;split at e
  ·obtain⟨m,ya,cap,_,rfl,_⟩:=hx;rw[oq]at e;cases e;refine aH.ret k (v':=goInt _) ?_ rfl;simp only[Builtin.len_,hts,hx0,Sem.run_bind,aB hut,Result.andThen_ok,Sem.run_pure];rfl
  ·cases hx;cases e;refine aH.ret k (v':=goInt 0) ?_ rfl;simp only[Builtin.len_,hts,hx0,Sem.run_bind,aB hut,Result.andThen_ok,Sem.run_pure];rfl
  ·cases e
 ·rename_i hd;rw[hd]at hut;split at e
  ·cases hx;cases e;refine aH.ret k (v':=goInt 0) ?_ rfl;simp only[Builtin.len_,hts,hx0,Sem.run_bind,aB hut,Result.andThen_ok,Sem.run_pure]
  ·rename_i b;obtain⟨m,hm,rfl⟩:=hx;split at e
   ·rename_i hb;obtain⟨o,ho,hbr⟩:=k.map (hD b (by simp[aM])) hm hb;obtain⟨es,rfl,hsz,_⟩:=hbr;cases e;refine aH.ret k (v':=goInt es.size) ?_ (by rw[hsz];rfl);simp only[Builtin.len_,hts,hx0,Sem.run_bind,aB hut,Result.andThen_ok,Sem.run_pure,run_getObj_map ho]
   ·rename_i hb;obtain⟨o,ho,hbr⟩:=k.map (hD b (by simp[aM])) hm hb;obtain⟨es,rfl,hsz,_⟩:=hbr;cases e;refine aH.ret k (v':=goInt es.size) ?_ (by rw[hsz];rfl);simp only[Builtin.len_,hts,hx0,Sem.run_bind,aB hut,Result.andThen_ok,Sem.run_pure,run_getObj_map ho]
   ·cases e
  ·cases e
 ·cases e
end
theorem Dr (b:ByteArray) (j:Nat) (hj:j<b.size):(b.get! j).toNat=(Str.of b).byte j:=by
 rw[Str.xY b j hj];have hj':j<b.data.size:=hj;have e:b.get! j=b.data[j]! :=by cases b;rfl
 rw[e,getElem!_pos b.data j hj'];rfl
theorem Xu (a b:Bool):aA a b=(a&&b):=by cases a<;>rfl
theorem Te (c:Nat):ZC c=Utf8.valid c:=by unfold ZC Utf8.valid;have h1:Nat.ble (Nat.succ c) (nat_lit 55296)=decide (c<55296):=iY _ _;have h2:Nat.ble (nat_lit 57344) c=decide (57344<=c):=iY _ _;have h3:Nat.ble c (nat_lit 1114111)=decide (c<=1114111):=iY _ _;rw[h1,h2,h3];by_cases a:c<55296<;>by_cases b:57344<=c<;>by_cases d:c<=1114111<;>simp[a,b,d]<;>omega
theorem qY (b:ByteArray) (j:Nat):cont (Str.of b) j=(decide (j<b.size)&&(b.get! j).toNat/64==2):=by
 have e:cont (Str.of b) j=Bool.rec (motive:=λ_=>Bool) false (Nat.beq (Nat.div ((Str.of b).byte j) 64) 2) (Nat.ble (Nat.succ j) (Str.of b).len):=rfl;rw[e,Str.eY,iY];by_cases h:j<b.size;·have h':Nat.succ j<=b.size:=h;rw[aO h',aO h,Dr b j h,Bool.true_and];show Nat.beq _ _=_;rw[uT,dY,aY,cZ];rfl
 ·have h':¬Nat.succ j<=b.size:=h;rw[aP h',aP h];rfl
theorem Ib (b:ByteArray) (j:Nat) (h:cont (Str.of b) j=true):WV (Str.of b) j=(b.get! j).toNat%64:=by rw[qY,aQ,aY]at h;rw[Dr b j h.1];rfl
noncomputable section
def Xv (B:Nat) (c1 c2 c3:Bool) (l1 l2 l3:Nat) (k:Nat->Nat->bB):bB:=
 match Nat.ble (Nat.succ B) (nat_lit 128)with
 |true=>k B (nat_lit 1)
 |false=>match aA (Nat.beq (Nat.div B (nat_lit 32)) (nat_lit 6)) c1 with
  |true=>Bool.rec (k (nat_lit 65533) (nat_lit 1)) (k (Nat.add (Nat.mul (Nat.mod B (nat_lit 32)) (nat_lit 64)) l1) (nat_lit 2)) (Nat.ble (nat_lit 128) (Nat.add (Nat.mul (Nat.mod B (nat_lit 32)) (nat_lit 64)) l1))
  |false=>match aA (Nat.beq (Nat.div B (nat_lit 16)) (nat_lit 14)) (aA c1 c2)with
   |true=>Bool.rec (k (nat_lit 65533) (nat_lit 1)) (k (Nat.add (Nat.add (Nat.mul (Nat.mod B (nat_lit 16)) (nat_lit 4096)) (Nat.mul l1 (nat_lit 64))) l2) (nat_lit 3))
    (aA (Nat.ble (nat_lit 2048) (Nat.add (Nat.add (Nat.mul (Nat.mod B (nat_lit 16)) (nat_lit 4096)) (Nat.mul l1 (nat_lit 64))) l2)) (ZC (Nat.add (Nat.add (Nat.mul (Nat.mod B (nat_lit 16)) (nat_lit 4096)) (Nat.mul l1 (nat_lit 64))) l2)))
   |false=>match aA (Nat.beq (Nat.div B (nat_lit 8)) (nat_lit 30)) (aA c1 (aA c2 c3))with
    |true=>Bool.rec (k (nat_lit 65533) (nat_lit 1)) (k (Nat.add (Nat.add (Nat.add (Nat.mul (Nat.mod B (nat_lit 8)) (nat_lit 262144)) (Nat.mul l1 (nat_lit 4096))) (Nat.mul l2 (nat_lit 64))) l3) (nat_lit 4))
     (aA (Nat.ble (nat_lit 65536) (Nat.add (Nat.add (Nat.add (Nat.mul (Nat.mod B (nat_lit 8)) (nat_lit 262144)) (Nat.mul l1 (nat_lit 4096))) (Nat.mul l2 (nat_lit 64))) l3))
      (ZC (Nat.add (Nat.add (Nat.add (Nat.mul (Nat.mod B (nat_lit 8)) (nat_lit 262144)) (Nat.mul l1 (nat_lit 4096))) (Nat.mul l2 (nat_lit 64))) l3)))
    |false=>k (nat_lit 65533) (nat_lit 1)
theorem Qr (s:Str) (i:Nat) (k:Nat->Nat->bB):Xw s i k=
 Xv (s.byte i) (cont s (i+1)) (cont s (i+2)) (cont s (i+3)) (WV s (i+1)) (WV s (i+2)) (WV s (i+3)) k:=by
 unfold Xw Xv;simp only[oq];rfl
def Xx (B:Nat) (c1 c2 c3:Bool) (a1 a2 a3:Nat):Nat×Nat:=
 if B<128 then(B,1)
 else if B/32==6&&c1 then(if B%32*64+a1%64≥128 then(B%32*64+a1%64,2)else(65533,1))
 else if B/16==14&&c1&&c2 then(if B%16*4096+a1%64*64+a2%64≥2048&&Utf8.valid (B%16*4096+a1%64*64+a2%64:Nat)then(B%16*4096+a1%64*64+a2%64,3)else(65533,1))
 else if B/8==30&&c1&&c2&&c3 then
  (if B%8*262144+a1%64*4096+a2%64*64+a3%64≥65536&&Utf8.valid (B%8*262144+a1%64*4096+a2%64*64+a3%64:Nat)then(B%8*262144+a1%64*4096+a2%64*64+a3%64,4)else(65533,1))
 else(65533,1)
theorem JJ (b:ByteArray) (i:Nat):Utf8.decode b i=
 Xx (b.get! i).toNat (decide (i+1<b.size)&&(b.get! (i+1)).toNat/64==2) (decide (i+2<b.size)&&(b.get! (i+2)).toNat/64==2) (decide (i+3<b.size)&&(b.get! (i+3)).toNat/64==2)
  (b.get! (i+1)).toNat (b.get! (i+2)).toNat (b.get! (i+3)).toNat:=rfl
theorem adq (a b:Nat):Nat.beq a b=(a==b):=by rw[uT,dY,aY,cZ]
theorem ZE (a b:Nat):Nat.div a b=a/b:=rfl
theorem ZF (a b:Nat):Nat.mod a b=a%b:=rfl
theorem ZG (a b:Nat):Nat.mul a b=a*b:=rfl
theorem ZH (a b:Nat):Nat.add a b=a+b:=rfl
theorem oC {α:Type} (c:Bool) (x y:α):(Bool.rec x y c:α)=if c=true then y else x:=by cases c<;>rfl
theorem Qs {α:Type} (c:Bool) (x y:α):(match c with|true=>y|false=>x)=if c=true then y else x:=by cases c<;>rfl
theorem Ic {k:Nat->Nat->bB} (c:Prop) [Decidable c] (c':Prop) [Decidable c'] (hc:c↔c') (x y x' y':Nat):(if c then k x y else k x' y')=k (if c' then(x,y)else(x',y')).1 (if c' then(x,y)else(x',y')).2:=by
 by_cases h:c;·rw[au h,au (hc.1 h)]
 ·rw[aj h,aj (λe=>h (hc.2 e))]
theorem Qt (B:Nat) (c1 c2 c3:Bool) (l1 l2 l3 a1 a2 a3:Nat) (h1:c1=true->l1=a1%64) (h2:c2=true->l2=a2%64) (h3:c3=true->l3=a3%64) (k:Nat->Nat->bB):
 Xv B c1 c2 c3 l1 l2 l3 k=k (Xx B c1 c2 c3 a1 a2 a3).1 (Xx B c1 c2 c3 a1 a2 a3).2:=by
 unfold Xv Xx;simp only[Xu,Te,iY,adq,oC,Qs,ZH,ZG,ZE,ZF];by_cases q0:B<128;·rw[au q0,au (show(decide (Nat.succ B<=128)=true)from aO q0)]
 rw[aj q0,aj (show ¬(decide (Nat.succ B<=128)=true)from λe=>q0 (gK e))];by_cases q1:(B/32==6&&c1)=true;·rw[au q1,au q1];rw[h1 (by simp only[aQ]at q1;exact q1.2)];exact Ic _ _ (by simp only[aY]) _ _ _ _
 rw[aj q1,aj q1];by_cases q2:(B/16==14&&c1&&c2)=true;·rw[au q2,au (show(B/16==14&&(c1&&c2))=true by rw[<-vw];exact q2)];simp only[aQ]at q2;rw[h1 q2.1.2,h2 q2.2];exact Ic _ _ (by simp only[aQ,aY]) _ _ _ _
 rw[aj q2,aj (show ¬(B/16==14&&(c1&&c2))=true by rw[<-vw];exact q2)];by_cases q3:(B/8==30&&c1&&c2&&c3)=true;·rw[au q3,au (show(B/8==30&&(c1&&(c2&&c3)))=true by rw[<-vw,<-vw];exact q3)];simp only[aQ]at q3;rw[h1 q3.1.1.2,h2 q3.1.2,h3 q3.2];exact Ic _ _ (by simp only[aQ,aY]) _ _ _ _
 rw[aj q3,aj (show ¬(B/8==30&&(c1&&(c2&&c3)))=true by rw[<-vw,<-vw];exact q3)]
theorem Xy (b:ByteArray) (i:Nat) (hi:i<b.size) (k:Nat->Nat->bB):Xw (Str.of b) i k=k (Utf8.decode b i).1 (Utf8.decode b i).2:=by
 rw[Qr,JJ,<-Dr b i hi,qY,qY,qY];refine Qt _ _ _ _ _ _ _ _ _ _ ?_ ?_ ?_ k;·intro h;exact Ib _ _ (by rw[qY];exact h)
 ·intro h;exact Ib _ _ (by rw[qY];exact h)
 ·intro h;exact Ib _ _ (by rw[qY];exact h)
section
variable {P:Program} {g:G} {ι:aV} {h h':H} {w:World} {D:Nat->Prop}
theorem Xz (k:WR ι h w D) {x v:AV} {vx:Value} (hx:VR ι x vx) (hD:∀b∈aM x,D b) (t:TypeId) (e:JK x h= .ok v h'):aH P ι h w (Instr.next vx true t) v h':=by
 unfold JK at e;split at e
 ·rename_i b;obtain⟨m,hm,rfl⟩:=hx;split at e
  ·rename_i s pos hb;obtain⟨o,ho,hbr⟩:=k.map (hD b (by simp[aM])) hm hb;obtain⟨hsh,bs,rfl,rfl⟩:=hbr;have hgo:(getObj m.B).run P w= .ok (.stringIter bs pos) w:=by show Sem.run P (Sem.getObj m.B Sem.pure) w=_;unfold Sem.run;rw[ho];rfl
   split at e
   ·rename_i hlt;rw[aD,Str.eY]at hlt;have hlt:pos<bs.size:=hlt;rw[Xy bs pos hlt,oq]at e;cases e;have hL:=Loc.mO k hm hb ho (o:= .stringIter bs (pos+(Utf8.decode bs pos).2)) (x:= .iter (Str.of bs) (pos+(Utf8.decode bs pos).2)) ⟨hsh,bs,rfl,rfl⟩;refine⟨ι,_,[b], .tuple #[.bool true,goInt pos, .int .i32 (Utf8.decode bs pos).1],?_,?_,hL⟩
    ·simp only[Instr.next,hsh,dG,Sem.run_bind,hgo,Result.andThen_ok,au hlt];have hso:(setObj m.B (.stringIter bs (pos+(Utf8.decode bs pos).2))).run P w= .ok () {w with heap:=w.heap.setIfInBounds m.B (.stringIter bs (pos+(Utf8.decode bs pos).2))}:=by show Sem.run P (Sem.setObj m.B _ (Sem.pure ())) w=_;unfold Sem.run;rw[ho];rfl
     rw[hso];rfl
    ·exact⟨_,rfl,_,_,rfl,rfl,_,_,rfl,rfl,_,_,rfl,rfl,rfl⟩
   ·rename_i hlt;cases e;rw[Str.eY]at hlt;have hlt:¬pos<bs.size:=λc=>by
     have:Nat.ble (Nat.succ pos) bs.size=true:=by rw[aD];exact c
     rw[this]at hlt;cases hlt
    refine aH.ret k (v':= .tuple #[.bool false]) ?_ ⟨_,rfl,_,_,rfl,rfl,rfl⟩;simp only[Instr.next,hsh,dG,Sem.run_bind,hgo,Result.andThen_ok,aj hlt];rfl
  ·cases e
 ·cases e
end
end
section
variable {P:Program} {g:G} {ι:aV} {h h':H} {w:World} {D:Nat->Prop}
theorem jv {b:Nat} {arr:Array Value} {el:TypeId} {fr:Nat×Nat} (h:w.heap[b]? =some (.cells arr el fr)) (f:Obj->Obj) {arr':Array Value} {iV:TypeId} {fr':Nat×Nat}
 (hf:f (.cells arr el fr)= .cells arr' iV fr'):{w with heap:=w.heap.modify b f}=World.putCells w b arr' iV fr':=by
 unfold World.putCells;congr 1;apply Array.ext_getElem?;intro i;have hlt:b<w.heap.size:=(dM.1 h).1;by_cases hi:b=i;·subst hi;rw[uZ,au rfl,h];simp[hlt,hf]
 ·rw[jF hi,uZ,aj hi]
theorem oF {b o:Nat} {arr:Array Value} {el:TypeId} {lo hi:Nat} (hw:w.heap[b]? =some (.cells arr el (lo,hi))):
 ∃lo' hi',(markStringish ⟨b,o,none⟩).run P w= .ok () (World.putCells w b arr el (lo',hi'))/\((lo=hi\/arr.size<=lo)->arr.size<=lo'):=by
 have hs:w.shape? b=some (el,arr.size):=by simp only[World.shape?,hw]
 by_cases hlh:lo=hi;·refine⟨arr.size,arr.size+1,?_,λ_=>ay _⟩;simp only[markStringish,Sem.run_bind,run_shape,hs,Result.andThen_ok,run_freeze];unfold World.freeze;rw[if_neg (by decide),jv hw _ (arr':=arr) (iV:=el) (fr':=(arr.size,arr.size+1)) (by simp[hlh])]
 ·refine⟨min lo arr.size,max hi (arr.size+1),?_,λc=> ?_⟩
  ·simp only[markStringish,Sem.run_bind,run_shape,hs,Result.andThen_ok,run_freeze];unfold World.freeze;rw[if_neg (by decide),jv hw _ (arr':=arr) (iV:=el) (fr':=(min lo arr.size,max hi (arr.size+1))) (by simp[hlh])]
  ·rcases c with c|c
   ·exact absurd c hlh
   ·omega
theorem Cb (need old:Nat) (el:TypeId) (w:World):∃c,(choose (.appendCap need old el)).run P w= .ok c (World.bQ w (w.drawn+1))/\need<=c:=by
 refine⟨(Question.appendCap need old el).cut (w.tape w.drawn (.appendCap need old el)),?_,?_⟩;·rw[run_choose,if_neg (by simp[Question.forced])];rfl
 ·exact Nat.le_add_right _ _
noncomputable def ZI (c:AV) (f:Option Str->Option Str) (o:Option Str):Option Str:=
 match c,o with
  | .int .u8 (.ofNat n),some s=>match Nat.ble n (nat_lit 255)with
    |true=>sN (Nat.add (Nat.mul s.val (nat_lit 256)) n) λv=>f (some ⟨Nat.succ s.len,v⟩)
    |false=>none
  |_,_=>none
theorem Fu (a t:AV) (o:Option Str):nJ (.cons a t) o=ZI a (nJ t) o:=rfl
theorem tK {a:AV} {l:List Value} (hl:fQ ι a l):∀(b:ByteArray) (s:Str),nJ a (some (Str.of b))=some s->
 ∃ns:List Int,l=ns.map (Value.int .u8)/\s=Str.of (ns.foldl (λr n=>r.push (UInt8.ofNat n.toNat)) b):=by
 refine iW (ι:=ι) (Q:=λa l=>∀(b:ByteArray) (s:Str),nJ a (some (Str.of b))=some s->
  ∃ns:List Int,l=ns.map (Value.int .u8)/\s=Str.of (ns.foldl (λr n=>r.push (UInt8.ofNat n.toNat)) b)) ?_ ?_ a l hl
 ·intro b s e;have e:some (Str.of b)=some s:=e;cases e;exact⟨[],rfl,rfl⟩
 ·intro a t x xs hx _ ih b s e;rw[Fu]at e;unfold ZI at e;split at e
  ·rename_i n s0 h1;cases h1;cases hx;split at e
   ·rename_i hle;rw[aD]at hle;rw[oq]at e;have hpush:(⟨Nat.succ (Str.of b).len,Nat.add (Nat.mul (Str.of b).val (nat_lit 256)) n⟩:Str)=Str.of (b.push (UInt8.ofNat n)):=by
     rw[Str.of_eq,Str.of_eq];have hd:(b.push (UInt8.ofNat n)).data.toList=b.data.toList++[UInt8.ofNat n]:=by cases b;simp[ByteArray.push]
     rw[hd,jK];have hn:(UInt8.ofNat n).toNat=n:=by rw[yB];exact kY (by have:n<=255:=hle;omega)
     simp only[fG,pE,List.foldl_nil,bV,bT,mh,hn];simp
    rw[hpush]at e;obtain⟨ns,rfl,h2⟩:=ih _ _ e;exact⟨(n:Int)::ns,rfl,h2⟩
   ·cases e
  ·cases e
theorem OC (b:ByteArray):fQ ι (aaO (Str.of b) (Str.of b).len) (b.data.toList.map λc=>Value.int .u8 (c.toNat:Int)):=by
 have key:∀n i,i+n=b.size->fQ ι (Nat.rec (motive:=λ_=>Nat->AV) (λ_=> .nil) (λ_ ih i=>sN ((Str.of b).byte i) λc=> .cons (.int .u8 (.ofNat c)) (ih (Nat.succ i))) n i)
  ((b.data.toList.drop i).map λc=>Value.int .u8 (c.toNat:Int)):=by
  intro n
  induction n with
  |zero=>
   intro i hi
   have:b.data.toList.drop i=[]:=List.drop_eq_nil_of_le (by have:b.data.toList.length=b.size:=by simp
                                                            omega)
   rw[this];rfl
  |succ n ih=>
   intro i hi
   have hlt:i<b.data.toList.length:=by have:b.data.toList.length=b.size:=by simp
                                       omega
   rw[pK hlt,jD]
   show fQ ι (sN ((Str.of b).byte i) λc=> .cons (.int .u8 (.ofNat c)) _) _
   rw[oq]
   refine⟨_,_,rfl,?_,ih (i+1) (by omega)⟩
   rw[Str.xY b i (by simpa using hlt)]
   rfl
 have:=key b.size 0 (by omega)
 rw[Str.eY]
 exact this
def XA (c:Nat):ByteArray:=
 if c<0x80 then⟨#[UInt8.ofNat c]⟩
 else if c<0x800 then⟨#[UInt8.ofNat (0xC0+c/64),UInt8.ofNat (0x80+c%64)]⟩
 else if c<0x10000 then⟨#[UInt8.ofNat (0xE0+c/4096),UInt8.ofNat (0x80+c/64%64),UInt8.ofNat (0x80+c%64)]⟩
 else⟨#[UInt8.ofNat (0xF0+c/262144),UInt8.ofNat (0x80+c/4096%64),UInt8.ofNat (0x80+c/64%64),UInt8.ofNat (0x80+c%64)]⟩
theorem JL (r:Int):Utf8.encode r=XA (if Utf8.valid r then r.toNat else 65533):=rfl
theorem u8_of {n:Nat} (h:n<256):(UInt8.ofNat n).toNat=n:=by rw[yB];exact kY (by omega)
theorem yC (c:Nat) (hc:c<=1114111):enc1 c=Str.of (XA c):=by
 unfold enc1 XA;simp only[oC,iY,aY,ZH,ZG,ZE,ZF];by_cases h1:c<128;·rw[au h1,au (show Nat.succ c<=128 from h1),Str.of_eq];simp only[fG,pE,List.foldl_nil,u8_of (show c<256 by omega),bT,mh];simp
 rw[aj h1,aj (show ¬Nat.succ c<=128 from h1)];by_cases h2:c<2048;·rw[au h2,au (show Nat.succ c<=2048 from h2),Str.of_eq];simp only[fG,pE,List.foldl_nil,u8_of (show 192+c/64<256 by omega),u8_of (show 128+c%64<256 by omega),bT,mh];simp
 rw[aj h2,aj (show ¬Nat.succ c<=2048 from h2)];by_cases h3:c<65536;·rw[au h3,au (show Nat.succ c<=65536 from h3),Str.of_eq];simp only[fG,pE,List.foldl_nil,u8_of (show 224+c/4096<256 by omega),u8_of (show 128+c/64%64<256 by omega),u8_of (show 128+c%64<256 by omega),bT,mh];simp
 rw[aj h3,aj (show ¬Nat.succ c<=65536 from h3),Str.of_eq];simp only[fG,pE,List.foldl_nil,u8_of (show 240+c/262144<256 by omega),u8_of (show 128+c/4096%64<256 by omega),u8_of (show 128+c/64%64<256 by omega),u8_of (show 128+c%64<256 by omega),bT,mh];simp
theorem XB (r:Int):encR r=Str.of (Utf8.encode r):=by
 rw[JL];cases r with
 |ofNat c=>
  have e:encR (.ofNat c)=enc1 (Bool.rec (nat_lit 65533) c (ZC c)):=rfl;rw[e,Te,oC];show enc1 (if Utf8.valid (c:Int)=true then c else 65533)=Str.of (XA (if Utf8.valid (c:Int)=true then(c:Int).toNat else 65533));by_cases h:Utf8.valid (c:Int)=true;·rw[au h,au h,mg];refine yC c ?_;simp only[Utf8.valid,dI,aQ,aY]at h;omega
  ·rw[aj h,aj h];exact yC 65533 (by omega)
 |negSucc c=>
  have e:encR (.negSucc c)=enc1 65533:=rfl;rw[e,aj];·exact yC 65533 (by omega)
  ·simp only[Utf8.valid,dI,aQ,aY];omega
