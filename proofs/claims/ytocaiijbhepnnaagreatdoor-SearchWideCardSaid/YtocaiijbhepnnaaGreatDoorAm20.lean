/- The machine's soundness: maps. -/
import Derived.Test.YtocaiijbhepnnaaGreatDoorAm16
import Derived.MapKept
import Derived.Laws.BytesString
namespace Go.Proofs.YtocaiijbhepnnaaGreatDoor.Am
open MapKept
theorem first_push:∀{l:List MapEntry} {k:Value} (x:MapEntry),bI l k none->bI (l++[x]) k none\/x.key=k
 |[],k,x,_=>by
   by_cases e:x.key=k;·exact .inr e
   ·exact .inl (.inr ⟨e,rfl⟩)
 |y::r,k,x,h=>by
  rcases h with⟨_,h⟩|⟨h1,h2⟩
  ·cases h
  ·rcases first_push x h2 with h3|h3
   ·exact .inl (.inr ⟨h1,h3⟩)
   ·exact .inr h3
theorem first_push_same:∀{l:List MapEntry} (x:MapEntry),bI l x.key none->bI (l++[x]) x.key (some x)
 |[],_,_=> .inl ⟨rfl,rfl⟩
 |_::_,x,h=>by
  rcases h with⟨_,h⟩|⟨h1,h2⟩
  ·cases h
  ·exact .inr ⟨h1,first_push_same x h2⟩
theorem first_append:∀{l:List MapEntry} {k:Value} {e:MapEntry} (r:List MapEntry),bI l k (some e)->bI (l++r) k (some e)
 |[],_,_,_,h=>by cases h
 |_::_,_,_,r,h=>by
  rcases h with⟨h1,h2⟩|⟨h1,h2⟩
  ·exact .inl ⟨h1,h2⟩
  ·exact .inr ⟨h1,first_append r h2⟩
theorem first_key:∀{l:List MapEntry} {k:Value} {e:MapEntry},bI l k (some e)->e.key=k
 |[],_,_,h=>by cases h
 |_::_,_,_,h=>by
  rcases h with⟨h1,h2⟩|⟨_,h2⟩
  ·cases h2;exact h1
  ·exact first_key h2
theorem find_none {d:TypeDesc} {k:Value} (hk:IsKey d k):∀(l:List MapEntry) (i:Nat),(∀x∈l,IsKey d x.key)->bI l k none->Instr.findNow d k l i=some none
 |[],_,_,_=>rfl
 |x::r,i,hl,h=>by
  rcases h with⟨_,h⟩|⟨h1,h2⟩
  ·cases h
  ·obtain⟨b,hb,hiff⟩:=sameNow_of_keys hk (hl x (.head _));have:b=false:=by
    cases b;·rfl
    ·exact absurd (hiff.1 rfl).symm h1
   subst this;simp only[Instr.findNow,hb];exact find_none hk r _ (λy hy=>hl y (.tail _ hy)) h2
theorem find_some {d:TypeDesc} {k:Value} (hk:IsKey d k):∀(l:List MapEntry) (i:Nat) {e:MapEntry},(∀x∈l,IsKey d x.key)->bI l k (some e)->
 ∃j,Instr.findNow d k l i=some (some (i+j,e.val))/\l[j]? =some e/\(∀e',e'.key=k->bI (l.set j e') k (some e'))/\
  (∀k' o e',k'≠k->e'.key=k->bI l k' o->bI (l.set j e') k' o)
 |[],_,_,_,h=>by cases h
 |x::r,i,e,hl,h=>by
  rcases h with⟨h1,h2⟩|⟨h1,h2⟩
  ·cases h2;obtain⟨b,hb,hiff⟩:=sameNow_of_keys hk (hl _ (.head _));have:b=true:=hiff.2 h1.symm;subst this;refine⟨0,by simp[Instr.findNow,hb],rfl,λe' he'=> .inl ⟨he',rfl⟩,λk' o e' hne he' hf=> ?_⟩;rcases hf with⟨h3,_⟩|⟨_,h4⟩
   ·exact absurd (h3.symm.trans h1) hne
   ·exact .inr ⟨λc=>hne (c.symm.trans he'),h4⟩
  ·obtain⟨b,hb,hiff⟩:=sameNow_of_keys hk (hl x (.head _));have:b=false:=by
    cases b;·rfl
    ·exact absurd (hiff.1 rfl).symm h1
   subst this;obtain⟨j,h3,h4,h5,h6⟩:=find_some hk r (i+1) (λy hy=>hl y (.tail _ hy)) h2;refine⟨j+1,?_,h4,λe' he'=> .inr ⟨h1,h5 e' he'⟩,λk' o e' hne he' hf=> ?_⟩;·simp only[Instr.findNow,hb];rw[h3,lC,Nat.add_comm 1 j]
   ·rcases hf with⟨h7,h8⟩|⟨h7,h8⟩
    ·exact .inl ⟨h7,h8⟩
    ·exact .inr ⟨h7,h6 k' o e' hne he' h8⟩
theorem Str.eq_iff (a b:Str):a.eq b=true↔a=b:=by
 unfold Str.eq;cases h1:Nat.beq a.len b.len;·simp only[bq,false_iff];intro e;rw[e,qP]at h1;cases h1
 ·have h1':=aR h1;show Nat.beq _ _=true↔_;rw[Nat.beq_eq];cases a;cases b;simp only at h1';subst h1';simp
theorem lG (k:Str) (p:Str×AV) (r:List (Str×AV)):nM k (p::r)=if p.1=k then some p.2 else nM k r:=by
 have e:nM k (p::r)=Bool.rec (motive:=λ_=>Option AV) (nM k r) (some p.2) (p.1.eq k):=rfl;rw[e];cases h:p.1.eq k;·rw[ak (λc=>by rw[(Str.eq_iff _ _).2 c]at h;cases h)]
 ·rw[au ((Str.eq_iff _ _).1 h)]
theorem Rh (k:Str) (v:AV) (p:Str×AV) (r:List (Str×AV)):IL k v (p::r)=if p.1=k then(p.1,v)::r else p::IL k v r:=by
 have e:IL k v (p::r)=Bool.rec (motive:=λ_=>List (Str×AV)) (p::IL k v r) ((p.1,v)::r) (p.1.eq k):=rfl;rw[e];cases h:p.1.eq k;·rw[ak (λc=>by rw[(Str.eq_iff _ _).2 c]at h;cases h)]
 ·rw[au ((Str.eq_iff _ _).1 h)]
theorem DJ (k:Str) (v:AV) (k':Str):∀l:List (Str×AV),nM k' (IL k v l)=if k'=k then some v else nM k' l
 |[]=>by
   have e:IL k v []=[(k,v)]:=rfl;rw[e,lG];by_cases h:k'=k;·rw[au h,au h.symm]
   ·rw[ak h,ak (λc=>h c.symm)]
 |p::r=>by
  rw[Rh,lG];by_cases hp:p.1=k
  ·rw[au hp,lG];by_cases h:k'=k
   ·rw[au h,au (by rw[hp,h])]
   ·rw[ak h,ak (λc=>h (c.symm.trans hp)),ak (λc=>h (c.symm.trans hp))]
  ·rw[ak hp,lG,DJ k v k' r];by_cases h:k'=k
   ·rw[au h,ak (λc=>hp (c.trans h)),au h]
   ·rw[ak h,ak h]
section
variable {P:Program} {g:G} {ι:aX} {h h':H} {w:World} {D:Nat->Prop}
theorem Kq (hg:jT P g) {t:TypeId} {y:Ty} (ht:g.ty t=some y):∃i z,P.info? t=some i/\i.zero=some z/\VR ι (zeroV y) z:=by obtain⟨_,_,i,z,hi,hs,_,hz,hzv,hzs,hzz⟩:=hg.ty _ _ ht;exact⟨i,z,hi,hz,by rw[zeroV,hzz];exact Uj ι z⟩
def aiE (P:Program) (t:TypeId):MK->Prop
 | .none=>True
 | .ints kd=>∃kt et,P.underlying t=some (.map kt et)/\P.underlying kt=some (.int kd)
 | .strs=>∃kt et,P.underlying t=some (.map kt et)/\P.underlying kt=some .string
theorem qZ (hg:jT P g) (t:TypeId):aiE P t (eG g t):=by
 unfold eG;split
 ·rename_i hd;split
  ·rename_i hd';exact⟨_,_,(hg.ty _ _ hd).1,(hg.ty _ _ hd').1⟩
  ·rename_i hd';exact⟨_,_,(hg.ty _ _ hd).1,(hg.ty _ _ hd').1⟩
  ·trivial
 ·trivial
theorem WR.map (k:WR ι h w D) {b:Nat} (hD:D b) {m:Nm} (e:ι b=some m) {x:wH} (hb:h.get b=some x):∃o,w.heap[m.B]? =some o/\BR ι x o m:=by obtain⟨m',o,h1,h2,h3⟩:=k.blk b _ hD (k.lt e) hb;rw[e]at h1;cases h1;exact⟨o,h2,h3⟩
theorem nN {t kt et:TypeId} {d:TypeDesc} {r:Nat} {es:Array MapEntry} {c:Nat} {key z:Value} {i:TypeInfo} {o:Option MapEntry} (ok:Bool)
 (ht:P.underlying t=some (.map kt et)) (hk:P.underlying kt=some d) (hr:w.heap[r]? =some (.map es c)) (hkey:IsKey d key) (hks:∀x∈es.toList,IsKey d x.key)
 (hi:P.info? et=some i) (hz:i.zero=some z) (hf:bI es.toList key o):
 (Instr.lookup t (.map (some r)) key ok).run P w= .ok (if ok then .tuple #[match o with|some e=>e.val|none=>z, .bool o.isSome]else match o with|some e=>e.val|none=>z) w:=by
 have hck:∀(b:Bool),(Instr.checkKey b 10000 kt key).run P w= .ok () w:=λb=>run_checkKey (n:=9999) hk hkey b;have hgo:=run_getObj_map (P:=P) hr;cases o with
 |none=>have hfn:=find_none hkey es.toList 0 hks hf;simp only[Instr.lookup,Sem.run_bind,aC ht,Result.andThen_ok,hgo,Sem.run_pure,hck,run_findKey hk hfn,lF hi hz];cases ok<;>rfl
 |some e=>obtain⟨j,hfn,_⟩:=find_some hkey es.toList 0 hks hf;simp only[Instr.lookup,Sem.run_bind,aC ht,Result.andThen_ok,hgo,Sem.run_pure,hck,run_findKey hk hfn];cases ok<;>rfl
theorem tH {t kt et:TypeId} {d:TypeDesc} {key z:Value} {i:TypeInfo} (ok:Bool)
 (ht:P.underlying t=some (.map kt et)) (hk:P.underlying kt=some d) (hkey:IsKey d key)
 (hi:P.info? et=some i) (hz:i.zero=some z):
 (Instr.lookup t (.map none) key ok).run P w= .ok (if ok then .tuple #[z, .bool false]else z) w:=by
 have hck:∀(b:Bool),(Instr.checkKey b 10000 kt key).run P w= .ok () w:=λb=>run_checkKey (n:=9999) hk hkey b;have hfn:Instr.findNow d key [] 0=some none:=rfl;simp only[Instr.lookup,Sem.run_bind,aC ht,Result.andThen_ok,Sem.run_pure,hck,run_findKey hk hfn,lF hi hz]
theorem yF {ok b:Bool} {v v':AV} (e:okA ok v b h= .ok v' h'):h'=h/\v'=(if ok then .fV (.cons v (.cons (.bool b) .nil))else v):=by
 unfold okA at e;split at e;·cases e;exact⟨rfl,rfl⟩
 ·obtain⟨h1,h2,_⟩:=pI e;exact⟨h2,h1⟩
theorem uT {ok b:Bool} {v:AV} {x:Value} (hv:VR ι v x):VR ι (if ok then .fV (.cons v (.cons (.bool b) .nil))else v) (if ok then .tuple #[x, .bool b]else x):=by
 cases ok;·exact hv
 ·exact⟨_,rfl,_,_,rfl,hv,_,_,rfl,rfl,rfl⟩
theorem Ri (hg:jT P g) (k:WR ι h w D) {t kt et:TypeId} {y ye:Ty} (ht:g.ty t=some y) (hd:y.desc= .map kt et) (he:g.ty et=some ye) {x i v:AV} {vx vi:Value} (hx:VR ι x vx) (hi:VR ι i vi) {ok:Bool}
 (hD:∀b∈aS x,D b) (e:IQ (eG g t) (zeroV ye) x i ok h= .ok v h'):aO P ι h w (Instr.lookup t vx vi ok) v h':=by
 obtain⟨ie,z,hie,hz,hzv⟩:=Kq (ι:=ι) hg he;have hut:=(hg.ty _ _ ht).1;rw[hd]at hut;have hmk:=qZ hg t;generalize eG g t=mk at e hmk;unfold IQ at e;split at e
 ·cases hx;split at e
  ·rename_i hok;obtain⟨h1,h2⟩:=yF e;subst h1;rw[h2];unfold aat at hok;split at hok
   ·obtain⟨kt',et',h3,h4⟩:=hmk;rw[hut]at h3;cases h3;split at hok
    ·cases hi;exact aO.ret k (tH ok hut h4 (iq hok).symm hie hz) (uT hzv)
    ·cases hok
   ·obtain⟨kt',et',h3,h4⟩:=hmk;rw[hut]at h3;cases h3;split at hok
    ·obtain⟨s,rfl,_⟩:=hi;exact aO.ret k (tH ok hut h4 trivial hie hz) (uT hzv)
    ·cases hok
   ·cases hok
  ·cases e
 ·rename_i b;obtain⟨m,hm,rfl⟩:=hx;split at e
  ·rename_i blk hb;obtain⟨o,ho,hbr⟩:=k.map (hD b (by simp[aS])) hm hb;unfold mapKey at e;split at e
   ·rename_i kd;obtain⟨kt',et',h3,h4⟩:=hmk;rw[hut]at h3;cases h3;split at e
    ·rename_i Cj n c tr lk kd2 ix;split at e
     ·rename_i h5 h6 h7;rw[aH]at h5;have h6:=iq h6;have h7:=iq h7;subst h6;subst h7;cases hi;obtain⟨es,rfl,_,_,⟨hks,_⟩,hent⟩:=hbr;have DK:∀x∈es.toList,IsKey (.int Cj) x.key:=λx hx=>by obtain⟨q,_,hq⟩:=hks x hx;rw[hq];rfl
      have hent:=hent ix h5;dsimp only at e;split at e;·rename_i av Kr;rw[Kr]at hent;obtain⟨en,hf,hrel⟩:=hent;obtain⟨h1,h2⟩:=yF e;subst h1;rw[h2];exact aO.ret k (nN ok hut h4 ho (show IsKey (.int Cj) (.int Cj (Int.ofNat ix))from rfl) DK hie hz hf) (uT hrel)
      ·rename_i Kr;rw[Kr]at hent;obtain⟨h1,h2⟩:=yF e;subst h1;rw[h2];exact aO.ret k (nN ok hut h4 ho (show IsKey (.int Cj) (.int Cj (Int.ofNat ix))from rfl) DK hie hz hent) (uT hzv)
     ·cases e
    ·cases e
   ·obtain⟨kt',et',h3,h4⟩:=hmk;rw[hut]at h3;cases h3;split at e
    ·rename_i n c l s;obtain⟨s,rfl,rfl⟩:=hi;obtain⟨es,rfl,_,_,hks,hent⟩:=hbr;have DK:∀x∈es.toList,IsKey .string x.key:=λx hx=>by obtain⟨q,hq⟩:=hks x hx;rw[hq];trivial
     have hent:=hent s;dsimp only at e;split at e;·rename_i av Kr;rw[Kr]at hent;obtain⟨en,hf,hrel⟩:=hent;obtain⟨h1,h2⟩:=yF e;subst h1;rw[h2];exact aO.ret k (nN ok hut h4 ho (show IsKey .string (.string s)from trivial) DK hie hz hf) (uT hrel)
     ·rename_i Kr;rw[Kr]at hent;obtain⟨h1,h2⟩:=yF e;subst h1;rw[h2];exact aO.ret k (nN ok hut h4 ho (show IsKey .string (.string s)from trivial) DK hie hz hent) (uT hzv)
    ·cases e
   ·cases e
  ·cases e
 ·cases e
def bump (o:Option MapEntry) (n:Nat):Nat:=
 match o with
 |some _=>n
 |none=>n+1
theorem DL {t kt et:TypeId} {d:TypeDesc} {r:Nat} {es:Array MapEntry} {c:Nat} {key val:Value} {o:Option MapEntry}
 (ht:P.underlying t=some (.map kt et)) (hk:P.underlying kt=some d) (hr:w.heap[r]? =some (.map es c)) (hkey:IsKey d key) (hks:∀x∈es.toList,IsKey d x.key)
 (hf:bI es.toList key o):∃es',(Instr.mapUpdate t (.map (some r)) key val).run P w= .ok () {w with heap:=w.heap.setIfInBounds r (.map es' (bump o c))}/\
  (∃e,e.key=key/\e.val=val/\bI es'.toList key (some e))/\(∀k' o',k'≠key->bI es.toList k' o'->bI es'.toList k' o')/\
  (∀x∈es'.toList,x∈es.toList\/x.key=key)/\es'.size=bump o es.size/\((∀x∈es.toList,x.born<c)->∀x∈es'.toList,x.born<bump o c):=by
 have hck:∀(b:Bool),(Instr.checkKey b 10000 kt key).run P w= .ok () w:=λb=>run_checkKey (n:=9999) hk hkey b;have hgo:=run_getObj_map (P:=P) hr;cases o with
 |none=>
  have hfn:=find_none hkey es.toList 0 hks hf;refine⟨es.push {key,val,born:=c},?_,⟨{key,val,born:=c},rfl,rfl,?_⟩,λk' o' hne hf'=> ?_,λx hx=> ?_,by simp[bump],λhb x hx=> ?_⟩;·simp only[Instr.mapUpdate,Sem.run_bind,aC ht,Result.andThen_ok,hgo,hck,run_findKey hk hfn,run_setObj_map _ hr];rfl
  ·rw[mX];exact first_push_same {key,val,born:=c} hf
  ·rw[mX];cases o' with
   |none=>
    rcases first_push {key,val,born:=c} hf' with h1|h1;·exact h1
    ·exact absurd h1.symm hne
   |some e=>exact first_append _ hf'
  ·rw[mX]at hx;rcases fZ.1 hx with hx|hx
   ·exact .inl hx
   ·rw[dM]at hx;exact .inr (by rw[hx])
  ·rw[mX]at hx;rcases fZ.1 hx with hx|hx
   ·exact Nat.lt_succ_of_lt (hb x hx)
   ·rw[dM]at hx;rw[hx];exact mI c
 |some e=>
  obtain⟨j,hfn,hj,h1,h2⟩:=find_some hkey es.toList 0 hks hf;rw[bL]at hfn;have hek:=first_key hf;have hja:es[j]? =some e:=by rw[<-dY];exact hj
  have hl:(es.modify j λe=>{e with key:=key,val:=val}).toList=es.toList.set j {e with key:=key,val:=val}:=by
   apply yD;intro i;rw[dY,uU];by_cases hij:j=i;·subst hij;have hlt:j<es.toList.length:=(mJ.1 hj).1;rw[au rfl,hja,List.getElem?_set_self hlt];rfl
   ·rw[ak hij,List.getElem?_set_ne hij,dY]
  refine⟨es.modify j λe=>{e with key:=key,val:=val},?_,⟨{e with key:=key,val:=val},rfl,rfl,?_⟩,λk' o' hne hf'=> ?_,λx hx=> ?_,by simp[bump],λhb x hx=> ?_⟩
  ·have hst:(Instr.keyThatStays ((es[j]?.map (·.key)).getD key) key).run P w= .ok key w:=by rw[hja];show(Instr.keyThatStays e.key key).run P w=_;rw[hek];exact run_keyThatStays hkey
   simp only[Instr.mapUpdate,Sem.run_bind,aC ht,Result.andThen_ok,hgo,hck,run_findKey hk hfn,hst,run_setObj_map _ hr];rfl
  ·rw[hl];exact h1 _ rfl
  ·rw[hl];exact h2 k' o' _ hne rfl hf'
  ·rw[hl]at hx;rcases List.mem_or_eq_of_mem_set hx with hx|hx
   ·exact .inl hx
   ·exact .inr (by rw[hx])
  ·rw[hl]at hx;rcases List.mem_or_eq_of_mem_set hx with hx|hx
   ·exact hb x hx
   ·rw[hx];exact hb e (qW hj)
theorem Loc.mY (k:WR ι h w D) {b:Nat} {m:Nm} (hm:ι b=some m) {x0 x:wH} (hb:h.get b=some x0) {o0 o:Obj} (hw:w.heap[m.B]? =some o0) (hbr:BR ι x o m):
 Loc ι h w ι (h.set b x) {w with heap:=w.heap.setIfInBounds m.B o} [b]:=by
 have hB:m.B<w.heap.size:=(dQ.1 hw).1;refine Loc.mkSet k (k.lt hm) hb m hm o (by simp) (λi _ hne=> ?_) (by simp[hB]) hbr rfl rfl rfl;rw[jH (λe=>hne e.symm)]
theorem tJ {kd:IntKind} {i j:Int} (h:(Value.int kd i)= .int kd j):i=j:=by cases h;rfl
theorem Kt (hg:jT P g) (k:WR ι h w D) {t:TypeId} {x i v val:AV} {vx vi vv:Value} (hx:VR ι x vx) (hi:VR ι i vi) (hv:VR ι val vv)
 (hD:∀b∈aS x,D b) (e:Af (eG g t) x i val h= .ok v h'):v= .fV .nil/\Dx P ι h w (Instr.mapUpdate t vx vi vv) h':=by
 have hmk:=qZ hg t;generalize eG g t=mk at e hmk;unfold Af at e;split at e
 ·rename_i b;obtain⟨m,hm,rfl⟩:=hx;split at e
  ·rename_i blk hb;obtain⟨o,ho,hbr⟩:=k.map (hD b (by simp[aS])) hm hb;unfold mapKey at e;split at e
   ·rename_i kd;obtain⟨kt',et',hut,h4⟩:=hmk;split at e
    ·rename_i Cj n c tr lk kd2 ix;split at e
     ·rename_i h5 h6 h7;rw[aH]at h5;have h6:=iq h6;have h7:=iq h7;subst h6;subst h7;cases hi;obtain⟨es,rfl,hsz,hsh,⟨hks,hlk,_⟩,hent⟩:=hbr;have DK:∀x∈es.toList,IsKey (.int Cj) x.key:=λx hx=>by obtain⟨q,_,hq⟩:=hks x hx;rw[hq];rfl
      have h5':ix<4^11:=by have:ix<=4194303:=h5;omega
      have fin:∀(n' c':Nat) (o:Option MapEntry),bI es.toList (.int Cj (Int.ofNat ix)) o->n'=(bump o es.size)->c'=(bump o c)->
       Dx P ι h w (Instr.mapUpdate t (.map (some m.B)) (.int Cj (Int.ofNat ix)) vv) (h.set b (.Ag Cj n' c' (E.put (some val) 11 (path 11 ix) tr) 0)):=by
       intro n' c' o hf hn' hc';obtain⟨es',hrun,⟨en,hek,hev,hfe⟩,hoth,hmem,hsz',hbn⟩:=DL (val:=vv) hut h4 ho (show IsKey (.int Cj) (.int Cj (Int.ofNat ix))from rfl) DK hf;refine⟨ι,_,[b],hrun,Loc.mY k hm hb ho ⟨es',by rw[hc'],by rw[hsz',hn'],hsh,⟨λe he=> ?_,by rw[hc'];exact hbn hlk,λi h0=>by omega⟩,λi hi=> ?_⟩⟩
       ·rcases hmem e he with h1|h1
        ·exact hks e h1
        ·exact⟨_,h5,h1⟩
       ·have hi':i<4^11:=by have:i<=4194303:=hi;omega
        by_cases hii:i=ix;·subst hii;rw[E.dD];exact⟨en,hfe,by rw[hev];exact hv⟩
        ·rw[E.fu _ _ _ _ h5' hi' (λc=>hii c.symm)];have hne:(Value.int Cj (i:Int))≠.int Cj (Int.ofNat ix):=λc=>hii (Int.ofNat.inj (tJ c));have:=hent i hi;split at this
         ·exact hoth _ _ hne this
         ·obtain⟨e1,h1,h2⟩:=this;exact⟨e1,hoth _ _ hne h1,h2⟩
      have oO:=hent ix h5;dsimp only at e;split at e;·rename_i av Kr;rw[Kr]at oO;obtain⟨en,hf,hrel⟩:=oO;cases e;exact⟨rfl,fin n c (some en) hf hsz.symm rfl⟩
      ·rename_i Kr;rw[Kr]at oO;cases e;exact⟨rfl,fin (n+1) (c+1) none oO (by rw[hsz];rfl) rfl⟩
     ·cases e
    ·cases e
   ·obtain⟨kt',et',hut,h4⟩:=hmk;split at e
    ·rename_i n c l s;obtain⟨s,rfl,rfl⟩:=hi;obtain⟨es,rfl,hsz,hsh,hks,hent⟩:=hbr;have DK:∀x∈es.toList,IsKey .string x.key:=λx hx=>by obtain⟨q,hq⟩:=hks x hx;rw[hq];trivial
     have fin:∀(n' c':Nat) (o:Option MapEntry),bI es.toList (.string s) o->n'=(bump o es.size)->c'=(bump o c)->
      Dx P ι h w (Instr.mapUpdate t (.map (some m.B)) (.string s) vv) (h.set b (.smap n' c' (IL (Str.of s) val l))):=by
      intro n' c' o hf hn' hc';obtain⟨es',hrun,⟨en,hek,hev,hfe⟩,hoth,hmem,hsz',hbn⟩:=DL (val:=vv) hut h4 ho (show IsKey .string (.string s)from trivial) DK hf;refine⟨ι,_,[b],hrun,Loc.mY k hm hb ho ⟨es',by rw[hc'],by rw[hsz',hn'],hsh,λe he=> ?_,λs'=> ?_⟩⟩
      ·rcases hmem e he with h1|h1
       ·exact hks e h1
       ·exact⟨_,h1⟩
      ·rw[DJ];by_cases hii:Str.of s'=Str.of s
       ·rw[au hii];obtain rfl:=Str.TJ hii;exact⟨en,hfe,by rw[hev];exact hv⟩
       ·rw[ak hii];have hne:(Value.string s')≠.string s:=λc=>hii (by cases c;rfl);have:=hent s';split at this
        ·exact hoth _ _ hne this
        ·obtain⟨e1,h1,h2⟩:=this;exact⟨e1,hoth _ _ hne h1,h2⟩
     have oO:=hent s;dsimp only at e;split at e;·rename_i av Kr;rw[Kr]at oO;obtain⟨en,hf,hrel⟩:=oO;cases e;exact⟨rfl,fin n c (some en) hf hsz.symm rfl⟩
     ·rename_i Kr;rw[Kr]at oO;cases e;exact⟨rfl,fin (n+1) (c+1) none oO (by rw[hsz];rfl) rfl⟩
    ·cases e
   ·cases e
  ·cases e
 ·cases e
theorem findIdx_last {r:List MapEntry} {x:MapEntry} {es:Array MapEntry} {p:MapEntry->Bool} (he:es.toList=r++[x]) (h1:∀y∈r,p y=false) (h2:p x=true):es.findIdx? p=some r.length:=by
 obtain⟨l⟩:=es;have he:l=r++[x]:=he;subst he;rw[List.findIdx?_toArray,List.findIdx?_append];have:List.findIdx? p r=none:=by rw[List.findIdx?_eq_none_iff];exact h1
 rw[this];simp[List.findIdx?_cons,h2]
theorem modify_last {r:List MapEntry} {x:MapEntry} {es:Array MapEntry} {f:MapEntry->MapEntry} (he:es.toList=r++[x]):(es.modify r.length f).toList=r++[f x]:=by
 apply yD;intro i;rw[dY,uU,<-dY,he];by_cases hi:r.length=i;·subst hi;rw[au rfl];simp
 ·rw[ak hi];rcases aN i r.length with c|c
  ·rw[nL c,nL c]
  ·rw[pK c,pK c];obtain⟨j,hj⟩:∃j,i-r.length=j+1:=⟨i-r.length-1,by omega⟩
   rw[hj];rfl
theorem first_last:∀{r:List MapEntry} {x x':MapEntry} {k:Value} {o:Option MapEntry},x.key≠k->x'.key=x.key->bI (r++[x]) k o->bI (r++[x']) k o
 |[],x,x',k,o,hne,hk,h=>by
   rcases h with⟨h1,_⟩|⟨_,h2⟩
   ·exact absurd h1 hne
   ·exact .inr ⟨by rw[hk];exact hne,h2⟩
 |y::r,x,x',k,o,hne,hk,h=>by
  rcases h with h1|⟨h1,h2⟩
  ·exact .inl h1
  ·exact .inr ⟨h1,first_last hne hk h2⟩
theorem Rj (hg:jT P g) (k:WR ι h w D) {t kt et:TypeId} {y ye:Ty} (ht:g.ty t=some y) (hd:y.desc= .map kt et) (he:g.ty et=some ye) {x i v:AV} {vx vi:Value} (hx:VR ι x vx) (hi:VR ι i vi)
 (hD:∀b∈aS x,D b) (e:IU (eG g t) (zeroV ye) x i h= .ok v h'):aO P ι h w (Instr.mapEntry t vx vi) v h':=by
 obtain⟨ie,z,hie,hz,hzv⟩:=Kq (ι:=ι) hg he;have hut:=(hg.ty _ _ ht).1;rw[hd]at hut;have hmk:=qZ hg t;generalize eG g t=mk at e hmk;unfold IU at e;split at e
 ·rename_i b;obtain⟨m,hm,rfl⟩:=hx;split at e
  ·rename_i blk hb;obtain⟨o,ho,hbr⟩:=k.map (hD b (by simp[aS])) hm hb;unfold mapKey at e;split at e
   ·rename_i kd;obtain⟨kt',et',h3,h4⟩:=hmk;rw[hut]at h3;cases h3;split at e
    ·rename_i Cj n c tr lk kd2 ix;split at e
     ·rename_i h5 h6 h7;rw[aH]at h5;have h6:=iq h6;have h7:=iq h7;subst h6;subst h7;cases hi;obtain⟨es,rfl,hsz,hsh,⟨hks,hlk,_⟩,hent⟩:=hbr;have DK:∀x∈es.toList,IsKey (.int Cj) x.key:=λx hx=>by obtain⟨q,_,hq⟩:=hks x hx;rw[hq];rfl
      have hkey:IsKey (.int Cj) (.int Cj (Int.ofNat ix)):=rfl;have h5':ix<4^11:=by have:ix<=4194303:=h5;omega
      have oO:=hent ix h5;dsimp only at e;split at e;·cases e
      ·rename_i Kr;rw[Kr]at oO;cases e;have hck:∀(b:Bool),(Instr.checkKey b 10000 kt (.int Cj (Int.ofNat ix))).run P w= .ok () w:=λb=>run_checkKey (n:=9999) h4 hkey b;have hgo:=run_getObj_map (P:=P) ho;have hfn:=find_none hkey es.toList 0 DK oO;refine⟨ι,{w with heap:=w.heap.setIfInBounds m.B (.map (es.push {key:= .int Cj (Int.ofNat ix),val:=z,born:=c}) (c+1))},[b], .tuple #[z, .int .i64 c],?_,⟨_,rfl,_,_,rfl,hzv,_,_,rfl,rfl,rfl⟩,
        Loc.mY k hm hb ho ⟨es.push {key:= .int Cj (Int.ofNat ix),val:=z,born:=c},rfl,by simp[hsz],hsh,⟨λx hx=> ?_,λx hx=> ?_,λj hj=> ?_⟩,λj hj=> ?_⟩⟩
       ·simp only[Instr.mapEntry,Sem.run_bind,aC hut,Result.andThen_ok,hgo,hck,run_findKey h4 hfn,lF hie hz,run_setObj_map _ ho,Sem.run_pure];rfl
       ·rw[mX]at hx;rcases fZ.1 hx with hx|hx
        ·exact hks x hx
        ·rw[dM]at hx;exact⟨_,h5,by rw[hx];rfl⟩
       ·rw[mX]at hx;rcases fZ.1 hx with hx|hx
        ·exact Nat.lt_succ_of_lt (hlk x hx)
        ·rw[dM]at hx;rw[hx];exact mI c
       ·have hj:ix=j:=Nat.succ.inj hj;subst hj;exact⟨es.toList,_,mX,rfl,oO,rfl,λx hx=>Nat.succ_lt_succ (hlk x hx)⟩
       ·have hj':j<4^11:=by have:j<=4194303:=hj;omega
        rw[mX];by_cases hii:j=ix;·subst hii;rw[E.dD];exact⟨_,first_push_same {key:= .int Cj (Int.ofNat j),val:=z,born:=c} oO,hzv⟩
        ·rw[E.fu _ _ _ _ h5' hj' (λc=>hii c.symm)];have hne:(Value.int Cj (Int.ofNat ix))≠.int Cj (j:Int):=λc=>hii (Int.ofNat.inj (tJ c)).symm;have hx:=hent j hj;split at hx
         ·rcases first_push {key:= .int Cj (Int.ofNat ix),val:=z,born:=c} hx with h1|h1
          ·exact h1
          ·exact absurd h1 hne
         ·obtain⟨e1,h1,h2⟩:=hx;exact⟨e1,first_append _ h1,h2⟩
     ·cases e
    ·cases e
   ·split at e<;>cases e
   ·cases e
  ·cases e
 ·cases e
theorem Uk (k:WR ι h w D) {t:TypeId} {x s v val:AV} {vx vs vv:Value} (hx:VR ι x vx) (hs:VR ι s vs) (hv:VR ι val vv)
 (hD:∀b∈aS x,D b) (e:IV x s val h= .ok v h'):v= .fV .nil/\Dx P ι h w (Instr.entryStore t vx vs vv) h':=by
 unfold IV at e;split at e
 ·rename_i b kd0 st;obtain⟨m,hm,rfl⟩:=hx;cases hs;split at e
  ·rename_i kd n c tr lk hb;obtain⟨o,ho,hbr⟩:=k.map (hD b (by simp[aS])) hm hb;split at e
   ·rename_i ix;split at e
    ·rename_i h1 h2;rw[aH]at h2;have h1:st+1=c:=aR h1;cases e;obtain⟨es,rfl,hsz,hsh,⟨hks,hlk,hl⟩,hent⟩:=hbr;obtain⟨r,en,hes,hek,hfr,hb1,hb2⟩:=hl ix rfl;have h5':ix<4^11:=by have:ix<=4194303:=h2;omega
     have hgo:=run_getObj_map (P:=P) ho;have hfi:es.findIdx? (λe=>(e.born:Int)==Int.ofNat st)=some r.length:=by
      refine findIdx_last hes (λy hy=> ?_) ?_;·have:=hb2 y hy;rw[iw];intro c;have:y.born=st:=Int.ofNat.inj c;omega
      ·rw[dK];show Int.ofNat en.born=Int.ofNat st;congr 1;omega
     have hml:(es.modify r.length λe=>{e with val:=vv}).toList=r++[{en with val:=vv}]:=modify_last hes;refine⟨rfl,ι,_,[b],?_,Loc.mY k hm hb ho (o:= .map (es.modify r.length λe=>{e with val:=vv}) c) ⟨_,rfl,by simp[hsz],hsh,⟨λx hx=> ?_,λx hx=> ?_,λj hj=> ?_⟩,λj hj=> ?_⟩⟩;·simp only[Instr.entryStore,Sem.run_bind,Result.andThen_ok,hgo,asInt,asIntOf,Sem.run_pure];rw[hfi];simp only[run_setObj_map _ ho]
     ·rw[hml]at hx;rcases fZ.1 hx with hx|hx
      ·exact hks x (by rw[hes];exact fG _ hx)
      ·rw[dM]at hx;exact⟨ix,h2,by rw[hx];exact hek⟩
     ·rw[hml]at hx;rcases fZ.1 hx with hx|hx
      ·exact hlk x (by rw[hes];exact fG _ hx)
      ·rw[dM]at hx;rw[hx];show en.born<c;omega
     ·have hj:0=j+1:=hj;omega
     ·have hj':j<4^11:=by have:j<=4194303:=hj;omega
      rw[hml];by_cases hii:j=ix;·subst hii;rw[E.dD];refine⟨{en with val:=vv},?_,hv⟩;have:=first_push_same {en with val:=vv} (l:=r) (by show bI r en.key none;rw[hek];exact hfr);rw[<-hek];exact this
      ·rw[E.fu _ _ _ _ h5' hj' (λc=>hii c.symm)];have hne:en.key≠.int kd (j:Int):=λc=>by rw[hek]at c;exact hii (Int.ofNat.inj (tJ c)).symm
       have hx:=hent j hj;rw[hes]at hx;split at hx;·exact first_last hne rfl hx
       ·obtain⟨e1,h1,h2⟩:=hx;exact⟨e1,first_last hne rfl h1,h2⟩
    ·cases e
   ·cases e
  ·cases e
 ·cases e
end
open MapKept
section
variable {P:Program} {g:G} {ι:aX} {h h':H} {w:World} {D:Nat->Prop}
theorem tK (o:Obj) (w:World):(newObj o).run P w= .ok w.heap.size (World.grown w w.drawn o):=rfl
theorem Bt (k:WR ι h w D) (hg:jT P g) {t:TypeId} {v:AV} (e:qm (eG g t) h= .ok v h') (r:Option Value) (hr:∀x,r=some x->∃kd n,x= .int kd n):
 aO P ι h w (Instr.makeMap t r) v h':=by
 have hmk:=qZ hg t;generalize eG g t=mk at e hmk;have hrun:∀kt et,P.underlying t=some (.map kt et)->(Instr.makeMap t r).run P w= .ok (.map (some w.heap.size)) (World.grown w w.drawn (.map #[] 0)):=by
  intro kt et hu;cases r with
  |none=>simp only[Instr.makeMap,Sem.run_bind,Sem.run_pure,Result.andThen_ok,tK]
  |some x=>obtain⟨kd,n,rfl⟩:=hr x rfl;simp only[Instr.makeMap,Sem.run_bind,Sem.run_pure,Result.andThen_ok,tK,aC hu,asInt,asIntOf]
 unfold qm at e;split at e;·rename_i kd hroom;obtain⟨kt,et,hu,_⟩:=hmk;cases e;refine⟨_,_,[],_,hrun kt et hu,⟨⟨w.heap.size,0,0⟩,aX.add_same _ _ _,rfl⟩,Loc.yB k (H.jZ.1 hroom) _ ⟨w.heap.size,0,0⟩ (.map #[] 0) (by simp[World.grown]) gQ (Nat.le_refl _) gU ?_ rfl rfl rfl⟩;refine⟨#[],rfl,rfl,rfl,⟨by simp,by simp,λi h0=>by have h0:0=i+1:=h0;omega⟩,λi _=> ?_⟩;rw[E.uV];exact rfl
 ·rename_i hroom;obtain⟨kt,et,hu,_⟩:=hmk;cases e;refine⟨_,_,[],_,hrun kt et hu,⟨⟨w.heap.size,0,0⟩,aX.add_same _ _ _,rfl⟩,Loc.yB k (H.jZ.1 hroom) _ ⟨w.heap.size,0,0⟩ (.map #[] 0) (by simp[World.grown]) gQ (Nat.le_refl _) gU ?_ rfl rfl rfl⟩;exact⟨#[],rfl,rfl,rfl,by simp,λs=>rfl⟩
 ·cases e
theorem Ul (k:WR ι h w D) (hg:jT P g) {t:TypeId} {y:Ty} (ht:g.ty t=some y) (hd:y.desc= .string) {x v:AV} {vx:Value} (hx:VR ι x vx) (e:Nh x h= .ok v h'):aO P ι h w (Instr.range t vx) v h':=by
 have hut:=(hg.ty _ _ ht).1;rw[hd]at hut;unfold Nh at e;split at e
 ·obtain⟨b,rfl,rfl⟩:=hx;split at e
  ·rename_i hroom;cases e;refine⟨_,_,[], .pointer (some ⟨w.heap.size,0,none⟩),?_,CF (m:=⟨w.heap.size,0,0⟩) rfl,Loc.yB k (H.jZ.1 hroom) _ ⟨w.heap.size,0,0⟩ (.stringIter b 0) (by simp[World.grown]) gQ (Nat.le_refl _) (gU (n:=w.drawn)) ⟨rfl,b,rfl,rfl⟩ rfl rfl rfl⟩;simp only[Instr.range,Sem.run_bind,aC hut,Result.andThen_ok,Sem.run_pure,tK]
  ·cases e
 ·cases e
theorem Um {ι:aX}:∀(a:AV) (l:List Value),gG ι a l->∀o,l.length<=o->Ch a o= .bad:=
 iZ (λ_ _=>rfl) (λa t x xs _ _ ih o ho=>by
  cases o with
  |zero=>simp at ho
  |succ o=>exact ih o (by simpa using ho))
theorem Ni (k:WR ι h w D) {x v:AV} {vx:Value} {i:Nat} (hx:VR ι x vx) (e:sU (tL x i) h= .ok v h'):aO P ι h w (Instr.extract vx i) v h':=by
 obtain⟨e1,e2,hv⟩:=pI e;subst e2;have hv':=hv;rw[<-e1]at hv';unfold tL at e1;split at e1
 ·obtain⟨xs,rfl,hxs⟩:=hx;have hlt:i<xs.size:=by
   rcases aN i xs.size with c|c;·exact c
   ·exact absurd (Um _ _ hxs i (by simpa using c)) hv
  refine aO.ret k (v':=xs.toList.getD i undef) ?_ (by rw[e1];exact gM hxs i);simp only[Instr.extract,mD hlt,Sem.run_pure];simp[hlt]
 ·exact absurd e1 hv'
theorem IW (k:WR ι h w D) (hg:jT P g) {t:TypeId} {y:Ty} (ht:g.ty t=some y) (hd:∀ms,y.desc≠.interface ms) {x:AV} {vx:Value} (hx:VR ι x vx):aO P ι h w (Instr.makeInterface t vx) (.sG t x) h:=by refine aO.ret k (v':= .iface t vx) ?_ ⟨vx,rfl,hx⟩;simp only[Instr.makeInterface,Sem.run_bind,aC (hg.ty _ _ ht).1,Result.andThen_ok];rfl
theorem Ku (k:WR ι h w D) {f:FuncId} {x y:AV} {xs ys:Array Value} (hx:gG ι x xs.toList) (hy:gG ι y ys.toList):aO P ι h w (Instr.makeFunc (.func f) xs ys) (.fn f x y) h:=
 aO.ret k (v':= .func (.func f) xs ys) rfl (.inl ⟨xs,ys,rfl,hx,hy⟩)
theorem FX (k:WR ι h w D) {t:Nat} {nm:String} {x:AV} {vx:Value} (hx:VR ι (.sG t x) vx):aO P ι h w (Instr.makeFunc (.method nm) #[vx] #[]) (.fn 0 (.sG t x) (.str (Str.of nm.toUTF8))) h:=by obtain⟨y,rfl,hy⟩:=hx;exact aO.ret k (v':= .func (.method nm) #[.iface t y] #[]) rfl (.inr ⟨.iface t y,nm,rfl,⟨y,rfl,hy⟩,nm.toUTF8,rfl,rfl⟩)
theorem abF (k:WR ι h w D) (hg:jT P g) {t ty:TypeId} {y:Ty} (ht:g.ty t=some y) {x v:AV} {vx:Value} {ts:Array TypeId} (hts:ts[0]? =some t) (hx:VR ι x vx) (hD:∀b∈aS x,D b) (e:Un y.desc x h= .ok v h'):
 aO P ι h w (Builtin.len_ ts ty #[vx]) v h':=by
 have hut:=(hg.ty _ _ ht).1;have hx0:(#[vx]:Array Value)[0]? =some vx:=rfl;unfold Un at e;split at e
 ·rename_i hd;rw[hd]at hut;split at e
  ·obtain⟨b,rfl,rfl⟩:=hx;rw[oN]at e;cases e;refine aO.ret k (v':=goInt b.size) ?_ (by rw[Str.fA];rfl);simp only[Builtin.len_,hts,hx0,Sem.run_bind,aC hut,Result.andThen_ok,Sem.run_pure]
  ·cases e
 ·rename_i hd;rw[hd]at hut;split at e
  ·obtain⟨m,ya,cap,_,rfl,_⟩:=hx;rw[oN]at e;cases e;refine aO.ret k (v':=goInt _) ?_ rfl;simp only[Builtin.len_,hts,hx0,Sem.run_bind,aC hut,Result.andThen_ok,Sem.run_pure];rfl
  ·cases hx;cases e;refine aO.ret k (v':=goInt 0) ?_ rfl;simp only[Builtin.len_,hts,hx0,Sem.run_bind,aC hut,Result.andThen_ok,Sem.run_pure];rfl
  ·cases e
 ·rename_i hd;rw[hd]at hut;split at e
  ·cases hx;cases e;refine aO.ret k (v':=goInt 0) ?_ rfl;simp only[Builtin.len_,hts,hx0,Sem.run_bind,aC hut,Result.andThen_ok,Sem.run_pure]
  ·rename_i b;obtain⟨m,hm,rfl⟩:=hx;split at e
   ·rename_i hb;obtain⟨o,ho,hbr⟩:=k.map (hD b (by simp[aS])) hm hb;obtain⟨es,rfl,hsz,_⟩:=hbr;cases e;refine aO.ret k (v':=goInt es.size) ?_ (by rw[hsz];rfl);simp only[Builtin.len_,hts,hx0,Sem.run_bind,aC hut,Result.andThen_ok,Sem.run_pure,run_getObj_map ho]
   ·rename_i hb;obtain⟨o,ho,hbr⟩:=k.map (hD b (by simp[aS])) hm hb;obtain⟨es,rfl,hsz,_⟩:=hbr;cases e;refine aO.ret k (v':=goInt es.size) ?_ (by rw[hsz];rfl);simp only[Builtin.len_,hts,hx0,Sem.run_bind,aC hut,Result.andThen_ok,Sem.run_pure,run_getObj_map ho]
   ·cases e
  ·cases e
 ·cases e
end
theorem DN (b:ByteArray) (j:Nat) (hj:j<b.size):(b.get! j).toNat=(Str.of b).byte j:=by
 rw[Str.yg b j hj];have hj':j<b.data.size:=hj;have e:b.get! j=b.data[j]! :=by cases b;rfl
 rw[e,getElem!_pos b.data j hj'];rfl
theorem Yf (a b:Bool):aA a b=(a&&b):=by cases a<;>rfl
theorem Uo (c:Nat):vld c=Utf8.valid c:=by unfold vld Utf8.valid;have h1:Nat.ble (Nat.succ c) (nat_lit 55296)=decide (c<55296):=jd _ _;have h2:Nat.ble (nat_lit 57344) c=decide (57344<=c):=jd _ _;have h3:Nat.ble c (nat_lit 1114111)=decide (c<=1114111):=jd _ _;rw[h1,h2,h3];by_cases a:c<55296<;>by_cases b:57344<=c<;>by_cases d:c<=1114111<;>simp[a,b,d]<;>omega
theorem ru (b:ByteArray) (j:Nat):cont (Str.of b) j=(decide (j<b.size)&&(b.get! j).toNat/64==2):=by
 have e:cont (Str.of b) j=Bool.rec (motive:=λ_=>Bool) false (Nat.beq (Nat.div ((Str.of b).byte j) 64) 2) (Nat.ble (Nat.succ j) (Str.of b).len):=rfl;rw[e,Str.fA,jd];by_cases h:j<b.size;·have h':Nat.succ j<=b.size:=h;rw[bg h',bg h,DN b j h,Bool.true_and];show Nat.beq _ _=_;rw[uP,eX,bf,dK];rfl
 ·have h':¬Nat.succ j<=b.size:=h;rw[bK h',bK h];rfl
theorem IZ (b:ByteArray) (j:Nat) (h:cont (Str.of b) j=true):XK (Str.of b) j=(b.get! j).toNat%64:=by rw[ru,aP,bf]at h;rw[DN b j h.1];rfl
noncomputable section
def Yg (B:Nat) (c1 c2 c3:Bool) (l1 l2 l3:Nat) (k:Nat->Nat->bF):bF:=
 match Nat.ble (Nat.succ B) (nat_lit 128)with
 |true=>k B (nat_lit 1)
 |false=>match aA (Nat.beq (Nat.div B (nat_lit 32)) (nat_lit 6)) c1 with
  |true=>Bool.rec (k (nat_lit 65533) (nat_lit 1)) (k (Nat.add (Nat.mul (Nat.mod B (nat_lit 32)) (nat_lit 64)) l1) (nat_lit 2)) (Nat.ble (nat_lit 128) (Nat.add (Nat.mul (Nat.mod B (nat_lit 32)) (nat_lit 64)) l1))
  |false=>match aA (Nat.beq (Nat.div B (nat_lit 16)) (nat_lit 14)) (aA c1 c2)with
   |true=>Bool.rec (k (nat_lit 65533) (nat_lit 1)) (k (Nat.add (Nat.add (Nat.mul (Nat.mod B (nat_lit 16)) (nat_lit 4096)) (Nat.mul l1 (nat_lit 64))) l2) (nat_lit 3))
    (aA (Nat.ble (nat_lit 2048) (Nat.add (Nat.add (Nat.mul (Nat.mod B (nat_lit 16)) (nat_lit 4096)) (Nat.mul l1 (nat_lit 64))) l2)) (vld (Nat.add (Nat.add (Nat.mul (Nat.mod B (nat_lit 16)) (nat_lit 4096)) (Nat.mul l1 (nat_lit 64))) l2)))
   |false=>match aA (Nat.beq (Nat.div B (nat_lit 8)) (nat_lit 30)) (aA c1 (aA c2 c3))with
    |true=>Bool.rec (k (nat_lit 65533) (nat_lit 1)) (k (Nat.add (Nat.add (Nat.add (Nat.mul (Nat.mod B (nat_lit 8)) (nat_lit 262144)) (Nat.mul l1 (nat_lit 4096))) (Nat.mul l2 (nat_lit 64))) l3) (nat_lit 4))
     (aA (Nat.ble (nat_lit 65536) (Nat.add (Nat.add (Nat.add (Nat.mul (Nat.mod B (nat_lit 8)) (nat_lit 262144)) (Nat.mul l1 (nat_lit 4096))) (Nat.mul l2 (nat_lit 64))) l3))
      (vld (Nat.add (Nat.add (Nat.add (Nat.mul (Nat.mod B (nat_lit 8)) (nat_lit 262144)) (Nat.mul l1 (nat_lit 4096))) (Nat.mul l2 (nat_lit 64))) l3)))
    |false=>k (nat_lit 65533) (nat_lit 1)
theorem Rk (s:Str) (i:Nat) (k:Nat->Nat->bF):Yh s i k=
 Yg (s.byte i) (cont s (i+1)) (cont s (i+2)) (cont s (i+3)) (XK s (i+1)) (XK s (i+2)) (XK s (i+3)) k:=by
 unfold Yh Yg;simp only[oN];rfl
def Yi (B:Nat) (c1 c2 c3:Bool) (a1 a2 a3:Nat):Nat×Nat:=
 if B<128 then(B,1)
 else if B/32==6&&c1 then(if B%32*64+a1%64≥128 then(B%32*64+a1%64,2)else(65533,1))
 else if B/16==14&&c1&&c2 then(if B%16*4096+a1%64*64+a2%64≥2048&&Utf8.valid (B%16*4096+a1%64*64+a2%64:Nat)then(B%16*4096+a1%64*64+a2%64,3)else(65533,1))
 else if B/8==30&&c1&&c2&&c3 then
  (if B%8*262144+a1%64*4096+a2%64*64+a3%64≥65536&&Utf8.valid (B%8*262144+a1%64*4096+a2%64*64+a3%64:Nat)then(B%8*262144+a1%64*4096+a2%64*64+a3%64,4)else(65533,1))
 else(65533,1)
theorem Kv (b:ByteArray) (i:Nat):Utf8.decode b i=
 Yi (b.get! i).toNat (decide (i+1<b.size)&&(b.get! (i+1)).toNat/64==2) (decide (i+2<b.size)&&(b.get! (i+2)).toNat/64==2) (decide (i+3<b.size)&&(b.get! (i+3)).toNat/64==2)
  (b.get! (i+1)).toNat (b.get! (i+2)).toNat (b.get! (i+3)).toNat:=rfl
theorem aeo (a b:Nat):Nat.beq a b=(a==b):=by rw[uP,eX,bf,dK]
theorem aav (a b:Nat):Nat.div a b=a/b:=rfl
theorem aaw (a b:Nat):Nat.mod a b=a%b:=rfl
theorem aax (a b:Nat):Nat.mul a b=a*b:=rfl
theorem aay (a b:Nat):Nat.add a b=a+b:=rfl
theorem oQ {α:Type} (c:Bool) (x y:α):(Bool.rec x y c:α)=if c=true then y else x:=by cases c<;>rfl
theorem Rl {α:Type} (c:Bool) (x y:α):(match c with|true=>y|false=>x)=if c=true then y else x:=by cases c<;>rfl
theorem I4 {k:Nat->Nat->bF} (c:Prop) [Decidable c] (c':Prop) [Decidable c'] (hc:c↔c') (x y x' y':Nat):(if c then k x y else k x' y')=k (if c' then(x,y)else(x',y')).1 (if c' then(x,y)else(x',y')).2:=by
 by_cases h:c;·rw[au h,au (hc.1 h)]
 ·rw[ak h,ak (λe=>h (hc.2 e))]
theorem Rm (B:Nat) (c1 c2 c3:Bool) (l1 l2 l3 a1 a2 a3:Nat) (h1:c1=true->l1=a1%64) (h2:c2=true->l2=a2%64) (h3:c3=true->l3=a3%64) (k:Nat->Nat->bF):
 Yg B c1 c2 c3 l1 l2 l3 k=k (Yi B c1 c2 c3 a1 a2 a3).1 (Yi B c1 c2 c3 a1 a2 a3).2:=by
 unfold Yg Yi;simp only[Yf,Uo,jd,aeo,oQ,Rl,aay,aax,aav,aaw];by_cases q0:B<128;·rw[au q0,au (show(decide (Nat.succ B<=128)=true)from bg q0)]
 rw[ak q0,ak (show ¬(decide (Nat.succ B<=128)=true)from λe=>q0 (jm e))];by_cases q1:(B/32==6&&c1)=true;·rw[au q1,au q1];rw[h1 (by simp only[aP]at q1;exact q1.2)];exact I4 _ _ (by simp only[bf]) _ _ _ _
 rw[ak q1,ak q1];by_cases q2:(B/16==14&&c1&&c2)=true;·rw[au q2,au (show(B/16==14&&(c1&&c2))=true by rw[<-uW];exact q2)];simp only[aP]at q2;rw[h1 q2.1.2,h2 q2.2];exact I4 _ _ (by simp only[aP,bf]) _ _ _ _
 rw[ak q2,ak (show ¬(B/16==14&&(c1&&c2))=true by rw[<-uW];exact q2)];by_cases q3:(B/8==30&&c1&&c2&&c3)=true;·rw[au q3,au (show(B/8==30&&(c1&&(c2&&c3)))=true by rw[<-uW,<-uW];exact q3)];simp only[aP]at q3;rw[h1 q3.1.1.2,h2 q3.1.2,h3 q3.2];exact I4 _ _ (by simp only[aP,bf]) _ _ _ _
 rw[ak q3,ak (show ¬(B/8==30&&(c1&&(c2&&c3)))=true by rw[<-uW,<-uW];exact q3)]
theorem Yj (b:ByteArray) (i:Nat) (hi:i<b.size) (k:Nat->Nat->bF):Yh (Str.of b) i k=k (Utf8.decode b i).1 (Utf8.decode b i).2:=by
 rw[Rk,Kv,<-DN b i hi,ru,ru,ru];refine Rm _ _ _ _ _ _ _ _ _ _ ?_ ?_ ?_ k;·intro h;exact IZ _ _ (by rw[ru];exact h)
 ·intro h;exact IZ _ _ (by rw[ru];exact h)
 ·intro h;exact IZ _ _ (by rw[ru];exact h)
section
variable {P:Program} {g:G} {ι:aX} {h h':H} {w:World} {D:Nat->Prop}
theorem Yk (k:WR ι h w D) {x v:AV} {vx:Value} (hx:VR ι x vx) (hD:∀b∈aS x,D b) (t:TypeId) (e:Kw x h= .ok v h'):aO P ι h w (Instr.next vx true t) v h':=by
 unfold Kw at e;split at e
 ·rename_i b;obtain⟨m,hm,rfl⟩:=hx;split at e
  ·rename_i s pos hb;obtain⟨o,ho,hbr⟩:=k.map (hD b (by simp[aS])) hm hb;obtain⟨hsh,bs,rfl,rfl⟩:=hbr;have hgo:(getObj m.B).run P w= .ok (.stringIter bs pos) w:=by show Sem.run P (Sem.getObj m.B Sem.pure) w=_;unfold Sem.run;rw[ho];rfl
   split at e
   ·rename_i hlt;rw[aH,Str.fA]at hlt;have hlt:pos<bs.size:=hlt;rw[Yj bs pos hlt,oN]at e;cases e;have hL:=Loc.mY k hm hb ho (o:= .stringIter bs (pos+(Utf8.decode bs pos).2)) (x:= .iter (Str.of bs) (pos+(Utf8.decode bs pos).2)) ⟨hsh,bs,rfl,rfl⟩;refine⟨ι,_,[b], .tuple #[.bool true,goInt pos, .int .i32 (Utf8.decode bs pos).1],?_,?_,hL⟩
    ·simp only[Instr.next,hsh,cK,Sem.run_bind,hgo,Result.andThen_ok,au hlt];have hso:(setObj m.B (.stringIter bs (pos+(Utf8.decode bs pos).2))).run P w= .ok () {w with heap:=w.heap.setIfInBounds m.B (.stringIter bs (pos+(Utf8.decode bs pos).2))}:=by show Sem.run P (Sem.setObj m.B _ (Sem.pure ())) w=_;unfold Sem.run;rw[ho];rfl
     rw[hso];rfl
    ·exact⟨_,rfl,_,_,rfl,rfl,_,_,rfl,rfl,_,_,rfl,rfl,rfl⟩
   ·rename_i hlt;cases e;rw[Str.fA]at hlt;have hlt:¬pos<bs.size:=λc=>by
     have:Nat.ble (Nat.succ pos) bs.size=true:=by rw[aH];exact c
     rw[this]at hlt;cases hlt
    refine aO.ret k (v':= .tuple #[.bool false]) ?_ ⟨_,rfl,_,_,rfl,rfl,rfl⟩;simp only[Instr.next,hsh,cK,Sem.run_bind,hgo,Result.andThen_ok,ak hlt];rfl
  ·cases e
 ·cases e
end
end
section
variable {P:Program} {g:G} {ι:aX} {h h':H} {w:World} {D:Nat->Prop}
theorem jA {b:Nat} {arr:Array Value} {el:TypeId} {fr:Nat×Nat} (h:w.heap[b]? =some (.cells arr el fr)) (f:Obj->Obj) {arr':Array Value} {iY:TypeId} {fr':Nat×Nat}
 (hf:f (.cells arr el fr)= .cells arr' iY fr'):{w with heap:=w.heap.modify b f}=World.putCells w b arr' iY fr':=by
 unfold World.putCells;congr 1;apply Array.ext_getElem?;intro i;have hlt:b<w.heap.size:=(dQ.1 h).1;by_cases hi:b=i;·subst hi;rw[uU,au rfl,h];simp[hlt,hf]
 ·rw[jH hi,uU,ak hi]
theorem oU {b o:Nat} {arr:Array Value} {el:TypeId} {lo hi:Nat} (hw:w.heap[b]? =some (.cells arr el (lo,hi))):
 ∃lo' hi',(markStringish ⟨b,o,none⟩).run P w= .ok () (World.putCells w b arr el (lo',hi'))/\((lo=hi\/arr.size<=lo)->arr.size<=lo'):=by
 have hs:w.shape? b=some (el,arr.size):=by simp only[World.shape?,hw]
 by_cases hlh:lo=hi;·refine⟨arr.size,arr.size+1,?_,λ_=>ay _⟩;simp only[markStringish,Sem.run_bind,run_shape,hs,Result.andThen_ok,run_freeze];unfold World.freeze;rw[if_neg (by decide),jA hw _ (arr':=arr) (iY:=el) (fr':=(arr.size,arr.size+1)) (by simp[hlh])]
 ·refine⟨min lo arr.size,max hi (arr.size+1),?_,λc=> ?_⟩
  ·simp only[markStringish,Sem.run_bind,run_shape,hs,Result.andThen_ok,run_freeze];unfold World.freeze;rw[if_neg (by decide),jA hw _ (arr':=arr) (iY:=el) (fr':=(min lo arr.size,max hi (arr.size+1))) (by simp[hlh])]
  ·rcases c with c|c
   ·exact absurd c hlh
   ·omega
theorem CJ (need old:Nat) (el:TypeId) (w:World):∃c,(choose (.appendCap need old el)).run P w= .ok c (World.bR w (w.drawn+1))/\need<=c:=by
 refine⟨(Question.appendCap need old el).cut (w.tape w.drawn (.appendCap need old el)),?_,?_⟩;·rw[run_choose,if_neg (by simp[Question.forced])];rfl
 ·exact Nat.le_add_right _ _
noncomputable def aaz (c:AV) (f:Option Str->Option Str) (o:Option Str):Option Str:=
 match c,o with
  | .int .u8 (.ofNat n),some s=>match Nat.ble n (nat_lit 255)with
    |true=>sN (Nat.add (Nat.mul s.val (nat_lit 256)) n) λv=>f (some ⟨Nat.succ s.len,v⟩)
    |false=>none
  |_,_=>none
theorem FY (a t:AV) (o:Option Str):nO (.cons a t) o=aaz a (nO t) o:=rfl
theorem tN {a:AV} {l:List Value} (hl:gG ι a l):∀(b:ByteArray) (s:Str),nO a (some (Str.of b))=some s->
 ∃ns:List Int,l=ns.map (Value.int .u8)/\s=Str.of (ns.foldl (λr n=>r.push (UInt8.ofNat n.toNat)) b):=by
 refine iZ (ι:=ι) (Q:=λa l=>∀(b:ByteArray) (s:Str),nO a (some (Str.of b))=some s->
  ∃ns:List Int,l=ns.map (Value.int .u8)/\s=Str.of (ns.foldl (λr n=>r.push (UInt8.ofNat n.toNat)) b)) ?_ ?_ a l hl
 ·intro b s e;have e:some (Str.of b)=some s:=e;cases e;exact⟨[],rfl,rfl⟩
 ·intro a t x xs hx _ ih b s e;rw[FY]at e;unfold aaz at e;split at e
  ·rename_i n s0 h1;cases h1;cases hx;split at e
   ·rename_i hle;rw[aH]at hle;rw[oN]at e;have hpush:(⟨Nat.succ (Str.of b).len,Nat.add (Nat.mul (Str.of b).val (nat_lit 256)) n⟩:Str)=Str.of (b.push (UInt8.ofNat n)):=by
     rw[Str.of_eq,Str.of_eq];have hd:(b.push (UInt8.ofNat n)).data.toList=b.data.toList++[UInt8.ofNat n]:=by cases b;simp[ByteArray.push]
     rw[hd,jO];have hn:(UInt8.ofNat n).toNat=n:=by rw[UInt8.toNat_ofNat'];exact mG (by have:n<=255:=hle;omega)
     simp only[fK,mU,List.foldl_nil,bT,dx,j5,hn];simp
    rw[hpush]at e;obtain⟨ns,rfl,h2⟩:=ih _ _ e;exact⟨(n:Int)::ns,rfl,h2⟩
   ·cases e
  ·cases e
theorem Pn (b:ByteArray):gG ι (abG (Str.of b) (Str.of b).len) (b.data.toList.map λc=>Value.int .u8 (c.toNat:Int)):=by
 have key:∀n i,i+n=b.size->gG ι (Nat.rec (motive:=λ_=>Nat->AV) (λ_=> .nil) (λ_ ih i=>sN ((Str.of b).byte i) λc=> .cons (.int .u8 (.ofNat c)) (ih (Nat.succ i))) n i)
  ((b.data.toList.drop i).map λc=>Value.int .u8 (c.toNat:Int)):=by
  intro n
  induction n with
  |zero=>
   intro i hi
   have:b.data.toList.drop i=[]:=List.drop_eq_nil_of_le (by have:b.data.toList.length=b.size:=by simp
                                                            omega)
   rw[this];rfl
  |succ n ih=>
   intro i hi
   have hlt:i<b.data.toList.length:=by have:b.data.toList.length=b.size:=by simp
                                       omega
   rw[nQ hlt,jV]
   show gG ι (sN ((Str.of b).byte i) λc=> .cons (.int .u8 (.ofNat c)) _) _
   rw[oN]
   refine⟨_,_,rfl,?_,ih (i+1) (by omega)⟩
   rw[Str.yg b i (by simpa using hlt)]
   rfl
 have:=key b.size 0 (by omega)
 rw[Str.fA]
 exact this
def Yl (c:Nat):ByteArray:=
 if c<0x80 then⟨#[UInt8.ofNat c]⟩
 else if c<0x800 then⟨#[UInt8.ofNat (0xC0+c/64),UInt8.ofNat (0x80+c%64)]⟩
 else if c<0x10000 then⟨#[UInt8.ofNat (0xE0+c/4096),UInt8.ofNat (0x80+c/64%64),UInt8.ofNat (0x80+c%64)]⟩
 else⟨#[UInt8.ofNat (0xF0+c/262144),UInt8.ofNat (0x80+c/4096%64),UInt8.ofNat (0x80+c/64%64),UInt8.ofNat (0x80+c%64)]⟩
theorem Ky (r:Int):Utf8.encode r=Yl (if Utf8.valid r then r.toNat else 65533):=rfl
theorem u8_of {n:Nat} (h:n<256):(UInt8.ofNat n).toNat=n:=by rw[UInt8.toNat_ofNat'];exact mG (by omega)
theorem I5 (c:Nat) (hc:c<=1114111):enc1 c=Str.of (Yl c):=by
 unfold enc1 Yl;simp only[oQ,jd,bf,aay,aax,aav,aaw];by_cases h1:c<128;·rw[au h1,au (show Nat.succ c<=128 from h1),Str.of_eq];simp only[fK,mU,List.foldl_nil,u8_of (show c<256 by omega),dx,j5];simp
 rw[ak h1,ak (show ¬Nat.succ c<=128 from h1)];by_cases h2:c<2048;·rw[au h2,au (show Nat.succ c<=2048 from h2),Str.of_eq];simp only[fK,mU,List.foldl_nil,u8_of (show 192+c/64<256 by omega),u8_of (show 128+c%64<256 by omega),dx,j5];simp
 rw[ak h2,ak (show ¬Nat.succ c<=2048 from h2)];by_cases h3:c<65536;·rw[au h3,au (show Nat.succ c<=65536 from h3),Str.of_eq];simp only[fK,mU,List.foldl_nil,u8_of (show 224+c/4096<256 by omega),u8_of (show 128+c/64%64<256 by omega),u8_of (show 128+c%64<256 by omega),dx,j5];simp
 rw[ak h3,ak (show ¬Nat.succ c<=65536 from h3),Str.of_eq];simp only[fK,mU,List.foldl_nil,u8_of (show 240+c/262144<256 by omega),u8_of (show 128+c/4096%64<256 by omega),u8_of (show 128+c/64%64<256 by omega),u8_of (show 128+c%64<256 by omega),dx,j5];simp
theorem Ym (r:Int):encR r=Str.of (Utf8.encode r):=by
 rw[Ky];cases r with
 |ofNat c=>
  have e:encR (.ofNat c)=enc1 (Bool.rec (nat_lit 65533) c (vld c)):=rfl;rw[e,Uo,oQ];show enc1 (if Utf8.valid (c:Int)=true then c else 65533)=Str.of (Yl (if Utf8.valid (c:Int)=true then(c:Int).toNat else 65533));by_cases h:Utf8.valid (c:Int)=true;·rw[au h,au h,jJ];refine I5 c ?_;simp only[Utf8.valid,dG,aP,bf]at h;omega
  ·rw[ak h,ak h];exact I5 65533 (by omega)
 |negSucc c=>
  have e:encR (.negSucc c)=enc1 65533:=rfl;rw[e,ak];·exact I5 65533 (by omega)
  ·simp only[Utf8.valid,dG,aP,bf];omega
