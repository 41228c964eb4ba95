/- The abstract machine, first part: its data (strings, tries, values, blocks, heaps) and their small laws. -/
import Derived.Control
namespace Go.Proofs.YtocaiijbhepnnaaGreatDoor
theorem aG:type_of%@List.getD_eq_getElem?_getD:=@List.getD_eq_getElem?_getD
theorem aI:type_of%@Nat.eq_of_beq_eq_true:=@Nat.eq_of_beq_eq_true
theorem ay:type_of%@Nat.le_refl:=@Nat.le_refl
theorem aS:type_of%@List.getElem?_eq_getElem:=@List.getElem?_eq_getElem
theorem aj:type_of%@if_neg:=@if_neg
theorem bG:type_of%@List.setIfInBounds_toArray:=@List.setIfInBounds_toArray
theorem au:type_of%@if_pos:=@if_pos
theorem aQ:type_of%@Bool.and_eq_true:=@Bool.and_eq_true
theorem aY:type_of%@decide_eq_true_iff:=@decide_eq_true_iff
theorem aT:type_of%@List.set_cons_zero:=@List.set_cons_zero
theorem aU:type_of%@List.set_cons_succ:=@List.set_cons_succ
theorem aZ:type_of%@Bool.false_eq_true:=@Bool.false_eq_true
theorem aP:type_of%@decide_eq_false:=@decide_eq_false
theorem aF:type_of%@Nat.lt_or_ge:=@Nat.lt_or_ge
theorem aO:type_of%@decide_eq_true:=@decide_eq_true
theorem aD:type_of%@Nat.ble_eq:=@Nat.ble_eq
theorem bJ:type_of%@Nat.lt_of_lt_of_le:=@Nat.lt_of_lt_of_le
theorem dM:type_of%@Array.getElem?_eq_some_iff:=@Array.getElem?_eq_some_iff
theorem aR:type_of%@List.mem_cons:=@List.mem_cons
theorem bV:type_of%@List.length_append:=@List.length_append
theorem dh:type_of%@Nat.le_of_ble_eq_true:=@Nat.le_of_ble_eq_true
theorem aL:type_of%@Nat.zero_le:=@Nat.zero_le
theorem gJ:type_of%@Array.getD_eq_getD_getElem?:=@Array.getD_eq_getD_getElem?
theorem bT:type_of%@List.length_cons:=@List.length_cons
theorem dN:type_of%@Array.getElem?_toList:=@Array.getElem?_toList
theorem bM:type_of%@List.length_map:=@List.length_map
theorem dH:type_of%@beq_eq_false_iff_ne:=@beq_eq_false_iff_ne
theorem bW:type_of%@Option.some.inj:=@Option.some.inj
theorem bF:type_of%@Nat.le_trans:=@Nat.le_trans
theorem jF:type_of%@Array.getElem?_setIfInBounds_ne:=@Array.getElem?_setIfInBounds_ne
theorem bI:type_of%@Nat.zero_add:=@Nat.zero_add
theorem eG:type_of%@List.mem_singleton:=@List.mem_singleton
theorem fq:type_of%@List.getElem?_map:=@List.getElem?_map
theorem bX:type_of%@List.mem_map:=@List.mem_map
theorem dI:type_of%@Bool.or_eq_true:=@Bool.or_eq_true
theorem dZ:type_of%@List.all_eq_true:=@List.all_eq_true
theorem dY:type_of%@Bool.eq_iff_iff:=@Bool.eq_iff_iff
theorem iF:type_of%@List.mem_append_left:=@List.mem_append_left
theorem iM:type_of%@List.mem_append_right:=@List.mem_append_right
theorem dA:type_of%@Nat.lt_irrefl:=@Nat.lt_irrefl
theorem gK:type_of%@of_decide_eq_true:=@of_decide_eq_true
theorem dG:type_of%@Nat.add_zero:=@Nat.add_zero
theorem iH:type_of%@decide_eq_true_eq:=@decide_eq_true_eq
theorem gP:type_of%@List.length_drop:=@List.length_drop
theorem l6:type_of%@Array.getElem?_eq_getElem:=@Array.getElem?_eq_getElem
theorem iL:type_of%@List.append_assoc:=@List.append_assoc
theorem jE:type_of%@Array.length_toList:=@Array.length_toList
theorem iN:type_of%@List.getElem_mem:=@List.getElem_mem
theorem jG:type_of%@Nat.eq_zero_or_pos:=@Nat.eq_zero_or_pos
theorem cZ:type_of%@beq_iff_eq:=@beq_iff_eq
theorem iE:type_of%@List.mem_append:=@List.mem_append
theorem jh:type_of%@List.length_take:=@List.length_take
theorem pG:type_of%@List.getElem?_append_right:=@List.getElem?_append_right
theorem pJ:type_of%@List.getElem?_eq_some_iff:=@List.getElem?_eq_some_iff
theorem pF:type_of%@List.getElem?_append_left:=@List.getElem?_append_left
theorem pK:type_of%@List.drop_eq_getElem_cons:=@List.drop_eq_getElem_cons
theorem l9:type_of%@Nat.mul_le_mul_right:=@Nat.mul_le_mul_right
theorem mD:type_of%@List.mem_iff_getElem:=@List.mem_iff_getElem
theorem ji:type_of%@List.append_nil:=@List.append_nil
theorem fD:type_of%@Nat.add_mul:=@Nat.add_mul
theorem kZ:type_of%@Nat.lt_trichotomy:=@Nat.lt_trichotomy
theorem tN:type_of%@List.eq_nil_of_length_eq_zero:=@List.eq_nil_of_length_eq_zero
theorem iG:type_of%@Nat.le_of_lt:=@Nat.le_of_lt
theorem ko:type_of%@Nat.not_lt_zero:=@Nat.not_lt_zero
theorem kg:type_of%@List.mem_filter:=@List.mem_filter
theorem kY:type_of%@Nat.mod_eq_of_lt:=@Nat.mod_eq_of_lt
theorem mq:type_of%@List.length_range:=@List.length_range
theorem mg:type_of%@Int.toNat_natCast:=@Int.toNat_natCast
theorem pI:type_of%@List.mem_of_getElem?:=@List.mem_of_getElem?
theorem jD:type_of%@List.map_cons:=@List.map_cons
theorem pR:type_of%@Array.toList_append:=@Array.toList_append
theorem qO:type_of%@List.take_append_drop:=@List.take_append_drop
theorem rM:type_of%@List.contains_iff_mem:=@List.contains_iff_mem
theorem tu:type_of%@Option.isSome_iff_exists:=@Option.isSome_iff_exists
theorem l8:type_of%@Nat.add_assoc:=@Nat.add_assoc
theorem mh:type_of%@List.length_nil:=@List.length_nil
theorem nQ:type_of%@List.not_mem_nil:=@List.not_mem_nil
theorem pQ:type_of%@Array.size_append:=@Array.size_append
theorem zV:type_of%@List.getElem?_range:=@List.getElem?_range
theorem jU:type_of%@Nat.zero_mul:=@Nat.zero_mul
theorem pE:type_of%@List.foldl_cons:=@List.foldl_cons
theorem wV:type_of%@List.getElem?_eq_none:=@List.getElem?_eq_none
theorem xE:type_of%@Bool.eq_false_or_eq_true:=@Bool.eq_false_or_eq_true
theorem kX:type_of%@Nat.mul_comm:=@Nat.mul_comm
theorem fJ:type_of%@congrArg:=@congrArg
theorem nO:type_of%@List.mem_range:=@List.mem_range
theorem qZ:type_of%@List.size_toArray:=@List.size_toArray
theorem rO:type_of%@Bool.eq_false_iff:=@Bool.eq_false_iff
theorem qX:type_of%@Array.toList_push:=@Array.toList_push
theorem xG:type_of%@List.take_of_length_le:=@List.take_of_length_le
theorem Ch:type_of%@List.drop_eq_nil_of_le:=@List.drop_eq_nil_of_le
theorem mM:type_of%@Array.toList_map:=@Array.toList_map
theorem oH:type_of%@Nat.add_sub_cancel:=@Nat.add_sub_cancel
theorem oK:type_of%@List.mem_cons_self:=@List.mem_cons_self
theorem oN:type_of%@Bool.false_ne_true:=@Bool.false_ne_true
theorem lJ:type_of%@exists_eq_left:=@exists_eq_left
theorem rH:type_of%@List.mem_cons_of_mem:=@List.mem_cons_of_mem
theorem rP:type_of%@List.drop_eq_nil_iff:=@List.drop_eq_nil_iff
theorem uW:type_of%@Nat.add_sub_cancel_left:=@Nat.add_sub_cancel_left
theorem oO:type_of%@exists_eq_or_imp:=@exists_eq_or_imp
theorem ow:type_of%@Nat.lt_succ_self:=@Nat.lt_succ_self
theorem rQ:type_of%@Int.natCast_nonneg:=@Int.natCast_nonneg
theorem uV:type_of%@UInt8.lt_iff_toNat_lt:=@UInt8.lt_iff_toNat_lt
theorem uZ:type_of%@Array.getElem?_modify:=@Array.getElem?_modify
theorem rR:type_of%@List.any_eq_true:=@List.any_eq_true
theorem mJ:type_of%@Nat.sub_zero:=@Nat.sub_zero
theorem vO:type_of%@Int.toNat_of_nonneg:=@Int.toNat_of_nonneg
theorem yV:type_of%@List.flatMap_singleton:=@List.flatMap_singleton
theorem jq:type_of%@if_false:=@if_false
theorem yH:type_of%@List.toList_toArray:=@List.toList_toArray
theorem yF:type_of%@List.append_toArray:=@List.append_toArray
theorem ru:type_of%@Nat.succ_pos:=@Nat.succ_pos
theorem qN:type_of%@Nat.beq_refl:=@Nat.beq_refl
theorem yB:type_of%@UInt8.toNat_ofNat':=@UInt8.toNat_ofNat'
theorem vw:type_of%@Bool.and_assoc:=@Bool.and_assoc
theorem Cn:type_of%@Option.isNone_iff_eq_none:=@Option.isNone_iff_eq_none
theorem BO:type_of%@Nat.shiftRight_eq_div_pow:=@Nat.shiftRight_eq_div_pow
theorem oQ:type_of%@Int.not_le:=@Int.not_le
theorem yw:type_of%@List.ext_getElem?:=@List.ext_getElem?
theorem uX:type_of%@List.all_cons:=@List.all_cons
theorem Co:type_of%@Int.eq_ofNat_of_zero_le:=@Int.eq_ofNat_of_zero_le
theorem xX:type_of%@Nat.div_eq_of_lt:=@Nat.div_eq_of_lt
theorem yX:type_of%@List.cons_ne_nil:=@List.cons_ne_nil
theorem Cq:type_of%@Option.map_eq_some_iff:=@Option.map_eq_some_iff
theorem Cr:type_of%@List.getElem_cons_zero:=@List.getElem_cons_zero
theorem Ct:type_of%@List.getElem_cons_succ:=@List.getElem_cons_succ
theorem Cu:type_of%@Array.getElem?_eq_none:=@Array.getElem?_eq_none
theorem mU:type_of%@or_false:=@or_false
theorem uR:type_of%@Nat.sub_self:=@Nat.sub_self
theorem xW:type_of%@Nat.mul_add_div:=@Nat.mul_add_div
theorem yI:type_of%@List.all_append:=@List.all_append
end Go.Proofs.YtocaiijbhepnnaaGreatDoor
namespace Go.Proofs.YtocaiijbhepnnaaGreatDoor.Am
noncomputable section
def sN {α:Type} (x:Nat) (k:Nat->α):α:=Bool.rec (k x) (k x) (Nat.ble x (nat_lit 0))
theorem oq {α:Type} (x:Nat) (k:Nat->α):sN x k=k x:=by unfold sN;cases Nat.ble x (nat_lit 0)<;>rfl
structure S4 (α:Type)where
 a:α
 b:α
 c:α
 d:α
@[reducible] def E (α:Type):Nat->Type
  |0=>α
  |k+1=>S4 (E α k)
inductive D where
 |d0|d1|d2|d3
 deriving DecidableEq
inductive P where
 |z
 |s (d:D) (p:P)
def dig (n:Nat):D:=
 Bool.rec (Bool.rec (Bool.rec .d3 .d2 (Nat.beq n (nat_lit 2))) .d1 (Nat.beq n (nat_lit 1))) .d0 (Nat.beq n (nat_lit 0))
def path (k:Nat):Nat->P:=
 Nat.rec (motive:=λ_=>Nat->P) (λ_=> .z)
  (λk ih n=> .s (dig (Nat.div n (Nat.pow (nat_lit 4) k))) (ih (Nat.mod n (Nat.pow (nat_lit 4) k)))) k
def UK {β:Type}:D->S4 β->β:=D.rec (motive:=λ_=>S4 β->β) S4.a S4.b S4.c S4.d
def updS {β:Type}:D->(β->β)->S4 β->S4 β:=D.rec (motive:=λ_=>(β->β)->S4 β->S4 β)
 (λf e=>⟨f e.a,e.b,e.c,e.d⟩) (λf e=>⟨e.a,f e.b,e.c,e.d⟩) (λf e=>⟨e.a,e.b,f e.c,e.d⟩) (λf e=>⟨e.a,e.b,e.c,f e.d⟩)
namespace E
variable {α:Type}
def get (k:Nat):P->E α k->α:=
 Nat.rec (motive:=λk=>P->E α k->α) (λ_ e=>e)
  (λk ih=>P.rec (motive:=λ_=>E α (Nat.succ k)->α) (λe=>ih .z (S4.a e)) (λd r _ e=>ih r (UK d e))) k
def put (x:α) (k:Nat):P->E α k->E α k:=
 Nat.rec (motive:=λk=>P->E α k->E α k) (λ_ _=>x)
  (λk ih=>P.rec (motive:=λ_=>E α (Nat.succ k)->E α (Nat.succ k)) (λe=>e) (λd r _ e=>updS d (ih r) e)) k
def rep (x:α) (k:Nat):E α k:=Nat.rec (motive:=λk=>E α k) x (λ_ ih=>⟨ih,ih,ih,ih⟩) k
def grow (x:α) (k:Nat) (e:E α k):E α (Nat.succ k):=⟨e,rep x k,rep x k,rep x k⟩
end E
theorem Ya {a b:Nat} (ha:a<4) (hb:b<4) (h:dig a=dig b):a=b:=by
 match a,b,ha,hb with
 |0,0,_,_|1,1,_,_|2,2,_,_|3,3,_,_=>rfl
 |0,1,_,_|0,2,_,_|0,3,_,_|1,0,_,_|1,2,_,_|1,3,_,_|2,0,_,_|2,1,_,_|2,3,_,_|3,0,_,_|3,1,_,_|3,2,_,_=>cases h
theorem Ah (k n:Nat):path (k+1) n= .s (dig (n/4^k)) (path k (n%4^k)):=rfl
theorem Pk {β:Type} (d d':D) (f:β->β) (t:S4 β):UK d' (updS d f t)=if d'=d then f (UK d t)else UK d' t:=by cases d<;>cases d'<;>rfl
namespace E
variable {α:Type}
theorem Bh (k:Nat) (d:D) (p:P) (t:E α (k+1)):get (k+1) (.s d p) t=get k p (UK d t):=rfl
theorem ZX (x:α) (k:Nat) (d:D) (p:P) (t:E α (k+1)):put x (k+1) (.s d p) t=updS d (put x k p) t:=rfl
theorem cO (x:α) (k i:Nat) (t:E α k):get k (path k i) (put x k (path k i) t)=x:=by
 induction k generalizing i with
 |zero=>rfl
 |succ k ih=>rw[Ah,Bh,ZX,Pk,if_pos rfl];exact ih _ _
theorem eX (x:α) (k i j:Nat) (hi:i<4^k) (hj:j<4^k) (h:i≠j) (t:E α k):get k (path k j) (put x k (path k i) t)=get k (path k j) t:=by
 induction k generalizing i j with
 |zero=>simp at hi hj;omega
 |succ k ih=>
  rw[Ah,Ah,Bh,ZX,Pk,Bh];have hp:0<4^k:=Nat.pow_pos (by omega);have hi':i/4^k<4:=Nat.div_lt_of_lt_mul (by rw[Nat.pow_succ]at hi;exact hi);have hj':j/4^k<4:=Nat.div_lt_of_lt_mul (by rw[Nat.pow_succ]at hj;exact hj);split;·rename_i hd;have hm:=Ya hj' hi' hd;rw[<-hd];refine ih _ _ (Nat.mod_lt _ hp) (Nat.mod_lt _ hp) ?_ _;intro he;apply h;rw[<-Nat.div_add_mod i (4^k),<-Nat.div_add_mod j (4^k),he,hm]
  ·rfl
theorem vg (x:α) (k:Nat):∀(p:P),get k p (rep x k)=x:=by
 induction k with
 |zero=>intro p;rfl
 |succ k ih=>
  intro p;cases p with
  |z=>exact ih _
  |s d p=>rw[Bh];cases d<;>exact ih _
theorem aea (x:α) (k i:Nat) (hi:i<4^k) (e:E α k):get (k+1) (path (k+1) i) (grow x k e)=get k (path k i) e:=by rw[Ah,Bh,Nat.div_eq_of_lt hi,Nat.mod_eq_of_lt hi];rfl
theorem Yb (x:α) (k i:Nat) (hi:4^k<=i) (hj:i<4^(k+1)) (e:E α k):get (k+1) (path (k+1) i) (grow x k e)=x:=by
 rw[Ah,Bh];have hp:0<4^k:=Nat.pow_pos (by omega);have h1:1<=i/4^k:=(Nat.one_le_div_iff hp).2 hi;have h2:i/4^k<4:=Nat.div_lt_of_lt_mul (by rw[Nat.pow_succ]at hj;exact hj);have:i/4^k=1\/i/4^k=2\/i/4^k=3:=by omega
 rcases this with h|h|h<;>rw[h]<;>exact vg _ _ _
end E
structure Str where
 len:Nat
 val:Nat
 deriving DecidableEq
namespace Str
def go:List UInt8->Nat->Nat->Str:=
 List.rec (motive:=λ_=>Nat->Nat->Str) (λn v=>⟨n,v⟩)
  (λb _ ih n v=>sN (Nat.add (Nat.mul v (nat_lit 256)) b.toNat) λv'=>ih (Nat.succ n) v')
def of (b:ByteArray):Str:=go b.data.toList (nat_lit 0) (nat_lit 0)
def byte (s:Str) (i:Nat):Nat:=Nat.mod (Nat.shiftRight s.val (Nat.mul (nat_lit 8) (Nat.sub (Nat.sub s.len (nat_lit 1)) i))) (nat_lit 256)
def sub (s:Str) (a b:Nat):Str:=
 ⟨Nat.sub b a,Nat.mod (Nat.shiftRight s.val (Nat.mul (nat_lit 8) (Nat.sub s.len b))) (Nat.pow (nat_lit 2) (Nat.mul (nat_lit 8) (Nat.sub b a)))⟩
def app (a b:Str):Str:=⟨Nat.add a.len b.len,Nat.add (Nat.shiftLeft a.val (Nat.mul (nat_lit 8) b.len)) b.val⟩
def eq (a b:Str):Bool:=Bool.rec false (Nat.beq a.val b.val) (Nat.beq a.len b.len)
end Str
inductive AV where
 |bad
 |unk
 |bool (b:Bool)
 |int (k:IntKind) (n:Int)
 |str (s:Str)
 |ptr (b off:Nat)
 |nG
 |slice (b off len es:Nat) (z:Bool)
 |jm
 |map (b:Nat)
 |qL
 |fn (f:Nat) (first zY:AV)
 |wE (l:Nat)
 |qM
 |sH (t:Nat) (v:AV)
 |qc
 |agg (cs:AV)
 |fT (vs:AV)
 |nil
 |cons (h t:AV)
inductive wF where
 |cells (el:Nat) (ro:Bool) (n d:Nat) (t:E AV d)
 |zU (k:IntKind) (n clock:Nat) (t:E (Option AV) 11) (lk:Nat)
 |smap (n clock:Nat) (l:List (Str×AV))
 |iter (s:Str) (pos:Nat)
 |loop (st:LoopState) (pend:Option Code) (fn:Nat) (env:S4 (S4 (S4 (S4 AV)))) (ps:List Tmp) (assign body:Code) (vC:Nat)
 |vC
 |taken
def hd:Nat:=nat_lit 8
structure H where
 t:E (Option wF) hd
 next:Nat
 ln:Nat
 log:List Nat
def H.get (h:H) (b:Nat):Option wF:=E.get hd (path hd b) h.t
def H.room (h:H):Bool:=Nat.ble (Nat.succ h.next) (nat_lit 65536)
def H.set (h:H) (b:Nat) (x:wF):H:=⟨E.put (some x) hd (path hd b) h.t,h.next,Nat.succ h.ln,b::h.log⟩
def H.kill (h:H) (b:Nat):H:=⟨E.put none hd (path hd b) h.t,h.next,Nat.succ h.ln,b::h.log⟩
def H.new (h:H) (x:wF):H:=⟨E.put (some x) hd (path hd h.next) h.t,Nat.succ h.next,h.ln,h.log⟩
def h00 (n:Nat):H:=⟨E.rep none hd,n,nat_lit 0,[]⟩
end
noncomputable section
abbrev Env:=S4 (S4 (S4 (S4 AV)))
structure EV where
 f:Env->AV
structure PS where
 f:AV->Env->Env
structure U1 where
 f:AV->AV
structure B2 where
 f:AV->AV->AV
def MN:Env:=E.rep AV.bad 4
def aeb:List EV:=[
 ⟨λe=>e.a.a.a.a⟩,
 ⟨λe=>e.a.a.a.b⟩,
 ⟨λe=>e.a.a.a.c⟩,
 ⟨λe=>e.a.a.a.d⟩,
 ⟨λe=>e.a.a.b.a⟩,
 ⟨λe=>e.a.a.b.b⟩,
 ⟨λe=>e.a.a.b.c⟩,
 ⟨λe=>e.a.a.b.d⟩,
 ⟨λe=>e.a.a.c.a⟩,
 ⟨λe=>e.a.a.c.b⟩,
 ⟨λe=>e.a.a.c.c⟩,
 ⟨λe=>e.a.a.c.d⟩,
 ⟨λe=>e.a.a.d.a⟩,
 ⟨λe=>e.a.a.d.b⟩,
 ⟨λe=>e.a.a.d.c⟩,
 ⟨λe=>e.a.a.d.d⟩]
def aec:List EV:=[
 ⟨λe=>e.a.b.a.a⟩,
 ⟨λe=>e.a.b.a.b⟩,
 ⟨λe=>e.a.b.a.c⟩,
 ⟨λe=>e.a.b.a.d⟩,
 ⟨λe=>e.a.b.b.a⟩,
 ⟨λe=>e.a.b.b.b⟩,
 ⟨λe=>e.a.b.b.c⟩,
 ⟨λe=>e.a.b.b.d⟩,
 ⟨λe=>e.a.b.c.a⟩,
 ⟨λe=>e.a.b.c.b⟩,
 ⟨λe=>e.a.b.c.c⟩,
 ⟨λe=>e.a.b.c.d⟩,
 ⟨λe=>e.a.b.d.a⟩,
 ⟨λe=>e.a.b.d.b⟩,
 ⟨λe=>e.a.b.d.c⟩,
 ⟨λe=>e.a.b.d.d⟩]
def aed:List EV:=[
 ⟨λe=>e.a.c.a.a⟩,
 ⟨λe=>e.a.c.a.b⟩,
 ⟨λe=>e.a.c.a.c⟩,
 ⟨λe=>e.a.c.a.d⟩,
 ⟨λe=>e.a.c.b.a⟩,
 ⟨λe=>e.a.c.b.b⟩,
 ⟨λe=>e.a.c.b.c⟩,
 ⟨λe=>e.a.c.b.d⟩,
 ⟨λe=>e.a.c.c.a⟩,
 ⟨λe=>e.a.c.c.b⟩,
 ⟨λe=>e.a.c.c.c⟩,
 ⟨λe=>e.a.c.c.d⟩,
 ⟨λe=>e.a.c.d.a⟩,
 ⟨λe=>e.a.c.d.b⟩,
 ⟨λe=>e.a.c.d.c⟩,
 ⟨λe=>e.a.c.d.d⟩]
def aee:List EV:=[
 ⟨λe=>e.a.d.a.a⟩,
 ⟨λe=>e.a.d.a.b⟩,
 ⟨λe=>e.a.d.a.c⟩,
 ⟨λe=>e.a.d.a.d⟩,
 ⟨λe=>e.a.d.b.a⟩,
 ⟨λe=>e.a.d.b.b⟩,
 ⟨λe=>e.a.d.b.c⟩,
 ⟨λe=>e.a.d.b.d⟩,
 ⟨λe=>e.a.d.c.a⟩,
 ⟨λe=>e.a.d.c.b⟩,
 ⟨λe=>e.a.d.c.c⟩,
 ⟨λe=>e.a.d.c.d⟩,
 ⟨λe=>e.a.d.d.a⟩,
 ⟨λe=>e.a.d.d.b⟩,
 ⟨λe=>e.a.d.d.c⟩,
 ⟨λe=>e.a.d.d.d⟩]
def aef:List EV:=[
 ⟨λe=>e.b.a.a.a⟩,
 ⟨λe=>e.b.a.a.b⟩,
 ⟨λe=>e.b.a.a.c⟩,
 ⟨λe=>e.b.a.a.d⟩,
 ⟨λe=>e.b.a.b.a⟩,
 ⟨λe=>e.b.a.b.b⟩,
 ⟨λe=>e.b.a.b.c⟩,
 ⟨λe=>e.b.a.b.d⟩,
 ⟨λe=>e.b.a.c.a⟩,
 ⟨λe=>e.b.a.c.b⟩,
 ⟨λe=>e.b.a.c.c⟩,
 ⟨λe=>e.b.a.c.d⟩,
 ⟨λe=>e.b.a.d.a⟩,
 ⟨λe=>e.b.a.d.b⟩,
 ⟨λe=>e.b.a.d.c⟩,
 ⟨λe=>e.b.a.d.d⟩]
def aeg:List EV:=[
 ⟨λe=>e.b.b.a.a⟩,
 ⟨λe=>e.b.b.a.b⟩,
 ⟨λe=>e.b.b.a.c⟩,
 ⟨λe=>e.b.b.a.d⟩,
 ⟨λe=>e.b.b.b.a⟩,
 ⟨λe=>e.b.b.b.b⟩,
 ⟨λe=>e.b.b.b.c⟩,
 ⟨λe=>e.b.b.b.d⟩,
 ⟨λe=>e.b.b.c.a⟩,
 ⟨λe=>e.b.b.c.b⟩,
 ⟨λe=>e.b.b.c.c⟩,
 ⟨λe=>e.b.b.c.d⟩,
 ⟨λe=>e.b.b.d.a⟩,
 ⟨λe=>e.b.b.d.b⟩,
 ⟨λe=>e.b.b.d.c⟩,
 ⟨λe=>e.b.b.d.d⟩]
def aeh:List EV:=[
 ⟨λe=>e.b.c.a.a⟩,
 ⟨λe=>e.b.c.a.b⟩,
 ⟨λe=>e.b.c.a.c⟩,
 ⟨λe=>e.b.c.a.d⟩,
 ⟨λe=>e.b.c.b.a⟩,
 ⟨λe=>e.b.c.b.b⟩,
 ⟨λe=>e.b.c.b.c⟩,
 ⟨λe=>e.b.c.b.d⟩,
 ⟨λe=>e.b.c.c.a⟩,
 ⟨λe=>e.b.c.c.b⟩,
 ⟨λe=>e.b.c.c.c⟩,
 ⟨λe=>e.b.c.c.d⟩,
 ⟨λe=>e.b.c.d.a⟩,
 ⟨λe=>e.b.c.d.b⟩,
 ⟨λe=>e.b.c.d.c⟩,
 ⟨λe=>e.b.c.d.d⟩]
def aei:List EV:=[
 ⟨λe=>e.b.d.a.a⟩,
 ⟨λe=>e.b.d.a.b⟩,
 ⟨λe=>e.b.d.a.c⟩,
 ⟨λe=>e.b.d.a.d⟩,
 ⟨λe=>e.b.d.b.a⟩,
 ⟨λe=>e.b.d.b.b⟩,
 ⟨λe=>e.b.d.b.c⟩,
 ⟨λe=>e.b.d.b.d⟩,
 ⟨λe=>e.b.d.c.a⟩,
 ⟨λe=>e.b.d.c.b⟩,
 ⟨λe=>e.b.d.c.c⟩,
 ⟨λe=>e.b.d.c.d⟩,
 ⟨λe=>e.b.d.d.a⟩,
 ⟨λe=>e.b.d.d.b⟩,
 ⟨λe=>e.b.d.d.c⟩,
 ⟨λe=>e.b.d.d.d⟩]
def aej:List EV:=[
 ⟨λe=>e.c.a.a.a⟩,
 ⟨λe=>e.c.a.a.b⟩,
 ⟨λe=>e.c.a.a.c⟩,
 ⟨λe=>e.c.a.a.d⟩,
 ⟨λe=>e.c.a.b.a⟩,
 ⟨λe=>e.c.a.b.b⟩,
 ⟨λe=>e.c.a.b.c⟩,
 ⟨λe=>e.c.a.b.d⟩,
 ⟨λe=>e.c.a.c.a⟩,
 ⟨λe=>e.c.a.c.b⟩,
 ⟨λe=>e.c.a.c.c⟩,
 ⟨λe=>e.c.a.c.d⟩,
 ⟨λe=>e.c.a.d.a⟩,
 ⟨λe=>e.c.a.d.b⟩,
 ⟨λe=>e.c.a.d.c⟩,
 ⟨λe=>e.c.a.d.d⟩]
def aek:List EV:=[
 ⟨λe=>e.c.b.a.a⟩,
 ⟨λe=>e.c.b.a.b⟩,
 ⟨λe=>e.c.b.a.c⟩,
 ⟨λe=>e.c.b.a.d⟩,
 ⟨λe=>e.c.b.b.a⟩,
 ⟨λe=>e.c.b.b.b⟩,
 ⟨λe=>e.c.b.b.c⟩,
 ⟨λe=>e.c.b.b.d⟩,
 ⟨λe=>e.c.b.c.a⟩,
 ⟨λe=>e.c.b.c.b⟩,
 ⟨λe=>e.c.b.c.c⟩,
 ⟨λe=>e.c.b.c.d⟩,
 ⟨λe=>e.c.b.d.a⟩,
 ⟨λe=>e.c.b.d.b⟩,
 ⟨λe=>e.c.b.d.c⟩,
 ⟨λe=>e.c.b.d.d⟩]
def abk:List EV:=[
 ⟨λe=>e.c.c.a.a⟩,
 ⟨λe=>e.c.c.a.b⟩,
 ⟨λe=>e.c.c.a.c⟩,
 ⟨λe=>e.c.c.a.d⟩,
 ⟨λe=>e.c.c.b.a⟩,
 ⟨λe=>e.c.c.b.b⟩,
 ⟨λe=>e.c.c.b.c⟩,
 ⟨λe=>e.c.c.b.d⟩,
 ⟨λe=>e.c.c.c.a⟩,
 ⟨λe=>e.c.c.c.b⟩,
 ⟨λe=>e.c.c.c.c⟩,
 ⟨λe=>e.c.c.c.d⟩,
 ⟨λe=>e.c.c.d.a⟩,
 ⟨λe=>e.c.c.d.b⟩,
 ⟨λe=>e.c.c.d.c⟩,
 ⟨λe=>e.c.c.d.d⟩]
def abl:List EV:=[
 ⟨λe=>e.c.d.a.a⟩,
 ⟨λe=>e.c.d.a.b⟩,
 ⟨λe=>e.c.d.a.c⟩,
 ⟨λe=>e.c.d.a.d⟩,
 ⟨λe=>e.c.d.b.a⟩,
 ⟨λe=>e.c.d.b.b⟩,
 ⟨λe=>e.c.d.b.c⟩,
 ⟨λe=>e.c.d.b.d⟩,
 ⟨λe=>e.c.d.c.a⟩,
 ⟨λe=>e.c.d.c.b⟩,
 ⟨λe=>e.c.d.c.c⟩,
 ⟨λe=>e.c.d.c.d⟩,
 ⟨λe=>e.c.d.d.a⟩,
 ⟨λe=>e.c.d.d.b⟩,
 ⟨λe=>e.c.d.d.c⟩,
 ⟨λe=>e.c.d.d.d⟩]
def abm:List EV:=[
 ⟨λe=>e.d.a.a.a⟩,
 ⟨λe=>e.d.a.a.b⟩,
 ⟨λe=>e.d.a.a.c⟩,
 ⟨λe=>e.d.a.a.d⟩,
 ⟨λe=>e.d.a.b.a⟩,
 ⟨λe=>e.d.a.b.b⟩,
 ⟨λe=>e.d.a.b.c⟩,
 ⟨λe=>e.d.a.b.d⟩,
 ⟨λe=>e.d.a.c.a⟩,
 ⟨λe=>e.d.a.c.b⟩,
 ⟨λe=>e.d.a.c.c⟩,
 ⟨λe=>e.d.a.c.d⟩,
 ⟨λe=>e.d.a.d.a⟩,
 ⟨λe=>e.d.a.d.b⟩,
 ⟨λe=>e.d.a.d.c⟩,
 ⟨λe=>e.d.a.d.d⟩]
def abn:List EV:=[
 ⟨λe=>e.d.b.a.a⟩,
 ⟨λe=>e.d.b.a.b⟩,
 ⟨λe=>e.d.b.a.c⟩,
 ⟨λe=>e.d.b.a.d⟩,
 ⟨λe=>e.d.b.b.a⟩,
 ⟨λe=>e.d.b.b.b⟩,
 ⟨λe=>e.d.b.b.c⟩,
 ⟨λe=>e.d.b.b.d⟩,
 ⟨λe=>e.d.b.c.a⟩,
 ⟨λe=>e.d.b.c.b⟩,
 ⟨λe=>e.d.b.c.c⟩,
 ⟨λe=>e.d.b.c.d⟩,
 ⟨λe=>e.d.b.d.a⟩,
 ⟨λe=>e.d.b.d.b⟩,
 ⟨λe=>e.d.b.d.c⟩,
 ⟨λe=>e.d.b.d.d⟩]
def abo:List EV:=[
 ⟨λe=>e.d.c.a.a⟩,
 ⟨λe=>e.d.c.a.b⟩,
 ⟨λe=>e.d.c.a.c⟩,
 ⟨λe=>e.d.c.a.d⟩,
 ⟨λe=>e.d.c.b.a⟩,
 ⟨λe=>e.d.c.b.b⟩,
 ⟨λe=>e.d.c.b.c⟩,
 ⟨λe=>e.d.c.b.d⟩,
 ⟨λe=>e.d.c.c.a⟩,
 ⟨λe=>e.d.c.c.b⟩,
 ⟨λe=>e.d.c.c.c⟩,
 ⟨λe=>e.d.c.c.d⟩,
 ⟨λe=>e.d.c.d.a⟩,
 ⟨λe=>e.d.c.d.b⟩,
 ⟨λe=>e.d.c.d.c⟩,
 ⟨λe=>e.d.c.d.d⟩]
def abp:List EV:=[
 ⟨λe=>e.d.d.a.a⟩,
 ⟨λe=>e.d.d.a.b⟩,
 ⟨λe=>e.d.d.a.c⟩,
 ⟨λe=>e.d.d.a.d⟩,
 ⟨λe=>e.d.d.b.a⟩,
 ⟨λe=>e.d.d.b.b⟩,
 ⟨λe=>e.d.d.b.c⟩,
 ⟨λe=>e.d.d.b.d⟩,
 ⟨λe=>e.d.d.c.a⟩,
 ⟨λe=>e.d.d.c.b⟩,
 ⟨λe=>e.d.d.c.c⟩,
 ⟨λe=>e.d.d.c.d⟩,
 ⟨λe=>e.d.d.d.a⟩,
 ⟨λe=>e.d.d.d.b⟩,
 ⟨λe=>e.d.d.d.c⟩,
 ⟨λe=>e.d.d.d.d⟩]
def ael:List PS:=[
 ⟨λv e=>⟨⟨⟨⟨v,e.a.a.a.b,e.a.a.a.c,e.a.a.a.d⟩,e.a.a.b,e.a.a.c,e.a.a.d⟩,e.a.b,e.a.c,e.a.d⟩,e.b,e.c,e.d⟩⟩,
 ⟨λv e=>⟨⟨⟨⟨e.a.a.a.a,v,e.a.a.a.c,e.a.a.a.d⟩,e.a.a.b,e.a.a.c,e.a.a.d⟩,e.a.b,e.a.c,e.a.d⟩,e.b,e.c,e.d⟩⟩,
 ⟨λv e=>⟨⟨⟨⟨e.a.a.a.a,e.a.a.a.b,v,e.a.a.a.d⟩,e.a.a.b,e.a.a.c,e.a.a.d⟩,e.a.b,e.a.c,e.a.d⟩,e.b,e.c,e.d⟩⟩,
 ⟨λv e=>⟨⟨⟨⟨e.a.a.a.a,e.a.a.a.b,e.a.a.a.c,v⟩,e.a.a.b,e.a.a.c,e.a.a.d⟩,e.a.b,e.a.c,e.a.d⟩,e.b,e.c,e.d⟩⟩,
 ⟨λv e=>⟨⟨⟨e.a.a.a,⟨v,e.a.a.b.b,e.a.a.b.c,e.a.a.b.d⟩,e.a.a.c,e.a.a.d⟩,e.a.b,e.a.c,e.a.d⟩,e.b,e.c,e.d⟩⟩,
 ⟨λv e=>⟨⟨⟨e.a.a.a,⟨e.a.a.b.a,v,e.a.a.b.c,e.a.a.b.d⟩,e.a.a.c,e.a.a.d⟩,e.a.b,e.a.c,e.a.d⟩,e.b,e.c,e.d⟩⟩,
 ⟨λv e=>⟨⟨⟨e.a.a.a,⟨e.a.a.b.a,e.a.a.b.b,v,e.a.a.b.d⟩,e.a.a.c,e.a.a.d⟩,e.a.b,e.a.c,e.a.d⟩,e.b,e.c,e.d⟩⟩,
 ⟨λv e=>⟨⟨⟨e.a.a.a,⟨e.a.a.b.a,e.a.a.b.b,e.a.a.b.c,v⟩,e.a.a.c,e.a.a.d⟩,e.a.b,e.a.c,e.a.d⟩,e.b,e.c,e.d⟩⟩,
 ⟨λv e=>⟨⟨⟨e.a.a.a,e.a.a.b,⟨v,e.a.a.c.b,e.a.a.c.c,e.a.a.c.d⟩,e.a.a.d⟩,e.a.b,e.a.c,e.a.d⟩,e.b,e.c,e.d⟩⟩,
 ⟨λv e=>⟨⟨⟨e.a.a.a,e.a.a.b,⟨e.a.a.c.a,v,e.a.a.c.c,e.a.a.c.d⟩,e.a.a.d⟩,e.a.b,e.a.c,e.a.d⟩,e.b,e.c,e.d⟩⟩,
 ⟨λv e=>⟨⟨⟨e.a.a.a,e.a.a.b,⟨e.a.a.c.a,e.a.a.c.b,v,e.a.a.c.d⟩,e.a.a.d⟩,e.a.b,e.a.c,e.a.d⟩,e.b,e.c,e.d⟩⟩,
 ⟨λv e=>⟨⟨⟨e.a.a.a,e.a.a.b,⟨e.a.a.c.a,e.a.a.c.b,e.a.a.c.c,v⟩,e.a.a.d⟩,e.a.b,e.a.c,e.a.d⟩,e.b,e.c,e.d⟩⟩,
 ⟨λv e=>⟨⟨⟨e.a.a.a,e.a.a.b,e.a.a.c,⟨v,e.a.a.d.b,e.a.a.d.c,e.a.a.d.d⟩⟩,e.a.b,e.a.c,e.a.d⟩,e.b,e.c,e.d⟩⟩,
 ⟨λv e=>⟨⟨⟨e.a.a.a,e.a.a.b,e.a.a.c,⟨e.a.a.d.a,v,e.a.a.d.c,e.a.a.d.d⟩⟩,e.a.b,e.a.c,e.a.d⟩,e.b,e.c,e.d⟩⟩,
 ⟨λv e=>⟨⟨⟨e.a.a.a,e.a.a.b,e.a.a.c,⟨e.a.a.d.a,e.a.a.d.b,v,e.a.a.d.d⟩⟩,e.a.b,e.a.c,e.a.d⟩,e.b,e.c,e.d⟩⟩,
 ⟨λv e=>⟨⟨⟨e.a.a.a,e.a.a.b,e.a.a.c,⟨e.a.a.d.a,e.a.a.d.b,e.a.a.d.c,v⟩⟩,e.a.b,e.a.c,e.a.d⟩,e.b,e.c,e.d⟩⟩]
def aem:List PS:=[
 ⟨λv e=>⟨⟨e.a.a,⟨⟨v,e.a.b.a.b,e.a.b.a.c,e.a.b.a.d⟩,e.a.b.b,e.a.b.c,e.a.b.d⟩,e.a.c,e.a.d⟩,e.b,e.c,e.d⟩⟩,
 ⟨λv e=>⟨⟨e.a.a,⟨⟨e.a.b.a.a,v,e.a.b.a.c,e.a.b.a.d⟩,e.a.b.b,e.a.b.c,e.a.b.d⟩,e.a.c,e.a.d⟩,e.b,e.c,e.d⟩⟩,
 ⟨λv e=>⟨⟨e.a.a,⟨⟨e.a.b.a.a,e.a.b.a.b,v,e.a.b.a.d⟩,e.a.b.b,e.a.b.c,e.a.b.d⟩,e.a.c,e.a.d⟩,e.b,e.c,e.d⟩⟩,
 ⟨λv e=>⟨⟨e.a.a,⟨⟨e.a.b.a.a,e.a.b.a.b,e.a.b.a.c,v⟩,e.a.b.b,e.a.b.c,e.a.b.d⟩,e.a.c,e.a.d⟩,e.b,e.c,e.d⟩⟩,
 ⟨λv e=>⟨⟨e.a.a,⟨e.a.b.a,⟨v,e.a.b.b.b,e.a.b.b.c,e.a.b.b.d⟩,e.a.b.c,e.a.b.d⟩,e.a.c,e.a.d⟩,e.b,e.c,e.d⟩⟩,
 ⟨λv e=>⟨⟨e.a.a,⟨e.a.b.a,⟨e.a.b.b.a,v,e.a.b.b.c,e.a.b.b.d⟩,e.a.b.c,e.a.b.d⟩,e.a.c,e.a.d⟩,e.b,e.c,e.d⟩⟩,
 ⟨λv e=>⟨⟨e.a.a,⟨e.a.b.a,⟨e.a.b.b.a,e.a.b.b.b,v,e.a.b.b.d⟩,e.a.b.c,e.a.b.d⟩,e.a.c,e.a.d⟩,e.b,e.c,e.d⟩⟩,
 ⟨λv e=>⟨⟨e.a.a,⟨e.a.b.a,⟨e.a.b.b.a,e.a.b.b.b,e.a.b.b.c,v⟩,e.a.b.c,e.a.b.d⟩,e.a.c,e.a.d⟩,e.b,e.c,e.d⟩⟩,
 ⟨λv e=>⟨⟨e.a.a,⟨e.a.b.a,e.a.b.b,⟨v,e.a.b.c.b,e.a.b.c.c,e.a.b.c.d⟩,e.a.b.d⟩,e.a.c,e.a.d⟩,e.b,e.c,e.d⟩⟩,
 ⟨λv e=>⟨⟨e.a.a,⟨e.a.b.a,e.a.b.b,⟨e.a.b.c.a,v,e.a.b.c.c,e.a.b.c.d⟩,e.a.b.d⟩,e.a.c,e.a.d⟩,e.b,e.c,e.d⟩⟩,
 ⟨λv e=>⟨⟨e.a.a,⟨e.a.b.a,e.a.b.b,⟨e.a.b.c.a,e.a.b.c.b,v,e.a.b.c.d⟩,e.a.b.d⟩,e.a.c,e.a.d⟩,e.b,e.c,e.d⟩⟩,
 ⟨λv e=>⟨⟨e.a.a,⟨e.a.b.a,e.a.b.b,⟨e.a.b.c.a,e.a.b.c.b,e.a.b.c.c,v⟩,e.a.b.d⟩,e.a.c,e.a.d⟩,e.b,e.c,e.d⟩⟩,
 ⟨λv e=>⟨⟨e.a.a,⟨e.a.b.a,e.a.b.b,e.a.b.c,⟨v,e.a.b.d.b,e.a.b.d.c,e.a.b.d.d⟩⟩,e.a.c,e.a.d⟩,e.b,e.c,e.d⟩⟩,
 ⟨λv e=>⟨⟨e.a.a,⟨e.a.b.a,e.a.b.b,e.a.b.c,⟨e.a.b.d.a,v,e.a.b.d.c,e.a.b.d.d⟩⟩,e.a.c,e.a.d⟩,e.b,e.c,e.d⟩⟩,
 ⟨λv e=>⟨⟨e.a.a,⟨e.a.b.a,e.a.b.b,e.a.b.c,⟨e.a.b.d.a,e.a.b.d.b,v,e.a.b.d.d⟩⟩,e.a.c,e.a.d⟩,e.b,e.c,e.d⟩⟩,
 ⟨λv e=>⟨⟨e.a.a,⟨e.a.b.a,e.a.b.b,e.a.b.c,⟨e.a.b.d.a,e.a.b.d.b,e.a.b.d.c,v⟩⟩,e.a.c,e.a.d⟩,e.b,e.c,e.d⟩⟩]
def aen:List PS:=[
 ⟨λv e=>⟨⟨e.a.a,e.a.b,⟨⟨v,e.a.c.a.b,e.a.c.a.c,e.a.c.a.d⟩,e.a.c.b,e.a.c.c,e.a.c.d⟩,e.a.d⟩,e.b,e.c,e.d⟩⟩,
 ⟨λv e=>⟨⟨e.a.a,e.a.b,⟨⟨e.a.c.a.a,v,e.a.c.a.c,e.a.c.a.d⟩,e.a.c.b,e.a.c.c,e.a.c.d⟩,e.a.d⟩,e.b,e.c,e.d⟩⟩,
 ⟨λv e=>⟨⟨e.a.a,e.a.b,⟨⟨e.a.c.a.a,e.a.c.a.b,v,e.a.c.a.d⟩,e.a.c.b,e.a.c.c,e.a.c.d⟩,e.a.d⟩,e.b,e.c,e.d⟩⟩,
 ⟨λv e=>⟨⟨e.a.a,e.a.b,⟨⟨e.a.c.a.a,e.a.c.a.b,e.a.c.a.c,v⟩,e.a.c.b,e.a.c.c,e.a.c.d⟩,e.a.d⟩,e.b,e.c,e.d⟩⟩,
 ⟨λv e=>⟨⟨e.a.a,e.a.b,⟨e.a.c.a,⟨v,e.a.c.b.b,e.a.c.b.c,e.a.c.b.d⟩,e.a.c.c,e.a.c.d⟩,e.a.d⟩,e.b,e.c,e.d⟩⟩,
 ⟨λv e=>⟨⟨e.a.a,e.a.b,⟨e.a.c.a,⟨e.a.c.b.a,v,e.a.c.b.c,e.a.c.b.d⟩,e.a.c.c,e.a.c.d⟩,e.a.d⟩,e.b,e.c,e.d⟩⟩,
 ⟨λv e=>⟨⟨e.a.a,e.a.b,⟨e.a.c.a,⟨e.a.c.b.a,e.a.c.b.b,v,e.a.c.b.d⟩,e.a.c.c,e.a.c.d⟩,e.a.d⟩,e.b,e.c,e.d⟩⟩,
 ⟨λv e=>⟨⟨e.a.a,e.a.b,⟨e.a.c.a,⟨e.a.c.b.a,e.a.c.b.b,e.a.c.b.c,v⟩,e.a.c.c,e.a.c.d⟩,e.a.d⟩,e.b,e.c,e.d⟩⟩,
 ⟨λv e=>⟨⟨e.a.a,e.a.b,⟨e.a.c.a,e.a.c.b,⟨v,e.a.c.c.b,e.a.c.c.c,e.a.c.c.d⟩,e.a.c.d⟩,e.a.d⟩,e.b,e.c,e.d⟩⟩,
 ⟨λv e=>⟨⟨e.a.a,e.a.b,⟨e.a.c.a,e.a.c.b,⟨e.a.c.c.a,v,e.a.c.c.c,e.a.c.c.d⟩,e.a.c.d⟩,e.a.d⟩,e.b,e.c,e.d⟩⟩,
 ⟨λv e=>⟨⟨e.a.a,e.a.b,⟨e.a.c.a,e.a.c.b,⟨e.a.c.c.a,e.a.c.c.b,v,e.a.c.c.d⟩,e.a.c.d⟩,e.a.d⟩,e.b,e.c,e.d⟩⟩,
 ⟨λv e=>⟨⟨e.a.a,e.a.b,⟨e.a.c.a,e.a.c.b,⟨e.a.c.c.a,e.a.c.c.b,e.a.c.c.c,v⟩,e.a.c.d⟩,e.a.d⟩,e.b,e.c,e.d⟩⟩,
 ⟨λv e=>⟨⟨e.a.a,e.a.b,⟨e.a.c.a,e.a.c.b,e.a.c.c,⟨v,e.a.c.d.b,e.a.c.d.c,e.a.c.d.d⟩⟩,e.a.d⟩,e.b,e.c,e.d⟩⟩,
 ⟨λv e=>⟨⟨e.a.a,e.a.b,⟨e.a.c.a,e.a.c.b,e.a.c.c,⟨e.a.c.d.a,v,e.a.c.d.c,e.a.c.d.d⟩⟩,e.a.d⟩,e.b,e.c,e.d⟩⟩,
 ⟨λv e=>⟨⟨e.a.a,e.a.b,⟨e.a.c.a,e.a.c.b,e.a.c.c,⟨e.a.c.d.a,e.a.c.d.b,v,e.a.c.d.d⟩⟩,e.a.d⟩,e.b,e.c,e.d⟩⟩,
 ⟨λv e=>⟨⟨e.a.a,e.a.b,⟨e.a.c.a,e.a.c.b,e.a.c.c,⟨e.a.c.d.a,e.a.c.d.b,e.a.c.d.c,v⟩⟩,e.a.d⟩,e.b,e.c,e.d⟩⟩]
def aeo:List PS:=[
 ⟨λv e=>⟨⟨e.a.a,e.a.b,e.a.c,⟨⟨v,e.a.d.a.b,e.a.d.a.c,e.a.d.a.d⟩,e.a.d.b,e.a.d.c,e.a.d.d⟩⟩,e.b,e.c,e.d⟩⟩,
 ⟨λv e=>⟨⟨e.a.a,e.a.b,e.a.c,⟨⟨e.a.d.a.a,v,e.a.d.a.c,e.a.d.a.d⟩,e.a.d.b,e.a.d.c,e.a.d.d⟩⟩,e.b,e.c,e.d⟩⟩,
 ⟨λv e=>⟨⟨e.a.a,e.a.b,e.a.c,⟨⟨e.a.d.a.a,e.a.d.a.b,v,e.a.d.a.d⟩,e.a.d.b,e.a.d.c,e.a.d.d⟩⟩,e.b,e.c,e.d⟩⟩,
 ⟨λv e=>⟨⟨e.a.a,e.a.b,e.a.c,⟨⟨e.a.d.a.a,e.a.d.a.b,e.a.d.a.c,v⟩,e.a.d.b,e.a.d.c,e.a.d.d⟩⟩,e.b,e.c,e.d⟩⟩,
 ⟨λv e=>⟨⟨e.a.a,e.a.b,e.a.c,⟨e.a.d.a,⟨v,e.a.d.b.b,e.a.d.b.c,e.a.d.b.d⟩,e.a.d.c,e.a.d.d⟩⟩,e.b,e.c,e.d⟩⟩,
 ⟨λv e=>⟨⟨e.a.a,e.a.b,e.a.c,⟨e.a.d.a,⟨e.a.d.b.a,v,e.a.d.b.c,e.a.d.b.d⟩,e.a.d.c,e.a.d.d⟩⟩,e.b,e.c,e.d⟩⟩,
 ⟨λv e=>⟨⟨e.a.a,e.a.b,e.a.c,⟨e.a.d.a,⟨e.a.d.b.a,e.a.d.b.b,v,e.a.d.b.d⟩,e.a.d.c,e.a.d.d⟩⟩,e.b,e.c,e.d⟩⟩,
 ⟨λv e=>⟨⟨e.a.a,e.a.b,e.a.c,⟨e.a.d.a,⟨e.a.d.b.a,e.a.d.b.b,e.a.d.b.c,v⟩,e.a.d.c,e.a.d.d⟩⟩,e.b,e.c,e.d⟩⟩,
 ⟨λv e=>⟨⟨e.a.a,e.a.b,e.a.c,⟨e.a.d.a,e.a.d.b,⟨v,e.a.d.c.b,e.a.d.c.c,e.a.d.c.d⟩,e.a.d.d⟩⟩,e.b,e.c,e.d⟩⟩,
 ⟨λv e=>⟨⟨e.a.a,e.a.b,e.a.c,⟨e.a.d.a,e.a.d.b,⟨e.a.d.c.a,v,e.a.d.c.c,e.a.d.c.d⟩,e.a.d.d⟩⟩,e.b,e.c,e.d⟩⟩,
 ⟨λv e=>⟨⟨e.a.a,e.a.b,e.a.c,⟨e.a.d.a,e.a.d.b,⟨e.a.d.c.a,e.a.d.c.b,v,e.a.d.c.d⟩,e.a.d.d⟩⟩,e.b,e.c,e.d⟩⟩,
 ⟨λv e=>⟨⟨e.a.a,e.a.b,e.a.c,⟨e.a.d.a,e.a.d.b,⟨e.a.d.c.a,e.a.d.c.b,e.a.d.c.c,v⟩,e.a.d.d⟩⟩,e.b,e.c,e.d⟩⟩,
 ⟨λv e=>⟨⟨e.a.a,e.a.b,e.a.c,⟨e.a.d.a,e.a.d.b,e.a.d.c,⟨v,e.a.d.d.b,e.a.d.d.c,e.a.d.d.d⟩⟩⟩,e.b,e.c,e.d⟩⟩,
 ⟨λv e=>⟨⟨e.a.a,e.a.b,e.a.c,⟨e.a.d.a,e.a.d.b,e.a.d.c,⟨e.a.d.d.a,v,e.a.d.d.c,e.a.d.d.d⟩⟩⟩,e.b,e.c,e.d⟩⟩,
 ⟨λv e=>⟨⟨e.a.a,e.a.b,e.a.c,⟨e.a.d.a,e.a.d.b,e.a.d.c,⟨e.a.d.d.a,e.a.d.d.b,v,e.a.d.d.d⟩⟩⟩,e.b,e.c,e.d⟩⟩,
 ⟨λv e=>⟨⟨e.a.a,e.a.b,e.a.c,⟨e.a.d.a,e.a.d.b,e.a.d.c,⟨e.a.d.d.a,e.a.d.d.b,e.a.d.d.c,v⟩⟩⟩,e.b,e.c,e.d⟩⟩]
def aep:List PS:=[
 ⟨λv e=>⟨e.a,⟨⟨⟨v,e.b.a.a.b,e.b.a.a.c,e.b.a.a.d⟩,e.b.a.b,e.b.a.c,e.b.a.d⟩,e.b.b,e.b.c,e.b.d⟩,e.c,e.d⟩⟩,
 ⟨λv e=>⟨e.a,⟨⟨⟨e.b.a.a.a,v,e.b.a.a.c,e.b.a.a.d⟩,e.b.a.b,e.b.a.c,e.b.a.d⟩,e.b.b,e.b.c,e.b.d⟩,e.c,e.d⟩⟩,
 ⟨λv e=>⟨e.a,⟨⟨⟨e.b.a.a.a,e.b.a.a.b,v,e.b.a.a.d⟩,e.b.a.b,e.b.a.c,e.b.a.d⟩,e.b.b,e.b.c,e.b.d⟩,e.c,e.d⟩⟩,
 ⟨λv e=>⟨e.a,⟨⟨⟨e.b.a.a.a,e.b.a.a.b,e.b.a.a.c,v⟩,e.b.a.b,e.b.a.c,e.b.a.d⟩,e.b.b,e.b.c,e.b.d⟩,e.c,e.d⟩⟩,
 ⟨λv e=>⟨e.a,⟨⟨e.b.a.a,⟨v,e.b.a.b.b,e.b.a.b.c,e.b.a.b.d⟩,e.b.a.c,e.b.a.d⟩,e.b.b,e.b.c,e.b.d⟩,e.c,e.d⟩⟩,
 ⟨λv e=>⟨e.a,⟨⟨e.b.a.a,⟨e.b.a.b.a,v,e.b.a.b.c,e.b.a.b.d⟩,e.b.a.c,e.b.a.d⟩,e.b.b,e.b.c,e.b.d⟩,e.c,e.d⟩⟩,
 ⟨λv e=>⟨e.a,⟨⟨e.b.a.a,⟨e.b.a.b.a,e.b.a.b.b,v,e.b.a.b.d⟩,e.b.a.c,e.b.a.d⟩,e.b.b,e.b.c,e.b.d⟩,e.c,e.d⟩⟩,
 ⟨λv e=>⟨e.a,⟨⟨e.b.a.a,⟨e.b.a.b.a,e.b.a.b.b,e.b.a.b.c,v⟩,e.b.a.c,e.b.a.d⟩,e.b.b,e.b.c,e.b.d⟩,e.c,e.d⟩⟩,
 ⟨λv e=>⟨e.a,⟨⟨e.b.a.a,e.b.a.b,⟨v,e.b.a.c.b,e.b.a.c.c,e.b.a.c.d⟩,e.b.a.d⟩,e.b.b,e.b.c,e.b.d⟩,e.c,e.d⟩⟩,
 ⟨λv e=>⟨e.a,⟨⟨e.b.a.a,e.b.a.b,⟨e.b.a.c.a,v,e.b.a.c.c,e.b.a.c.d⟩,e.b.a.d⟩,e.b.b,e.b.c,e.b.d⟩,e.c,e.d⟩⟩,
 ⟨λv e=>⟨e.a,⟨⟨e.b.a.a,e.b.a.b,⟨e.b.a.c.a,e.b.a.c.b,v,e.b.a.c.d⟩,e.b.a.d⟩,e.b.b,e.b.c,e.b.d⟩,e.c,e.d⟩⟩,
 ⟨λv e=>⟨e.a,⟨⟨e.b.a.a,e.b.a.b,⟨e.b.a.c.a,e.b.a.c.b,e.b.a.c.c,v⟩,e.b.a.d⟩,e.b.b,e.b.c,e.b.d⟩,e.c,e.d⟩⟩,
 ⟨λv e=>⟨e.a,⟨⟨e.b.a.a,e.b.a.b,e.b.a.c,⟨v,e.b.a.d.b,e.b.a.d.c,e.b.a.d.d⟩⟩,e.b.b,e.b.c,e.b.d⟩,e.c,e.d⟩⟩,
 ⟨λv e=>⟨e.a,⟨⟨e.b.a.a,e.b.a.b,e.b.a.c,⟨e.b.a.d.a,v,e.b.a.d.c,e.b.a.d.d⟩⟩,e.b.b,e.b.c,e.b.d⟩,e.c,e.d⟩⟩,
 ⟨λv e=>⟨e.a,⟨⟨e.b.a.a,e.b.a.b,e.b.a.c,⟨e.b.a.d.a,e.b.a.d.b,v,e.b.a.d.d⟩⟩,e.b.b,e.b.c,e.b.d⟩,e.c,e.d⟩⟩,
 ⟨λv e=>⟨e.a,⟨⟨e.b.a.a,e.b.a.b,e.b.a.c,⟨e.b.a.d.a,e.b.a.d.b,e.b.a.d.c,v⟩⟩,e.b.b,e.b.c,e.b.d⟩,e.c,e.d⟩⟩]
def aer:List PS:=[
 ⟨λv e=>⟨e.a,⟨e.b.a,⟨⟨v,e.b.b.a.b,e.b.b.a.c,e.b.b.a.d⟩,e.b.b.b,e.b.b.c,e.b.b.d⟩,e.b.c,e.b.d⟩,e.c,e.d⟩⟩,
 ⟨λv e=>⟨e.a,⟨e.b.a,⟨⟨e.b.b.a.a,v,e.b.b.a.c,e.b.b.a.d⟩,e.b.b.b,e.b.b.c,e.b.b.d⟩,e.b.c,e.b.d⟩,e.c,e.d⟩⟩,
 ⟨λv e=>⟨e.a,⟨e.b.a,⟨⟨e.b.b.a.a,e.b.b.a.b,v,e.b.b.a.d⟩,e.b.b.b,e.b.b.c,e.b.b.d⟩,e.b.c,e.b.d⟩,e.c,e.d⟩⟩,
 ⟨λv e=>⟨e.a,⟨e.b.a,⟨⟨e.b.b.a.a,e.b.b.a.b,e.b.b.a.c,v⟩,e.b.b.b,e.b.b.c,e.b.b.d⟩,e.b.c,e.b.d⟩,e.c,e.d⟩⟩,
 ⟨λv e=>⟨e.a,⟨e.b.a,⟨e.b.b.a,⟨v,e.b.b.b.b,e.b.b.b.c,e.b.b.b.d⟩,e.b.b.c,e.b.b.d⟩,e.b.c,e.b.d⟩,e.c,e.d⟩⟩,
 ⟨λv e=>⟨e.a,⟨e.b.a,⟨e.b.b.a,⟨e.b.b.b.a,v,e.b.b.b.c,e.b.b.b.d⟩,e.b.b.c,e.b.b.d⟩,e.b.c,e.b.d⟩,e.c,e.d⟩⟩,
 ⟨λv e=>⟨e.a,⟨e.b.a,⟨e.b.b.a,⟨e.b.b.b.a,e.b.b.b.b,v,e.b.b.b.d⟩,e.b.b.c,e.b.b.d⟩,e.b.c,e.b.d⟩,e.c,e.d⟩⟩,
 ⟨λv e=>⟨e.a,⟨e.b.a,⟨e.b.b.a,⟨e.b.b.b.a,e.b.b.b.b,e.b.b.b.c,v⟩,e.b.b.c,e.b.b.d⟩,e.b.c,e.b.d⟩,e.c,e.d⟩⟩,
 ⟨λv e=>⟨e.a,⟨e.b.a,⟨e.b.b.a,e.b.b.b,⟨v,e.b.b.c.b,e.b.b.c.c,e.b.b.c.d⟩,e.b.b.d⟩,e.b.c,e.b.d⟩,e.c,e.d⟩⟩,
 ⟨λv e=>⟨e.a,⟨e.b.a,⟨e.b.b.a,e.b.b.b,⟨e.b.b.c.a,v,e.b.b.c.c,e.b.b.c.d⟩,e.b.b.d⟩,e.b.c,e.b.d⟩,e.c,e.d⟩⟩,
 ⟨λv e=>⟨e.a,⟨e.b.a,⟨e.b.b.a,e.b.b.b,⟨e.b.b.c.a,e.b.b.c.b,v,e.b.b.c.d⟩,e.b.b.d⟩,e.b.c,e.b.d⟩,e.c,e.d⟩⟩,
 ⟨λv e=>⟨e.a,⟨e.b.a,⟨e.b.b.a,e.b.b.b,⟨e.b.b.c.a,e.b.b.c.b,e.b.b.c.c,v⟩,e.b.b.d⟩,e.b.c,e.b.d⟩,e.c,e.d⟩⟩,
 ⟨λv e=>⟨e.a,⟨e.b.a,⟨e.b.b.a,e.b.b.b,e.b.b.c,⟨v,e.b.b.d.b,e.b.b.d.c,e.b.b.d.d⟩⟩,e.b.c,e.b.d⟩,e.c,e.d⟩⟩,
 ⟨λv e=>⟨e.a,⟨e.b.a,⟨e.b.b.a,e.b.b.b,e.b.b.c,⟨e.b.b.d.a,v,e.b.b.d.c,e.b.b.d.d⟩⟩,e.b.c,e.b.d⟩,e.c,e.d⟩⟩,
 ⟨λv e=>⟨e.a,⟨e.b.a,⟨e.b.b.a,e.b.b.b,e.b.b.c,⟨e.b.b.d.a,e.b.b.d.b,v,e.b.b.d.d⟩⟩,e.b.c,e.b.d⟩,e.c,e.d⟩⟩,
 ⟨λv e=>⟨e.a,⟨e.b.a,⟨e.b.b.a,e.b.b.b,e.b.b.c,⟨e.b.b.d.a,e.b.b.d.b,e.b.b.d.c,v⟩⟩,e.b.c,e.b.d⟩,e.c,e.d⟩⟩]
def aes:List PS:=[
 ⟨λv e=>⟨e.a,⟨e.b.a,e.b.b,⟨⟨v,e.b.c.a.b,e.b.c.a.c,e.b.c.a.d⟩,e.b.c.b,e.b.c.c,e.b.c.d⟩,e.b.d⟩,e.c,e.d⟩⟩,
 ⟨λv e=>⟨e.a,⟨e.b.a,e.b.b,⟨⟨e.b.c.a.a,v,e.b.c.a.c,e.b.c.a.d⟩,e.b.c.b,e.b.c.c,e.b.c.d⟩,e.b.d⟩,e.c,e.d⟩⟩,
 ⟨λv e=>⟨e.a,⟨e.b.a,e.b.b,⟨⟨e.b.c.a.a,e.b.c.a.b,v,e.b.c.a.d⟩,e.b.c.b,e.b.c.c,e.b.c.d⟩,e.b.d⟩,e.c,e.d⟩⟩,
 ⟨λv e=>⟨e.a,⟨e.b.a,e.b.b,⟨⟨e.b.c.a.a,e.b.c.a.b,e.b.c.a.c,v⟩,e.b.c.b,e.b.c.c,e.b.c.d⟩,e.b.d⟩,e.c,e.d⟩⟩,
 ⟨λv e=>⟨e.a,⟨e.b.a,e.b.b,⟨e.b.c.a,⟨v,e.b.c.b.b,e.b.c.b.c,e.b.c.b.d⟩,e.b.c.c,e.b.c.d⟩,e.b.d⟩,e.c,e.d⟩⟩,
 ⟨λv e=>⟨e.a,⟨e.b.a,e.b.b,⟨e.b.c.a,⟨e.b.c.b.a,v,e.b.c.b.c,e.b.c.b.d⟩,e.b.c.c,e.b.c.d⟩,e.b.d⟩,e.c,e.d⟩⟩,
 ⟨λv e=>⟨e.a,⟨e.b.a,e.b.b,⟨e.b.c.a,⟨e.b.c.b.a,e.b.c.b.b,v,e.b.c.b.d⟩,e.b.c.c,e.b.c.d⟩,e.b.d⟩,e.c,e.d⟩⟩,
 ⟨λv e=>⟨e.a,⟨e.b.a,e.b.b,⟨e.b.c.a,⟨e.b.c.b.a,e.b.c.b.b,e.b.c.b.c,v⟩,e.b.c.c,e.b.c.d⟩,e.b.d⟩,e.c,e.d⟩⟩,
 ⟨λv e=>⟨e.a,⟨e.b.a,e.b.b,⟨e.b.c.a,e.b.c.b,⟨v,e.b.c.c.b,e.b.c.c.c,e.b.c.c.d⟩,e.b.c.d⟩,e.b.d⟩,e.c,e.d⟩⟩,
 ⟨λv e=>⟨e.a,⟨e.b.a,e.b.b,⟨e.b.c.a,e.b.c.b,⟨e.b.c.c.a,v,e.b.c.c.c,e.b.c.c.d⟩,e.b.c.d⟩,e.b.d⟩,e.c,e.d⟩⟩,
 ⟨λv e=>⟨e.a,⟨e.b.a,e.b.b,⟨e.b.c.a,e.b.c.b,⟨e.b.c.c.a,e.b.c.c.b,v,e.b.c.c.d⟩,e.b.c.d⟩,e.b.d⟩,e.c,e.d⟩⟩,
 ⟨λv e=>⟨e.a,⟨e.b.a,e.b.b,⟨e.b.c.a,e.b.c.b,⟨e.b.c.c.a,e.b.c.c.b,e.b.c.c.c,v⟩,e.b.c.d⟩,e.b.d⟩,e.c,e.d⟩⟩,
 ⟨λv e=>⟨e.a,⟨e.b.a,e.b.b,⟨e.b.c.a,e.b.c.b,e.b.c.c,⟨v,e.b.c.d.b,e.b.c.d.c,e.b.c.d.d⟩⟩,e.b.d⟩,e.c,e.d⟩⟩,
 ⟨λv e=>⟨e.a,⟨e.b.a,e.b.b,⟨e.b.c.a,e.b.c.b,e.b.c.c,⟨e.b.c.d.a,v,e.b.c.d.c,e.b.c.d.d⟩⟩,e.b.d⟩,e.c,e.d⟩⟩,
 ⟨λv e=>⟨e.a,⟨e.b.a,e.b.b,⟨e.b.c.a,e.b.c.b,e.b.c.c,⟨e.b.c.d.a,e.b.c.d.b,v,e.b.c.d.d⟩⟩,e.b.d⟩,e.c,e.d⟩⟩,
 ⟨λv e=>⟨e.a,⟨e.b.a,e.b.b,⟨e.b.c.a,e.b.c.b,e.b.c.c,⟨e.b.c.d.a,e.b.c.d.b,e.b.c.d.c,v⟩⟩,e.b.d⟩,e.c,e.d⟩⟩]
def aeu:List PS:=[
 ⟨λv e=>⟨e.a,⟨e.b.a,e.b.b,e.b.c,⟨⟨v,e.b.d.a.b,e.b.d.a.c,e.b.d.a.d⟩,e.b.d.b,e.b.d.c,e.b.d.d⟩⟩,e.c,e.d⟩⟩,
 ⟨λv e=>⟨e.a,⟨e.b.a,e.b.b,e.b.c,⟨⟨e.b.d.a.a,v,e.b.d.a.c,e.b.d.a.d⟩,e.b.d.b,e.b.d.c,e.b.d.d⟩⟩,e.c,e.d⟩⟩,
 ⟨λv e=>⟨e.a,⟨e.b.a,e.b.b,e.b.c,⟨⟨e.b.d.a.a,e.b.d.a.b,v,e.b.d.a.d⟩,e.b.d.b,e.b.d.c,e.b.d.d⟩⟩,e.c,e.d⟩⟩,
 ⟨λv e=>⟨e.a,⟨e.b.a,e.b.b,e.b.c,⟨⟨e.b.d.a.a,e.b.d.a.b,e.b.d.a.c,v⟩,e.b.d.b,e.b.d.c,e.b.d.d⟩⟩,e.c,e.d⟩⟩,
 ⟨λv e=>⟨e.a,⟨e.b.a,e.b.b,e.b.c,⟨e.b.d.a,⟨v,e.b.d.b.b,e.b.d.b.c,e.b.d.b.d⟩,e.b.d.c,e.b.d.d⟩⟩,e.c,e.d⟩⟩,
 ⟨λv e=>⟨e.a,⟨e.b.a,e.b.b,e.b.c,⟨e.b.d.a,⟨e.b.d.b.a,v,e.b.d.b.c,e.b.d.b.d⟩,e.b.d.c,e.b.d.d⟩⟩,e.c,e.d⟩⟩,
 ⟨λv e=>⟨e.a,⟨e.b.a,e.b.b,e.b.c,⟨e.b.d.a,⟨e.b.d.b.a,e.b.d.b.b,v,e.b.d.b.d⟩,e.b.d.c,e.b.d.d⟩⟩,e.c,e.d⟩⟩,
 ⟨λv e=>⟨e.a,⟨e.b.a,e.b.b,e.b.c,⟨e.b.d.a,⟨e.b.d.b.a,e.b.d.b.b,e.b.d.b.c,v⟩,e.b.d.c,e.b.d.d⟩⟩,e.c,e.d⟩⟩,
 ⟨λv e=>⟨e.a,⟨e.b.a,e.b.b,e.b.c,⟨e.b.d.a,e.b.d.b,⟨v,e.b.d.c.b,e.b.d.c.c,e.b.d.c.d⟩,e.b.d.d⟩⟩,e.c,e.d⟩⟩,
 ⟨λv e=>⟨e.a,⟨e.b.a,e.b.b,e.b.c,⟨e.b.d.a,e.b.d.b,⟨e.b.d.c.a,v,e.b.d.c.c,e.b.d.c.d⟩,e.b.d.d⟩⟩,e.c,e.d⟩⟩,
 ⟨λv e=>⟨e.a,⟨e.b.a,e.b.b,e.b.c,⟨e.b.d.a,e.b.d.b,⟨e.b.d.c.a,e.b.d.c.b,v,e.b.d.c.d⟩,e.b.d.d⟩⟩,e.c,e.d⟩⟩,
 ⟨λv e=>⟨e.a,⟨e.b.a,e.b.b,e.b.c,⟨e.b.d.a,e.b.d.b,⟨e.b.d.c.a,e.b.d.c.b,e.b.d.c.c,v⟩,e.b.d.d⟩⟩,e.c,e.d⟩⟩,
 ⟨λv e=>⟨e.a,⟨e.b.a,e.b.b,e.b.c,⟨e.b.d.a,e.b.d.b,e.b.d.c,⟨v,e.b.d.d.b,e.b.d.d.c,e.b.d.d.d⟩⟩⟩,e.c,e.d⟩⟩,
 ⟨λv e=>⟨e.a,⟨e.b.a,e.b.b,e.b.c,⟨e.b.d.a,e.b.d.b,e.b.d.c,⟨e.b.d.d.a,v,e.b.d.d.c,e.b.d.d.d⟩⟩⟩,e.c,e.d⟩⟩,
 ⟨λv e=>⟨e.a,⟨e.b.a,e.b.b,e.b.c,⟨e.b.d.a,e.b.d.b,e.b.d.c,⟨e.b.d.d.a,e.b.d.d.b,v,e.b.d.d.d⟩⟩⟩,e.c,e.d⟩⟩,
 ⟨λv e=>⟨e.a,⟨e.b.a,e.b.b,e.b.c,⟨e.b.d.a,e.b.d.b,e.b.d.c,⟨e.b.d.d.a,e.b.d.d.b,e.b.d.d.c,v⟩⟩⟩,e.c,e.d⟩⟩]
def aev:List PS:=[
 ⟨λv e=>⟨e.a,e.b,⟨⟨⟨v,e.c.a.a.b,e.c.a.a.c,e.c.a.a.d⟩,e.c.a.b,e.c.a.c,e.c.a.d⟩,e.c.b,e.c.c,e.c.d⟩,e.d⟩⟩,
 ⟨λv e=>⟨e.a,e.b,⟨⟨⟨e.c.a.a.a,v,e.c.a.a.c,e.c.a.a.d⟩,e.c.a.b,e.c.a.c,e.c.a.d⟩,e.c.b,e.c.c,e.c.d⟩,e.d⟩⟩,
 ⟨λv e=>⟨e.a,e.b,⟨⟨⟨e.c.a.a.a,e.c.a.a.b,v,e.c.a.a.d⟩,e.c.a.b,e.c.a.c,e.c.a.d⟩,e.c.b,e.c.c,e.c.d⟩,e.d⟩⟩,
 ⟨λv e=>⟨e.a,e.b,⟨⟨⟨e.c.a.a.a,e.c.a.a.b,e.c.a.a.c,v⟩,e.c.a.b,e.c.a.c,e.c.a.d⟩,e.c.b,e.c.c,e.c.d⟩,e.d⟩⟩,
 ⟨λv e=>⟨e.a,e.b,⟨⟨e.c.a.a,⟨v,e.c.a.b.b,e.c.a.b.c,e.c.a.b.d⟩,e.c.a.c,e.c.a.d⟩,e.c.b,e.c.c,e.c.d⟩,e.d⟩⟩,
 ⟨λv e=>⟨e.a,e.b,⟨⟨e.c.a.a,⟨e.c.a.b.a,v,e.c.a.b.c,e.c.a.b.d⟩,e.c.a.c,e.c.a.d⟩,e.c.b,e.c.c,e.c.d⟩,e.d⟩⟩,
 ⟨λv e=>⟨e.a,e.b,⟨⟨e.c.a.a,⟨e.c.a.b.a,e.c.a.b.b,v,e.c.a.b.d⟩,e.c.a.c,e.c.a.d⟩,e.c.b,e.c.c,e.c.d⟩,e.d⟩⟩,
 ⟨λv e=>⟨e.a,e.b,⟨⟨e.c.a.a,⟨e.c.a.b.a,e.c.a.b.b,e.c.a.b.c,v⟩,e.c.a.c,e.c.a.d⟩,e.c.b,e.c.c,e.c.d⟩,e.d⟩⟩,
 ⟨λv e=>⟨e.a,e.b,⟨⟨e.c.a.a,e.c.a.b,⟨v,e.c.a.c.b,e.c.a.c.c,e.c.a.c.d⟩,e.c.a.d⟩,e.c.b,e.c.c,e.c.d⟩,e.d⟩⟩,
 ⟨λv e=>⟨e.a,e.b,⟨⟨e.c.a.a,e.c.a.b,⟨e.c.a.c.a,v,e.c.a.c.c,e.c.a.c.d⟩,e.c.a.d⟩,e.c.b,e.c.c,e.c.d⟩,e.d⟩⟩,
 ⟨λv e=>⟨e.a,e.b,⟨⟨e.c.a.a,e.c.a.b,⟨e.c.a.c.a,e.c.a.c.b,v,e.c.a.c.d⟩,e.c.a.d⟩,e.c.b,e.c.c,e.c.d⟩,e.d⟩⟩,
 ⟨λv e=>⟨e.a,e.b,⟨⟨e.c.a.a,e.c.a.b,⟨e.c.a.c.a,e.c.a.c.b,e.c.a.c.c,v⟩,e.c.a.d⟩,e.c.b,e.c.c,e.c.d⟩,e.d⟩⟩,
 ⟨λv e=>⟨e.a,e.b,⟨⟨e.c.a.a,e.c.a.b,e.c.a.c,⟨v,e.c.a.d.b,e.c.a.d.c,e.c.a.d.d⟩⟩,e.c.b,e.c.c,e.c.d⟩,e.d⟩⟩,
 ⟨λv e=>⟨e.a,e.b,⟨⟨e.c.a.a,e.c.a.b,e.c.a.c,⟨e.c.a.d.a,v,e.c.a.d.c,e.c.a.d.d⟩⟩,e.c.b,e.c.c,e.c.d⟩,e.d⟩⟩,
 ⟨λv e=>⟨e.a,e.b,⟨⟨e.c.a.a,e.c.a.b,e.c.a.c,⟨e.c.a.d.a,e.c.a.d.b,v,e.c.a.d.d⟩⟩,e.c.b,e.c.c,e.c.d⟩,e.d⟩⟩,
 ⟨λv e=>⟨e.a,e.b,⟨⟨e.c.a.a,e.c.a.b,e.c.a.c,⟨e.c.a.d.a,e.c.a.d.b,e.c.a.d.c,v⟩⟩,e.c.b,e.c.c,e.c.d⟩,e.d⟩⟩]
def aew:List PS:=[
 ⟨λv e=>⟨e.a,e.b,⟨e.c.a,⟨⟨v,e.c.b.a.b,e.c.b.a.c,e.c.b.a.d⟩,e.c.b.b,e.c.b.c,e.c.b.d⟩,e.c.c,e.c.d⟩,e.d⟩⟩,
 ⟨λv e=>⟨e.a,e.b,⟨e.c.a,⟨⟨e.c.b.a.a,v,e.c.b.a.c,e.c.b.a.d⟩,e.c.b.b,e.c.b.c,e.c.b.d⟩,e.c.c,e.c.d⟩,e.d⟩⟩,
 ⟨λv e=>⟨e.a,e.b,⟨e.c.a,⟨⟨e.c.b.a.a,e.c.b.a.b,v,e.c.b.a.d⟩,e.c.b.b,e.c.b.c,e.c.b.d⟩,e.c.c,e.c.d⟩,e.d⟩⟩,
 ⟨λv e=>⟨e.a,e.b,⟨e.c.a,⟨⟨e.c.b.a.a,e.c.b.a.b,e.c.b.a.c,v⟩,e.c.b.b,e.c.b.c,e.c.b.d⟩,e.c.c,e.c.d⟩,e.d⟩⟩,
 ⟨λv e=>⟨e.a,e.b,⟨e.c.a,⟨e.c.b.a,⟨v,e.c.b.b.b,e.c.b.b.c,e.c.b.b.d⟩,e.c.b.c,e.c.b.d⟩,e.c.c,e.c.d⟩,e.d⟩⟩,
 ⟨λv e=>⟨e.a,e.b,⟨e.c.a,⟨e.c.b.a,⟨e.c.b.b.a,v,e.c.b.b.c,e.c.b.b.d⟩,e.c.b.c,e.c.b.d⟩,e.c.c,e.c.d⟩,e.d⟩⟩,
 ⟨λv e=>⟨e.a,e.b,⟨e.c.a,⟨e.c.b.a,⟨e.c.b.b.a,e.c.b.b.b,v,e.c.b.b.d⟩,e.c.b.c,e.c.b.d⟩,e.c.c,e.c.d⟩,e.d⟩⟩,
 ⟨λv e=>⟨e.a,e.b,⟨e.c.a,⟨e.c.b.a,⟨e.c.b.b.a,e.c.b.b.b,e.c.b.b.c,v⟩,e.c.b.c,e.c.b.d⟩,e.c.c,e.c.d⟩,e.d⟩⟩,
 ⟨λv e=>⟨e.a,e.b,⟨e.c.a,⟨e.c.b.a,e.c.b.b,⟨v,e.c.b.c.b,e.c.b.c.c,e.c.b.c.d⟩,e.c.b.d⟩,e.c.c,e.c.d⟩,e.d⟩⟩,
 ⟨λv e=>⟨e.a,e.b,⟨e.c.a,⟨e.c.b.a,e.c.b.b,⟨e.c.b.c.a,v,e.c.b.c.c,e.c.b.c.d⟩,e.c.b.d⟩,e.c.c,e.c.d⟩,e.d⟩⟩,
 ⟨λv e=>⟨e.a,e.b,⟨e.c.a,⟨e.c.b.a,e.c.b.b,⟨e.c.b.c.a,e.c.b.c.b,v,e.c.b.c.d⟩,e.c.b.d⟩,e.c.c,e.c.d⟩,e.d⟩⟩,
 ⟨λv e=>⟨e.a,e.b,⟨e.c.a,⟨e.c.b.a,e.c.b.b,⟨e.c.b.c.a,e.c.b.c.b,e.c.b.c.c,v⟩,e.c.b.d⟩,e.c.c,e.c.d⟩,e.d⟩⟩,
 ⟨λv e=>⟨e.a,e.b,⟨e.c.a,⟨e.c.b.a,e.c.b.b,e.c.b.c,⟨v,e.c.b.d.b,e.c.b.d.c,e.c.b.d.d⟩⟩,e.c.c,e.c.d⟩,e.d⟩⟩,
 ⟨λv e=>⟨e.a,e.b,⟨e.c.a,⟨e.c.b.a,e.c.b.b,e.c.b.c,⟨e.c.b.d.a,v,e.c.b.d.c,e.c.b.d.d⟩⟩,e.c.c,e.c.d⟩,e.d⟩⟩,
 ⟨λv e=>⟨e.a,e.b,⟨e.c.a,⟨e.c.b.a,e.c.b.b,e.c.b.c,⟨e.c.b.d.a,e.c.b.d.b,v,e.c.b.d.d⟩⟩,e.c.c,e.c.d⟩,e.d⟩⟩,
 ⟨λv e=>⟨e.a,e.b,⟨e.c.a,⟨e.c.b.a,e.c.b.b,e.c.b.c,⟨e.c.b.d.a,e.c.b.d.b,e.c.b.d.c,v⟩⟩,e.c.c,e.c.d⟩,e.d⟩⟩]
def abq:List PS:=[
 ⟨λv e=>⟨e.a,e.b,⟨e.c.a,e.c.b,⟨⟨v,e.c.c.a.b,e.c.c.a.c,e.c.c.a.d⟩,e.c.c.b,e.c.c.c,e.c.c.d⟩,e.c.d⟩,e.d⟩⟩,
 ⟨λv e=>⟨e.a,e.b,⟨e.c.a,e.c.b,⟨⟨e.c.c.a.a,v,e.c.c.a.c,e.c.c.a.d⟩,e.c.c.b,e.c.c.c,e.c.c.d⟩,e.c.d⟩,e.d⟩⟩,
 ⟨λv e=>⟨e.a,e.b,⟨e.c.a,e.c.b,⟨⟨e.c.c.a.a,e.c.c.a.b,v,e.c.c.a.d⟩,e.c.c.b,e.c.c.c,e.c.c.d⟩,e.c.d⟩,e.d⟩⟩,
 ⟨λv e=>⟨e.a,e.b,⟨e.c.a,e.c.b,⟨⟨e.c.c.a.a,e.c.c.a.b,e.c.c.a.c,v⟩,e.c.c.b,e.c.c.c,e.c.c.d⟩,e.c.d⟩,e.d⟩⟩,
 ⟨λv e=>⟨e.a,e.b,⟨e.c.a,e.c.b,⟨e.c.c.a,⟨v,e.c.c.b.b,e.c.c.b.c,e.c.c.b.d⟩,e.c.c.c,e.c.c.d⟩,e.c.d⟩,e.d⟩⟩,
 ⟨λv e=>⟨e.a,e.b,⟨e.c.a,e.c.b,⟨e.c.c.a,⟨e.c.c.b.a,v,e.c.c.b.c,e.c.c.b.d⟩,e.c.c.c,e.c.c.d⟩,e.c.d⟩,e.d⟩⟩,
 ⟨λv e=>⟨e.a,e.b,⟨e.c.a,e.c.b,⟨e.c.c.a,⟨e.c.c.b.a,e.c.c.b.b,v,e.c.c.b.d⟩,e.c.c.c,e.c.c.d⟩,e.c.d⟩,e.d⟩⟩,
 ⟨λv e=>⟨e.a,e.b,⟨e.c.a,e.c.b,⟨e.c.c.a,⟨e.c.c.b.a,e.c.c.b.b,e.c.c.b.c,v⟩,e.c.c.c,e.c.c.d⟩,e.c.d⟩,e.d⟩⟩,
 ⟨λv e=>⟨e.a,e.b,⟨e.c.a,e.c.b,⟨e.c.c.a,e.c.c.b,⟨v,e.c.c.c.b,e.c.c.c.c,e.c.c.c.d⟩,e.c.c.d⟩,e.c.d⟩,e.d⟩⟩,
 ⟨λv e=>⟨e.a,e.b,⟨e.c.a,e.c.b,⟨e.c.c.a,e.c.c.b,⟨e.c.c.c.a,v,e.c.c.c.c,e.c.c.c.d⟩,e.c.c.d⟩,e.c.d⟩,e.d⟩⟩,
 ⟨λv e=>⟨e.a,e.b,⟨e.c.a,e.c.b,⟨e.c.c.a,e.c.c.b,⟨e.c.c.c.a,e.c.c.c.b,v,e.c.c.c.d⟩,e.c.c.d⟩,e.c.d⟩,e.d⟩⟩,
 ⟨λv e=>⟨e.a,e.b,⟨e.c.a,e.c.b,⟨e.c.c.a,e.c.c.b,⟨e.c.c.c.a,e.c.c.c.b,e.c.c.c.c,v⟩,e.c.c.d⟩,e.c.d⟩,e.d⟩⟩,
 ⟨λv e=>⟨e.a,e.b,⟨e.c.a,e.c.b,⟨e.c.c.a,e.c.c.b,e.c.c.c,⟨v,e.c.c.d.b,e.c.c.d.c,e.c.c.d.d⟩⟩,e.c.d⟩,e.d⟩⟩,
 ⟨λv e=>⟨e.a,e.b,⟨e.c.a,e.c.b,⟨e.c.c.a,e.c.c.b,e.c.c.c,⟨e.c.c.d.a,v,e.c.c.d.c,e.c.c.d.d⟩⟩,e.c.d⟩,e.d⟩⟩,
 ⟨λv e=>⟨e.a,e.b,⟨e.c.a,e.c.b,⟨e.c.c.a,e.c.c.b,e.c.c.c,⟨e.c.c.d.a,e.c.c.d.b,v,e.c.c.d.d⟩⟩,e.c.d⟩,e.d⟩⟩,
 ⟨λv e=>⟨e.a,e.b,⟨e.c.a,e.c.b,⟨e.c.c.a,e.c.c.b,e.c.c.c,⟨e.c.c.d.a,e.c.c.d.b,e.c.c.d.c,v⟩⟩,e.c.d⟩,e.d⟩⟩]
def abr:List PS:=[
 ⟨λv e=>⟨e.a,e.b,⟨e.c.a,e.c.b,e.c.c,⟨⟨v,e.c.d.a.b,e.c.d.a.c,e.c.d.a.d⟩,e.c.d.b,e.c.d.c,e.c.d.d⟩⟩,e.d⟩⟩,
 ⟨λv e=>⟨e.a,e.b,⟨e.c.a,e.c.b,e.c.c,⟨⟨e.c.d.a.a,v,e.c.d.a.c,e.c.d.a.d⟩,e.c.d.b,e.c.d.c,e.c.d.d⟩⟩,e.d⟩⟩,
 ⟨λv e=>⟨e.a,e.b,⟨e.c.a,e.c.b,e.c.c,⟨⟨e.c.d.a.a,e.c.d.a.b,v,e.c.d.a.d⟩,e.c.d.b,e.c.d.c,e.c.d.d⟩⟩,e.d⟩⟩,
 ⟨λv e=>⟨e.a,e.b,⟨e.c.a,e.c.b,e.c.c,⟨⟨e.c.d.a.a,e.c.d.a.b,e.c.d.a.c,v⟩,e.c.d.b,e.c.d.c,e.c.d.d⟩⟩,e.d⟩⟩,
 ⟨λv e=>⟨e.a,e.b,⟨e.c.a,e.c.b,e.c.c,⟨e.c.d.a,⟨v,e.c.d.b.b,e.c.d.b.c,e.c.d.b.d⟩,e.c.d.c,e.c.d.d⟩⟩,e.d⟩⟩,
 ⟨λv e=>⟨e.a,e.b,⟨e.c.a,e.c.b,e.c.c,⟨e.c.d.a,⟨e.c.d.b.a,v,e.c.d.b.c,e.c.d.b.d⟩,e.c.d.c,e.c.d.d⟩⟩,e.d⟩⟩,
 ⟨λv e=>⟨e.a,e.b,⟨e.c.a,e.c.b,e.c.c,⟨e.c.d.a,⟨e.c.d.b.a,e.c.d.b.b,v,e.c.d.b.d⟩,e.c.d.c,e.c.d.d⟩⟩,e.d⟩⟩,
 ⟨λv e=>⟨e.a,e.b,⟨e.c.a,e.c.b,e.c.c,⟨e.c.d.a,⟨e.c.d.b.a,e.c.d.b.b,e.c.d.b.c,v⟩,e.c.d.c,e.c.d.d⟩⟩,e.d⟩⟩,
 ⟨λv e=>⟨e.a,e.b,⟨e.c.a,e.c.b,e.c.c,⟨e.c.d.a,e.c.d.b,⟨v,e.c.d.c.b,e.c.d.c.c,e.c.d.c.d⟩,e.c.d.d⟩⟩,e.d⟩⟩,
 ⟨λv e=>⟨e.a,e.b,⟨e.c.a,e.c.b,e.c.c,⟨e.c.d.a,e.c.d.b,⟨e.c.d.c.a,v,e.c.d.c.c,e.c.d.c.d⟩,e.c.d.d⟩⟩,e.d⟩⟩,
 ⟨λv e=>⟨e.a,e.b,⟨e.c.a,e.c.b,e.c.c,⟨e.c.d.a,e.c.d.b,⟨e.c.d.c.a,e.c.d.c.b,v,e.c.d.c.d⟩,e.c.d.d⟩⟩,e.d⟩⟩,
 ⟨λv e=>⟨e.a,e.b,⟨e.c.a,e.c.b,e.c.c,⟨e.c.d.a,e.c.d.b,⟨e.c.d.c.a,e.c.d.c.b,e.c.d.c.c,v⟩,e.c.d.d⟩⟩,e.d⟩⟩,
 ⟨λv e=>⟨e.a,e.b,⟨e.c.a,e.c.b,e.c.c,⟨e.c.d.a,e.c.d.b,e.c.d.c,⟨v,e.c.d.d.b,e.c.d.d.c,e.c.d.d.d⟩⟩⟩,e.d⟩⟩,
 ⟨λv e=>⟨e.a,e.b,⟨e.c.a,e.c.b,e.c.c,⟨e.c.d.a,e.c.d.b,e.c.d.c,⟨e.c.d.d.a,v,e.c.d.d.c,e.c.d.d.d⟩⟩⟩,e.d⟩⟩,
 ⟨λv e=>⟨e.a,e.b,⟨e.c.a,e.c.b,e.c.c,⟨e.c.d.a,e.c.d.b,e.c.d.c,⟨e.c.d.d.a,e.c.d.d.b,v,e.c.d.d.d⟩⟩⟩,e.d⟩⟩,
 ⟨λv e=>⟨e.a,e.b,⟨e.c.a,e.c.b,e.c.c,⟨e.c.d.a,e.c.d.b,e.c.d.c,⟨e.c.d.d.a,e.c.d.d.b,e.c.d.d.c,v⟩⟩⟩,e.d⟩⟩]
def abt:List PS:=[
 ⟨λv e=>⟨e.a,e.b,e.c,⟨⟨⟨v,e.d.a.a.b,e.d.a.a.c,e.d.a.a.d⟩,e.d.a.b,e.d.a.c,e.d.a.d⟩,e.d.b,e.d.c,e.d.d⟩⟩⟩,
 ⟨λv e=>⟨e.a,e.b,e.c,⟨⟨⟨e.d.a.a.a,v,e.d.a.a.c,e.d.a.a.d⟩,e.d.a.b,e.d.a.c,e.d.a.d⟩,e.d.b,e.d.c,e.d.d⟩⟩⟩,
 ⟨λv e=>⟨e.a,e.b,e.c,⟨⟨⟨e.d.a.a.a,e.d.a.a.b,v,e.d.a.a.d⟩,e.d.a.b,e.d.a.c,e.d.a.d⟩,e.d.b,e.d.c,e.d.d⟩⟩⟩,
 ⟨λv e=>⟨e.a,e.b,e.c,⟨⟨⟨e.d.a.a.a,e.d.a.a.b,e.d.a.a.c,v⟩,e.d.a.b,e.d.a.c,e.d.a.d⟩,e.d.b,e.d.c,e.d.d⟩⟩⟩,
 ⟨λv e=>⟨e.a,e.b,e.c,⟨⟨e.d.a.a,⟨v,e.d.a.b.b,e.d.a.b.c,e.d.a.b.d⟩,e.d.a.c,e.d.a.d⟩,e.d.b,e.d.c,e.d.d⟩⟩⟩,
 ⟨λv e=>⟨e.a,e.b,e.c,⟨⟨e.d.a.a,⟨e.d.a.b.a,v,e.d.a.b.c,e.d.a.b.d⟩,e.d.a.c,e.d.a.d⟩,e.d.b,e.d.c,e.d.d⟩⟩⟩,
 ⟨λv e=>⟨e.a,e.b,e.c,⟨⟨e.d.a.a,⟨e.d.a.b.a,e.d.a.b.b,v,e.d.a.b.d⟩,e.d.a.c,e.d.a.d⟩,e.d.b,e.d.c,e.d.d⟩⟩⟩,
 ⟨λv e=>⟨e.a,e.b,e.c,⟨⟨e.d.a.a,⟨e.d.a.b.a,e.d.a.b.b,e.d.a.b.c,v⟩,e.d.a.c,e.d.a.d⟩,e.d.b,e.d.c,e.d.d⟩⟩⟩,
 ⟨λv e=>⟨e.a,e.b,e.c,⟨⟨e.d.a.a,e.d.a.b,⟨v,e.d.a.c.b,e.d.a.c.c,e.d.a.c.d⟩,e.d.a.d⟩,e.d.b,e.d.c,e.d.d⟩⟩⟩,
 ⟨λv e=>⟨e.a,e.b,e.c,⟨⟨e.d.a.a,e.d.a.b,⟨e.d.a.c.a,v,e.d.a.c.c,e.d.a.c.d⟩,e.d.a.d⟩,e.d.b,e.d.c,e.d.d⟩⟩⟩,
 ⟨λv e=>⟨e.a,e.b,e.c,⟨⟨e.d.a.a,e.d.a.b,⟨e.d.a.c.a,e.d.a.c.b,v,e.d.a.c.d⟩,e.d.a.d⟩,e.d.b,e.d.c,e.d.d⟩⟩⟩,
 ⟨λv e=>⟨e.a,e.b,e.c,⟨⟨e.d.a.a,e.d.a.b,⟨e.d.a.c.a,e.d.a.c.b,e.d.a.c.c,v⟩,e.d.a.d⟩,e.d.b,e.d.c,e.d.d⟩⟩⟩,
 ⟨λv e=>⟨e.a,e.b,e.c,⟨⟨e.d.a.a,e.d.a.b,e.d.a.c,⟨v,e.d.a.d.b,e.d.a.d.c,e.d.a.d.d⟩⟩,e.d.b,e.d.c,e.d.d⟩⟩⟩,
 ⟨λv e=>⟨e.a,e.b,e.c,⟨⟨e.d.a.a,e.d.a.b,e.d.a.c,⟨e.d.a.d.a,v,e.d.a.d.c,e.d.a.d.d⟩⟩,e.d.b,e.d.c,e.d.d⟩⟩⟩,
 ⟨λv e=>⟨e.a,e.b,e.c,⟨⟨e.d.a.a,e.d.a.b,e.d.a.c,⟨e.d.a.d.a,e.d.a.d.b,v,e.d.a.d.d⟩⟩,e.d.b,e.d.c,e.d.d⟩⟩⟩,
 ⟨λv e=>⟨e.a,e.b,e.c,⟨⟨e.d.a.a,e.d.a.b,e.d.a.c,⟨e.d.a.d.a,e.d.a.d.b,e.d.a.d.c,v⟩⟩,e.d.b,e.d.c,e.d.d⟩⟩⟩]
def abu:List PS:=[
 ⟨λv e=>⟨e.a,e.b,e.c,⟨e.d.a,⟨⟨v,e.d.b.a.b,e.d.b.a.c,e.d.b.a.d⟩,e.d.b.b,e.d.b.c,e.d.b.d⟩,e.d.c,e.d.d⟩⟩⟩,
 ⟨λv e=>⟨e.a,e.b,e.c,⟨e.d.a,⟨⟨e.d.b.a.a,v,e.d.b.a.c,e.d.b.a.d⟩,e.d.b.b,e.d.b.c,e.d.b.d⟩,e.d.c,e.d.d⟩⟩⟩,
 ⟨λv e=>⟨e.a,e.b,e.c,⟨e.d.a,⟨⟨e.d.b.a.a,e.d.b.a.b,v,e.d.b.a.d⟩,e.d.b.b,e.d.b.c,e.d.b.d⟩,e.d.c,e.d.d⟩⟩⟩,
 ⟨λv e=>⟨e.a,e.b,e.c,⟨e.d.a,⟨⟨e.d.b.a.a,e.d.b.a.b,e.d.b.a.c,v⟩,e.d.b.b,e.d.b.c,e.d.b.d⟩,e.d.c,e.d.d⟩⟩⟩,
 ⟨λv e=>⟨e.a,e.b,e.c,⟨e.d.a,⟨e.d.b.a,⟨v,e.d.b.b.b,e.d.b.b.c,e.d.b.b.d⟩,e.d.b.c,e.d.b.d⟩,e.d.c,e.d.d⟩⟩⟩,
 ⟨λv e=>⟨e.a,e.b,e.c,⟨e.d.a,⟨e.d.b.a,⟨e.d.b.b.a,v,e.d.b.b.c,e.d.b.b.d⟩,e.d.b.c,e.d.b.d⟩,e.d.c,e.d.d⟩⟩⟩,
 ⟨λv e=>⟨e.a,e.b,e.c,⟨e.d.a,⟨e.d.b.a,⟨e.d.b.b.a,e.d.b.b.b,v,e.d.b.b.d⟩,e.d.b.c,e.d.b.d⟩,e.d.c,e.d.d⟩⟩⟩,
 ⟨λv e=>⟨e.a,e.b,e.c,⟨e.d.a,⟨e.d.b.a,⟨e.d.b.b.a,e.d.b.b.b,e.d.b.b.c,v⟩,e.d.b.c,e.d.b.d⟩,e.d.c,e.d.d⟩⟩⟩,
 ⟨λv e=>⟨e.a,e.b,e.c,⟨e.d.a,⟨e.d.b.a,e.d.b.b,⟨v,e.d.b.c.b,e.d.b.c.c,e.d.b.c.d⟩,e.d.b.d⟩,e.d.c,e.d.d⟩⟩⟩,
 ⟨λv e=>⟨e.a,e.b,e.c,⟨e.d.a,⟨e.d.b.a,e.d.b.b,⟨e.d.b.c.a,v,e.d.b.c.c,e.d.b.c.d⟩,e.d.b.d⟩,e.d.c,e.d.d⟩⟩⟩,
 ⟨λv e=>⟨e.a,e.b,e.c,⟨e.d.a,⟨e.d.b.a,e.d.b.b,⟨e.d.b.c.a,e.d.b.c.b,v,e.d.b.c.d⟩,e.d.b.d⟩,e.d.c,e.d.d⟩⟩⟩,
 ⟨λv e=>⟨e.a,e.b,e.c,⟨e.d.a,⟨e.d.b.a,e.d.b.b,⟨e.d.b.c.a,e.d.b.c.b,e.d.b.c.c,v⟩,e.d.b.d⟩,e.d.c,e.d.d⟩⟩⟩,
 ⟨λv e=>⟨e.a,e.b,e.c,⟨e.d.a,⟨e.d.b.a,e.d.b.b,e.d.b.c,⟨v,e.d.b.d.b,e.d.b.d.c,e.d.b.d.d⟩⟩,e.d.c,e.d.d⟩⟩⟩,
 ⟨λv e=>⟨e.a,e.b,e.c,⟨e.d.a,⟨e.d.b.a,e.d.b.b,e.d.b.c,⟨e.d.b.d.a,v,e.d.b.d.c,e.d.b.d.d⟩⟩,e.d.c,e.d.d⟩⟩⟩,
 ⟨λv e=>⟨e.a,e.b,e.c,⟨e.d.a,⟨e.d.b.a,e.d.b.b,e.d.b.c,⟨e.d.b.d.a,e.d.b.d.b,v,e.d.b.d.d⟩⟩,e.d.c,e.d.d⟩⟩⟩,
 ⟨λv e=>⟨e.a,e.b,e.c,⟨e.d.a,⟨e.d.b.a,e.d.b.b,e.d.b.c,⟨e.d.b.d.a,e.d.b.d.b,e.d.b.d.c,v⟩⟩,e.d.c,e.d.d⟩⟩⟩]
def abv:List PS:=[
 ⟨λv e=>⟨e.a,e.b,e.c,⟨e.d.a,e.d.b,⟨⟨v,e.d.c.a.b,e.d.c.a.c,e.d.c.a.d⟩,e.d.c.b,e.d.c.c,e.d.c.d⟩,e.d.d⟩⟩⟩,
 ⟨λv e=>⟨e.a,e.b,e.c,⟨e.d.a,e.d.b,⟨⟨e.d.c.a.a,v,e.d.c.a.c,e.d.c.a.d⟩,e.d.c.b,e.d.c.c,e.d.c.d⟩,e.d.d⟩⟩⟩,
 ⟨λv e=>⟨e.a,e.b,e.c,⟨e.d.a,e.d.b,⟨⟨e.d.c.a.a,e.d.c.a.b,v,e.d.c.a.d⟩,e.d.c.b,e.d.c.c,e.d.c.d⟩,e.d.d⟩⟩⟩,
 ⟨λv e=>⟨e.a,e.b,e.c,⟨e.d.a,e.d.b,⟨⟨e.d.c.a.a,e.d.c.a.b,e.d.c.a.c,v⟩,e.d.c.b,e.d.c.c,e.d.c.d⟩,e.d.d⟩⟩⟩,
 ⟨λv e=>⟨e.a,e.b,e.c,⟨e.d.a,e.d.b,⟨e.d.c.a,⟨v,e.d.c.b.b,e.d.c.b.c,e.d.c.b.d⟩,e.d.c.c,e.d.c.d⟩,e.d.d⟩⟩⟩,
 ⟨λv e=>⟨e.a,e.b,e.c,⟨e.d.a,e.d.b,⟨e.d.c.a,⟨e.d.c.b.a,v,e.d.c.b.c,e.d.c.b.d⟩,e.d.c.c,e.d.c.d⟩,e.d.d⟩⟩⟩,
 ⟨λv e=>⟨e.a,e.b,e.c,⟨e.d.a,e.d.b,⟨e.d.c.a,⟨e.d.c.b.a,e.d.c.b.b,v,e.d.c.b.d⟩,e.d.c.c,e.d.c.d⟩,e.d.d⟩⟩⟩,
 ⟨λv e=>⟨e.a,e.b,e.c,⟨e.d.a,e.d.b,⟨e.d.c.a,⟨e.d.c.b.a,e.d.c.b.b,e.d.c.b.c,v⟩,e.d.c.c,e.d.c.d⟩,e.d.d⟩⟩⟩,
 ⟨λv e=>⟨e.a,e.b,e.c,⟨e.d.a,e.d.b,⟨e.d.c.a,e.d.c.b,⟨v,e.d.c.c.b,e.d.c.c.c,e.d.c.c.d⟩,e.d.c.d⟩,e.d.d⟩⟩⟩,
 ⟨λv e=>⟨e.a,e.b,e.c,⟨e.d.a,e.d.b,⟨e.d.c.a,e.d.c.b,⟨e.d.c.c.a,v,e.d.c.c.c,e.d.c.c.d⟩,e.d.c.d⟩,e.d.d⟩⟩⟩,
 ⟨λv e=>⟨e.a,e.b,e.c,⟨e.d.a,e.d.b,⟨e.d.c.a,e.d.c.b,⟨e.d.c.c.a,e.d.c.c.b,v,e.d.c.c.d⟩,e.d.c.d⟩,e.d.d⟩⟩⟩,
 ⟨λv e=>⟨e.a,e.b,e.c,⟨e.d.a,e.d.b,⟨e.d.c.a,e.d.c.b,⟨e.d.c.c.a,e.d.c.c.b,e.d.c.c.c,v⟩,e.d.c.d⟩,e.d.d⟩⟩⟩,
 ⟨λv e=>⟨e.a,e.b,e.c,⟨e.d.a,e.d.b,⟨e.d.c.a,e.d.c.b,e.d.c.c,⟨v,e.d.c.d.b,e.d.c.d.c,e.d.c.d.d⟩⟩,e.d.d⟩⟩⟩,
 ⟨λv e=>⟨e.a,e.b,e.c,⟨e.d.a,e.d.b,⟨e.d.c.a,e.d.c.b,e.d.c.c,⟨e.d.c.d.a,v,e.d.c.d.c,e.d.c.d.d⟩⟩,e.d.d⟩⟩⟩,
 ⟨λv e=>⟨e.a,e.b,e.c,⟨e.d.a,e.d.b,⟨e.d.c.a,e.d.c.b,e.d.c.c,⟨e.d.c.d.a,e.d.c.d.b,v,e.d.c.d.d⟩⟩,e.d.d⟩⟩⟩,
 ⟨λv e=>⟨e.a,e.b,e.c,⟨e.d.a,e.d.b,⟨e.d.c.a,e.d.c.b,e.d.c.c,⟨e.d.c.d.a,e.d.c.d.b,e.d.c.d.c,v⟩⟩,e.d.d⟩⟩⟩]
def abw:List PS:=[
 ⟨λv e=>⟨e.a,e.b,e.c,⟨e.d.a,e.d.b,e.d.c,⟨⟨v,e.d.d.a.b,e.d.d.a.c,e.d.d.a.d⟩,e.d.d.b,e.d.d.c,e.d.d.d⟩⟩⟩⟩,
 ⟨λv e=>⟨e.a,e.b,e.c,⟨e.d.a,e.d.b,e.d.c,⟨⟨e.d.d.a.a,v,e.d.d.a.c,e.d.d.a.d⟩,e.d.d.b,e.d.d.c,e.d.d.d⟩⟩⟩⟩,
 ⟨λv e=>⟨e.a,e.b,e.c,⟨e.d.a,e.d.b,e.d.c,⟨⟨e.d.d.a.a,e.d.d.a.b,v,e.d.d.a.d⟩,e.d.d.b,e.d.d.c,e.d.d.d⟩⟩⟩⟩,
 ⟨λv e=>⟨e.a,e.b,e.c,⟨e.d.a,e.d.b,e.d.c,⟨⟨e.d.d.a.a,e.d.d.a.b,e.d.d.a.c,v⟩,e.d.d.b,e.d.d.c,e.d.d.d⟩⟩⟩⟩,
 ⟨λv e=>⟨e.a,e.b,e.c,⟨e.d.a,e.d.b,e.d.c,⟨e.d.d.a,⟨v,e.d.d.b.b,e.d.d.b.c,e.d.d.b.d⟩,e.d.d.c,e.d.d.d⟩⟩⟩⟩,
 ⟨λv e=>⟨e.a,e.b,e.c,⟨e.d.a,e.d.b,e.d.c,⟨e.d.d.a,⟨e.d.d.b.a,v,e.d.d.b.c,e.d.d.b.d⟩,e.d.d.c,e.d.d.d⟩⟩⟩⟩,
 ⟨λv e=>⟨e.a,e.b,e.c,⟨e.d.a,e.d.b,e.d.c,⟨e.d.d.a,⟨e.d.d.b.a,e.d.d.b.b,v,e.d.d.b.d⟩,e.d.d.c,e.d.d.d⟩⟩⟩⟩,
 ⟨λv e=>⟨e.a,e.b,e.c,⟨e.d.a,e.d.b,e.d.c,⟨e.d.d.a,⟨e.d.d.b.a,e.d.d.b.b,e.d.d.b.c,v⟩,e.d.d.c,e.d.d.d⟩⟩⟩⟩,
 ⟨λv e=>⟨e.a,e.b,e.c,⟨e.d.a,e.d.b,e.d.c,⟨e.d.d.a,e.d.d.b,⟨v,e.d.d.c.b,e.d.d.c.c,e.d.d.c.d⟩,e.d.d.d⟩⟩⟩⟩,
 ⟨λv e=>⟨e.a,e.b,e.c,⟨e.d.a,e.d.b,e.d.c,⟨e.d.d.a,e.d.d.b,⟨e.d.d.c.a,v,e.d.d.c.c,e.d.d.c.d⟩,e.d.d.d⟩⟩⟩⟩,
 ⟨λv e=>⟨e.a,e.b,e.c,⟨e.d.a,e.d.b,e.d.c,⟨e.d.d.a,e.d.d.b,⟨e.d.d.c.a,e.d.d.c.b,v,e.d.d.c.d⟩,e.d.d.d⟩⟩⟩⟩,
 ⟨λv e=>⟨e.a,e.b,e.c,⟨e.d.a,e.d.b,e.d.c,⟨e.d.d.a,e.d.d.b,⟨e.d.d.c.a,e.d.d.c.b,e.d.d.c.c,v⟩,e.d.d.d⟩⟩⟩⟩,
 ⟨λv e=>⟨e.a,e.b,e.c,⟨e.d.a,e.d.b,e.d.c,⟨e.d.d.a,e.d.d.b,e.d.d.c,⟨v,e.d.d.d.b,e.d.d.d.c,e.d.d.d.d⟩⟩⟩⟩⟩,
 ⟨λv e=>⟨e.a,e.b,e.c,⟨e.d.a,e.d.b,e.d.c,⟨e.d.d.a,e.d.d.b,e.d.d.c,⟨e.d.d.d.a,v,e.d.d.d.c,e.d.d.d.d⟩⟩⟩⟩⟩,
 ⟨λv e=>⟨e.a,e.b,e.c,⟨e.d.a,e.d.b,e.d.c,⟨e.d.d.a,e.d.d.b,e.d.d.c,⟨e.d.d.d.a,e.d.d.d.b,v,e.d.d.d.d⟩⟩⟩⟩⟩,
 ⟨λv e=>⟨e.a,e.b,e.c,⟨e.d.a,e.d.b,e.d.c,⟨e.d.d.a,e.d.d.b,e.d.d.c,⟨e.d.d.d.a,e.d.d.d.b,e.d.d.d.c,v⟩⟩⟩⟩⟩]
def Yc {β:Type} (z:β):List β->Nat->β:=
 List.rec (motive:=λ_=>Nat->β) (λ_=>z) (λx _ ih i=>Bool.rec (ih (Nat.pred i)) x (Nat.beq i (nat_lit 0)))
def aex:List (List EV):=[aeb,aec,aed,aee,aef,aeg,aeh,aei,aej,aek,abk,abl,abm,abn,abo,abp]
def aey:List (List PS):=[ael,aem,aen,aeo,aep,aer,aes,aeu,aev,aew,abq,abr,abt,abu,abv,abw]
def gT (i:Nat):EV:=Yc ⟨λ_=> .bad⟩ (Yc [] aex (Nat.div i (nat_lit 16))) (Nat.mod i (nat_lit 16))
def pT (i:Nat):PS:=Yc ⟨λ_ e=>e⟩ (Yc [] aey (Nat.div i (nat_lit 16))) (Nat.mod i (nat_lit 16))
