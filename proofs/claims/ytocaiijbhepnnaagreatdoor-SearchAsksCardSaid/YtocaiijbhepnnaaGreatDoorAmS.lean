/- The abstract machine, first part: its data (strings, tries, values, blocks, heaps) and their small laws. -/
import GoSem.Step
import Derived.Control
namespace Go.Proofs.YtocaiijbhepnnaaGreatDoor
theorem aN:type_of%@List.getD_eq_getElem?_getD:=@List.getD_eq_getElem?_getD
theorem ay:type_of%@Nat.le_refl:=@Nat.le_refl
theorem aS:type_of%@List.setIfInBounds_toArray:=@List.setIfInBounds_toArray
theorem aP:type_of%@Nat.eq_of_beq_eq_true:=@Nat.eq_of_beq_eq_true
theorem bf:type_of%@List.getElem?_eq_getElem:=@List.getElem?_eq_getElem
theorem aj:type_of%@if_neg:=@if_neg
theorem ak:type_of%@if_pos:=@if_pos
theorem aT:type_of%@List.set_cons_zero:=@List.set_cons_zero
theorem aU:type_of%@List.set_cons_succ:=@List.set_cons_succ
theorem aJ:type_of%@Bool.and_eq_true:=@Bool.and_eq_true
theorem aV:type_of%@decide_eq_true_iff:=@decide_eq_true_iff
theorem aH:type_of%@Nat.zero_le:=@Nat.zero_le
theorem bB:type_of%@List.length_append:=@List.length_append
theorem bW:type_of%@beq_eq_false_iff_ne:=@beq_eq_false_iff_ne
theorem aL:type_of%@Nat.lt_or_ge:=@Nat.lt_or_ge
theorem bC:type_of%@Bool.false_eq_true:=@Bool.false_eq_true
theorem bg:type_of%@decide_eq_false:=@decide_eq_false
theorem bM:type_of%@Nat.lt_of_lt_of_le:=@Nat.lt_of_lt_of_le
theorem aI:type_of%@Nat.ble_eq:=@Nat.ble_eq
theorem aW:type_of%@List.mem_cons:=@List.mem_cons
theorem fB:type_of%@Array.getElem?_eq_some_iff:=@Array.getElem?_eq_some_iff
theorem bD:type_of%@decide_eq_true:=@decide_eq_true
theorem aX:type_of%@Nat.le_trans:=@Nat.le_trans
theorem bY:type_of%@List.length_cons:=@List.length_cons
theorem iM:type_of%@Array.getD_eq_getD_getElem?:=@Array.getD_eq_getD_getElem?
theorem dW:type_of%@List.append_assoc:=@List.append_assoc
theorem eU:type_of%@Array.getElem?_toList:=@Array.getElem?_toList
theorem fI:type_of%@List.getElem_cons_zero:=@List.getElem_cons_zero
theorem cB:type_of%@Bool.or_eq_true:=@Bool.or_eq_true
theorem gy:type_of%@List.getElem_cons_succ:=@List.getElem_cons_succ
theorem fJ:type_of%@Nat.le_of_ble_eq_true:=@Nat.le_of_ble_eq_true
theorem dz:type_of%@List.length_map:=@List.length_map
theorem fK:type_of%@List.getElem_toArray:=@List.getElem_toArray
theorem bQ:type_of%@Nat.zero_add:=@Nat.zero_add
theorem dN:type_of%@List.length_drop:=@List.length_drop
theorem kD:type_of%@Array.getElem?_setIfInBounds_ne:=@Array.getElem?_setIfInBounds_ne
theorem dO:type_of%@Option.some.inj:=@Option.some.inj
theorem fH:type_of%@List.getElem?_map:=@List.getElem?_map
theorem fG:type_of%@List.mem_singleton:=@List.mem_singleton
theorem iN:type_of%@List.mem_append_right:=@List.mem_append_right
theorem iy:type_of%@List.mem_append_left:=@List.mem_append_left
theorem jM:type_of%@List.drop_eq_nil_of_le:=@List.drop_eq_nil_of_le
theorem dB:type_of%@Nat.lt_irrefl:=@Nat.lt_irrefl
theorem eu:type_of%@List.append_nil:=@List.append_nil
theorem dh:type_of%@Nat.add_zero:=@Nat.add_zero
theorem dA:type_of%@List.mem_map:=@List.mem_map
theorem fC:type_of%@Bool.eq_iff_iff:=@Bool.eq_iff_iff
theorem fZ:type_of%@List.all_eq_true:=@List.all_eq_true
theorem bU:type_of%@beq_iff_eq:=@beq_iff_eq
theorem jg:type_of%@List.drop_eq_nil_iff:=@List.drop_eq_nil_iff
theorem iC:type_of%@decide_eq_true_eq:=@decide_eq_true_eq
theorem iw:type_of%@List.length_take:=@List.length_take
theorem dX:type_of%@Nat.le_of_lt:=@Nat.le_of_lt
theorem iV:type_of%@of_decide_eq_true:=@of_decide_eq_true
theorem ny:type_of%@List.getElem?_eq_some_iff:=@List.getElem?_eq_some_iff
theorem nA:type_of%@List.drop_eq_getElem_cons:=@List.drop_eq_getElem_cons
theorem ni:type_of%@Array.getElem?_eq_getElem:=@Array.getElem?_eq_getElem
theorem kC:type_of%@Array.length_toList:=@Array.length_toList
theorem qI:type_of%@List.eq_nil_of_length_eq_zero:=@List.eq_nil_of_length_eq_zero
theorem iW:type_of%@Nat.not_lt_zero:=@Nat.not_lt_zero
theorem qE:type_of%@List.getElem?_append_right:=@List.getElem?_append_right
theorem mq:type_of%@List.take_append_drop:=@List.take_append_drop
theorem jL:type_of%@Int.toNat_natCast:=@Int.toNat_natCast
theorem oH:type_of%@List.getElem?_append_left:=@List.getElem?_append_left
theorem kE:type_of%@Nat.eq_zero_or_pos:=@Nat.eq_zero_or_pos
theorem jf:type_of%@List.length_nil:=@List.length_nil
theorem nE:type_of%@List.take_of_length_le:=@List.take_of_length_le
theorem jm:type_of%@List.mem_append:=@List.mem_append
theorem fF:type_of%@Nat.add_mul:=@Nat.add_mul
theorem yM:type_of%@Bool.false_ne_true:=@Bool.false_ne_true
theorem oI:type_of%@Nat.add_sub_cancel_left:=@Nat.add_sub_cancel_left
theorem nu:type_of%@Nat.mul_le_mul_right:=@Nat.mul_le_mul_right
theorem oW:type_of%@List.nil_append:=@List.nil_append
theorem kW:type_of%@Nat.lt_trichotomy:=@Nat.lt_trichotomy
theorem kZ:type_of%@Nat.lt_succ_self:=@Nat.lt_succ_self
theorem lH:type_of%@List.not_mem_nil:=@List.not_mem_nil
theorem mD:type_of%@Nat.mod_eq_of_lt:=@Nat.mod_eq_of_lt
theorem mH:type_of%@List.getElem_mem:=@List.getElem_mem
theorem nC:type_of%@List.length_range:=@List.length_range
theorem mh:type_of%@Nat.add_assoc:=@Nat.add_assoc
theorem FU:type_of%@Nat.succ_le_succ:=@Nat.succ_le_succ
theorem qG:type_of%@Array.toList_append:=@Array.toList_append
theorem eT:type_of%@congrArg:=@congrArg
theorem uL:type_of%@Option.isSome_iff_exists:=@Option.isSome_iff_exists
theorem mI:type_of%@exists_eq_left:=@exists_eq_left
theorem kT:type_of%@List.map_cons:=@List.map_cons
theorem nD:type_of%@List.mem_filter:=@List.mem_filter
theorem kr:type_of%@Nat.zero_mul:=@Nat.zero_mul
theorem sH:type_of%@List.mem_of_getElem?:=@List.mem_of_getElem?
theorem o7:type_of%@exists_eq_or_imp:=@exists_eq_or_imp
theorem vg:type_of%@List.flatMap_singleton:=@List.flatMap_singleton
theorem qF:type_of%@Array.size_append:=@Array.size_append
theorem wE:type_of%@List.getElem?_range:=@List.getElem?_range
theorem sG:type_of%@List.getElem?_eq_none:=@List.getElem?_eq_none
theorem lF:type_of%@List.mem_range:=@List.mem_range
theorem nQ:type_of%@List.size_toArray:=@List.size_toArray
theorem nN:type_of%@Array.toList_push:=@Array.toList_push
theorem nK:type_of%@List.foldl_cons:=@List.foldl_cons
theorem jU:type_of%@Nat.mul_comm:=@Nat.mul_comm
theorem nW:type_of%@List.cons_ne_nil:=@List.cons_ne_nil
theorem El:type_of%@List.cons_append:=@List.cons_append
theorem nM:type_of%@Array.toList_map:=@Array.toList_map
theorem qd:type_of%@Nat.add_sub_cancel:=@Nat.add_sub_cancel
theorem qh:type_of%@List.mem_cons_self:=@List.mem_cons_self
theorem wB:type_of%@Array.getElem?_modify:=@Array.getElem?_modify
theorem sW:type_of%@List.mem_iff_getElem:=@List.mem_iff_getElem
theorem Ku:type_of%@Nat.le_succ_of_le:=@Nat.le_succ_of_le
theorem jX:type_of%@Nat.le_succ:=@Nat.le_succ
theorem wW:type_of%@Array.getElem?_push:=@Array.getElem?_push
theorem tC:type_of%@Int.natCast_nonneg:=@Int.natCast_nonneg
theorem mM:type_of%@Nat.sub_zero:=@Nat.sub_zero
theorem vZ:type_of%@UInt8.lt_iff_toNat_lt:=@UInt8.lt_iff_toNat_lt
theorem wJ:type_of%@List.mem_cons_of_mem:=@List.mem_cons_of_mem
theorem wX:type_of%@List.length_pos_iff:=@List.length_pos_iff
theorem wY:type_of%@List.flatMap_append:=@List.flatMap_append
theorem wZ:type_of%@Int.toNat_of_nonneg:=@Int.toNat_of_nonneg
theorem jE:type_of%@or_false:=@or_false
theorem jA:type_of%@if_false:=@if_false
theorem Em:type_of%@Array.getElem?_eq_none:=@Array.getElem?_eq_none
theorem sZ:type_of%@List.drop_zero:=@List.drop_zero
theorem Ad:type_of%@List.length_replicate:=@List.length_replicate
theorem w9:type_of%@List.any_eq_true:=@List.any_eq_true
theorem wO:type_of%@Array.size_push:=@Array.size_push
theorem zH:type_of%@List.toList_toArray:=@List.toList_toArray
theorem zF:type_of%@List.append_toArray:=@List.append_toArray
theorem tF:type_of%@Nat.le_of_eq:=@Nat.le_of_eq
theorem su:type_of%@Nat.beq_refl:=@Nat.beq_refl
theorem zA:type_of%@UInt8.toNat_ofNat':=@UInt8.toNat_ofNat'
theorem wD:type_of%@Bool.and_assoc:=@Bool.and_assoc
theorem Ej:type_of%@Option.isNone_iff_eq_none:=@Option.isNone_iff_eq_none
theorem DZ:type_of%@Nat.shiftRight_eq_div_pow:=@Nat.shiftRight_eq_div_pow
theorem qm:type_of%@Int.not_le:=@Int.not_le
theorem Ae:type_of%@List.take_add_one:=@List.take_add_one
theorem zw:type_of%@List.ext_getElem?:=@List.ext_getElem?
theorem Af:type_of%@Bool.eq_false_iff:=@Bool.eq_false_iff
theorem En:type_of%@Bool.eq_false_or_eq_true:=@Bool.eq_false_or_eq_true
theorem wm:type_of%@List.all_cons:=@List.all_cons
theorem wh:type_of%@Bool.false_or:=@Bool.false_or
theorem DW:type_of%@decide_eq_false_iff_not:=@decide_eq_false_iff_not
theorem Eo:type_of%@Int.eq_ofNat_of_zero_le:=@Int.eq_ofNat_of_zero_le
theorem zh:type_of%@Nat.div_eq_of_lt:=@Nat.div_eq_of_lt
theorem Ep:type_of%@Option.map_eq_some_iff:=@Option.map_eq_some_iff
theorem wF:type_of%@Nat.succ_pos:=@Nat.succ_pos
theorem vV:type_of%@Nat.sub_self:=@Nat.sub_self
theorem zf:type_of%@Nat.mul_add_div:=@Nat.mul_add_div
theorem zn:type_of%@Nat.min_eq_left:=@Nat.min_eq_left
theorem Ag:type_of%@List.map_append:=@List.map_append
theorem zI:type_of%@List.all_append:=@List.all_append
theorem Er:type_of%@List.length_filter_le:=@List.length_filter_le
end Go.Proofs.YtocaiijbhepnnaaGreatDoor
namespace Go.Proofs.YtocaiijbhepnnaaGreatDoor.Am
noncomputable section
def sN {α:Type} (x:Nat) (k:Nat→α):α:=Bool.rec (k x) (k x) (Nat.ble x (nat_lit 0))
theorem p8 {α:Type} (x:Nat) (k:Nat→α):sN x k=k x:=by unfold sN;cases Nat.ble x (nat_lit 0)<;>rfl
structure S4 (α:Type)where
 a:α
 b:α
 c:α
 d:α
@[reducible] def E (α:Type):Nat→Type
  |0=>α
  |k+1=>S4 (E α k)
inductive D where
 |d0|d1|d2|d3
 deriving DecidableEq
inductive P where
 |z
 |s (d:D) (p:P)
def dig (n:Nat):D:=
 Bool.rec (Bool.rec (Bool.rec .d3 .d2 (Nat.beq n (nat_lit 2))) .d1 (Nat.beq n (nat_lit 1))) .d0 (Nat.beq n (nat_lit 0))
def path (k:Nat):Nat→P:=
 Nat.rec (motive:=fun _=>Nat→P) (fun _=> .z)
  (fun k ih n=> .s (dig (Nat.div n (Nat.pow (nat_lit 4) k))) (ih (Nat.mod n (Nat.pow (nat_lit 4) k)))) k
def XW {β:Type}:D→S4 β→β:=D.rec (motive:=fun _=>S4 β→β) S4.a S4.b S4.c S4.d
def updS {β:Type}:D→(β→β)→S4 β→S4 β:=D.rec (motive:=fun _=>(β→β)→S4 β→S4 β)
 (fun f e=>⟨f e.a,e.b,e.c,e.d⟩) (fun f e=>⟨e.a,f e.b,e.c,e.d⟩) (fun f e=>⟨e.a,e.b,f e.c,e.d⟩) (fun f e=>⟨e.a,e.b,e.c,f e.d⟩)
namespace E
variable {α:Type}
def get (k:Nat):P→E α k→α:=
 Nat.rec (motive:=fun k=>P→E α k→α) (fun _ e=>e)
  (fun k ih=>P.rec (motive:=fun _=>E α (Nat.succ k)→α) (fun e=>ih .z (S4.a e)) (fun d r _ e=>ih r (XW d e))) k
def put (x:α) (k:Nat):P→E α k→E α k:=
 Nat.rec (motive:=fun k=>P→E α k→E α k) (fun _ _=>x)
  (fun k ih=>P.rec (motive:=fun _=>E α (Nat.succ k)→E α (Nat.succ k)) (fun e=>e) (fun d r _ e=>updS d (ih r) e)) k
def rep (x:α) (k:Nat):E α k:=Nat.rec (motive:=fun k=>E α k) x (fun _ ih=>⟨ih,ih,ih,ih⟩) k
def grow (x:α) (k:Nat) (e:E α k):E α (Nat.succ k):=⟨e,rep x k,rep x k,rep x k⟩
end E
theorem aa6 {a b:Nat} (ha:a<4) (hb:b<4) (h:dig a=dig b):a=b:=by
 match a,b,ha,hb with
 |0,0,_,_|1,1,_,_|2,2,_,_|3,3,_,_=>rfl
 |0,1,_,_|0,2,_,_|0,3,_,_|1,0,_,_|1,2,_,_|1,3,_,_|2,0,_,_|2,1,_,_|2,3,_,_|3,0,_,_|3,1,_,_|3,2,_,_=>cases h
theorem Cb (k n:Nat):path (k+1) n= .s (dig (n/4^k)) (path k (n%4^k)):=rfl
theorem RS {β:Type} (d d':D) (f:β→β) (t:S4 β):XW d' (updS d f t)=if d'=d then f (XW d t)else XW d' t:=by cases d<;>cases d'<;>rfl
namespace E
variable {α:Type}
theorem C9 (k:Nat) (d:D) (p:P) (t:E α (k+1)):get (k+1) (.s d p) t=get k p (XW d t):=rfl
theorem adi (x:α) (k:Nat) (d:D) (p:P) (t:E α (k+1)):put x (k+1) (.s d p) t=updS d (put x k p) t:=rfl
theorem dV (x:α) (k i:Nat) (t:E α k):get k (path k i) (put x k (path k i) t)=x:=by
 induction k generalizing i with
 |zero=>rfl
 |succ k ih=>rw[Cb,C9,adi,RS,if_pos rfl];exact ih _ _
theorem fT (x:α) (k i j:Nat) (hi:i<4^k) (hj:j<4^k) (h:i≠j) (t:E α k):get k (path k j) (put x k (path k i) t)=get k (path k j) t:=by
 induction k generalizing i j with
 |zero=>simp at hi hj;omega
 |succ k ih=>
  rw[Cb,Cb,C9,adi,RS,C9];have hp:0<4^k:=Nat.pow_pos (by omega);have hi':i/4^k<4:=Nat.div_lt_of_lt_mul (by rw[Nat.pow_succ]at hi;exact hi);have hj':j/4^k<4:=Nat.div_lt_of_lt_mul (by rw[Nat.pow_succ]at hj;exact hj);split;·rename_i hd;have hm:=aa6 hj' hi' hd;rw[←hd];refine ih _ _ (Nat.mod_lt _ hp) (Nat.mod_lt _ hp) ?_ _;intro he;apply h;rw[←Nat.div_add_mod i (4^k),←Nat.div_add_mod j (4^k),he,hm]
  ·rfl
theorem wC (x:α) (k:Nat):∀(p:P),get k p (rep x k)=x:=by
 induction k with
 |zero=>intro p;rfl
 |succ k ih=>
  intro p;cases p with
  |z=>exact ih _
  |s d p=>rw[C9];cases d<;>exact ih _
theorem ahK (x:α) (k i:Nat) (hi:i<4^k) (e:E α k):get (k+1) (path (k+1) i) (grow x k e)=get k (path k i) e:=by rw[Cb,C9,Nat.div_eq_of_lt hi,Nat.mod_eq_of_lt hi];rfl
theorem aa7 (x:α) (k i:Nat) (hi:4^k≤i) (hj:i<4^(k+1)) (e:E α k):get (k+1) (path (k+1) i) (grow x k e)=x:=by
 rw[Cb,C9];have hp:0<4^k:=Nat.pow_pos (by omega);have h1:1≤i/4^k:=(Nat.one_le_div_iff hp).2 hi;have h2:i/4^k<4:=Nat.div_lt_of_lt_mul (by rw[Nat.pow_succ]at hj;exact hj);have:i/4^k=1∨i/4^k=2∨i/4^k=3:=by omega
 rcases this with h|h|h<;>rw[h]<;>exact wC _ _ _
end E
structure Str where
 len:Nat
 val:Nat
 deriving DecidableEq
namespace Str
def go:List UInt8→Nat→Nat→Str:=
 List.rec (motive:=fun _=>Nat→Nat→Str) (fun n v=>⟨n,v⟩)
  (fun b _ ih n v=>sN (Nat.add (Nat.mul v (nat_lit 256)) b.toNat) fun v'=>ih (Nat.succ n) v')
def of (b:ByteArray):Str:=go b.data.toList (nat_lit 0) (nat_lit 0)
def byte (s:Str) (i:Nat):Nat:=Nat.mod (Nat.shiftRight s.val (Nat.mul (nat_lit 8) (Nat.sub (Nat.sub s.len (nat_lit 1)) i))) (nat_lit 256)
def sub (s:Str) (a b:Nat):Str:=
 ⟨Nat.sub b a,Nat.mod (Nat.shiftRight s.val (Nat.mul (nat_lit 8) (Nat.sub s.len b))) (Nat.pow (nat_lit 2) (Nat.mul (nat_lit 8) (Nat.sub b a)))⟩
def app (a b:Str):Str:=⟨Nat.add a.len b.len,Nat.add (Nat.shiftLeft a.val (Nat.mul (nat_lit 8) b.len)) b.val⟩
def eq (a b:Str):Bool:=Bool.rec false (Nat.beq a.val b.val) (Nat.beq a.len b.len)
end Str
inductive AV where
 |bad
 |unk
 |bool (b:Bool)
 |int (k:IntKind) (n:Int)
 |str (s:Str)
 |ptr (b off:Nat)
 |oG
 |slice (b off len es:Nat) (z:Bool)
 |jP
 |map (b:Nat)
 |rZ
 |fn (f:Nat) (first BK:AV)
 |xQ (l:Nat)
 |r9
 |uh (t:Nat) (v:AV)
 |qP
 |agg (cs:AV)
 |iq (vs:AV)
 |nil
 |cons (h t:AV)
inductive xR where
 |cells (el:Nat) (ro:Bool) (n d:Nat) (t:E AV d)
 |BH (k:IntKind) (n clock:Nat) (t:E (Option AV) 11) (lk:Nat)
 |smap (n clock:Nat) (l:List (Str×AV))
 |iter (s:Str) (pos:Nat)
 |loop (st:LoopState) (pend:Option Code) (fn:Nat) (env:S4 (S4 (S4 (S4 AV)))) (ps:List Tmp) (assign body:Code) (wH:Nat)
 |wH
 |taken
def hd:Nat:=nat_lit 8
structure H where
 t:E (Option xR) hd
 next:Nat
 ln:Nat
 log:List Nat
def H.get (h:H) (b:Nat):Option xR:=E.get hd (path hd b) h.t
def H.room (h:H):Bool:=Nat.ble (Nat.succ h.next) (nat_lit 65536)
def H.set (h:H) (b:Nat) (x:xR):H:=⟨E.put (some x) hd (path hd b) h.t,h.next,Nat.succ h.ln,b::h.log⟩
def H.kill (h:H) (b:Nat):H:=⟨E.put none hd (path hd b) h.t,h.next,Nat.succ h.ln,b::h.log⟩
def H.new (h:H) (x:xR):H:=⟨E.put (some x) hd (path hd h.next) h.t,Nat.succ h.next,h.ln,h.log⟩
def h00 (n:Nat):H:=⟨E.rep none hd,n,nat_lit 0,[]⟩
end
noncomputable section
abbrev Env:=S4 (S4 (S4 (S4 AV)))
structure EV where
 f:Env→AV
structure PS where
 f:AV→Env→Env
structure U1 where
 f:AV→AV
structure B2 where
 f:AV→AV→AV
def Pq:Env:=E.rep AV.bad 4
def ahL:List EV:=[
 ⟨fun e=>e.a.a.a.a⟩,
 ⟨fun e=>e.a.a.a.b⟩,
 ⟨fun e=>e.a.a.a.c⟩,
 ⟨fun e=>e.a.a.a.d⟩,
 ⟨fun e=>e.a.a.b.a⟩,
 ⟨fun e=>e.a.a.b.b⟩,
 ⟨fun e=>e.a.a.b.c⟩,
 ⟨fun e=>e.a.a.b.d⟩,
 ⟨fun e=>e.a.a.c.a⟩,
 ⟨fun e=>e.a.a.c.b⟩,
 ⟨fun e=>e.a.a.c.c⟩,
 ⟨fun e=>e.a.a.c.d⟩,
 ⟨fun e=>e.a.a.d.a⟩,
 ⟨fun e=>e.a.a.d.b⟩,
 ⟨fun e=>e.a.a.d.c⟩,
 ⟨fun e=>e.a.a.d.d⟩]
def ahM:List EV:=[
 ⟨fun e=>e.a.b.a.a⟩,
 ⟨fun e=>e.a.b.a.b⟩,
 ⟨fun e=>e.a.b.a.c⟩,
 ⟨fun e=>e.a.b.a.d⟩,
 ⟨fun e=>e.a.b.b.a⟩,
 ⟨fun e=>e.a.b.b.b⟩,
 ⟨fun e=>e.a.b.b.c⟩,
 ⟨fun e=>e.a.b.b.d⟩,
 ⟨fun e=>e.a.b.c.a⟩,
 ⟨fun e=>e.a.b.c.b⟩,
 ⟨fun e=>e.a.b.c.c⟩,
 ⟨fun e=>e.a.b.c.d⟩,
 ⟨fun e=>e.a.b.d.a⟩,
 ⟨fun e=>e.a.b.d.b⟩,
 ⟨fun e=>e.a.b.d.c⟩,
 ⟨fun e=>e.a.b.d.d⟩]
def ahN:List EV:=[
 ⟨fun e=>e.a.c.a.a⟩,
 ⟨fun e=>e.a.c.a.b⟩,
 ⟨fun e=>e.a.c.a.c⟩,
 ⟨fun e=>e.a.c.a.d⟩,
 ⟨fun e=>e.a.c.b.a⟩,
 ⟨fun e=>e.a.c.b.b⟩,
 ⟨fun e=>e.a.c.b.c⟩,
 ⟨fun e=>e.a.c.b.d⟩,
 ⟨fun e=>e.a.c.c.a⟩,
 ⟨fun e=>e.a.c.c.b⟩,
 ⟨fun e=>e.a.c.c.c⟩,
 ⟨fun e=>e.a.c.c.d⟩,
 ⟨fun e=>e.a.c.d.a⟩,
 ⟨fun e=>e.a.c.d.b⟩,
 ⟨fun e=>e.a.c.d.c⟩,
 ⟨fun e=>e.a.c.d.d⟩]
def ahO:List EV:=[
 ⟨fun e=>e.a.d.a.a⟩,
 ⟨fun e=>e.a.d.a.b⟩,
 ⟨fun e=>e.a.d.a.c⟩,
 ⟨fun e=>e.a.d.a.d⟩,
 ⟨fun e=>e.a.d.b.a⟩,
 ⟨fun e=>e.a.d.b.b⟩,
 ⟨fun e=>e.a.d.b.c⟩,
 ⟨fun e=>e.a.d.b.d⟩,
 ⟨fun e=>e.a.d.c.a⟩,
 ⟨fun e=>e.a.d.c.b⟩,
 ⟨fun e=>e.a.d.c.c⟩,
 ⟨fun e=>e.a.d.c.d⟩,
 ⟨fun e=>e.a.d.d.a⟩,
 ⟨fun e=>e.a.d.d.b⟩,
 ⟨fun e=>e.a.d.d.c⟩,
 ⟨fun e=>e.a.d.d.d⟩]
def ahP:List EV:=[
 ⟨fun e=>e.b.a.a.a⟩,
 ⟨fun e=>e.b.a.a.b⟩,
 ⟨fun e=>e.b.a.a.c⟩,
 ⟨fun e=>e.b.a.a.d⟩,
 ⟨fun e=>e.b.a.b.a⟩,
 ⟨fun e=>e.b.a.b.b⟩,
 ⟨fun e=>e.b.a.b.c⟩,
 ⟨fun e=>e.b.a.b.d⟩,
 ⟨fun e=>e.b.a.c.a⟩,
 ⟨fun e=>e.b.a.c.b⟩,
 ⟨fun e=>e.b.a.c.c⟩,
 ⟨fun e=>e.b.a.c.d⟩,
 ⟨fun e=>e.b.a.d.a⟩,
 ⟨fun e=>e.b.a.d.b⟩,
 ⟨fun e=>e.b.a.d.c⟩,
 ⟨fun e=>e.b.a.d.d⟩]
def ahQ:List EV:=[
 ⟨fun e=>e.b.b.a.a⟩,
 ⟨fun e=>e.b.b.a.b⟩,
 ⟨fun e=>e.b.b.a.c⟩,
 ⟨fun e=>e.b.b.a.d⟩,
 ⟨fun e=>e.b.b.b.a⟩,
 ⟨fun e=>e.b.b.b.b⟩,
 ⟨fun e=>e.b.b.b.c⟩,
 ⟨fun e=>e.b.b.b.d⟩,
 ⟨fun e=>e.b.b.c.a⟩,
 ⟨fun e=>e.b.b.c.b⟩,
 ⟨fun e=>e.b.b.c.c⟩,
 ⟨fun e=>e.b.b.c.d⟩,
 ⟨fun e=>e.b.b.d.a⟩,
 ⟨fun e=>e.b.b.d.b⟩,
 ⟨fun e=>e.b.b.d.c⟩,
 ⟨fun e=>e.b.b.d.d⟩]
def ahR:List EV:=[
 ⟨fun e=>e.b.c.a.a⟩,
 ⟨fun e=>e.b.c.a.b⟩,
 ⟨fun e=>e.b.c.a.c⟩,
 ⟨fun e=>e.b.c.a.d⟩,
 ⟨fun e=>e.b.c.b.a⟩,
 ⟨fun e=>e.b.c.b.b⟩,
 ⟨fun e=>e.b.c.b.c⟩,
 ⟨fun e=>e.b.c.b.d⟩,
 ⟨fun e=>e.b.c.c.a⟩,
 ⟨fun e=>e.b.c.c.b⟩,
 ⟨fun e=>e.b.c.c.c⟩,
 ⟨fun e=>e.b.c.c.d⟩,
 ⟨fun e=>e.b.c.d.a⟩,
 ⟨fun e=>e.b.c.d.b⟩,
 ⟨fun e=>e.b.c.d.c⟩,
 ⟨fun e=>e.b.c.d.d⟩]
def ahS:List EV:=[
 ⟨fun e=>e.b.d.a.a⟩,
 ⟨fun e=>e.b.d.a.b⟩,
 ⟨fun e=>e.b.d.a.c⟩,
 ⟨fun e=>e.b.d.a.d⟩,
 ⟨fun e=>e.b.d.b.a⟩,
 ⟨fun e=>e.b.d.b.b⟩,
 ⟨fun e=>e.b.d.b.c⟩,
 ⟨fun e=>e.b.d.b.d⟩,
 ⟨fun e=>e.b.d.c.a⟩,
 ⟨fun e=>e.b.d.c.b⟩,
 ⟨fun e=>e.b.d.c.c⟩,
 ⟨fun e=>e.b.d.c.d⟩,
 ⟨fun e=>e.b.d.d.a⟩,
 ⟨fun e=>e.b.d.d.b⟩,
 ⟨fun e=>e.b.d.d.c⟩,
 ⟨fun e=>e.b.d.d.d⟩]
def ahT:List EV:=[
 ⟨fun e=>e.c.a.a.a⟩,
 ⟨fun e=>e.c.a.a.b⟩,
 ⟨fun e=>e.c.a.a.c⟩,
 ⟨fun e=>e.c.a.a.d⟩,
 ⟨fun e=>e.c.a.b.a⟩,
 ⟨fun e=>e.c.a.b.b⟩,
 ⟨fun e=>e.c.a.b.c⟩,
 ⟨fun e=>e.c.a.b.d⟩,
 ⟨fun e=>e.c.a.c.a⟩,
 ⟨fun e=>e.c.a.c.b⟩,
 ⟨fun e=>e.c.a.c.c⟩,
 ⟨fun e=>e.c.a.c.d⟩,
 ⟨fun e=>e.c.a.d.a⟩,
 ⟨fun e=>e.c.a.d.b⟩,
 ⟨fun e=>e.c.a.d.c⟩,
 ⟨fun e=>e.c.a.d.d⟩]
def ahU:List EV:=[
 ⟨fun e=>e.c.b.a.a⟩,
 ⟨fun e=>e.c.b.a.b⟩,
 ⟨fun e=>e.c.b.a.c⟩,
 ⟨fun e=>e.c.b.a.d⟩,
 ⟨fun e=>e.c.b.b.a⟩,
 ⟨fun e=>e.c.b.b.b⟩,
 ⟨fun e=>e.c.b.b.c⟩,
 ⟨fun e=>e.c.b.b.d⟩,
 ⟨fun e=>e.c.b.c.a⟩,
 ⟨fun e=>e.c.b.c.b⟩,
 ⟨fun e=>e.c.b.c.c⟩,
 ⟨fun e=>e.c.b.c.d⟩,
 ⟨fun e=>e.c.b.d.a⟩,
 ⟨fun e=>e.c.b.d.b⟩,
 ⟨fun e=>e.c.b.d.c⟩,
 ⟨fun e=>e.c.b.d.d⟩]
def aeJ:List EV:=[
 ⟨fun e=>e.c.c.a.a⟩,
 ⟨fun e=>e.c.c.a.b⟩,
 ⟨fun e=>e.c.c.a.c⟩,
 ⟨fun e=>e.c.c.a.d⟩,
 ⟨fun e=>e.c.c.b.a⟩,
 ⟨fun e=>e.c.c.b.b⟩,
 ⟨fun e=>e.c.c.b.c⟩,
 ⟨fun e=>e.c.c.b.d⟩,
 ⟨fun e=>e.c.c.c.a⟩,
 ⟨fun e=>e.c.c.c.b⟩,
 ⟨fun e=>e.c.c.c.c⟩,
 ⟨fun e=>e.c.c.c.d⟩,
 ⟨fun e=>e.c.c.d.a⟩,
 ⟨fun e=>e.c.c.d.b⟩,
 ⟨fun e=>e.c.c.d.c⟩,
 ⟨fun e=>e.c.c.d.d⟩]
def aeK:List EV:=[
 ⟨fun e=>e.c.d.a.a⟩,
 ⟨fun e=>e.c.d.a.b⟩,
 ⟨fun e=>e.c.d.a.c⟩,
 ⟨fun e=>e.c.d.a.d⟩,
 ⟨fun e=>e.c.d.b.a⟩,
 ⟨fun e=>e.c.d.b.b⟩,
 ⟨fun e=>e.c.d.b.c⟩,
 ⟨fun e=>e.c.d.b.d⟩,
 ⟨fun e=>e.c.d.c.a⟩,
 ⟨fun e=>e.c.d.c.b⟩,
 ⟨fun e=>e.c.d.c.c⟩,
 ⟨fun e=>e.c.d.c.d⟩,
 ⟨fun e=>e.c.d.d.a⟩,
 ⟨fun e=>e.c.d.d.b⟩,
 ⟨fun e=>e.c.d.d.c⟩,
 ⟨fun e=>e.c.d.d.d⟩]
def aeL:List EV:=[
 ⟨fun e=>e.d.a.a.a⟩,
 ⟨fun e=>e.d.a.a.b⟩,
 ⟨fun e=>e.d.a.a.c⟩,
 ⟨fun e=>e.d.a.a.d⟩,
 ⟨fun e=>e.d.a.b.a⟩,
 ⟨fun e=>e.d.a.b.b⟩,
 ⟨fun e=>e.d.a.b.c⟩,
 ⟨fun e=>e.d.a.b.d⟩,
 ⟨fun e=>e.d.a.c.a⟩,
 ⟨fun e=>e.d.a.c.b⟩,
 ⟨fun e=>e.d.a.c.c⟩,
 ⟨fun e=>e.d.a.c.d⟩,
 ⟨fun e=>e.d.a.d.a⟩,
 ⟨fun e=>e.d.a.d.b⟩,
 ⟨fun e=>e.d.a.d.c⟩,
 ⟨fun e=>e.d.a.d.d⟩]
def aeM:List EV:=[
 ⟨fun e=>e.d.b.a.a⟩,
 ⟨fun e=>e.d.b.a.b⟩,
 ⟨fun e=>e.d.b.a.c⟩,
 ⟨fun e=>e.d.b.a.d⟩,
 ⟨fun e=>e.d.b.b.a⟩,
 ⟨fun e=>e.d.b.b.b⟩,
 ⟨fun e=>e.d.b.b.c⟩,
 ⟨fun e=>e.d.b.b.d⟩,
 ⟨fun e=>e.d.b.c.a⟩,
 ⟨fun e=>e.d.b.c.b⟩,
 ⟨fun e=>e.d.b.c.c⟩,
 ⟨fun e=>e.d.b.c.d⟩,
 ⟨fun e=>e.d.b.d.a⟩,
 ⟨fun e=>e.d.b.d.b⟩,
 ⟨fun e=>e.d.b.d.c⟩,
 ⟨fun e=>e.d.b.d.d⟩]
def aeN:List EV:=[
 ⟨fun e=>e.d.c.a.a⟩,
 ⟨fun e=>e.d.c.a.b⟩,
 ⟨fun e=>e.d.c.a.c⟩,
 ⟨fun e=>e.d.c.a.d⟩,
 ⟨fun e=>e.d.c.b.a⟩,
 ⟨fun e=>e.d.c.b.b⟩,
 ⟨fun e=>e.d.c.b.c⟩,
 ⟨fun e=>e.d.c.b.d⟩,
 ⟨fun e=>e.d.c.c.a⟩,
 ⟨fun e=>e.d.c.c.b⟩,
 ⟨fun e=>e.d.c.c.c⟩,
 ⟨fun e=>e.d.c.c.d⟩,
 ⟨fun e=>e.d.c.d.a⟩,
 ⟨fun e=>e.d.c.d.b⟩,
 ⟨fun e=>e.d.c.d.c⟩,
 ⟨fun e=>e.d.c.d.d⟩]
def aeO:List EV:=[
 ⟨fun e=>e.d.d.a.a⟩,
 ⟨fun e=>e.d.d.a.b⟩,
 ⟨fun e=>e.d.d.a.c⟩,
 ⟨fun e=>e.d.d.a.d⟩,
 ⟨fun e=>e.d.d.b.a⟩,
 ⟨fun e=>e.d.d.b.b⟩,
 ⟨fun e=>e.d.d.b.c⟩,
 ⟨fun e=>e.d.d.b.d⟩,
 ⟨fun e=>e.d.d.c.a⟩,
 ⟨fun e=>e.d.d.c.b⟩,
 ⟨fun e=>e.d.d.c.c⟩,
 ⟨fun e=>e.d.d.c.d⟩,
 ⟨fun e=>e.d.d.d.a⟩,
 ⟨fun e=>e.d.d.d.b⟩,
 ⟨fun e=>e.d.d.d.c⟩,
 ⟨fun e=>e.d.d.d.d⟩]
def ahV:List PS:=[
 ⟨fun v e=>⟨⟨⟨⟨v,e.a.a.a.b,e.a.a.a.c,e.a.a.a.d⟩,e.a.a.b,e.a.a.c,e.a.a.d⟩,e.a.b,e.a.c,e.a.d⟩,e.b,e.c,e.d⟩⟩,
 ⟨fun v e=>⟨⟨⟨⟨e.a.a.a.a,v,e.a.a.a.c,e.a.a.a.d⟩,e.a.a.b,e.a.a.c,e.a.a.d⟩,e.a.b,e.a.c,e.a.d⟩,e.b,e.c,e.d⟩⟩,
 ⟨fun v e=>⟨⟨⟨⟨e.a.a.a.a,e.a.a.a.b,v,e.a.a.a.d⟩,e.a.a.b,e.a.a.c,e.a.a.d⟩,e.a.b,e.a.c,e.a.d⟩,e.b,e.c,e.d⟩⟩,
 ⟨fun v e=>⟨⟨⟨⟨e.a.a.a.a,e.a.a.a.b,e.a.a.a.c,v⟩,e.a.a.b,e.a.a.c,e.a.a.d⟩,e.a.b,e.a.c,e.a.d⟩,e.b,e.c,e.d⟩⟩,
 ⟨fun v e=>⟨⟨⟨e.a.a.a,⟨v,e.a.a.b.b,e.a.a.b.c,e.a.a.b.d⟩,e.a.a.c,e.a.a.d⟩,e.a.b,e.a.c,e.a.d⟩,e.b,e.c,e.d⟩⟩,
 ⟨fun v e=>⟨⟨⟨e.a.a.a,⟨e.a.a.b.a,v,e.a.a.b.c,e.a.a.b.d⟩,e.a.a.c,e.a.a.d⟩,e.a.b,e.a.c,e.a.d⟩,e.b,e.c,e.d⟩⟩,
 ⟨fun v e=>⟨⟨⟨e.a.a.a,⟨e.a.a.b.a,e.a.a.b.b,v,e.a.a.b.d⟩,e.a.a.c,e.a.a.d⟩,e.a.b,e.a.c,e.a.d⟩,e.b,e.c,e.d⟩⟩,
 ⟨fun v e=>⟨⟨⟨e.a.a.a,⟨e.a.a.b.a,e.a.a.b.b,e.a.a.b.c,v⟩,e.a.a.c,e.a.a.d⟩,e.a.b,e.a.c,e.a.d⟩,e.b,e.c,e.d⟩⟩,
 ⟨fun v e=>⟨⟨⟨e.a.a.a,e.a.a.b,⟨v,e.a.a.c.b,e.a.a.c.c,e.a.a.c.d⟩,e.a.a.d⟩,e.a.b,e.a.c,e.a.d⟩,e.b,e.c,e.d⟩⟩,
 ⟨fun v e=>⟨⟨⟨e.a.a.a,e.a.a.b,⟨e.a.a.c.a,v,e.a.a.c.c,e.a.a.c.d⟩,e.a.a.d⟩,e.a.b,e.a.c,e.a.d⟩,e.b,e.c,e.d⟩⟩,
 ⟨fun v e=>⟨⟨⟨e.a.a.a,e.a.a.b,⟨e.a.a.c.a,e.a.a.c.b,v,e.a.a.c.d⟩,e.a.a.d⟩,e.a.b,e.a.c,e.a.d⟩,e.b,e.c,e.d⟩⟩,
 ⟨fun v e=>⟨⟨⟨e.a.a.a,e.a.a.b,⟨e.a.a.c.a,e.a.a.c.b,e.a.a.c.c,v⟩,e.a.a.d⟩,e.a.b,e.a.c,e.a.d⟩,e.b,e.c,e.d⟩⟩,
 ⟨fun v e=>⟨⟨⟨e.a.a.a,e.a.a.b,e.a.a.c,⟨v,e.a.a.d.b,e.a.a.d.c,e.a.a.d.d⟩⟩,e.a.b,e.a.c,e.a.d⟩,e.b,e.c,e.d⟩⟩,
 ⟨fun v e=>⟨⟨⟨e.a.a.a,e.a.a.b,e.a.a.c,⟨e.a.a.d.a,v,e.a.a.d.c,e.a.a.d.d⟩⟩,e.a.b,e.a.c,e.a.d⟩,e.b,e.c,e.d⟩⟩,
 ⟨fun v e=>⟨⟨⟨e.a.a.a,e.a.a.b,e.a.a.c,⟨e.a.a.d.a,e.a.a.d.b,v,e.a.a.d.d⟩⟩,e.a.b,e.a.c,e.a.d⟩,e.b,e.c,e.d⟩⟩,
 ⟨fun v e=>⟨⟨⟨e.a.a.a,e.a.a.b,e.a.a.c,⟨e.a.a.d.a,e.a.a.d.b,e.a.a.d.c,v⟩⟩,e.a.b,e.a.c,e.a.d⟩,e.b,e.c,e.d⟩⟩]
def ahW:List PS:=[
 ⟨fun v e=>⟨⟨e.a.a,⟨⟨v,e.a.b.a.b,e.a.b.a.c,e.a.b.a.d⟩,e.a.b.b,e.a.b.c,e.a.b.d⟩,e.a.c,e.a.d⟩,e.b,e.c,e.d⟩⟩,
 ⟨fun v e=>⟨⟨e.a.a,⟨⟨e.a.b.a.a,v,e.a.b.a.c,e.a.b.a.d⟩,e.a.b.b,e.a.b.c,e.a.b.d⟩,e.a.c,e.a.d⟩,e.b,e.c,e.d⟩⟩,
 ⟨fun v e=>⟨⟨e.a.a,⟨⟨e.a.b.a.a,e.a.b.a.b,v,e.a.b.a.d⟩,e.a.b.b,e.a.b.c,e.a.b.d⟩,e.a.c,e.a.d⟩,e.b,e.c,e.d⟩⟩,
 ⟨fun v e=>⟨⟨e.a.a,⟨⟨e.a.b.a.a,e.a.b.a.b,e.a.b.a.c,v⟩,e.a.b.b,e.a.b.c,e.a.b.d⟩,e.a.c,e.a.d⟩,e.b,e.c,e.d⟩⟩,
 ⟨fun v e=>⟨⟨e.a.a,⟨e.a.b.a,⟨v,e.a.b.b.b,e.a.b.b.c,e.a.b.b.d⟩,e.a.b.c,e.a.b.d⟩,e.a.c,e.a.d⟩,e.b,e.c,e.d⟩⟩,
 ⟨fun v e=>⟨⟨e.a.a,⟨e.a.b.a,⟨e.a.b.b.a,v,e.a.b.b.c,e.a.b.b.d⟩,e.a.b.c,e.a.b.d⟩,e.a.c,e.a.d⟩,e.b,e.c,e.d⟩⟩,
 ⟨fun v e=>⟨⟨e.a.a,⟨e.a.b.a,⟨e.a.b.b.a,e.a.b.b.b,v,e.a.b.b.d⟩,e.a.b.c,e.a.b.d⟩,e.a.c,e.a.d⟩,e.b,e.c,e.d⟩⟩,
 ⟨fun v e=>⟨⟨e.a.a,⟨e.a.b.a,⟨e.a.b.b.a,e.a.b.b.b,e.a.b.b.c,v⟩,e.a.b.c,e.a.b.d⟩,e.a.c,e.a.d⟩,e.b,e.c,e.d⟩⟩,
 ⟨fun v e=>⟨⟨e.a.a,⟨e.a.b.a,e.a.b.b,⟨v,e.a.b.c.b,e.a.b.c.c,e.a.b.c.d⟩,e.a.b.d⟩,e.a.c,e.a.d⟩,e.b,e.c,e.d⟩⟩,
 ⟨fun v e=>⟨⟨e.a.a,⟨e.a.b.a,e.a.b.b,⟨e.a.b.c.a,v,e.a.b.c.c,e.a.b.c.d⟩,e.a.b.d⟩,e.a.c,e.a.d⟩,e.b,e.c,e.d⟩⟩,
 ⟨fun v e=>⟨⟨e.a.a,⟨e.a.b.a,e.a.b.b,⟨e.a.b.c.a,e.a.b.c.b,v,e.a.b.c.d⟩,e.a.b.d⟩,e.a.c,e.a.d⟩,e.b,e.c,e.d⟩⟩,
 ⟨fun v e=>⟨⟨e.a.a,⟨e.a.b.a,e.a.b.b,⟨e.a.b.c.a,e.a.b.c.b,e.a.b.c.c,v⟩,e.a.b.d⟩,e.a.c,e.a.d⟩,e.b,e.c,e.d⟩⟩,
 ⟨fun v e=>⟨⟨e.a.a,⟨e.a.b.a,e.a.b.b,e.a.b.c,⟨v,e.a.b.d.b,e.a.b.d.c,e.a.b.d.d⟩⟩,e.a.c,e.a.d⟩,e.b,e.c,e.d⟩⟩,
 ⟨fun v e=>⟨⟨e.a.a,⟨e.a.b.a,e.a.b.b,e.a.b.c,⟨e.a.b.d.a,v,e.a.b.d.c,e.a.b.d.d⟩⟩,e.a.c,e.a.d⟩,e.b,e.c,e.d⟩⟩,
 ⟨fun v e=>⟨⟨e.a.a,⟨e.a.b.a,e.a.b.b,e.a.b.c,⟨e.a.b.d.a,e.a.b.d.b,v,e.a.b.d.d⟩⟩,e.a.c,e.a.d⟩,e.b,e.c,e.d⟩⟩,
 ⟨fun v e=>⟨⟨e.a.a,⟨e.a.b.a,e.a.b.b,e.a.b.c,⟨e.a.b.d.a,e.a.b.d.b,e.a.b.d.c,v⟩⟩,e.a.c,e.a.d⟩,e.b,e.c,e.d⟩⟩]
def ahX:List PS:=[
 ⟨fun v e=>⟨⟨e.a.a,e.a.b,⟨⟨v,e.a.c.a.b,e.a.c.a.c,e.a.c.a.d⟩,e.a.c.b,e.a.c.c,e.a.c.d⟩,e.a.d⟩,e.b,e.c,e.d⟩⟩,
 ⟨fun v e=>⟨⟨e.a.a,e.a.b,⟨⟨e.a.c.a.a,v,e.a.c.a.c,e.a.c.a.d⟩,e.a.c.b,e.a.c.c,e.a.c.d⟩,e.a.d⟩,e.b,e.c,e.d⟩⟩,
 ⟨fun v e=>⟨⟨e.a.a,e.a.b,⟨⟨e.a.c.a.a,e.a.c.a.b,v,e.a.c.a.d⟩,e.a.c.b,e.a.c.c,e.a.c.d⟩,e.a.d⟩,e.b,e.c,e.d⟩⟩,
 ⟨fun v e=>⟨⟨e.a.a,e.a.b,⟨⟨e.a.c.a.a,e.a.c.a.b,e.a.c.a.c,v⟩,e.a.c.b,e.a.c.c,e.a.c.d⟩,e.a.d⟩,e.b,e.c,e.d⟩⟩,
 ⟨fun v e=>⟨⟨e.a.a,e.a.b,⟨e.a.c.a,⟨v,e.a.c.b.b,e.a.c.b.c,e.a.c.b.d⟩,e.a.c.c,e.a.c.d⟩,e.a.d⟩,e.b,e.c,e.d⟩⟩,
 ⟨fun v e=>⟨⟨e.a.a,e.a.b,⟨e.a.c.a,⟨e.a.c.b.a,v,e.a.c.b.c,e.a.c.b.d⟩,e.a.c.c,e.a.c.d⟩,e.a.d⟩,e.b,e.c,e.d⟩⟩,
 ⟨fun v e=>⟨⟨e.a.a,e.a.b,⟨e.a.c.a,⟨e.a.c.b.a,e.a.c.b.b,v,e.a.c.b.d⟩,e.a.c.c,e.a.c.d⟩,e.a.d⟩,e.b,e.c,e.d⟩⟩,
 ⟨fun v e=>⟨⟨e.a.a,e.a.b,⟨e.a.c.a,⟨e.a.c.b.a,e.a.c.b.b,e.a.c.b.c,v⟩,e.a.c.c,e.a.c.d⟩,e.a.d⟩,e.b,e.c,e.d⟩⟩,
 ⟨fun v e=>⟨⟨e.a.a,e.a.b,⟨e.a.c.a,e.a.c.b,⟨v,e.a.c.c.b,e.a.c.c.c,e.a.c.c.d⟩,e.a.c.d⟩,e.a.d⟩,e.b,e.c,e.d⟩⟩,
 ⟨fun v e=>⟨⟨e.a.a,e.a.b,⟨e.a.c.a,e.a.c.b,⟨e.a.c.c.a,v,e.a.c.c.c,e.a.c.c.d⟩,e.a.c.d⟩,e.a.d⟩,e.b,e.c,e.d⟩⟩,
 ⟨fun v e=>⟨⟨e.a.a,e.a.b,⟨e.a.c.a,e.a.c.b,⟨e.a.c.c.a,e.a.c.c.b,v,e.a.c.c.d⟩,e.a.c.d⟩,e.a.d⟩,e.b,e.c,e.d⟩⟩,
 ⟨fun v e=>⟨⟨e.a.a,e.a.b,⟨e.a.c.a,e.a.c.b,⟨e.a.c.c.a,e.a.c.c.b,e.a.c.c.c,v⟩,e.a.c.d⟩,e.a.d⟩,e.b,e.c,e.d⟩⟩,
 ⟨fun v e=>⟨⟨e.a.a,e.a.b,⟨e.a.c.a,e.a.c.b,e.a.c.c,⟨v,e.a.c.d.b,e.a.c.d.c,e.a.c.d.d⟩⟩,e.a.d⟩,e.b,e.c,e.d⟩⟩,
 ⟨fun v e=>⟨⟨e.a.a,e.a.b,⟨e.a.c.a,e.a.c.b,e.a.c.c,⟨e.a.c.d.a,v,e.a.c.d.c,e.a.c.d.d⟩⟩,e.a.d⟩,e.b,e.c,e.d⟩⟩,
 ⟨fun v e=>⟨⟨e.a.a,e.a.b,⟨e.a.c.a,e.a.c.b,e.a.c.c,⟨e.a.c.d.a,e.a.c.d.b,v,e.a.c.d.d⟩⟩,e.a.d⟩,e.b,e.c,e.d⟩⟩,
 ⟨fun v e=>⟨⟨e.a.a,e.a.b,⟨e.a.c.a,e.a.c.b,e.a.c.c,⟨e.a.c.d.a,e.a.c.d.b,e.a.c.d.c,v⟩⟩,e.a.d⟩,e.b,e.c,e.d⟩⟩]
def ahY:List PS:=[
 ⟨fun v e=>⟨⟨e.a.a,e.a.b,e.a.c,⟨⟨v,e.a.d.a.b,e.a.d.a.c,e.a.d.a.d⟩,e.a.d.b,e.a.d.c,e.a.d.d⟩⟩,e.b,e.c,e.d⟩⟩,
 ⟨fun v e=>⟨⟨e.a.a,e.a.b,e.a.c,⟨⟨e.a.d.a.a,v,e.a.d.a.c,e.a.d.a.d⟩,e.a.d.b,e.a.d.c,e.a.d.d⟩⟩,e.b,e.c,e.d⟩⟩,
 ⟨fun v e=>⟨⟨e.a.a,e.a.b,e.a.c,⟨⟨e.a.d.a.a,e.a.d.a.b,v,e.a.d.a.d⟩,e.a.d.b,e.a.d.c,e.a.d.d⟩⟩,e.b,e.c,e.d⟩⟩,
 ⟨fun v e=>⟨⟨e.a.a,e.a.b,e.a.c,⟨⟨e.a.d.a.a,e.a.d.a.b,e.a.d.a.c,v⟩,e.a.d.b,e.a.d.c,e.a.d.d⟩⟩,e.b,e.c,e.d⟩⟩,
 ⟨fun v e=>⟨⟨e.a.a,e.a.b,e.a.c,⟨e.a.d.a,⟨v,e.a.d.b.b,e.a.d.b.c,e.a.d.b.d⟩,e.a.d.c,e.a.d.d⟩⟩,e.b,e.c,e.d⟩⟩,
 ⟨fun v e=>⟨⟨e.a.a,e.a.b,e.a.c,⟨e.a.d.a,⟨e.a.d.b.a,v,e.a.d.b.c,e.a.d.b.d⟩,e.a.d.c,e.a.d.d⟩⟩,e.b,e.c,e.d⟩⟩,
 ⟨fun v e=>⟨⟨e.a.a,e.a.b,e.a.c,⟨e.a.d.a,⟨e.a.d.b.a,e.a.d.b.b,v,e.a.d.b.d⟩,e.a.d.c,e.a.d.d⟩⟩,e.b,e.c,e.d⟩⟩,
 ⟨fun v e=>⟨⟨e.a.a,e.a.b,e.a.c,⟨e.a.d.a,⟨e.a.d.b.a,e.a.d.b.b,e.a.d.b.c,v⟩,e.a.d.c,e.a.d.d⟩⟩,e.b,e.c,e.d⟩⟩,
 ⟨fun v e=>⟨⟨e.a.a,e.a.b,e.a.c,⟨e.a.d.a,e.a.d.b,⟨v,e.a.d.c.b,e.a.d.c.c,e.a.d.c.d⟩,e.a.d.d⟩⟩,e.b,e.c,e.d⟩⟩,
 ⟨fun v e=>⟨⟨e.a.a,e.a.b,e.a.c,⟨e.a.d.a,e.a.d.b,⟨e.a.d.c.a,v,e.a.d.c.c,e.a.d.c.d⟩,e.a.d.d⟩⟩,e.b,e.c,e.d⟩⟩,
 ⟨fun v e=>⟨⟨e.a.a,e.a.b,e.a.c,⟨e.a.d.a,e.a.d.b,⟨e.a.d.c.a,e.a.d.c.b,v,e.a.d.c.d⟩,e.a.d.d⟩⟩,e.b,e.c,e.d⟩⟩,
 ⟨fun v e=>⟨⟨e.a.a,e.a.b,e.a.c,⟨e.a.d.a,e.a.d.b,⟨e.a.d.c.a,e.a.d.c.b,e.a.d.c.c,v⟩,e.a.d.d⟩⟩,e.b,e.c,e.d⟩⟩,
 ⟨fun v e=>⟨⟨e.a.a,e.a.b,e.a.c,⟨e.a.d.a,e.a.d.b,e.a.d.c,⟨v,e.a.d.d.b,e.a.d.d.c,e.a.d.d.d⟩⟩⟩,e.b,e.c,e.d⟩⟩,
 ⟨fun v e=>⟨⟨e.a.a,e.a.b,e.a.c,⟨e.a.d.a,e.a.d.b,e.a.d.c,⟨e.a.d.d.a,v,e.a.d.d.c,e.a.d.d.d⟩⟩⟩,e.b,e.c,e.d⟩⟩,
 ⟨fun v e=>⟨⟨e.a.a,e.a.b,e.a.c,⟨e.a.d.a,e.a.d.b,e.a.d.c,⟨e.a.d.d.a,e.a.d.d.b,v,e.a.d.d.d⟩⟩⟩,e.b,e.c,e.d⟩⟩,
 ⟨fun v e=>⟨⟨e.a.a,e.a.b,e.a.c,⟨e.a.d.a,e.a.d.b,e.a.d.c,⟨e.a.d.d.a,e.a.d.d.b,e.a.d.d.c,v⟩⟩⟩,e.b,e.c,e.d⟩⟩]
def ahZ:List PS:=[
 ⟨fun v e=>⟨e.a,⟨⟨⟨v,e.b.a.a.b,e.b.a.a.c,e.b.a.a.d⟩,e.b.a.b,e.b.a.c,e.b.a.d⟩,e.b.b,e.b.c,e.b.d⟩,e.c,e.d⟩⟩,
 ⟨fun v e=>⟨e.a,⟨⟨⟨e.b.a.a.a,v,e.b.a.a.c,e.b.a.a.d⟩,e.b.a.b,e.b.a.c,e.b.a.d⟩,e.b.b,e.b.c,e.b.d⟩,e.c,e.d⟩⟩,
 ⟨fun v e=>⟨e.a,⟨⟨⟨e.b.a.a.a,e.b.a.a.b,v,e.b.a.a.d⟩,e.b.a.b,e.b.a.c,e.b.a.d⟩,e.b.b,e.b.c,e.b.d⟩,e.c,e.d⟩⟩,
 ⟨fun v e=>⟨e.a,⟨⟨⟨e.b.a.a.a,e.b.a.a.b,e.b.a.a.c,v⟩,e.b.a.b,e.b.a.c,e.b.a.d⟩,e.b.b,e.b.c,e.b.d⟩,e.c,e.d⟩⟩,
 ⟨fun v e=>⟨e.a,⟨⟨e.b.a.a,⟨v,e.b.a.b.b,e.b.a.b.c,e.b.a.b.d⟩,e.b.a.c,e.b.a.d⟩,e.b.b,e.b.c,e.b.d⟩,e.c,e.d⟩⟩,
 ⟨fun v e=>⟨e.a,⟨⟨e.b.a.a,⟨e.b.a.b.a,v,e.b.a.b.c,e.b.a.b.d⟩,e.b.a.c,e.b.a.d⟩,e.b.b,e.b.c,e.b.d⟩,e.c,e.d⟩⟩,
 ⟨fun v e=>⟨e.a,⟨⟨e.b.a.a,⟨e.b.a.b.a,e.b.a.b.b,v,e.b.a.b.d⟩,e.b.a.c,e.b.a.d⟩,e.b.b,e.b.c,e.b.d⟩,e.c,e.d⟩⟩,
 ⟨fun v e=>⟨e.a,⟨⟨e.b.a.a,⟨e.b.a.b.a,e.b.a.b.b,e.b.a.b.c,v⟩,e.b.a.c,e.b.a.d⟩,e.b.b,e.b.c,e.b.d⟩,e.c,e.d⟩⟩,
 ⟨fun v e=>⟨e.a,⟨⟨e.b.a.a,e.b.a.b,⟨v,e.b.a.c.b,e.b.a.c.c,e.b.a.c.d⟩,e.b.a.d⟩,e.b.b,e.b.c,e.b.d⟩,e.c,e.d⟩⟩,
 ⟨fun v e=>⟨e.a,⟨⟨e.b.a.a,e.b.a.b,⟨e.b.a.c.a,v,e.b.a.c.c,e.b.a.c.d⟩,e.b.a.d⟩,e.b.b,e.b.c,e.b.d⟩,e.c,e.d⟩⟩,
 ⟨fun v e=>⟨e.a,⟨⟨e.b.a.a,e.b.a.b,⟨e.b.a.c.a,e.b.a.c.b,v,e.b.a.c.d⟩,e.b.a.d⟩,e.b.b,e.b.c,e.b.d⟩,e.c,e.d⟩⟩,
 ⟨fun v e=>⟨e.a,⟨⟨e.b.a.a,e.b.a.b,⟨e.b.a.c.a,e.b.a.c.b,e.b.a.c.c,v⟩,e.b.a.d⟩,e.b.b,e.b.c,e.b.d⟩,e.c,e.d⟩⟩,
 ⟨fun v e=>⟨e.a,⟨⟨e.b.a.a,e.b.a.b,e.b.a.c,⟨v,e.b.a.d.b,e.b.a.d.c,e.b.a.d.d⟩⟩,e.b.b,e.b.c,e.b.d⟩,e.c,e.d⟩⟩,
 ⟨fun v e=>⟨e.a,⟨⟨e.b.a.a,e.b.a.b,e.b.a.c,⟨e.b.a.d.a,v,e.b.a.d.c,e.b.a.d.d⟩⟩,e.b.b,e.b.c,e.b.d⟩,e.c,e.d⟩⟩,
 ⟨fun v e=>⟨e.a,⟨⟨e.b.a.a,e.b.a.b,e.b.a.c,⟨e.b.a.d.a,e.b.a.d.b,v,e.b.a.d.d⟩⟩,e.b.b,e.b.c,e.b.d⟩,e.c,e.d⟩⟩,
 ⟨fun v e=>⟨e.a,⟨⟨e.b.a.a,e.b.a.b,e.b.a.c,⟨e.b.a.d.a,e.b.a.d.b,e.b.a.d.c,v⟩⟩,e.b.b,e.b.c,e.b.d⟩,e.c,e.d⟩⟩]
def ah0:List PS:=[
 ⟨fun v e=>⟨e.a,⟨e.b.a,⟨⟨v,e.b.b.a.b,e.b.b.a.c,e.b.b.a.d⟩,e.b.b.b,e.b.b.c,e.b.b.d⟩,e.b.c,e.b.d⟩,e.c,e.d⟩⟩,
 ⟨fun v e=>⟨e.a,⟨e.b.a,⟨⟨e.b.b.a.a,v,e.b.b.a.c,e.b.b.a.d⟩,e.b.b.b,e.b.b.c,e.b.b.d⟩,e.b.c,e.b.d⟩,e.c,e.d⟩⟩,
 ⟨fun v e=>⟨e.a,⟨e.b.a,⟨⟨e.b.b.a.a,e.b.b.a.b,v,e.b.b.a.d⟩,e.b.b.b,e.b.b.c,e.b.b.d⟩,e.b.c,e.b.d⟩,e.c,e.d⟩⟩,
 ⟨fun v e=>⟨e.a,⟨e.b.a,⟨⟨e.b.b.a.a,e.b.b.a.b,e.b.b.a.c,v⟩,e.b.b.b,e.b.b.c,e.b.b.d⟩,e.b.c,e.b.d⟩,e.c,e.d⟩⟩,
 ⟨fun v e=>⟨e.a,⟨e.b.a,⟨e.b.b.a,⟨v,e.b.b.b.b,e.b.b.b.c,e.b.b.b.d⟩,e.b.b.c,e.b.b.d⟩,e.b.c,e.b.d⟩,e.c,e.d⟩⟩,
 ⟨fun v e=>⟨e.a,⟨e.b.a,⟨e.b.b.a,⟨e.b.b.b.a,v,e.b.b.b.c,e.b.b.b.d⟩,e.b.b.c,e.b.b.d⟩,e.b.c,e.b.d⟩,e.c,e.d⟩⟩,
 ⟨fun v e=>⟨e.a,⟨e.b.a,⟨e.b.b.a,⟨e.b.b.b.a,e.b.b.b.b,v,e.b.b.b.d⟩,e.b.b.c,e.b.b.d⟩,e.b.c,e.b.d⟩,e.c,e.d⟩⟩,
 ⟨fun v e=>⟨e.a,⟨e.b.a,⟨e.b.b.a,⟨e.b.b.b.a,e.b.b.b.b,e.b.b.b.c,v⟩,e.b.b.c,e.b.b.d⟩,e.b.c,e.b.d⟩,e.c,e.d⟩⟩,
 ⟨fun v e=>⟨e.a,⟨e.b.a,⟨e.b.b.a,e.b.b.b,⟨v,e.b.b.c.b,e.b.b.c.c,e.b.b.c.d⟩,e.b.b.d⟩,e.b.c,e.b.d⟩,e.c,e.d⟩⟩,
 ⟨fun v e=>⟨e.a,⟨e.b.a,⟨e.b.b.a,e.b.b.b,⟨e.b.b.c.a,v,e.b.b.c.c,e.b.b.c.d⟩,e.b.b.d⟩,e.b.c,e.b.d⟩,e.c,e.d⟩⟩,
 ⟨fun v e=>⟨e.a,⟨e.b.a,⟨e.b.b.a,e.b.b.b,⟨e.b.b.c.a,e.b.b.c.b,v,e.b.b.c.d⟩,e.b.b.d⟩,e.b.c,e.b.d⟩,e.c,e.d⟩⟩,
 ⟨fun v e=>⟨e.a,⟨e.b.a,⟨e.b.b.a,e.b.b.b,⟨e.b.b.c.a,e.b.b.c.b,e.b.b.c.c,v⟩,e.b.b.d⟩,e.b.c,e.b.d⟩,e.c,e.d⟩⟩,
 ⟨fun v e=>⟨e.a,⟨e.b.a,⟨e.b.b.a,e.b.b.b,e.b.b.c,⟨v,e.b.b.d.b,e.b.b.d.c,e.b.b.d.d⟩⟩,e.b.c,e.b.d⟩,e.c,e.d⟩⟩,
 ⟨fun v e=>⟨e.a,⟨e.b.a,⟨e.b.b.a,e.b.b.b,e.b.b.c,⟨e.b.b.d.a,v,e.b.b.d.c,e.b.b.d.d⟩⟩,e.b.c,e.b.d⟩,e.c,e.d⟩⟩,
 ⟨fun v e=>⟨e.a,⟨e.b.a,⟨e.b.b.a,e.b.b.b,e.b.b.c,⟨e.b.b.d.a,e.b.b.d.b,v,e.b.b.d.d⟩⟩,e.b.c,e.b.d⟩,e.c,e.d⟩⟩,
 ⟨fun v e=>⟨e.a,⟨e.b.a,⟨e.b.b.a,e.b.b.b,e.b.b.c,⟨e.b.b.d.a,e.b.b.d.b,e.b.b.d.c,v⟩⟩,e.b.c,e.b.d⟩,e.c,e.d⟩⟩]
def ah1:List PS:=[
 ⟨fun v e=>⟨e.a,⟨e.b.a,e.b.b,⟨⟨v,e.b.c.a.b,e.b.c.a.c,e.b.c.a.d⟩,e.b.c.b,e.b.c.c,e.b.c.d⟩,e.b.d⟩,e.c,e.d⟩⟩,
 ⟨fun v e=>⟨e.a,⟨e.b.a,e.b.b,⟨⟨e.b.c.a.a,v,e.b.c.a.c,e.b.c.a.d⟩,e.b.c.b,e.b.c.c,e.b.c.d⟩,e.b.d⟩,e.c,e.d⟩⟩,
 ⟨fun v e=>⟨e.a,⟨e.b.a,e.b.b,⟨⟨e.b.c.a.a,e.b.c.a.b,v,e.b.c.a.d⟩,e.b.c.b,e.b.c.c,e.b.c.d⟩,e.b.d⟩,e.c,e.d⟩⟩,
 ⟨fun v e=>⟨e.a,⟨e.b.a,e.b.b,⟨⟨e.b.c.a.a,e.b.c.a.b,e.b.c.a.c,v⟩,e.b.c.b,e.b.c.c,e.b.c.d⟩,e.b.d⟩,e.c,e.d⟩⟩,
 ⟨fun v e=>⟨e.a,⟨e.b.a,e.b.b,⟨e.b.c.a,⟨v,e.b.c.b.b,e.b.c.b.c,e.b.c.b.d⟩,e.b.c.c,e.b.c.d⟩,e.b.d⟩,e.c,e.d⟩⟩,
 ⟨fun v e=>⟨e.a,⟨e.b.a,e.b.b,⟨e.b.c.a,⟨e.b.c.b.a,v,e.b.c.b.c,e.b.c.b.d⟩,e.b.c.c,e.b.c.d⟩,e.b.d⟩,e.c,e.d⟩⟩,
 ⟨fun v e=>⟨e.a,⟨e.b.a,e.b.b,⟨e.b.c.a,⟨e.b.c.b.a,e.b.c.b.b,v,e.b.c.b.d⟩,e.b.c.c,e.b.c.d⟩,e.b.d⟩,e.c,e.d⟩⟩,
 ⟨fun v e=>⟨e.a,⟨e.b.a,e.b.b,⟨e.b.c.a,⟨e.b.c.b.a,e.b.c.b.b,e.b.c.b.c,v⟩,e.b.c.c,e.b.c.d⟩,e.b.d⟩,e.c,e.d⟩⟩,
 ⟨fun v e=>⟨e.a,⟨e.b.a,e.b.b,⟨e.b.c.a,e.b.c.b,⟨v,e.b.c.c.b,e.b.c.c.c,e.b.c.c.d⟩,e.b.c.d⟩,e.b.d⟩,e.c,e.d⟩⟩,
 ⟨fun v e=>⟨e.a,⟨e.b.a,e.b.b,⟨e.b.c.a,e.b.c.b,⟨e.b.c.c.a,v,e.b.c.c.c,e.b.c.c.d⟩,e.b.c.d⟩,e.b.d⟩,e.c,e.d⟩⟩,
 ⟨fun v e=>⟨e.a,⟨e.b.a,e.b.b,⟨e.b.c.a,e.b.c.b,⟨e.b.c.c.a,e.b.c.c.b,v,e.b.c.c.d⟩,e.b.c.d⟩,e.b.d⟩,e.c,e.d⟩⟩,
 ⟨fun v e=>⟨e.a,⟨e.b.a,e.b.b,⟨e.b.c.a,e.b.c.b,⟨e.b.c.c.a,e.b.c.c.b,e.b.c.c.c,v⟩,e.b.c.d⟩,e.b.d⟩,e.c,e.d⟩⟩,
 ⟨fun v e=>⟨e.a,⟨e.b.a,e.b.b,⟨e.b.c.a,e.b.c.b,e.b.c.c,⟨v,e.b.c.d.b,e.b.c.d.c,e.b.c.d.d⟩⟩,e.b.d⟩,e.c,e.d⟩⟩,
 ⟨fun v e=>⟨e.a,⟨e.b.a,e.b.b,⟨e.b.c.a,e.b.c.b,e.b.c.c,⟨e.b.c.d.a,v,e.b.c.d.c,e.b.c.d.d⟩⟩,e.b.d⟩,e.c,e.d⟩⟩,
 ⟨fun v e=>⟨e.a,⟨e.b.a,e.b.b,⟨e.b.c.a,e.b.c.b,e.b.c.c,⟨e.b.c.d.a,e.b.c.d.b,v,e.b.c.d.d⟩⟩,e.b.d⟩,e.c,e.d⟩⟩,
 ⟨fun v e=>⟨e.a,⟨e.b.a,e.b.b,⟨e.b.c.a,e.b.c.b,e.b.c.c,⟨e.b.c.d.a,e.b.c.d.b,e.b.c.d.c,v⟩⟩,e.b.d⟩,e.c,e.d⟩⟩]
def ah2:List PS:=[
 ⟨fun v e=>⟨e.a,⟨e.b.a,e.b.b,e.b.c,⟨⟨v,e.b.d.a.b,e.b.d.a.c,e.b.d.a.d⟩,e.b.d.b,e.b.d.c,e.b.d.d⟩⟩,e.c,e.d⟩⟩,
 ⟨fun v e=>⟨e.a,⟨e.b.a,e.b.b,e.b.c,⟨⟨e.b.d.a.a,v,e.b.d.a.c,e.b.d.a.d⟩,e.b.d.b,e.b.d.c,e.b.d.d⟩⟩,e.c,e.d⟩⟩,
 ⟨fun v e=>⟨e.a,⟨e.b.a,e.b.b,e.b.c,⟨⟨e.b.d.a.a,e.b.d.a.b,v,e.b.d.a.d⟩,e.b.d.b,e.b.d.c,e.b.d.d⟩⟩,e.c,e.d⟩⟩,
 ⟨fun v e=>⟨e.a,⟨e.b.a,e.b.b,e.b.c,⟨⟨e.b.d.a.a,e.b.d.a.b,e.b.d.a.c,v⟩,e.b.d.b,e.b.d.c,e.b.d.d⟩⟩,e.c,e.d⟩⟩,
 ⟨fun v e=>⟨e.a,⟨e.b.a,e.b.b,e.b.c,⟨e.b.d.a,⟨v,e.b.d.b.b,e.b.d.b.c,e.b.d.b.d⟩,e.b.d.c,e.b.d.d⟩⟩,e.c,e.d⟩⟩,
 ⟨fun v e=>⟨e.a,⟨e.b.a,e.b.b,e.b.c,⟨e.b.d.a,⟨e.b.d.b.a,v,e.b.d.b.c,e.b.d.b.d⟩,e.b.d.c,e.b.d.d⟩⟩,e.c,e.d⟩⟩,
 ⟨fun v e=>⟨e.a,⟨e.b.a,e.b.b,e.b.c,⟨e.b.d.a,⟨e.b.d.b.a,e.b.d.b.b,v,e.b.d.b.d⟩,e.b.d.c,e.b.d.d⟩⟩,e.c,e.d⟩⟩,
 ⟨fun v e=>⟨e.a,⟨e.b.a,e.b.b,e.b.c,⟨e.b.d.a,⟨e.b.d.b.a,e.b.d.b.b,e.b.d.b.c,v⟩,e.b.d.c,e.b.d.d⟩⟩,e.c,e.d⟩⟩,
 ⟨fun v e=>⟨e.a,⟨e.b.a,e.b.b,e.b.c,⟨e.b.d.a,e.b.d.b,⟨v,e.b.d.c.b,e.b.d.c.c,e.b.d.c.d⟩,e.b.d.d⟩⟩,e.c,e.d⟩⟩,
 ⟨fun v e=>⟨e.a,⟨e.b.a,e.b.b,e.b.c,⟨e.b.d.a,e.b.d.b,⟨e.b.d.c.a,v,e.b.d.c.c,e.b.d.c.d⟩,e.b.d.d⟩⟩,e.c,e.d⟩⟩,
 ⟨fun v e=>⟨e.a,⟨e.b.a,e.b.b,e.b.c,⟨e.b.d.a,e.b.d.b,⟨e.b.d.c.a,e.b.d.c.b,v,e.b.d.c.d⟩,e.b.d.d⟩⟩,e.c,e.d⟩⟩,
 ⟨fun v e=>⟨e.a,⟨e.b.a,e.b.b,e.b.c,⟨e.b.d.a,e.b.d.b,⟨e.b.d.c.a,e.b.d.c.b,e.b.d.c.c,v⟩,e.b.d.d⟩⟩,e.c,e.d⟩⟩,
 ⟨fun v e=>⟨e.a,⟨e.b.a,e.b.b,e.b.c,⟨e.b.d.a,e.b.d.b,e.b.d.c,⟨v,e.b.d.d.b,e.b.d.d.c,e.b.d.d.d⟩⟩⟩,e.c,e.d⟩⟩,
 ⟨fun v e=>⟨e.a,⟨e.b.a,e.b.b,e.b.c,⟨e.b.d.a,e.b.d.b,e.b.d.c,⟨e.b.d.d.a,v,e.b.d.d.c,e.b.d.d.d⟩⟩⟩,e.c,e.d⟩⟩,
 ⟨fun v e=>⟨e.a,⟨e.b.a,e.b.b,e.b.c,⟨e.b.d.a,e.b.d.b,e.b.d.c,⟨e.b.d.d.a,e.b.d.d.b,v,e.b.d.d.d⟩⟩⟩,e.c,e.d⟩⟩,
 ⟨fun v e=>⟨e.a,⟨e.b.a,e.b.b,e.b.c,⟨e.b.d.a,e.b.d.b,e.b.d.c,⟨e.b.d.d.a,e.b.d.d.b,e.b.d.d.c,v⟩⟩⟩,e.c,e.d⟩⟩]
def ah3:List PS:=[
 ⟨fun v e=>⟨e.a,e.b,⟨⟨⟨v,e.c.a.a.b,e.c.a.a.c,e.c.a.a.d⟩,e.c.a.b,e.c.a.c,e.c.a.d⟩,e.c.b,e.c.c,e.c.d⟩,e.d⟩⟩,
 ⟨fun v e=>⟨e.a,e.b,⟨⟨⟨e.c.a.a.a,v,e.c.a.a.c,e.c.a.a.d⟩,e.c.a.b,e.c.a.c,e.c.a.d⟩,e.c.b,e.c.c,e.c.d⟩,e.d⟩⟩,
 ⟨fun v e=>⟨e.a,e.b,⟨⟨⟨e.c.a.a.a,e.c.a.a.b,v,e.c.a.a.d⟩,e.c.a.b,e.c.a.c,e.c.a.d⟩,e.c.b,e.c.c,e.c.d⟩,e.d⟩⟩,
 ⟨fun v e=>⟨e.a,e.b,⟨⟨⟨e.c.a.a.a,e.c.a.a.b,e.c.a.a.c,v⟩,e.c.a.b,e.c.a.c,e.c.a.d⟩,e.c.b,e.c.c,e.c.d⟩,e.d⟩⟩,
 ⟨fun v e=>⟨e.a,e.b,⟨⟨e.c.a.a,⟨v,e.c.a.b.b,e.c.a.b.c,e.c.a.b.d⟩,e.c.a.c,e.c.a.d⟩,e.c.b,e.c.c,e.c.d⟩,e.d⟩⟩,
 ⟨fun v e=>⟨e.a,e.b,⟨⟨e.c.a.a,⟨e.c.a.b.a,v,e.c.a.b.c,e.c.a.b.d⟩,e.c.a.c,e.c.a.d⟩,e.c.b,e.c.c,e.c.d⟩,e.d⟩⟩,
 ⟨fun v e=>⟨e.a,e.b,⟨⟨e.c.a.a,⟨e.c.a.b.a,e.c.a.b.b,v,e.c.a.b.d⟩,e.c.a.c,e.c.a.d⟩,e.c.b,e.c.c,e.c.d⟩,e.d⟩⟩,
 ⟨fun v e=>⟨e.a,e.b,⟨⟨e.c.a.a,⟨e.c.a.b.a,e.c.a.b.b,e.c.a.b.c,v⟩,e.c.a.c,e.c.a.d⟩,e.c.b,e.c.c,e.c.d⟩,e.d⟩⟩,
 ⟨fun v e=>⟨e.a,e.b,⟨⟨e.c.a.a,e.c.a.b,⟨v,e.c.a.c.b,e.c.a.c.c,e.c.a.c.d⟩,e.c.a.d⟩,e.c.b,e.c.c,e.c.d⟩,e.d⟩⟩,
 ⟨fun v e=>⟨e.a,e.b,⟨⟨e.c.a.a,e.c.a.b,⟨e.c.a.c.a,v,e.c.a.c.c,e.c.a.c.d⟩,e.c.a.d⟩,e.c.b,e.c.c,e.c.d⟩,e.d⟩⟩,
 ⟨fun v e=>⟨e.a,e.b,⟨⟨e.c.a.a,e.c.a.b,⟨e.c.a.c.a,e.c.a.c.b,v,e.c.a.c.d⟩,e.c.a.d⟩,e.c.b,e.c.c,e.c.d⟩,e.d⟩⟩,
 ⟨fun v e=>⟨e.a,e.b,⟨⟨e.c.a.a,e.c.a.b,⟨e.c.a.c.a,e.c.a.c.b,e.c.a.c.c,v⟩,e.c.a.d⟩,e.c.b,e.c.c,e.c.d⟩,e.d⟩⟩,
 ⟨fun v e=>⟨e.a,e.b,⟨⟨e.c.a.a,e.c.a.b,e.c.a.c,⟨v,e.c.a.d.b,e.c.a.d.c,e.c.a.d.d⟩⟩,e.c.b,e.c.c,e.c.d⟩,e.d⟩⟩,
 ⟨fun v e=>⟨e.a,e.b,⟨⟨e.c.a.a,e.c.a.b,e.c.a.c,⟨e.c.a.d.a,v,e.c.a.d.c,e.c.a.d.d⟩⟩,e.c.b,e.c.c,e.c.d⟩,e.d⟩⟩,
 ⟨fun v e=>⟨e.a,e.b,⟨⟨e.c.a.a,e.c.a.b,e.c.a.c,⟨e.c.a.d.a,e.c.a.d.b,v,e.c.a.d.d⟩⟩,e.c.b,e.c.c,e.c.d⟩,e.d⟩⟩,
 ⟨fun v e=>⟨e.a,e.b,⟨⟨e.c.a.a,e.c.a.b,e.c.a.c,⟨e.c.a.d.a,e.c.a.d.b,e.c.a.d.c,v⟩⟩,e.c.b,e.c.c,e.c.d⟩,e.d⟩⟩]
def ah4:List PS:=[
 ⟨fun v e=>⟨e.a,e.b,⟨e.c.a,⟨⟨v,e.c.b.a.b,e.c.b.a.c,e.c.b.a.d⟩,e.c.b.b,e.c.b.c,e.c.b.d⟩,e.c.c,e.c.d⟩,e.d⟩⟩,
 ⟨fun v e=>⟨e.a,e.b,⟨e.c.a,⟨⟨e.c.b.a.a,v,e.c.b.a.c,e.c.b.a.d⟩,e.c.b.b,e.c.b.c,e.c.b.d⟩,e.c.c,e.c.d⟩,e.d⟩⟩,
 ⟨fun v e=>⟨e.a,e.b,⟨e.c.a,⟨⟨e.c.b.a.a,e.c.b.a.b,v,e.c.b.a.d⟩,e.c.b.b,e.c.b.c,e.c.b.d⟩,e.c.c,e.c.d⟩,e.d⟩⟩,
 ⟨fun v e=>⟨e.a,e.b,⟨e.c.a,⟨⟨e.c.b.a.a,e.c.b.a.b,e.c.b.a.c,v⟩,e.c.b.b,e.c.b.c,e.c.b.d⟩,e.c.c,e.c.d⟩,e.d⟩⟩,
 ⟨fun v e=>⟨e.a,e.b,⟨e.c.a,⟨e.c.b.a,⟨v,e.c.b.b.b,e.c.b.b.c,e.c.b.b.d⟩,e.c.b.c,e.c.b.d⟩,e.c.c,e.c.d⟩,e.d⟩⟩,
 ⟨fun v e=>⟨e.a,e.b,⟨e.c.a,⟨e.c.b.a,⟨e.c.b.b.a,v,e.c.b.b.c,e.c.b.b.d⟩,e.c.b.c,e.c.b.d⟩,e.c.c,e.c.d⟩,e.d⟩⟩,
 ⟨fun v e=>⟨e.a,e.b,⟨e.c.a,⟨e.c.b.a,⟨e.c.b.b.a,e.c.b.b.b,v,e.c.b.b.d⟩,e.c.b.c,e.c.b.d⟩,e.c.c,e.c.d⟩,e.d⟩⟩,
 ⟨fun v e=>⟨e.a,e.b,⟨e.c.a,⟨e.c.b.a,⟨e.c.b.b.a,e.c.b.b.b,e.c.b.b.c,v⟩,e.c.b.c,e.c.b.d⟩,e.c.c,e.c.d⟩,e.d⟩⟩,
 ⟨fun v e=>⟨e.a,e.b,⟨e.c.a,⟨e.c.b.a,e.c.b.b,⟨v,e.c.b.c.b,e.c.b.c.c,e.c.b.c.d⟩,e.c.b.d⟩,e.c.c,e.c.d⟩,e.d⟩⟩,
 ⟨fun v e=>⟨e.a,e.b,⟨e.c.a,⟨e.c.b.a,e.c.b.b,⟨e.c.b.c.a,v,e.c.b.c.c,e.c.b.c.d⟩,e.c.b.d⟩,e.c.c,e.c.d⟩,e.d⟩⟩,
 ⟨fun v e=>⟨e.a,e.b,⟨e.c.a,⟨e.c.b.a,e.c.b.b,⟨e.c.b.c.a,e.c.b.c.b,v,e.c.b.c.d⟩,e.c.b.d⟩,e.c.c,e.c.d⟩,e.d⟩⟩,
 ⟨fun v e=>⟨e.a,e.b,⟨e.c.a,⟨e.c.b.a,e.c.b.b,⟨e.c.b.c.a,e.c.b.c.b,e.c.b.c.c,v⟩,e.c.b.d⟩,e.c.c,e.c.d⟩,e.d⟩⟩,
 ⟨fun v e=>⟨e.a,e.b,⟨e.c.a,⟨e.c.b.a,e.c.b.b,e.c.b.c,⟨v,e.c.b.d.b,e.c.b.d.c,e.c.b.d.d⟩⟩,e.c.c,e.c.d⟩,e.d⟩⟩,
 ⟨fun v e=>⟨e.a,e.b,⟨e.c.a,⟨e.c.b.a,e.c.b.b,e.c.b.c,⟨e.c.b.d.a,v,e.c.b.d.c,e.c.b.d.d⟩⟩,e.c.c,e.c.d⟩,e.d⟩⟩,
 ⟨fun v e=>⟨e.a,e.b,⟨e.c.a,⟨e.c.b.a,e.c.b.b,e.c.b.c,⟨e.c.b.d.a,e.c.b.d.b,v,e.c.b.d.d⟩⟩,e.c.c,e.c.d⟩,e.d⟩⟩,
 ⟨fun v e=>⟨e.a,e.b,⟨e.c.a,⟨e.c.b.a,e.c.b.b,e.c.b.c,⟨e.c.b.d.a,e.c.b.d.b,e.c.b.d.c,v⟩⟩,e.c.c,e.c.d⟩,e.d⟩⟩]
def aeP:List PS:=[
 ⟨fun v e=>⟨e.a,e.b,⟨e.c.a,e.c.b,⟨⟨v,e.c.c.a.b,e.c.c.a.c,e.c.c.a.d⟩,e.c.c.b,e.c.c.c,e.c.c.d⟩,e.c.d⟩,e.d⟩⟩,
 ⟨fun v e=>⟨e.a,e.b,⟨e.c.a,e.c.b,⟨⟨e.c.c.a.a,v,e.c.c.a.c,e.c.c.a.d⟩,e.c.c.b,e.c.c.c,e.c.c.d⟩,e.c.d⟩,e.d⟩⟩,
 ⟨fun v e=>⟨e.a,e.b,⟨e.c.a,e.c.b,⟨⟨e.c.c.a.a,e.c.c.a.b,v,e.c.c.a.d⟩,e.c.c.b,e.c.c.c,e.c.c.d⟩,e.c.d⟩,e.d⟩⟩,
 ⟨fun v e=>⟨e.a,e.b,⟨e.c.a,e.c.b,⟨⟨e.c.c.a.a,e.c.c.a.b,e.c.c.a.c,v⟩,e.c.c.b,e.c.c.c,e.c.c.d⟩,e.c.d⟩,e.d⟩⟩,
 ⟨fun v e=>⟨e.a,e.b,⟨e.c.a,e.c.b,⟨e.c.c.a,⟨v,e.c.c.b.b,e.c.c.b.c,e.c.c.b.d⟩,e.c.c.c,e.c.c.d⟩,e.c.d⟩,e.d⟩⟩,
 ⟨fun v e=>⟨e.a,e.b,⟨e.c.a,e.c.b,⟨e.c.c.a,⟨e.c.c.b.a,v,e.c.c.b.c,e.c.c.b.d⟩,e.c.c.c,e.c.c.d⟩,e.c.d⟩,e.d⟩⟩,
 ⟨fun v e=>⟨e.a,e.b,⟨e.c.a,e.c.b,⟨e.c.c.a,⟨e.c.c.b.a,e.c.c.b.b,v,e.c.c.b.d⟩,e.c.c.c,e.c.c.d⟩,e.c.d⟩,e.d⟩⟩,
 ⟨fun v e=>⟨e.a,e.b,⟨e.c.a,e.c.b,⟨e.c.c.a,⟨e.c.c.b.a,e.c.c.b.b,e.c.c.b.c,v⟩,e.c.c.c,e.c.c.d⟩,e.c.d⟩,e.d⟩⟩,
 ⟨fun v e=>⟨e.a,e.b,⟨e.c.a,e.c.b,⟨e.c.c.a,e.c.c.b,⟨v,e.c.c.c.b,e.c.c.c.c,e.c.c.c.d⟩,e.c.c.d⟩,e.c.d⟩,e.d⟩⟩,
 ⟨fun v e=>⟨e.a,e.b,⟨e.c.a,e.c.b,⟨e.c.c.a,e.c.c.b,⟨e.c.c.c.a,v,e.c.c.c.c,e.c.c.c.d⟩,e.c.c.d⟩,e.c.d⟩,e.d⟩⟩,
 ⟨fun v e=>⟨e.a,e.b,⟨e.c.a,e.c.b,⟨e.c.c.a,e.c.c.b,⟨e.c.c.c.a,e.c.c.c.b,v,e.c.c.c.d⟩,e.c.c.d⟩,e.c.d⟩,e.d⟩⟩,
 ⟨fun v e=>⟨e.a,e.b,⟨e.c.a,e.c.b,⟨e.c.c.a,e.c.c.b,⟨e.c.c.c.a,e.c.c.c.b,e.c.c.c.c,v⟩,e.c.c.d⟩,e.c.d⟩,e.d⟩⟩,
 ⟨fun v e=>⟨e.a,e.b,⟨e.c.a,e.c.b,⟨e.c.c.a,e.c.c.b,e.c.c.c,⟨v,e.c.c.d.b,e.c.c.d.c,e.c.c.d.d⟩⟩,e.c.d⟩,e.d⟩⟩,
 ⟨fun v e=>⟨e.a,e.b,⟨e.c.a,e.c.b,⟨e.c.c.a,e.c.c.b,e.c.c.c,⟨e.c.c.d.a,v,e.c.c.d.c,e.c.c.d.d⟩⟩,e.c.d⟩,e.d⟩⟩,
 ⟨fun v e=>⟨e.a,e.b,⟨e.c.a,e.c.b,⟨e.c.c.a,e.c.c.b,e.c.c.c,⟨e.c.c.d.a,e.c.c.d.b,v,e.c.c.d.d⟩⟩,e.c.d⟩,e.d⟩⟩,
 ⟨fun v e=>⟨e.a,e.b,⟨e.c.a,e.c.b,⟨e.c.c.a,e.c.c.b,e.c.c.c,⟨e.c.c.d.a,e.c.c.d.b,e.c.c.d.c,v⟩⟩,e.c.d⟩,e.d⟩⟩]
def aeQ:List PS:=[
 ⟨fun v e=>⟨e.a,e.b,⟨e.c.a,e.c.b,e.c.c,⟨⟨v,e.c.d.a.b,e.c.d.a.c,e.c.d.a.d⟩,e.c.d.b,e.c.d.c,e.c.d.d⟩⟩,e.d⟩⟩,
 ⟨fun v e=>⟨e.a,e.b,⟨e.c.a,e.c.b,e.c.c,⟨⟨e.c.d.a.a,v,e.c.d.a.c,e.c.d.a.d⟩,e.c.d.b,e.c.d.c,e.c.d.d⟩⟩,e.d⟩⟩,
 ⟨fun v e=>⟨e.a,e.b,⟨e.c.a,e.c.b,e.c.c,⟨⟨e.c.d.a.a,e.c.d.a.b,v,e.c.d.a.d⟩,e.c.d.b,e.c.d.c,e.c.d.d⟩⟩,e.d⟩⟩,
 ⟨fun v e=>⟨e.a,e.b,⟨e.c.a,e.c.b,e.c.c,⟨⟨e.c.d.a.a,e.c.d.a.b,e.c.d.a.c,v⟩,e.c.d.b,e.c.d.c,e.c.d.d⟩⟩,e.d⟩⟩,
 ⟨fun v e=>⟨e.a,e.b,⟨e.c.a,e.c.b,e.c.c,⟨e.c.d.a,⟨v,e.c.d.b.b,e.c.d.b.c,e.c.d.b.d⟩,e.c.d.c,e.c.d.d⟩⟩,e.d⟩⟩,
 ⟨fun v e=>⟨e.a,e.b,⟨e.c.a,e.c.b,e.c.c,⟨e.c.d.a,⟨e.c.d.b.a,v,e.c.d.b.c,e.c.d.b.d⟩,e.c.d.c,e.c.d.d⟩⟩,e.d⟩⟩,
 ⟨fun v e=>⟨e.a,e.b,⟨e.c.a,e.c.b,e.c.c,⟨e.c.d.a,⟨e.c.d.b.a,e.c.d.b.b,v,e.c.d.b.d⟩,e.c.d.c,e.c.d.d⟩⟩,e.d⟩⟩,
 ⟨fun v e=>⟨e.a,e.b,⟨e.c.a,e.c.b,e.c.c,⟨e.c.d.a,⟨e.c.d.b.a,e.c.d.b.b,e.c.d.b.c,v⟩,e.c.d.c,e.c.d.d⟩⟩,e.d⟩⟩,
 ⟨fun v e=>⟨e.a,e.b,⟨e.c.a,e.c.b,e.c.c,⟨e.c.d.a,e.c.d.b,⟨v,e.c.d.c.b,e.c.d.c.c,e.c.d.c.d⟩,e.c.d.d⟩⟩,e.d⟩⟩,
 ⟨fun v e=>⟨e.a,e.b,⟨e.c.a,e.c.b,e.c.c,⟨e.c.d.a,e.c.d.b,⟨e.c.d.c.a,v,e.c.d.c.c,e.c.d.c.d⟩,e.c.d.d⟩⟩,e.d⟩⟩,
 ⟨fun v e=>⟨e.a,e.b,⟨e.c.a,e.c.b,e.c.c,⟨e.c.d.a,e.c.d.b,⟨e.c.d.c.a,e.c.d.c.b,v,e.c.d.c.d⟩,e.c.d.d⟩⟩,e.d⟩⟩,
 ⟨fun v e=>⟨e.a,e.b,⟨e.c.a,e.c.b,e.c.c,⟨e.c.d.a,e.c.d.b,⟨e.c.d.c.a,e.c.d.c.b,e.c.d.c.c,v⟩,e.c.d.d⟩⟩,e.d⟩⟩,
 ⟨fun v e=>⟨e.a,e.b,⟨e.c.a,e.c.b,e.c.c,⟨e.c.d.a,e.c.d.b,e.c.d.c,⟨v,e.c.d.d.b,e.c.d.d.c,e.c.d.d.d⟩⟩⟩,e.d⟩⟩,
 ⟨fun v e=>⟨e.a,e.b,⟨e.c.a,e.c.b,e.c.c,⟨e.c.d.a,e.c.d.b,e.c.d.c,⟨e.c.d.d.a,v,e.c.d.d.c,e.c.d.d.d⟩⟩⟩,e.d⟩⟩,
 ⟨fun v e=>⟨e.a,e.b,⟨e.c.a,e.c.b,e.c.c,⟨e.c.d.a,e.c.d.b,e.c.d.c,⟨e.c.d.d.a,e.c.d.d.b,v,e.c.d.d.d⟩⟩⟩,e.d⟩⟩,
 ⟨fun v e=>⟨e.a,e.b,⟨e.c.a,e.c.b,e.c.c,⟨e.c.d.a,e.c.d.b,e.c.d.c,⟨e.c.d.d.a,e.c.d.d.b,e.c.d.d.c,v⟩⟩⟩,e.d⟩⟩]
def aeR:List PS:=[
 ⟨fun v e=>⟨e.a,e.b,e.c,⟨⟨⟨v,e.d.a.a.b,e.d.a.a.c,e.d.a.a.d⟩,e.d.a.b,e.d.a.c,e.d.a.d⟩,e.d.b,e.d.c,e.d.d⟩⟩⟩,
 ⟨fun v e=>⟨e.a,e.b,e.c,⟨⟨⟨e.d.a.a.a,v,e.d.a.a.c,e.d.a.a.d⟩,e.d.a.b,e.d.a.c,e.d.a.d⟩,e.d.b,e.d.c,e.d.d⟩⟩⟩,
 ⟨fun v e=>⟨e.a,e.b,e.c,⟨⟨⟨e.d.a.a.a,e.d.a.a.b,v,e.d.a.a.d⟩,e.d.a.b,e.d.a.c,e.d.a.d⟩,e.d.b,e.d.c,e.d.d⟩⟩⟩,
 ⟨fun v e=>⟨e.a,e.b,e.c,⟨⟨⟨e.d.a.a.a,e.d.a.a.b,e.d.a.a.c,v⟩,e.d.a.b,e.d.a.c,e.d.a.d⟩,e.d.b,e.d.c,e.d.d⟩⟩⟩,
 ⟨fun v e=>⟨e.a,e.b,e.c,⟨⟨e.d.a.a,⟨v,e.d.a.b.b,e.d.a.b.c,e.d.a.b.d⟩,e.d.a.c,e.d.a.d⟩,e.d.b,e.d.c,e.d.d⟩⟩⟩,
 ⟨fun v e=>⟨e.a,e.b,e.c,⟨⟨e.d.a.a,⟨e.d.a.b.a,v,e.d.a.b.c,e.d.a.b.d⟩,e.d.a.c,e.d.a.d⟩,e.d.b,e.d.c,e.d.d⟩⟩⟩,
 ⟨fun v e=>⟨e.a,e.b,e.c,⟨⟨e.d.a.a,⟨e.d.a.b.a,e.d.a.b.b,v,e.d.a.b.d⟩,e.d.a.c,e.d.a.d⟩,e.d.b,e.d.c,e.d.d⟩⟩⟩,
 ⟨fun v e=>⟨e.a,e.b,e.c,⟨⟨e.d.a.a,⟨e.d.a.b.a,e.d.a.b.b,e.d.a.b.c,v⟩,e.d.a.c,e.d.a.d⟩,e.d.b,e.d.c,e.d.d⟩⟩⟩,
 ⟨fun v e=>⟨e.a,e.b,e.c,⟨⟨e.d.a.a,e.d.a.b,⟨v,e.d.a.c.b,e.d.a.c.c,e.d.a.c.d⟩,e.d.a.d⟩,e.d.b,e.d.c,e.d.d⟩⟩⟩,
 ⟨fun v e=>⟨e.a,e.b,e.c,⟨⟨e.d.a.a,e.d.a.b,⟨e.d.a.c.a,v,e.d.a.c.c,e.d.a.c.d⟩,e.d.a.d⟩,e.d.b,e.d.c,e.d.d⟩⟩⟩,
 ⟨fun v e=>⟨e.a,e.b,e.c,⟨⟨e.d.a.a,e.d.a.b,⟨e.d.a.c.a,e.d.a.c.b,v,e.d.a.c.d⟩,e.d.a.d⟩,e.d.b,e.d.c,e.d.d⟩⟩⟩,
 ⟨fun v e=>⟨e.a,e.b,e.c,⟨⟨e.d.a.a,e.d.a.b,⟨e.d.a.c.a,e.d.a.c.b,e.d.a.c.c,v⟩,e.d.a.d⟩,e.d.b,e.d.c,e.d.d⟩⟩⟩,
 ⟨fun v e=>⟨e.a,e.b,e.c,⟨⟨e.d.a.a,e.d.a.b,e.d.a.c,⟨v,e.d.a.d.b,e.d.a.d.c,e.d.a.d.d⟩⟩,e.d.b,e.d.c,e.d.d⟩⟩⟩,
 ⟨fun v e=>⟨e.a,e.b,e.c,⟨⟨e.d.a.a,e.d.a.b,e.d.a.c,⟨e.d.a.d.a,v,e.d.a.d.c,e.d.a.d.d⟩⟩,e.d.b,e.d.c,e.d.d⟩⟩⟩,
 ⟨fun v e=>⟨e.a,e.b,e.c,⟨⟨e.d.a.a,e.d.a.b,e.d.a.c,⟨e.d.a.d.a,e.d.a.d.b,v,e.d.a.d.d⟩⟩,e.d.b,e.d.c,e.d.d⟩⟩⟩,
 ⟨fun v e=>⟨e.a,e.b,e.c,⟨⟨e.d.a.a,e.d.a.b,e.d.a.c,⟨e.d.a.d.a,e.d.a.d.b,e.d.a.d.c,v⟩⟩,e.d.b,e.d.c,e.d.d⟩⟩⟩]
def aeS:List PS:=[
 ⟨fun v e=>⟨e.a,e.b,e.c,⟨e.d.a,⟨⟨v,e.d.b.a.b,e.d.b.a.c,e.d.b.a.d⟩,e.d.b.b,e.d.b.c,e.d.b.d⟩,e.d.c,e.d.d⟩⟩⟩,
 ⟨fun v e=>⟨e.a,e.b,e.c,⟨e.d.a,⟨⟨e.d.b.a.a,v,e.d.b.a.c,e.d.b.a.d⟩,e.d.b.b,e.d.b.c,e.d.b.d⟩,e.d.c,e.d.d⟩⟩⟩,
 ⟨fun v e=>⟨e.a,e.b,e.c,⟨e.d.a,⟨⟨e.d.b.a.a,e.d.b.a.b,v,e.d.b.a.d⟩,e.d.b.b,e.d.b.c,e.d.b.d⟩,e.d.c,e.d.d⟩⟩⟩,
 ⟨fun v e=>⟨e.a,e.b,e.c,⟨e.d.a,⟨⟨e.d.b.a.a,e.d.b.a.b,e.d.b.a.c,v⟩,e.d.b.b,e.d.b.c,e.d.b.d⟩,e.d.c,e.d.d⟩⟩⟩,
 ⟨fun v e=>⟨e.a,e.b,e.c,⟨e.d.a,⟨e.d.b.a,⟨v,e.d.b.b.b,e.d.b.b.c,e.d.b.b.d⟩,e.d.b.c,e.d.b.d⟩,e.d.c,e.d.d⟩⟩⟩,
 ⟨fun v e=>⟨e.a,e.b,e.c,⟨e.d.a,⟨e.d.b.a,⟨e.d.b.b.a,v,e.d.b.b.c,e.d.b.b.d⟩,e.d.b.c,e.d.b.d⟩,e.d.c,e.d.d⟩⟩⟩,
 ⟨fun v e=>⟨e.a,e.b,e.c,⟨e.d.a,⟨e.d.b.a,⟨e.d.b.b.a,e.d.b.b.b,v,e.d.b.b.d⟩,e.d.b.c,e.d.b.d⟩,e.d.c,e.d.d⟩⟩⟩,
 ⟨fun v e=>⟨e.a,e.b,e.c,⟨e.d.a,⟨e.d.b.a,⟨e.d.b.b.a,e.d.b.b.b,e.d.b.b.c,v⟩,e.d.b.c,e.d.b.d⟩,e.d.c,e.d.d⟩⟩⟩,
 ⟨fun v e=>⟨e.a,e.b,e.c,⟨e.d.a,⟨e.d.b.a,e.d.b.b,⟨v,e.d.b.c.b,e.d.b.c.c,e.d.b.c.d⟩,e.d.b.d⟩,e.d.c,e.d.d⟩⟩⟩,
 ⟨fun v e=>⟨e.a,e.b,e.c,⟨e.d.a,⟨e.d.b.a,e.d.b.b,⟨e.d.b.c.a,v,e.d.b.c.c,e.d.b.c.d⟩,e.d.b.d⟩,e.d.c,e.d.d⟩⟩⟩,
 ⟨fun v e=>⟨e.a,e.b,e.c,⟨e.d.a,⟨e.d.b.a,e.d.b.b,⟨e.d.b.c.a,e.d.b.c.b,v,e.d.b.c.d⟩,e.d.b.d⟩,e.d.c,e.d.d⟩⟩⟩,
 ⟨fun v e=>⟨e.a,e.b,e.c,⟨e.d.a,⟨e.d.b.a,e.d.b.b,⟨e.d.b.c.a,e.d.b.c.b,e.d.b.c.c,v⟩,e.d.b.d⟩,e.d.c,e.d.d⟩⟩⟩,
 ⟨fun v e=>⟨e.a,e.b,e.c,⟨e.d.a,⟨e.d.b.a,e.d.b.b,e.d.b.c,⟨v,e.d.b.d.b,e.d.b.d.c,e.d.b.d.d⟩⟩,e.d.c,e.d.d⟩⟩⟩,
 ⟨fun v e=>⟨e.a,e.b,e.c,⟨e.d.a,⟨e.d.b.a,e.d.b.b,e.d.b.c,⟨e.d.b.d.a,v,e.d.b.d.c,e.d.b.d.d⟩⟩,e.d.c,e.d.d⟩⟩⟩,
 ⟨fun v e=>⟨e.a,e.b,e.c,⟨e.d.a,⟨e.d.b.a,e.d.b.b,e.d.b.c,⟨e.d.b.d.a,e.d.b.d.b,v,e.d.b.d.d⟩⟩,e.d.c,e.d.d⟩⟩⟩,
 ⟨fun v e=>⟨e.a,e.b,e.c,⟨e.d.a,⟨e.d.b.a,e.d.b.b,e.d.b.c,⟨e.d.b.d.a,e.d.b.d.b,e.d.b.d.c,v⟩⟩,e.d.c,e.d.d⟩⟩⟩]
def aeT:List PS:=[
 ⟨fun v e=>⟨e.a,e.b,e.c,⟨e.d.a,e.d.b,⟨⟨v,e.d.c.a.b,e.d.c.a.c,e.d.c.a.d⟩,e.d.c.b,e.d.c.c,e.d.c.d⟩,e.d.d⟩⟩⟩,
 ⟨fun v e=>⟨e.a,e.b,e.c,⟨e.d.a,e.d.b,⟨⟨e.d.c.a.a,v,e.d.c.a.c,e.d.c.a.d⟩,e.d.c.b,e.d.c.c,e.d.c.d⟩,e.d.d⟩⟩⟩,
 ⟨fun v e=>⟨e.a,e.b,e.c,⟨e.d.a,e.d.b,⟨⟨e.d.c.a.a,e.d.c.a.b,v,e.d.c.a.d⟩,e.d.c.b,e.d.c.c,e.d.c.d⟩,e.d.d⟩⟩⟩,
 ⟨fun v e=>⟨e.a,e.b,e.c,⟨e.d.a,e.d.b,⟨⟨e.d.c.a.a,e.d.c.a.b,e.d.c.a.c,v⟩,e.d.c.b,e.d.c.c,e.d.c.d⟩,e.d.d⟩⟩⟩,
 ⟨fun v e=>⟨e.a,e.b,e.c,⟨e.d.a,e.d.b,⟨e.d.c.a,⟨v,e.d.c.b.b,e.d.c.b.c,e.d.c.b.d⟩,e.d.c.c,e.d.c.d⟩,e.d.d⟩⟩⟩,
 ⟨fun v e=>⟨e.a,e.b,e.c,⟨e.d.a,e.d.b,⟨e.d.c.a,⟨e.d.c.b.a,v,e.d.c.b.c,e.d.c.b.d⟩,e.d.c.c,e.d.c.d⟩,e.d.d⟩⟩⟩,
 ⟨fun v e=>⟨e.a,e.b,e.c,⟨e.d.a,e.d.b,⟨e.d.c.a,⟨e.d.c.b.a,e.d.c.b.b,v,e.d.c.b.d⟩,e.d.c.c,e.d.c.d⟩,e.d.d⟩⟩⟩,
 ⟨fun v e=>⟨e.a,e.b,e.c,⟨e.d.a,e.d.b,⟨e.d.c.a,⟨e.d.c.b.a,e.d.c.b.b,e.d.c.b.c,v⟩,e.d.c.c,e.d.c.d⟩,e.d.d⟩⟩⟩,
 ⟨fun v e=>⟨e.a,e.b,e.c,⟨e.d.a,e.d.b,⟨e.d.c.a,e.d.c.b,⟨v,e.d.c.c.b,e.d.c.c.c,e.d.c.c.d⟩,e.d.c.d⟩,e.d.d⟩⟩⟩,
 ⟨fun v e=>⟨e.a,e.b,e.c,⟨e.d.a,e.d.b,⟨e.d.c.a,e.d.c.b,⟨e.d.c.c.a,v,e.d.c.c.c,e.d.c.c.d⟩,e.d.c.d⟩,e.d.d⟩⟩⟩,
 ⟨fun v e=>⟨e.a,e.b,e.c,⟨e.d.a,e.d.b,⟨e.d.c.a,e.d.c.b,⟨e.d.c.c.a,e.d.c.c.b,v,e.d.c.c.d⟩,e.d.c.d⟩,e.d.d⟩⟩⟩,
 ⟨fun v e=>⟨e.a,e.b,e.c,⟨e.d.a,e.d.b,⟨e.d.c.a,e.d.c.b,⟨e.d.c.c.a,e.d.c.c.b,e.d.c.c.c,v⟩,e.d.c.d⟩,e.d.d⟩⟩⟩,
 ⟨fun v e=>⟨e.a,e.b,e.c,⟨e.d.a,e.d.b,⟨e.d.c.a,e.d.c.b,e.d.c.c,⟨v,e.d.c.d.b,e.d.c.d.c,e.d.c.d.d⟩⟩,e.d.d⟩⟩⟩,
 ⟨fun v e=>⟨e.a,e.b,e.c,⟨e.d.a,e.d.b,⟨e.d.c.a,e.d.c.b,e.d.c.c,⟨e.d.c.d.a,v,e.d.c.d.c,e.d.c.d.d⟩⟩,e.d.d⟩⟩⟩,
 ⟨fun v e=>⟨e.a,e.b,e.c,⟨e.d.a,e.d.b,⟨e.d.c.a,e.d.c.b,e.d.c.c,⟨e.d.c.d.a,e.d.c.d.b,v,e.d.c.d.d⟩⟩,e.d.d⟩⟩⟩,
 ⟨fun v e=>⟨e.a,e.b,e.c,⟨e.d.a,e.d.b,⟨e.d.c.a,e.d.c.b,e.d.c.c,⟨e.d.c.d.a,e.d.c.d.b,e.d.c.d.c,v⟩⟩,e.d.d⟩⟩⟩]
def aeU:List PS:=[
 ⟨fun v e=>⟨e.a,e.b,e.c,⟨e.d.a,e.d.b,e.d.c,⟨⟨v,e.d.d.a.b,e.d.d.a.c,e.d.d.a.d⟩,e.d.d.b,e.d.d.c,e.d.d.d⟩⟩⟩⟩,
 ⟨fun v e=>⟨e.a,e.b,e.c,⟨e.d.a,e.d.b,e.d.c,⟨⟨e.d.d.a.a,v,e.d.d.a.c,e.d.d.a.d⟩,e.d.d.b,e.d.d.c,e.d.d.d⟩⟩⟩⟩,
 ⟨fun v e=>⟨e.a,e.b,e.c,⟨e.d.a,e.d.b,e.d.c,⟨⟨e.d.d.a.a,e.d.d.a.b,v,e.d.d.a.d⟩,e.d.d.b,e.d.d.c,e.d.d.d⟩⟩⟩⟩,
 ⟨fun v e=>⟨e.a,e.b,e.c,⟨e.d.a,e.d.b,e.d.c,⟨⟨e.d.d.a.a,e.d.d.a.b,e.d.d.a.c,v⟩,e.d.d.b,e.d.d.c,e.d.d.d⟩⟩⟩⟩,
 ⟨fun v e=>⟨e.a,e.b,e.c,⟨e.d.a,e.d.b,e.d.c,⟨e.d.d.a,⟨v,e.d.d.b.b,e.d.d.b.c,e.d.d.b.d⟩,e.d.d.c,e.d.d.d⟩⟩⟩⟩,
 ⟨fun v e=>⟨e.a,e.b,e.c,⟨e.d.a,e.d.b,e.d.c,⟨e.d.d.a,⟨e.d.d.b.a,v,e.d.d.b.c,e.d.d.b.d⟩,e.d.d.c,e.d.d.d⟩⟩⟩⟩,
 ⟨fun v e=>⟨e.a,e.b,e.c,⟨e.d.a,e.d.b,e.d.c,⟨e.d.d.a,⟨e.d.d.b.a,e.d.d.b.b,v,e.d.d.b.d⟩,e.d.d.c,e.d.d.d⟩⟩⟩⟩,
 ⟨fun v e=>⟨e.a,e.b,e.c,⟨e.d.a,e.d.b,e.d.c,⟨e.d.d.a,⟨e.d.d.b.a,e.d.d.b.b,e.d.d.b.c,v⟩,e.d.d.c,e.d.d.d⟩⟩⟩⟩,
 ⟨fun v e=>⟨e.a,e.b,e.c,⟨e.d.a,e.d.b,e.d.c,⟨e.d.d.a,e.d.d.b,⟨v,e.d.d.c.b,e.d.d.c.c,e.d.d.c.d⟩,e.d.d.d⟩⟩⟩⟩,
 ⟨fun v e=>⟨e.a,e.b,e.c,⟨e.d.a,e.d.b,e.d.c,⟨e.d.d.a,e.d.d.b,⟨e.d.d.c.a,v,e.d.d.c.c,e.d.d.c.d⟩,e.d.d.d⟩⟩⟩⟩,
 ⟨fun v e=>⟨e.a,e.b,e.c,⟨e.d.a,e.d.b,e.d.c,⟨e.d.d.a,e.d.d.b,⟨e.d.d.c.a,e.d.d.c.b,v,e.d.d.c.d⟩,e.d.d.d⟩⟩⟩⟩,
 ⟨fun v e=>⟨e.a,e.b,e.c,⟨e.d.a,e.d.b,e.d.c,⟨e.d.d.a,e.d.d.b,⟨e.d.d.c.a,e.d.d.c.b,e.d.d.c.c,v⟩,e.d.d.d⟩⟩⟩⟩,
 ⟨fun v e=>⟨e.a,e.b,e.c,⟨e.d.a,e.d.b,e.d.c,⟨e.d.d.a,e.d.d.b,e.d.d.c,⟨v,e.d.d.d.b,e.d.d.d.c,e.d.d.d.d⟩⟩⟩⟩⟩,
 ⟨fun v e=>⟨e.a,e.b,e.c,⟨e.d.a,e.d.b,e.d.c,⟨e.d.d.a,e.d.d.b,e.d.d.c,⟨e.d.d.d.a,v,e.d.d.d.c,e.d.d.d.d⟩⟩⟩⟩⟩,
 ⟨fun v e=>⟨e.a,e.b,e.c,⟨e.d.a,e.d.b,e.d.c,⟨e.d.d.a,e.d.d.b,e.d.d.c,⟨e.d.d.d.a,e.d.d.d.b,v,e.d.d.d.d⟩⟩⟩⟩⟩,
 ⟨fun v e=>⟨e.a,e.b,e.c,⟨e.d.a,e.d.b,e.d.c,⟨e.d.d.a,e.d.d.b,e.d.d.c,⟨e.d.d.d.a,e.d.d.d.b,e.d.d.d.c,v⟩⟩⟩⟩⟩]
def aa8 {β:Type} (z:β):List β→Nat→β:=
 List.rec (motive:=fun _=>Nat→β) (fun _=>z) (fun x _ ih i=>Bool.rec (ih (Nat.pred i)) x (Nat.beq i (nat_lit 0)))
def ah5:List (List EV):=[ahL,ahM,ahN,ahO,ahP,ahQ,ahR,ahS,ahT,ahU,aeJ,aeK,aeL,aeM,aeN,aeO]
def ah6:List (List PS):=[ahV,ahW,ahX,ahY,ahZ,ah0,ah1,ah2,ah3,ah4,aeP,aeQ,aeR,aeS,aeT,aeU]
def gT (i:Nat):EV:=aa8 ⟨fun _=> .bad⟩ (aa8 [] ah5 (Nat.div i (nat_lit 16))) (Nat.mod i (nat_lit 16))
def pT (i:Nat):PS:=aa8 ⟨fun _ e=>e⟩ (aa8 [] ah6 (Nat.div i (nat_lit 16))) (Nat.mod i (nat_lit 16))
end
end Go.Proofs.YtocaiijbhepnnaaGreatDoor.Am
