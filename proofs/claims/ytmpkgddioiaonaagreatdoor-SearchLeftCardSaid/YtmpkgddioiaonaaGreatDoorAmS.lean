/- The abstract machine, first part: its data (strings, tries, values, blocks, heaps) and their small laws. -/
/- The abstract machine: a frame's slots, each read and laid by a closed function. (Printed by slots.py.) -/
import GoSem.Step
import Derived.Control
namespace Go.Proofs.YtmpkgddioiaonaaGreatDoor.Am
noncomputable section
def sN {α : Type} (x : Nat) (k : Nat → α) : α := Bool.rec (k x) (k x) (Nat.ble x (nat_lit 0))
theorem sN_eq {α : Type} (x : Nat) (k : Nat → α) : sN x k = k x := by unfold sN; cases Nat.ble x (nat_lit 0) <;> rfl

structure S4 (α : Type) where
 a : α
 b : α
 c : α
 d : α
@[reducible] def E (α : Type) : Nat → Type
  | 0 => α
  | k + 1 => S4 (E α k)
inductive D where
 | d0 | d1 | d2 | d3
 deriving DecidableEq
inductive P where
 | z
 | s (d : D) (p : P)

def dig (n : Nat) : D :=
 Bool.rec (Bool.rec (Bool.rec .d3 .d2 (Nat.beq n (nat_lit 2))) .d1 (Nat.beq n (nat_lit 1))) .d0 (Nat.beq n (nat_lit 0))
def path (k : Nat) : Nat → P :=
 Nat.rec (motive := fun _ => Nat → P) (fun _ => .z)
  (fun k ih n => .s (dig (Nat.div n (Nat.pow (nat_lit 4) k))) (ih (Nat.mod n (Nat.pow (nat_lit 4) k)))) k

def selS {β : Type} : D → S4 β → β := D.rec (motive := fun _ => S4 β → β) S4.a S4.b S4.c S4.d
def updS {β : Type} : D → (β → β) → S4 β → S4 β := D.rec (motive := fun _ => (β → β) → S4 β → S4 β)
 (fun f e => ⟨f e.a, e.b, e.c, e.d⟩) (fun f e => ⟨e.a, f e.b, e.c, e.d⟩) (fun f e => ⟨e.a, e.b, f e.c, e.d⟩) (fun f e => ⟨e.a, e.b, e.c, f e.d⟩)

namespace E
variable {α : Type}
def get (k : Nat) : P → E α k → α :=
 Nat.rec (motive := fun k => P → E α k → α) (fun _ e => e)
  (fun k ih => P.rec (motive := fun _ => E α (Nat.succ k) → α) (fun e => ih .z (S4.a e)) (fun d r _ e => ih r (selS d e))) k
def put (x : α) (k : Nat) : P → E α k → E α k :=
 Nat.rec (motive := fun k => P → E α k → E α k) (fun _ _ => x)
  (fun k ih => P.rec (motive := fun _ => E α (Nat.succ k) → E α (Nat.succ k)) (fun e => e) (fun d r _ e => updS d (ih r) e)) k
def rep (x : α) (k : Nat) : E α k := Nat.rec (motive := fun k => E α k) x (fun _ ih => ⟨ih, ih, ih, ih⟩) k
def grow (x : α) (k : Nat) (e : E α k) : E α (Nat.succ k) := ⟨e, rep x k, rep x k, rep x k⟩
end E

theorem dig_inj {a b : Nat} (ha : a < 4) (hb : b < 4) (h : dig a = dig b) : a = b := by
 match a, b, ha, hb with
 | 0, 0, _, _ | 1, 1, _, _ | 2, 2, _, _ | 3, 3, _, _ => rfl
 | 0, 1, _, _ | 0, 2, _, _ | 0, 3, _, _ | 1, 0, _, _ | 1, 2, _, _ | 1, 3, _, _ | 2, 0, _, _ | 2, 1, _, _ | 2, 3, _, _ | 3, 0, _, _ | 3, 1, _, _ | 3, 2, _, _ => cases h
theorem path_s (k n : Nat) : path (k + 1) n = .s (dig (n / 4 ^ k)) (path k (n % 4 ^ k)) := rfl
theorem sel_upd {β : Type} (d d' : D) (f : β → β) (t : S4 β) : selS d' (updS d f t) = if d' = d then f (selS d t) else selS d' t := by
 cases d <;> cases d' <;> rfl

namespace E
variable {α : Type}
theorem get_s (k : Nat) (d : D) (p : P) (t : E α (k + 1)) : get (k + 1) (.s d p) t = get k p (selS d t) := rfl
theorem put_s (x : α) (k : Nat) (d : D) (p : P) (t : E α (k + 1)) : put x (k + 1) (.s d p) t = updS d (put x k p) t := rfl
theorem get_put_same (x : α) (k i : Nat) (t : E α k) : get k (path k i) (put x k (path k i) t) = x := by
 induction k generalizing i with
 | zero => rfl
 | succ k ih => rw [path_s, get_s, put_s, sel_upd, if_pos rfl]; exact ih _ _
theorem get_put_ne (x : α) (k i j : Nat) (hi : i < 4 ^ k) (hj : j < 4 ^ k) (h : i ≠ j) (t : E α k) : get k (path k j) (put x k (path k i) t) = get k (path k j) t := by
 induction k generalizing i j with
 | zero => simp at hi hj; omega
 | succ k ih =>
   rw [path_s, path_s, get_s, put_s, sel_upd, get_s]
   have hp : 0 < 4 ^ k := Nat.pow_pos (by omega)
   have hi' : i / 4 ^ k < 4 := Nat.div_lt_of_lt_mul (by rw [Nat.pow_succ] at hi; exact hi)
   have hj' : j / 4 ^ k < 4 := Nat.div_lt_of_lt_mul (by rw [Nat.pow_succ] at hj; exact hj)
   split
   ·rename_i hd
    have hm := dig_inj hj' hi' hd
    rw [← hd]
    refine ih _ _ (Nat.mod_lt _ hp) (Nat.mod_lt _ hp) ?_ _
    intro he
    apply h
    rw [← Nat.div_add_mod i (4 ^ k), ← Nat.div_add_mod j (4 ^ k), he, hm]
   ·rfl
theorem get_rep (x : α) (k : Nat) : ∀ (p : P), get k p (rep x k) = x := by
 induction k with
 | zero => intro p; rfl
 | succ k ih =>
   intro p
   cases p with
   | z => exact ih _
   | s d p => rw [get_s]; cases d <;> exact ih _
theorem get_grow (x : α) (k i : Nat) (hi : i < 4 ^ k) (e : E α k) : get (k + 1) (path (k + 1) i) (grow x k e) = get k (path k i) e := by
 rw [path_s, get_s, Nat.div_eq_of_lt hi, Nat.mod_eq_of_lt hi]; rfl
theorem get_grow_new (x : α) (k i : Nat) (hi : 4 ^ k ≤ i) (hj : i < 4 ^ (k + 1)) (e : E α k) : get (k + 1) (path (k + 1) i) (grow x k e) = x := by
 rw [path_s, get_s]
 have hp : 0 < 4 ^ k := Nat.pow_pos (by omega)
 have h1 : 1 ≤ i / 4 ^ k := (Nat.one_le_div_iff hp).2 hi
 have h2 : i / 4 ^ k < 4 := Nat.div_lt_of_lt_mul (by rw [Nat.pow_succ] at hj; exact hj)
 have : i / 4 ^ k = 1 ∨ i / 4 ^ k = 2 ∨ i / 4 ^ k = 3 := by omega
 rcases this with h | h | h <;> rw [h] <;> exact get_rep _ _ _
end E

structure Str where
 len : Nat
 val : Nat
 deriving DecidableEq

namespace Str
def go : List UInt8 → Nat → Nat → Str :=
 List.rec (motive := fun _ => Nat → Nat → Str) (fun n v => ⟨n, v⟩)
  (fun b _ ih n v => sN (Nat.add (Nat.mul v (nat_lit 256)) b.toNat) fun v' => ih (Nat.succ n) v')
def of (b : ByteArray) : Str := go b.data.toList (nat_lit 0) (nat_lit 0)
def byte (s : Str) (i : Nat) : Nat := Nat.mod (Nat.shiftRight s.val (Nat.mul (nat_lit 8) (Nat.sub (Nat.sub s.len (nat_lit 1)) i))) (nat_lit 256)
def sub (s : Str) (a b : Nat) : Str :=
 ⟨Nat.sub b a, Nat.mod (Nat.shiftRight s.val (Nat.mul (nat_lit 8) (Nat.sub s.len b))) (Nat.pow (nat_lit 2) (Nat.mul (nat_lit 8) (Nat.sub b a)))⟩
def app (a b : Str) : Str := ⟨Nat.add a.len b.len, Nat.add (Nat.shiftLeft a.val (Nat.mul (nat_lit 8) b.len)) b.val⟩
def eq (a b : Str) : Bool := Bool.rec false (Nat.beq a.val b.val) (Nat.beq a.len b.len)
end Str

inductive AV where
 | bad
 | unk
 | bool (b : Bool)
 | int (k : IntKind) (n : Int)
 | str (s : Str)
 | ptr (b off : Nat)
 | nilp
 | slice (b off len es : Nat) (z : Bool)
 | nils
 | map (b : Nat)
 | nilm
 | fn (f : Nat) (first capt : AV)
 | yld (l : Nat)
 | nilf
 | ifc (t : Nat) (v : AV)
 | nili
 | agg (cs : AV)
 | tup (vs : AV)
 | nil
 | cons (h t : AV)
inductive Blk where
 | cells (el : Nat) (ro : Bool) (n d : Nat) (t : E AV d)
 | imap (k : IntKind) (n clock : Nat) (t : E (Option AV) 11) (lk : Nat)
 | smap (n clock : Nat) (l : List (Str × AV))
 | iter (s : Str) (pos : Nat)
 | loop (st : LoopState) (pend : Option Code) (fn : Nat) (env : S4 (S4 (S4 (S4 AV)))) (ps : List Tmp) (assign body : Code) (dfr : Nat)
 | dfr
 | taken

def hd : Nat := nat_lit 8
structure H where
 t : E (Option Blk) hd
 next : Nat
 ln : Nat
 log : List Nat
def H.get (h : H) (b : Nat) : Option Blk := E.get hd (path hd b) h.t
def H.room (h : H) : Bool := Nat.ble (Nat.succ h.next) (nat_lit 65536)
def H.set (h : H) (b : Nat) (x : Blk) : H := ⟨E.put (some x) hd (path hd b) h.t, h.next, Nat.succ h.ln, b :: h.log⟩
def H.kill (h : H) (b : Nat) : H := ⟨E.put none hd (path hd b) h.t, h.next, Nat.succ h.ln, b :: h.log⟩
def H.new (h : H) (x : Blk) : H := ⟨E.put (some x) hd (path hd h.next) h.t, Nat.succ h.next, h.ln, h.log⟩
def h00 (n : Nat) : H := ⟨E.rep none hd, n, nat_lit 0, []⟩

end
end Go.Proofs.YtmpkgddioiaonaaGreatDoor.Am
namespace Go.Proofs.YtmpkgddioiaonaaGreatDoor.Am
noncomputable section
abbrev Env := S4 (S4 (S4 (S4 AV)))
structure EV where
 f : Env → AV
structure PS where
 f : AV → Env → Env
structure U1 where
 f : AV → AV
structure B2 where
 f : AV → AV → AV
def env0 : Env := E.rep AV.bad 4
def gTab0 : List EV := [
 ⟨fun e => e.a.a.a.a⟩,
 ⟨fun e => e.a.a.a.b⟩,
 ⟨fun e => e.a.a.a.c⟩,
 ⟨fun e => e.a.a.a.d⟩,
 ⟨fun e => e.a.a.b.a⟩,
 ⟨fun e => e.a.a.b.b⟩,
 ⟨fun e => e.a.a.b.c⟩,
 ⟨fun e => e.a.a.b.d⟩,
 ⟨fun e => e.a.a.c.a⟩,
 ⟨fun e => e.a.a.c.b⟩,
 ⟨fun e => e.a.a.c.c⟩,
 ⟨fun e => e.a.a.c.d⟩,
 ⟨fun e => e.a.a.d.a⟩,
 ⟨fun e => e.a.a.d.b⟩,
 ⟨fun e => e.a.a.d.c⟩,
 ⟨fun e => e.a.a.d.d⟩]
def gTab1 : List EV := [
 ⟨fun e => e.a.b.a.a⟩,
 ⟨fun e => e.a.b.a.b⟩,
 ⟨fun e => e.a.b.a.c⟩,
 ⟨fun e => e.a.b.a.d⟩,
 ⟨fun e => e.a.b.b.a⟩,
 ⟨fun e => e.a.b.b.b⟩,
 ⟨fun e => e.a.b.b.c⟩,
 ⟨fun e => e.a.b.b.d⟩,
 ⟨fun e => e.a.b.c.a⟩,
 ⟨fun e => e.a.b.c.b⟩,
 ⟨fun e => e.a.b.c.c⟩,
 ⟨fun e => e.a.b.c.d⟩,
 ⟨fun e => e.a.b.d.a⟩,
 ⟨fun e => e.a.b.d.b⟩,
 ⟨fun e => e.a.b.d.c⟩,
 ⟨fun e => e.a.b.d.d⟩]
def gTab2 : List EV := [
 ⟨fun e => e.a.c.a.a⟩,
 ⟨fun e => e.a.c.a.b⟩,
 ⟨fun e => e.a.c.a.c⟩,
 ⟨fun e => e.a.c.a.d⟩,
 ⟨fun e => e.a.c.b.a⟩,
 ⟨fun e => e.a.c.b.b⟩,
 ⟨fun e => e.a.c.b.c⟩,
 ⟨fun e => e.a.c.b.d⟩,
 ⟨fun e => e.a.c.c.a⟩,
 ⟨fun e => e.a.c.c.b⟩,
 ⟨fun e => e.a.c.c.c⟩,
 ⟨fun e => e.a.c.c.d⟩,
 ⟨fun e => e.a.c.d.a⟩,
 ⟨fun e => e.a.c.d.b⟩,
 ⟨fun e => e.a.c.d.c⟩,
 ⟨fun e => e.a.c.d.d⟩]
def gTab3 : List EV := [
 ⟨fun e => e.a.d.a.a⟩,
 ⟨fun e => e.a.d.a.b⟩,
 ⟨fun e => e.a.d.a.c⟩,
 ⟨fun e => e.a.d.a.d⟩,
 ⟨fun e => e.a.d.b.a⟩,
 ⟨fun e => e.a.d.b.b⟩,
 ⟨fun e => e.a.d.b.c⟩,
 ⟨fun e => e.a.d.b.d⟩,
 ⟨fun e => e.a.d.c.a⟩,
 ⟨fun e => e.a.d.c.b⟩,
 ⟨fun e => e.a.d.c.c⟩,
 ⟨fun e => e.a.d.c.d⟩,
 ⟨fun e => e.a.d.d.a⟩,
 ⟨fun e => e.a.d.d.b⟩,
 ⟨fun e => e.a.d.d.c⟩,
 ⟨fun e => e.a.d.d.d⟩]
def gTab4 : List EV := [
 ⟨fun e => e.b.a.a.a⟩,
 ⟨fun e => e.b.a.a.b⟩,
 ⟨fun e => e.b.a.a.c⟩,
 ⟨fun e => e.b.a.a.d⟩,
 ⟨fun e => e.b.a.b.a⟩,
 ⟨fun e => e.b.a.b.b⟩,
 ⟨fun e => e.b.a.b.c⟩,
 ⟨fun e => e.b.a.b.d⟩,
 ⟨fun e => e.b.a.c.a⟩,
 ⟨fun e => e.b.a.c.b⟩,
 ⟨fun e => e.b.a.c.c⟩,
 ⟨fun e => e.b.a.c.d⟩,
 ⟨fun e => e.b.a.d.a⟩,
 ⟨fun e => e.b.a.d.b⟩,
 ⟨fun e => e.b.a.d.c⟩,
 ⟨fun e => e.b.a.d.d⟩]
def gTab5 : List EV := [
 ⟨fun e => e.b.b.a.a⟩,
 ⟨fun e => e.b.b.a.b⟩,
 ⟨fun e => e.b.b.a.c⟩,
 ⟨fun e => e.b.b.a.d⟩,
 ⟨fun e => e.b.b.b.a⟩,
 ⟨fun e => e.b.b.b.b⟩,
 ⟨fun e => e.b.b.b.c⟩,
 ⟨fun e => e.b.b.b.d⟩,
 ⟨fun e => e.b.b.c.a⟩,
 ⟨fun e => e.b.b.c.b⟩,
 ⟨fun e => e.b.b.c.c⟩,
 ⟨fun e => e.b.b.c.d⟩,
 ⟨fun e => e.b.b.d.a⟩,
 ⟨fun e => e.b.b.d.b⟩,
 ⟨fun e => e.b.b.d.c⟩,
 ⟨fun e => e.b.b.d.d⟩]
def gTab6 : List EV := [
 ⟨fun e => e.b.c.a.a⟩,
 ⟨fun e => e.b.c.a.b⟩,
 ⟨fun e => e.b.c.a.c⟩,
 ⟨fun e => e.b.c.a.d⟩,
 ⟨fun e => e.b.c.b.a⟩,
 ⟨fun e => e.b.c.b.b⟩,
 ⟨fun e => e.b.c.b.c⟩,
 ⟨fun e => e.b.c.b.d⟩,
 ⟨fun e => e.b.c.c.a⟩,
 ⟨fun e => e.b.c.c.b⟩,
 ⟨fun e => e.b.c.c.c⟩,
 ⟨fun e => e.b.c.c.d⟩,
 ⟨fun e => e.b.c.d.a⟩,
 ⟨fun e => e.b.c.d.b⟩,
 ⟨fun e => e.b.c.d.c⟩,
 ⟨fun e => e.b.c.d.d⟩]
def gTab7 : List EV := [
 ⟨fun e => e.b.d.a.a⟩,
 ⟨fun e => e.b.d.a.b⟩,
 ⟨fun e => e.b.d.a.c⟩,
 ⟨fun e => e.b.d.a.d⟩,
 ⟨fun e => e.b.d.b.a⟩,
 ⟨fun e => e.b.d.b.b⟩,
 ⟨fun e => e.b.d.b.c⟩,
 ⟨fun e => e.b.d.b.d⟩,
 ⟨fun e => e.b.d.c.a⟩,
 ⟨fun e => e.b.d.c.b⟩,
 ⟨fun e => e.b.d.c.c⟩,
 ⟨fun e => e.b.d.c.d⟩,
 ⟨fun e => e.b.d.d.a⟩,
 ⟨fun e => e.b.d.d.b⟩,
 ⟨fun e => e.b.d.d.c⟩,
 ⟨fun e => e.b.d.d.d⟩]
def gTab8 : List EV := [
 ⟨fun e => e.c.a.a.a⟩,
 ⟨fun e => e.c.a.a.b⟩,
 ⟨fun e => e.c.a.a.c⟩,
 ⟨fun e => e.c.a.a.d⟩,
 ⟨fun e => e.c.a.b.a⟩,
 ⟨fun e => e.c.a.b.b⟩,
 ⟨fun e => e.c.a.b.c⟩,
 ⟨fun e => e.c.a.b.d⟩,
 ⟨fun e => e.c.a.c.a⟩,
 ⟨fun e => e.c.a.c.b⟩,
 ⟨fun e => e.c.a.c.c⟩,
 ⟨fun e => e.c.a.c.d⟩,
 ⟨fun e => e.c.a.d.a⟩,
 ⟨fun e => e.c.a.d.b⟩,
 ⟨fun e => e.c.a.d.c⟩,
 ⟨fun e => e.c.a.d.d⟩]
def gTab9 : List EV := [
 ⟨fun e => e.c.b.a.a⟩,
 ⟨fun e => e.c.b.a.b⟩,
 ⟨fun e => e.c.b.a.c⟩,
 ⟨fun e => e.c.b.a.d⟩,
 ⟨fun e => e.c.b.b.a⟩,
 ⟨fun e => e.c.b.b.b⟩,
 ⟨fun e => e.c.b.b.c⟩,
 ⟨fun e => e.c.b.b.d⟩,
 ⟨fun e => e.c.b.c.a⟩,
 ⟨fun e => e.c.b.c.b⟩,
 ⟨fun e => e.c.b.c.c⟩,
 ⟨fun e => e.c.b.c.d⟩,
 ⟨fun e => e.c.b.d.a⟩,
 ⟨fun e => e.c.b.d.b⟩,
 ⟨fun e => e.c.b.d.c⟩,
 ⟨fun e => e.c.b.d.d⟩]
def gTab10 : List EV := [
 ⟨fun e => e.c.c.a.a⟩,
 ⟨fun e => e.c.c.a.b⟩,
 ⟨fun e => e.c.c.a.c⟩,
 ⟨fun e => e.c.c.a.d⟩,
 ⟨fun e => e.c.c.b.a⟩,
 ⟨fun e => e.c.c.b.b⟩,
 ⟨fun e => e.c.c.b.c⟩,
 ⟨fun e => e.c.c.b.d⟩,
 ⟨fun e => e.c.c.c.a⟩,
 ⟨fun e => e.c.c.c.b⟩,
 ⟨fun e => e.c.c.c.c⟩,
 ⟨fun e => e.c.c.c.d⟩,
 ⟨fun e => e.c.c.d.a⟩,
 ⟨fun e => e.c.c.d.b⟩,
 ⟨fun e => e.c.c.d.c⟩,
 ⟨fun e => e.c.c.d.d⟩]
def gTab11 : List EV := [
 ⟨fun e => e.c.d.a.a⟩,
 ⟨fun e => e.c.d.a.b⟩,
 ⟨fun e => e.c.d.a.c⟩,
 ⟨fun e => e.c.d.a.d⟩,
 ⟨fun e => e.c.d.b.a⟩,
 ⟨fun e => e.c.d.b.b⟩,
 ⟨fun e => e.c.d.b.c⟩,
 ⟨fun e => e.c.d.b.d⟩,
 ⟨fun e => e.c.d.c.a⟩,
 ⟨fun e => e.c.d.c.b⟩,
 ⟨fun e => e.c.d.c.c⟩,
 ⟨fun e => e.c.d.c.d⟩,
 ⟨fun e => e.c.d.d.a⟩,
 ⟨fun e => e.c.d.d.b⟩,
 ⟨fun e => e.c.d.d.c⟩,
 ⟨fun e => e.c.d.d.d⟩]
def gTab12 : List EV := [
 ⟨fun e => e.d.a.a.a⟩,
 ⟨fun e => e.d.a.a.b⟩,
 ⟨fun e => e.d.a.a.c⟩,
 ⟨fun e => e.d.a.a.d⟩,
 ⟨fun e => e.d.a.b.a⟩,
 ⟨fun e => e.d.a.b.b⟩,
 ⟨fun e => e.d.a.b.c⟩,
 ⟨fun e => e.d.a.b.d⟩,
 ⟨fun e => e.d.a.c.a⟩,
 ⟨fun e => e.d.a.c.b⟩,
 ⟨fun e => e.d.a.c.c⟩,
 ⟨fun e => e.d.a.c.d⟩,
 ⟨fun e => e.d.a.d.a⟩,
 ⟨fun e => e.d.a.d.b⟩,
 ⟨fun e => e.d.a.d.c⟩,
 ⟨fun e => e.d.a.d.d⟩]
def gTab13 : List EV := [
 ⟨fun e => e.d.b.a.a⟩,
 ⟨fun e => e.d.b.a.b⟩,
 ⟨fun e => e.d.b.a.c⟩,
 ⟨fun e => e.d.b.a.d⟩,
 ⟨fun e => e.d.b.b.a⟩,
 ⟨fun e => e.d.b.b.b⟩,
 ⟨fun e => e.d.b.b.c⟩,
 ⟨fun e => e.d.b.b.d⟩,
 ⟨fun e => e.d.b.c.a⟩,
 ⟨fun e => e.d.b.c.b⟩,
 ⟨fun e => e.d.b.c.c⟩,
 ⟨fun e => e.d.b.c.d⟩,
 ⟨fun e => e.d.b.d.a⟩,
 ⟨fun e => e.d.b.d.b⟩,
 ⟨fun e => e.d.b.d.c⟩,
 ⟨fun e => e.d.b.d.d⟩]
def gTab14 : List EV := [
 ⟨fun e => e.d.c.a.a⟩,
 ⟨fun e => e.d.c.a.b⟩,
 ⟨fun e => e.d.c.a.c⟩,
 ⟨fun e => e.d.c.a.d⟩,
 ⟨fun e => e.d.c.b.a⟩,
 ⟨fun e => e.d.c.b.b⟩,
 ⟨fun e => e.d.c.b.c⟩,
 ⟨fun e => e.d.c.b.d⟩,
 ⟨fun e => e.d.c.c.a⟩,
 ⟨fun e => e.d.c.c.b⟩,
 ⟨fun e => e.d.c.c.c⟩,
 ⟨fun e => e.d.c.c.d⟩,
 ⟨fun e => e.d.c.d.a⟩,
 ⟨fun e => e.d.c.d.b⟩,
 ⟨fun e => e.d.c.d.c⟩,
 ⟨fun e => e.d.c.d.d⟩]
def gTab15 : List EV := [
 ⟨fun e => e.d.d.a.a⟩,
 ⟨fun e => e.d.d.a.b⟩,
 ⟨fun e => e.d.d.a.c⟩,
 ⟨fun e => e.d.d.a.d⟩,
 ⟨fun e => e.d.d.b.a⟩,
 ⟨fun e => e.d.d.b.b⟩,
 ⟨fun e => e.d.d.b.c⟩,
 ⟨fun e => e.d.d.b.d⟩,
 ⟨fun e => e.d.d.c.a⟩,
 ⟨fun e => e.d.d.c.b⟩,
 ⟨fun e => e.d.d.c.c⟩,
 ⟨fun e => e.d.d.c.d⟩,
 ⟨fun e => e.d.d.d.a⟩,
 ⟨fun e => e.d.d.d.b⟩,
 ⟨fun e => e.d.d.d.c⟩,
 ⟨fun e => e.d.d.d.d⟩]
def pTab0 : List PS := [
 ⟨fun v e => ⟨⟨⟨⟨v, e.a.a.a.b, e.a.a.a.c, e.a.a.a.d⟩, e.a.a.b, e.a.a.c, e.a.a.d⟩, e.a.b, e.a.c, e.a.d⟩, e.b, e.c, e.d⟩⟩,
 ⟨fun v e => ⟨⟨⟨⟨e.a.a.a.a, v, e.a.a.a.c, e.a.a.a.d⟩, e.a.a.b, e.a.a.c, e.a.a.d⟩, e.a.b, e.a.c, e.a.d⟩, e.b, e.c, e.d⟩⟩,
 ⟨fun v e => ⟨⟨⟨⟨e.a.a.a.a, e.a.a.a.b, v, e.a.a.a.d⟩, e.a.a.b, e.a.a.c, e.a.a.d⟩, e.a.b, e.a.c, e.a.d⟩, e.b, e.c, e.d⟩⟩,
 ⟨fun v e => ⟨⟨⟨⟨e.a.a.a.a, e.a.a.a.b, e.a.a.a.c, v⟩, e.a.a.b, e.a.a.c, e.a.a.d⟩, e.a.b, e.a.c, e.a.d⟩, e.b, e.c, e.d⟩⟩,
 ⟨fun v e => ⟨⟨⟨e.a.a.a, ⟨v, e.a.a.b.b, e.a.a.b.c, e.a.a.b.d⟩, e.a.a.c, e.a.a.d⟩, e.a.b, e.a.c, e.a.d⟩, e.b, e.c, e.d⟩⟩,
 ⟨fun v e => ⟨⟨⟨e.a.a.a, ⟨e.a.a.b.a, v, e.a.a.b.c, e.a.a.b.d⟩, e.a.a.c, e.a.a.d⟩, e.a.b, e.a.c, e.a.d⟩, e.b, e.c, e.d⟩⟩,
 ⟨fun v e => ⟨⟨⟨e.a.a.a, ⟨e.a.a.b.a, e.a.a.b.b, v, e.a.a.b.d⟩, e.a.a.c, e.a.a.d⟩, e.a.b, e.a.c, e.a.d⟩, e.b, e.c, e.d⟩⟩,
 ⟨fun v e => ⟨⟨⟨e.a.a.a, ⟨e.a.a.b.a, e.a.a.b.b, e.a.a.b.c, v⟩, e.a.a.c, e.a.a.d⟩, e.a.b, e.a.c, e.a.d⟩, e.b, e.c, e.d⟩⟩,
 ⟨fun v e => ⟨⟨⟨e.a.a.a, e.a.a.b, ⟨v, e.a.a.c.b, e.a.a.c.c, e.a.a.c.d⟩, e.a.a.d⟩, e.a.b, e.a.c, e.a.d⟩, e.b, e.c, e.d⟩⟩,
 ⟨fun v e => ⟨⟨⟨e.a.a.a, e.a.a.b, ⟨e.a.a.c.a, v, e.a.a.c.c, e.a.a.c.d⟩, e.a.a.d⟩, e.a.b, e.a.c, e.a.d⟩, e.b, e.c, e.d⟩⟩,
 ⟨fun v e => ⟨⟨⟨e.a.a.a, e.a.a.b, ⟨e.a.a.c.a, e.a.a.c.b, v, e.a.a.c.d⟩, e.a.a.d⟩, e.a.b, e.a.c, e.a.d⟩, e.b, e.c, e.d⟩⟩,
 ⟨fun v e => ⟨⟨⟨e.a.a.a, e.a.a.b, ⟨e.a.a.c.a, e.a.a.c.b, e.a.a.c.c, v⟩, e.a.a.d⟩, e.a.b, e.a.c, e.a.d⟩, e.b, e.c, e.d⟩⟩,
 ⟨fun v e => ⟨⟨⟨e.a.a.a, e.a.a.b, e.a.a.c, ⟨v, e.a.a.d.b, e.a.a.d.c, e.a.a.d.d⟩⟩, e.a.b, e.a.c, e.a.d⟩, e.b, e.c, e.d⟩⟩,
 ⟨fun v e => ⟨⟨⟨e.a.a.a, e.a.a.b, e.a.a.c, ⟨e.a.a.d.a, v, e.a.a.d.c, e.a.a.d.d⟩⟩, e.a.b, e.a.c, e.a.d⟩, e.b, e.c, e.d⟩⟩,
 ⟨fun v e => ⟨⟨⟨e.a.a.a, e.a.a.b, e.a.a.c, ⟨e.a.a.d.a, e.a.a.d.b, v, e.a.a.d.d⟩⟩, e.a.b, e.a.c, e.a.d⟩, e.b, e.c, e.d⟩⟩,
 ⟨fun v e => ⟨⟨⟨e.a.a.a, e.a.a.b, e.a.a.c, ⟨e.a.a.d.a, e.a.a.d.b, e.a.a.d.c, v⟩⟩, e.a.b, e.a.c, e.a.d⟩, e.b, e.c, e.d⟩⟩]
def pTab1 : List PS := [
 ⟨fun v e => ⟨⟨e.a.a, ⟨⟨v, e.a.b.a.b, e.a.b.a.c, e.a.b.a.d⟩, e.a.b.b, e.a.b.c, e.a.b.d⟩, e.a.c, e.a.d⟩, e.b, e.c, e.d⟩⟩,
 ⟨fun v e => ⟨⟨e.a.a, ⟨⟨e.a.b.a.a, v, e.a.b.a.c, e.a.b.a.d⟩, e.a.b.b, e.a.b.c, e.a.b.d⟩, e.a.c, e.a.d⟩, e.b, e.c, e.d⟩⟩,
 ⟨fun v e => ⟨⟨e.a.a, ⟨⟨e.a.b.a.a, e.a.b.a.b, v, e.a.b.a.d⟩, e.a.b.b, e.a.b.c, e.a.b.d⟩, e.a.c, e.a.d⟩, e.b, e.c, e.d⟩⟩,
 ⟨fun v e => ⟨⟨e.a.a, ⟨⟨e.a.b.a.a, e.a.b.a.b, e.a.b.a.c, v⟩, e.a.b.b, e.a.b.c, e.a.b.d⟩, e.a.c, e.a.d⟩, e.b, e.c, e.d⟩⟩,
 ⟨fun v e => ⟨⟨e.a.a, ⟨e.a.b.a, ⟨v, e.a.b.b.b, e.a.b.b.c, e.a.b.b.d⟩, e.a.b.c, e.a.b.d⟩, e.a.c, e.a.d⟩, e.b, e.c, e.d⟩⟩,
 ⟨fun v e => ⟨⟨e.a.a, ⟨e.a.b.a, ⟨e.a.b.b.a, v, e.a.b.b.c, e.a.b.b.d⟩, e.a.b.c, e.a.b.d⟩, e.a.c, e.a.d⟩, e.b, e.c, e.d⟩⟩,
 ⟨fun v e => ⟨⟨e.a.a, ⟨e.a.b.a, ⟨e.a.b.b.a, e.a.b.b.b, v, e.a.b.b.d⟩, e.a.b.c, e.a.b.d⟩, e.a.c, e.a.d⟩, e.b, e.c, e.d⟩⟩,
 ⟨fun v e => ⟨⟨e.a.a, ⟨e.a.b.a, ⟨e.a.b.b.a, e.a.b.b.b, e.a.b.b.c, v⟩, e.a.b.c, e.a.b.d⟩, e.a.c, e.a.d⟩, e.b, e.c, e.d⟩⟩,
 ⟨fun v e => ⟨⟨e.a.a, ⟨e.a.b.a, e.a.b.b, ⟨v, e.a.b.c.b, e.a.b.c.c, e.a.b.c.d⟩, e.a.b.d⟩, e.a.c, e.a.d⟩, e.b, e.c, e.d⟩⟩,
 ⟨fun v e => ⟨⟨e.a.a, ⟨e.a.b.a, e.a.b.b, ⟨e.a.b.c.a, v, e.a.b.c.c, e.a.b.c.d⟩, e.a.b.d⟩, e.a.c, e.a.d⟩, e.b, e.c, e.d⟩⟩,
 ⟨fun v e => ⟨⟨e.a.a, ⟨e.a.b.a, e.a.b.b, ⟨e.a.b.c.a, e.a.b.c.b, v, e.a.b.c.d⟩, e.a.b.d⟩, e.a.c, e.a.d⟩, e.b, e.c, e.d⟩⟩,
 ⟨fun v e => ⟨⟨e.a.a, ⟨e.a.b.a, e.a.b.b, ⟨e.a.b.c.a, e.a.b.c.b, e.a.b.c.c, v⟩, e.a.b.d⟩, e.a.c, e.a.d⟩, e.b, e.c, e.d⟩⟩,
 ⟨fun v e => ⟨⟨e.a.a, ⟨e.a.b.a, e.a.b.b, e.a.b.c, ⟨v, e.a.b.d.b, e.a.b.d.c, e.a.b.d.d⟩⟩, e.a.c, e.a.d⟩, e.b, e.c, e.d⟩⟩,
 ⟨fun v e => ⟨⟨e.a.a, ⟨e.a.b.a, e.a.b.b, e.a.b.c, ⟨e.a.b.d.a, v, e.a.b.d.c, e.a.b.d.d⟩⟩, e.a.c, e.a.d⟩, e.b, e.c, e.d⟩⟩,
 ⟨fun v e => ⟨⟨e.a.a, ⟨e.a.b.a, e.a.b.b, e.a.b.c, ⟨e.a.b.d.a, e.a.b.d.b, v, e.a.b.d.d⟩⟩, e.a.c, e.a.d⟩, e.b, e.c, e.d⟩⟩,
 ⟨fun v e => ⟨⟨e.a.a, ⟨e.a.b.a, e.a.b.b, e.a.b.c, ⟨e.a.b.d.a, e.a.b.d.b, e.a.b.d.c, v⟩⟩, e.a.c, e.a.d⟩, e.b, e.c, e.d⟩⟩]
def pTab2 : List PS := [
 ⟨fun v e => ⟨⟨e.a.a, e.a.b, ⟨⟨v, e.a.c.a.b, e.a.c.a.c, e.a.c.a.d⟩, e.a.c.b, e.a.c.c, e.a.c.d⟩, e.a.d⟩, e.b, e.c, e.d⟩⟩,
 ⟨fun v e => ⟨⟨e.a.a, e.a.b, ⟨⟨e.a.c.a.a, v, e.a.c.a.c, e.a.c.a.d⟩, e.a.c.b, e.a.c.c, e.a.c.d⟩, e.a.d⟩, e.b, e.c, e.d⟩⟩,
 ⟨fun v e => ⟨⟨e.a.a, e.a.b, ⟨⟨e.a.c.a.a, e.a.c.a.b, v, e.a.c.a.d⟩, e.a.c.b, e.a.c.c, e.a.c.d⟩, e.a.d⟩, e.b, e.c, e.d⟩⟩,
 ⟨fun v e => ⟨⟨e.a.a, e.a.b, ⟨⟨e.a.c.a.a, e.a.c.a.b, e.a.c.a.c, v⟩, e.a.c.b, e.a.c.c, e.a.c.d⟩, e.a.d⟩, e.b, e.c, e.d⟩⟩,
 ⟨fun v e => ⟨⟨e.a.a, e.a.b, ⟨e.a.c.a, ⟨v, e.a.c.b.b, e.a.c.b.c, e.a.c.b.d⟩, e.a.c.c, e.a.c.d⟩, e.a.d⟩, e.b, e.c, e.d⟩⟩,
 ⟨fun v e => ⟨⟨e.a.a, e.a.b, ⟨e.a.c.a, ⟨e.a.c.b.a, v, e.a.c.b.c, e.a.c.b.d⟩, e.a.c.c, e.a.c.d⟩, e.a.d⟩, e.b, e.c, e.d⟩⟩,
 ⟨fun v e => ⟨⟨e.a.a, e.a.b, ⟨e.a.c.a, ⟨e.a.c.b.a, e.a.c.b.b, v, e.a.c.b.d⟩, e.a.c.c, e.a.c.d⟩, e.a.d⟩, e.b, e.c, e.d⟩⟩,
 ⟨fun v e => ⟨⟨e.a.a, e.a.b, ⟨e.a.c.a, ⟨e.a.c.b.a, e.a.c.b.b, e.a.c.b.c, v⟩, e.a.c.c, e.a.c.d⟩, e.a.d⟩, e.b, e.c, e.d⟩⟩,
 ⟨fun v e => ⟨⟨e.a.a, e.a.b, ⟨e.a.c.a, e.a.c.b, ⟨v, e.a.c.c.b, e.a.c.c.c, e.a.c.c.d⟩, e.a.c.d⟩, e.a.d⟩, e.b, e.c, e.d⟩⟩,
 ⟨fun v e => ⟨⟨e.a.a, e.a.b, ⟨e.a.c.a, e.a.c.b, ⟨e.a.c.c.a, v, e.a.c.c.c, e.a.c.c.d⟩, e.a.c.d⟩, e.a.d⟩, e.b, e.c, e.d⟩⟩,
 ⟨fun v e => ⟨⟨e.a.a, e.a.b, ⟨e.a.c.a, e.a.c.b, ⟨e.a.c.c.a, e.a.c.c.b, v, e.a.c.c.d⟩, e.a.c.d⟩, e.a.d⟩, e.b, e.c, e.d⟩⟩,
 ⟨fun v e => ⟨⟨e.a.a, e.a.b, ⟨e.a.c.a, e.a.c.b, ⟨e.a.c.c.a, e.a.c.c.b, e.a.c.c.c, v⟩, e.a.c.d⟩, e.a.d⟩, e.b, e.c, e.d⟩⟩,
 ⟨fun v e => ⟨⟨e.a.a, e.a.b, ⟨e.a.c.a, e.a.c.b, e.a.c.c, ⟨v, e.a.c.d.b, e.a.c.d.c, e.a.c.d.d⟩⟩, e.a.d⟩, e.b, e.c, e.d⟩⟩,
 ⟨fun v e => ⟨⟨e.a.a, e.a.b, ⟨e.a.c.a, e.a.c.b, e.a.c.c, ⟨e.a.c.d.a, v, e.a.c.d.c, e.a.c.d.d⟩⟩, e.a.d⟩, e.b, e.c, e.d⟩⟩,
 ⟨fun v e => ⟨⟨e.a.a, e.a.b, ⟨e.a.c.a, e.a.c.b, e.a.c.c, ⟨e.a.c.d.a, e.a.c.d.b, v, e.a.c.d.d⟩⟩, e.a.d⟩, e.b, e.c, e.d⟩⟩,
 ⟨fun v e => ⟨⟨e.a.a, e.a.b, ⟨e.a.c.a, e.a.c.b, e.a.c.c, ⟨e.a.c.d.a, e.a.c.d.b, e.a.c.d.c, v⟩⟩, e.a.d⟩, e.b, e.c, e.d⟩⟩]
def pTab3 : List PS := [
 ⟨fun v e => ⟨⟨e.a.a, e.a.b, e.a.c, ⟨⟨v, e.a.d.a.b, e.a.d.a.c, e.a.d.a.d⟩, e.a.d.b, e.a.d.c, e.a.d.d⟩⟩, e.b, e.c, e.d⟩⟩,
 ⟨fun v e => ⟨⟨e.a.a, e.a.b, e.a.c, ⟨⟨e.a.d.a.a, v, e.a.d.a.c, e.a.d.a.d⟩, e.a.d.b, e.a.d.c, e.a.d.d⟩⟩, e.b, e.c, e.d⟩⟩,
 ⟨fun v e => ⟨⟨e.a.a, e.a.b, e.a.c, ⟨⟨e.a.d.a.a, e.a.d.a.b, v, e.a.d.a.d⟩, e.a.d.b, e.a.d.c, e.a.d.d⟩⟩, e.b, e.c, e.d⟩⟩,
 ⟨fun v e => ⟨⟨e.a.a, e.a.b, e.a.c, ⟨⟨e.a.d.a.a, e.a.d.a.b, e.a.d.a.c, v⟩, e.a.d.b, e.a.d.c, e.a.d.d⟩⟩, e.b, e.c, e.d⟩⟩,
 ⟨fun v e => ⟨⟨e.a.a, e.a.b, e.a.c, ⟨e.a.d.a, ⟨v, e.a.d.b.b, e.a.d.b.c, e.a.d.b.d⟩, e.a.d.c, e.a.d.d⟩⟩, e.b, e.c, e.d⟩⟩,
 ⟨fun v e => ⟨⟨e.a.a, e.a.b, e.a.c, ⟨e.a.d.a, ⟨e.a.d.b.a, v, e.a.d.b.c, e.a.d.b.d⟩, e.a.d.c, e.a.d.d⟩⟩, e.b, e.c, e.d⟩⟩,
 ⟨fun v e => ⟨⟨e.a.a, e.a.b, e.a.c, ⟨e.a.d.a, ⟨e.a.d.b.a, e.a.d.b.b, v, e.a.d.b.d⟩, e.a.d.c, e.a.d.d⟩⟩, e.b, e.c, e.d⟩⟩,
 ⟨fun v e => ⟨⟨e.a.a, e.a.b, e.a.c, ⟨e.a.d.a, ⟨e.a.d.b.a, e.a.d.b.b, e.a.d.b.c, v⟩, e.a.d.c, e.a.d.d⟩⟩, e.b, e.c, e.d⟩⟩,
 ⟨fun v e => ⟨⟨e.a.a, e.a.b, e.a.c, ⟨e.a.d.a, e.a.d.b, ⟨v, e.a.d.c.b, e.a.d.c.c, e.a.d.c.d⟩, e.a.d.d⟩⟩, e.b, e.c, e.d⟩⟩,
 ⟨fun v e => ⟨⟨e.a.a, e.a.b, e.a.c, ⟨e.a.d.a, e.a.d.b, ⟨e.a.d.c.a, v, e.a.d.c.c, e.a.d.c.d⟩, e.a.d.d⟩⟩, e.b, e.c, e.d⟩⟩,
 ⟨fun v e => ⟨⟨e.a.a, e.a.b, e.a.c, ⟨e.a.d.a, e.a.d.b, ⟨e.a.d.c.a, e.a.d.c.b, v, e.a.d.c.d⟩, e.a.d.d⟩⟩, e.b, e.c, e.d⟩⟩,
 ⟨fun v e => ⟨⟨e.a.a, e.a.b, e.a.c, ⟨e.a.d.a, e.a.d.b, ⟨e.a.d.c.a, e.a.d.c.b, e.a.d.c.c, v⟩, e.a.d.d⟩⟩, e.b, e.c, e.d⟩⟩,
 ⟨fun v e => ⟨⟨e.a.a, e.a.b, e.a.c, ⟨e.a.d.a, e.a.d.b, e.a.d.c, ⟨v, e.a.d.d.b, e.a.d.d.c, e.a.d.d.d⟩⟩⟩, e.b, e.c, e.d⟩⟩,
 ⟨fun v e => ⟨⟨e.a.a, e.a.b, e.a.c, ⟨e.a.d.a, e.a.d.b, e.a.d.c, ⟨e.a.d.d.a, v, e.a.d.d.c, e.a.d.d.d⟩⟩⟩, e.b, e.c, e.d⟩⟩,
 ⟨fun v e => ⟨⟨e.a.a, e.a.b, e.a.c, ⟨e.a.d.a, e.a.d.b, e.a.d.c, ⟨e.a.d.d.a, e.a.d.d.b, v, e.a.d.d.d⟩⟩⟩, e.b, e.c, e.d⟩⟩,
 ⟨fun v e => ⟨⟨e.a.a, e.a.b, e.a.c, ⟨e.a.d.a, e.a.d.b, e.a.d.c, ⟨e.a.d.d.a, e.a.d.d.b, e.a.d.d.c, v⟩⟩⟩, e.b, e.c, e.d⟩⟩]
def pTab4 : List PS := [
 ⟨fun v e => ⟨e.a, ⟨⟨⟨v, e.b.a.a.b, e.b.a.a.c, e.b.a.a.d⟩, e.b.a.b, e.b.a.c, e.b.a.d⟩, e.b.b, e.b.c, e.b.d⟩, e.c, e.d⟩⟩,
 ⟨fun v e => ⟨e.a, ⟨⟨⟨e.b.a.a.a, v, e.b.a.a.c, e.b.a.a.d⟩, e.b.a.b, e.b.a.c, e.b.a.d⟩, e.b.b, e.b.c, e.b.d⟩, e.c, e.d⟩⟩,
 ⟨fun v e => ⟨e.a, ⟨⟨⟨e.b.a.a.a, e.b.a.a.b, v, e.b.a.a.d⟩, e.b.a.b, e.b.a.c, e.b.a.d⟩, e.b.b, e.b.c, e.b.d⟩, e.c, e.d⟩⟩,
 ⟨fun v e => ⟨e.a, ⟨⟨⟨e.b.a.a.a, e.b.a.a.b, e.b.a.a.c, v⟩, e.b.a.b, e.b.a.c, e.b.a.d⟩, e.b.b, e.b.c, e.b.d⟩, e.c, e.d⟩⟩,
 ⟨fun v e => ⟨e.a, ⟨⟨e.b.a.a, ⟨v, e.b.a.b.b, e.b.a.b.c, e.b.a.b.d⟩, e.b.a.c, e.b.a.d⟩, e.b.b, e.b.c, e.b.d⟩, e.c, e.d⟩⟩,
 ⟨fun v e => ⟨e.a, ⟨⟨e.b.a.a, ⟨e.b.a.b.a, v, e.b.a.b.c, e.b.a.b.d⟩, e.b.a.c, e.b.a.d⟩, e.b.b, e.b.c, e.b.d⟩, e.c, e.d⟩⟩,
 ⟨fun v e => ⟨e.a, ⟨⟨e.b.a.a, ⟨e.b.a.b.a, e.b.a.b.b, v, e.b.a.b.d⟩, e.b.a.c, e.b.a.d⟩, e.b.b, e.b.c, e.b.d⟩, e.c, e.d⟩⟩,
 ⟨fun v e => ⟨e.a, ⟨⟨e.b.a.a, ⟨e.b.a.b.a, e.b.a.b.b, e.b.a.b.c, v⟩, e.b.a.c, e.b.a.d⟩, e.b.b, e.b.c, e.b.d⟩, e.c, e.d⟩⟩,
 ⟨fun v e => ⟨e.a, ⟨⟨e.b.a.a, e.b.a.b, ⟨v, e.b.a.c.b, e.b.a.c.c, e.b.a.c.d⟩, e.b.a.d⟩, e.b.b, e.b.c, e.b.d⟩, e.c, e.d⟩⟩,
 ⟨fun v e => ⟨e.a, ⟨⟨e.b.a.a, e.b.a.b, ⟨e.b.a.c.a, v, e.b.a.c.c, e.b.a.c.d⟩, e.b.a.d⟩, e.b.b, e.b.c, e.b.d⟩, e.c, e.d⟩⟩,
 ⟨fun v e => ⟨e.a, ⟨⟨e.b.a.a, e.b.a.b, ⟨e.b.a.c.a, e.b.a.c.b, v, e.b.a.c.d⟩, e.b.a.d⟩, e.b.b, e.b.c, e.b.d⟩, e.c, e.d⟩⟩,
 ⟨fun v e => ⟨e.a, ⟨⟨e.b.a.a, e.b.a.b, ⟨e.b.a.c.a, e.b.a.c.b, e.b.a.c.c, v⟩, e.b.a.d⟩, e.b.b, e.b.c, e.b.d⟩, e.c, e.d⟩⟩,
 ⟨fun v e => ⟨e.a, ⟨⟨e.b.a.a, e.b.a.b, e.b.a.c, ⟨v, e.b.a.d.b, e.b.a.d.c, e.b.a.d.d⟩⟩, e.b.b, e.b.c, e.b.d⟩, e.c, e.d⟩⟩,
 ⟨fun v e => ⟨e.a, ⟨⟨e.b.a.a, e.b.a.b, e.b.a.c, ⟨e.b.a.d.a, v, e.b.a.d.c, e.b.a.d.d⟩⟩, e.b.b, e.b.c, e.b.d⟩, e.c, e.d⟩⟩,
 ⟨fun v e => ⟨e.a, ⟨⟨e.b.a.a, e.b.a.b, e.b.a.c, ⟨e.b.a.d.a, e.b.a.d.b, v, e.b.a.d.d⟩⟩, e.b.b, e.b.c, e.b.d⟩, e.c, e.d⟩⟩,
 ⟨fun v e => ⟨e.a, ⟨⟨e.b.a.a, e.b.a.b, e.b.a.c, ⟨e.b.a.d.a, e.b.a.d.b, e.b.a.d.c, v⟩⟩, e.b.b, e.b.c, e.b.d⟩, e.c, e.d⟩⟩]
def pTab5 : List PS := [
 ⟨fun v e => ⟨e.a, ⟨e.b.a, ⟨⟨v, e.b.b.a.b, e.b.b.a.c, e.b.b.a.d⟩, e.b.b.b, e.b.b.c, e.b.b.d⟩, e.b.c, e.b.d⟩, e.c, e.d⟩⟩,
 ⟨fun v e => ⟨e.a, ⟨e.b.a, ⟨⟨e.b.b.a.a, v, e.b.b.a.c, e.b.b.a.d⟩, e.b.b.b, e.b.b.c, e.b.b.d⟩, e.b.c, e.b.d⟩, e.c, e.d⟩⟩,
 ⟨fun v e => ⟨e.a, ⟨e.b.a, ⟨⟨e.b.b.a.a, e.b.b.a.b, v, e.b.b.a.d⟩, e.b.b.b, e.b.b.c, e.b.b.d⟩, e.b.c, e.b.d⟩, e.c, e.d⟩⟩,
 ⟨fun v e => ⟨e.a, ⟨e.b.a, ⟨⟨e.b.b.a.a, e.b.b.a.b, e.b.b.a.c, v⟩, e.b.b.b, e.b.b.c, e.b.b.d⟩, e.b.c, e.b.d⟩, e.c, e.d⟩⟩,
 ⟨fun v e => ⟨e.a, ⟨e.b.a, ⟨e.b.b.a, ⟨v, e.b.b.b.b, e.b.b.b.c, e.b.b.b.d⟩, e.b.b.c, e.b.b.d⟩, e.b.c, e.b.d⟩, e.c, e.d⟩⟩,
 ⟨fun v e => ⟨e.a, ⟨e.b.a, ⟨e.b.b.a, ⟨e.b.b.b.a, v, e.b.b.b.c, e.b.b.b.d⟩, e.b.b.c, e.b.b.d⟩, e.b.c, e.b.d⟩, e.c, e.d⟩⟩,
 ⟨fun v e => ⟨e.a, ⟨e.b.a, ⟨e.b.b.a, ⟨e.b.b.b.a, e.b.b.b.b, v, e.b.b.b.d⟩, e.b.b.c, e.b.b.d⟩, e.b.c, e.b.d⟩, e.c, e.d⟩⟩,
 ⟨fun v e => ⟨e.a, ⟨e.b.a, ⟨e.b.b.a, ⟨e.b.b.b.a, e.b.b.b.b, e.b.b.b.c, v⟩, e.b.b.c, e.b.b.d⟩, e.b.c, e.b.d⟩, e.c, e.d⟩⟩,
 ⟨fun v e => ⟨e.a, ⟨e.b.a, ⟨e.b.b.a, e.b.b.b, ⟨v, e.b.b.c.b, e.b.b.c.c, e.b.b.c.d⟩, e.b.b.d⟩, e.b.c, e.b.d⟩, e.c, e.d⟩⟩,
 ⟨fun v e => ⟨e.a, ⟨e.b.a, ⟨e.b.b.a, e.b.b.b, ⟨e.b.b.c.a, v, e.b.b.c.c, e.b.b.c.d⟩, e.b.b.d⟩, e.b.c, e.b.d⟩, e.c, e.d⟩⟩,
 ⟨fun v e => ⟨e.a, ⟨e.b.a, ⟨e.b.b.a, e.b.b.b, ⟨e.b.b.c.a, e.b.b.c.b, v, e.b.b.c.d⟩, e.b.b.d⟩, e.b.c, e.b.d⟩, e.c, e.d⟩⟩,
 ⟨fun v e => ⟨e.a, ⟨e.b.a, ⟨e.b.b.a, e.b.b.b, ⟨e.b.b.c.a, e.b.b.c.b, e.b.b.c.c, v⟩, e.b.b.d⟩, e.b.c, e.b.d⟩, e.c, e.d⟩⟩,
 ⟨fun v e => ⟨e.a, ⟨e.b.a, ⟨e.b.b.a, e.b.b.b, e.b.b.c, ⟨v, e.b.b.d.b, e.b.b.d.c, e.b.b.d.d⟩⟩, e.b.c, e.b.d⟩, e.c, e.d⟩⟩,
 ⟨fun v e => ⟨e.a, ⟨e.b.a, ⟨e.b.b.a, e.b.b.b, e.b.b.c, ⟨e.b.b.d.a, v, e.b.b.d.c, e.b.b.d.d⟩⟩, e.b.c, e.b.d⟩, e.c, e.d⟩⟩,
 ⟨fun v e => ⟨e.a, ⟨e.b.a, ⟨e.b.b.a, e.b.b.b, e.b.b.c, ⟨e.b.b.d.a, e.b.b.d.b, v, e.b.b.d.d⟩⟩, e.b.c, e.b.d⟩, e.c, e.d⟩⟩,
 ⟨fun v e => ⟨e.a, ⟨e.b.a, ⟨e.b.b.a, e.b.b.b, e.b.b.c, ⟨e.b.b.d.a, e.b.b.d.b, e.b.b.d.c, v⟩⟩, e.b.c, e.b.d⟩, e.c, e.d⟩⟩]
def pTab6 : List PS := [
 ⟨fun v e => ⟨e.a, ⟨e.b.a, e.b.b, ⟨⟨v, e.b.c.a.b, e.b.c.a.c, e.b.c.a.d⟩, e.b.c.b, e.b.c.c, e.b.c.d⟩, e.b.d⟩, e.c, e.d⟩⟩,
 ⟨fun v e => ⟨e.a, ⟨e.b.a, e.b.b, ⟨⟨e.b.c.a.a, v, e.b.c.a.c, e.b.c.a.d⟩, e.b.c.b, e.b.c.c, e.b.c.d⟩, e.b.d⟩, e.c, e.d⟩⟩,
 ⟨fun v e => ⟨e.a, ⟨e.b.a, e.b.b, ⟨⟨e.b.c.a.a, e.b.c.a.b, v, e.b.c.a.d⟩, e.b.c.b, e.b.c.c, e.b.c.d⟩, e.b.d⟩, e.c, e.d⟩⟩,
 ⟨fun v e => ⟨e.a, ⟨e.b.a, e.b.b, ⟨⟨e.b.c.a.a, e.b.c.a.b, e.b.c.a.c, v⟩, e.b.c.b, e.b.c.c, e.b.c.d⟩, e.b.d⟩, e.c, e.d⟩⟩,
 ⟨fun v e => ⟨e.a, ⟨e.b.a, e.b.b, ⟨e.b.c.a, ⟨v, e.b.c.b.b, e.b.c.b.c, e.b.c.b.d⟩, e.b.c.c, e.b.c.d⟩, e.b.d⟩, e.c, e.d⟩⟩,
 ⟨fun v e => ⟨e.a, ⟨e.b.a, e.b.b, ⟨e.b.c.a, ⟨e.b.c.b.a, v, e.b.c.b.c, e.b.c.b.d⟩, e.b.c.c, e.b.c.d⟩, e.b.d⟩, e.c, e.d⟩⟩,
 ⟨fun v e => ⟨e.a, ⟨e.b.a, e.b.b, ⟨e.b.c.a, ⟨e.b.c.b.a, e.b.c.b.b, v, e.b.c.b.d⟩, e.b.c.c, e.b.c.d⟩, e.b.d⟩, e.c, e.d⟩⟩,
 ⟨fun v e => ⟨e.a, ⟨e.b.a, e.b.b, ⟨e.b.c.a, ⟨e.b.c.b.a, e.b.c.b.b, e.b.c.b.c, v⟩, e.b.c.c, e.b.c.d⟩, e.b.d⟩, e.c, e.d⟩⟩,
 ⟨fun v e => ⟨e.a, ⟨e.b.a, e.b.b, ⟨e.b.c.a, e.b.c.b, ⟨v, e.b.c.c.b, e.b.c.c.c, e.b.c.c.d⟩, e.b.c.d⟩, e.b.d⟩, e.c, e.d⟩⟩,
 ⟨fun v e => ⟨e.a, ⟨e.b.a, e.b.b, ⟨e.b.c.a, e.b.c.b, ⟨e.b.c.c.a, v, e.b.c.c.c, e.b.c.c.d⟩, e.b.c.d⟩, e.b.d⟩, e.c, e.d⟩⟩,
 ⟨fun v e => ⟨e.a, ⟨e.b.a, e.b.b, ⟨e.b.c.a, e.b.c.b, ⟨e.b.c.c.a, e.b.c.c.b, v, e.b.c.c.d⟩, e.b.c.d⟩, e.b.d⟩, e.c, e.d⟩⟩,
 ⟨fun v e => ⟨e.a, ⟨e.b.a, e.b.b, ⟨e.b.c.a, e.b.c.b, ⟨e.b.c.c.a, e.b.c.c.b, e.b.c.c.c, v⟩, e.b.c.d⟩, e.b.d⟩, e.c, e.d⟩⟩,
 ⟨fun v e => ⟨e.a, ⟨e.b.a, e.b.b, ⟨e.b.c.a, e.b.c.b, e.b.c.c, ⟨v, e.b.c.d.b, e.b.c.d.c, e.b.c.d.d⟩⟩, e.b.d⟩, e.c, e.d⟩⟩,
 ⟨fun v e => ⟨e.a, ⟨e.b.a, e.b.b, ⟨e.b.c.a, e.b.c.b, e.b.c.c, ⟨e.b.c.d.a, v, e.b.c.d.c, e.b.c.d.d⟩⟩, e.b.d⟩, e.c, e.d⟩⟩,
 ⟨fun v e => ⟨e.a, ⟨e.b.a, e.b.b, ⟨e.b.c.a, e.b.c.b, e.b.c.c, ⟨e.b.c.d.a, e.b.c.d.b, v, e.b.c.d.d⟩⟩, e.b.d⟩, e.c, e.d⟩⟩,
 ⟨fun v e => ⟨e.a, ⟨e.b.a, e.b.b, ⟨e.b.c.a, e.b.c.b, e.b.c.c, ⟨e.b.c.d.a, e.b.c.d.b, e.b.c.d.c, v⟩⟩, e.b.d⟩, e.c, e.d⟩⟩]
def pTab7 : List PS := [
 ⟨fun v e => ⟨e.a, ⟨e.b.a, e.b.b, e.b.c, ⟨⟨v, e.b.d.a.b, e.b.d.a.c, e.b.d.a.d⟩, e.b.d.b, e.b.d.c, e.b.d.d⟩⟩, e.c, e.d⟩⟩,
 ⟨fun v e => ⟨e.a, ⟨e.b.a, e.b.b, e.b.c, ⟨⟨e.b.d.a.a, v, e.b.d.a.c, e.b.d.a.d⟩, e.b.d.b, e.b.d.c, e.b.d.d⟩⟩, e.c, e.d⟩⟩,
 ⟨fun v e => ⟨e.a, ⟨e.b.a, e.b.b, e.b.c, ⟨⟨e.b.d.a.a, e.b.d.a.b, v, e.b.d.a.d⟩, e.b.d.b, e.b.d.c, e.b.d.d⟩⟩, e.c, e.d⟩⟩,
 ⟨fun v e => ⟨e.a, ⟨e.b.a, e.b.b, e.b.c, ⟨⟨e.b.d.a.a, e.b.d.a.b, e.b.d.a.c, v⟩, e.b.d.b, e.b.d.c, e.b.d.d⟩⟩, e.c, e.d⟩⟩,
 ⟨fun v e => ⟨e.a, ⟨e.b.a, e.b.b, e.b.c, ⟨e.b.d.a, ⟨v, e.b.d.b.b, e.b.d.b.c, e.b.d.b.d⟩, e.b.d.c, e.b.d.d⟩⟩, e.c, e.d⟩⟩,
 ⟨fun v e => ⟨e.a, ⟨e.b.a, e.b.b, e.b.c, ⟨e.b.d.a, ⟨e.b.d.b.a, v, e.b.d.b.c, e.b.d.b.d⟩, e.b.d.c, e.b.d.d⟩⟩, e.c, e.d⟩⟩,
 ⟨fun v e => ⟨e.a, ⟨e.b.a, e.b.b, e.b.c, ⟨e.b.d.a, ⟨e.b.d.b.a, e.b.d.b.b, v, e.b.d.b.d⟩, e.b.d.c, e.b.d.d⟩⟩, e.c, e.d⟩⟩,
 ⟨fun v e => ⟨e.a, ⟨e.b.a, e.b.b, e.b.c, ⟨e.b.d.a, ⟨e.b.d.b.a, e.b.d.b.b, e.b.d.b.c, v⟩, e.b.d.c, e.b.d.d⟩⟩, e.c, e.d⟩⟩,
 ⟨fun v e => ⟨e.a, ⟨e.b.a, e.b.b, e.b.c, ⟨e.b.d.a, e.b.d.b, ⟨v, e.b.d.c.b, e.b.d.c.c, e.b.d.c.d⟩, e.b.d.d⟩⟩, e.c, e.d⟩⟩,
 ⟨fun v e => ⟨e.a, ⟨e.b.a, e.b.b, e.b.c, ⟨e.b.d.a, e.b.d.b, ⟨e.b.d.c.a, v, e.b.d.c.c, e.b.d.c.d⟩, e.b.d.d⟩⟩, e.c, e.d⟩⟩,
 ⟨fun v e => ⟨e.a, ⟨e.b.a, e.b.b, e.b.c, ⟨e.b.d.a, e.b.d.b, ⟨e.b.d.c.a, e.b.d.c.b, v, e.b.d.c.d⟩, e.b.d.d⟩⟩, e.c, e.d⟩⟩,
 ⟨fun v e => ⟨e.a, ⟨e.b.a, e.b.b, e.b.c, ⟨e.b.d.a, e.b.d.b, ⟨e.b.d.c.a, e.b.d.c.b, e.b.d.c.c, v⟩, e.b.d.d⟩⟩, e.c, e.d⟩⟩,
 ⟨fun v e => ⟨e.a, ⟨e.b.a, e.b.b, e.b.c, ⟨e.b.d.a, e.b.d.b, e.b.d.c, ⟨v, e.b.d.d.b, e.b.d.d.c, e.b.d.d.d⟩⟩⟩, e.c, e.d⟩⟩,
 ⟨fun v e => ⟨e.a, ⟨e.b.a, e.b.b, e.b.c, ⟨e.b.d.a, e.b.d.b, e.b.d.c, ⟨e.b.d.d.a, v, e.b.d.d.c, e.b.d.d.d⟩⟩⟩, e.c, e.d⟩⟩,
 ⟨fun v e => ⟨e.a, ⟨e.b.a, e.b.b, e.b.c, ⟨e.b.d.a, e.b.d.b, e.b.d.c, ⟨e.b.d.d.a, e.b.d.d.b, v, e.b.d.d.d⟩⟩⟩, e.c, e.d⟩⟩,
 ⟨fun v e => ⟨e.a, ⟨e.b.a, e.b.b, e.b.c, ⟨e.b.d.a, e.b.d.b, e.b.d.c, ⟨e.b.d.d.a, e.b.d.d.b, e.b.d.d.c, v⟩⟩⟩, e.c, e.d⟩⟩]
def pTab8 : List PS := [
 ⟨fun v e => ⟨e.a, e.b, ⟨⟨⟨v, e.c.a.a.b, e.c.a.a.c, e.c.a.a.d⟩, e.c.a.b, e.c.a.c, e.c.a.d⟩, e.c.b, e.c.c, e.c.d⟩, e.d⟩⟩,
 ⟨fun v e => ⟨e.a, e.b, ⟨⟨⟨e.c.a.a.a, v, e.c.a.a.c, e.c.a.a.d⟩, e.c.a.b, e.c.a.c, e.c.a.d⟩, e.c.b, e.c.c, e.c.d⟩, e.d⟩⟩,
 ⟨fun v e => ⟨e.a, e.b, ⟨⟨⟨e.c.a.a.a, e.c.a.a.b, v, e.c.a.a.d⟩, e.c.a.b, e.c.a.c, e.c.a.d⟩, e.c.b, e.c.c, e.c.d⟩, e.d⟩⟩,
 ⟨fun v e => ⟨e.a, e.b, ⟨⟨⟨e.c.a.a.a, e.c.a.a.b, e.c.a.a.c, v⟩, e.c.a.b, e.c.a.c, e.c.a.d⟩, e.c.b, e.c.c, e.c.d⟩, e.d⟩⟩,
 ⟨fun v e => ⟨e.a, e.b, ⟨⟨e.c.a.a, ⟨v, e.c.a.b.b, e.c.a.b.c, e.c.a.b.d⟩, e.c.a.c, e.c.a.d⟩, e.c.b, e.c.c, e.c.d⟩, e.d⟩⟩,
 ⟨fun v e => ⟨e.a, e.b, ⟨⟨e.c.a.a, ⟨e.c.a.b.a, v, e.c.a.b.c, e.c.a.b.d⟩, e.c.a.c, e.c.a.d⟩, e.c.b, e.c.c, e.c.d⟩, e.d⟩⟩,
 ⟨fun v e => ⟨e.a, e.b, ⟨⟨e.c.a.a, ⟨e.c.a.b.a, e.c.a.b.b, v, e.c.a.b.d⟩, e.c.a.c, e.c.a.d⟩, e.c.b, e.c.c, e.c.d⟩, e.d⟩⟩,
 ⟨fun v e => ⟨e.a, e.b, ⟨⟨e.c.a.a, ⟨e.c.a.b.a, e.c.a.b.b, e.c.a.b.c, v⟩, e.c.a.c, e.c.a.d⟩, e.c.b, e.c.c, e.c.d⟩, e.d⟩⟩,
 ⟨fun v e => ⟨e.a, e.b, ⟨⟨e.c.a.a, e.c.a.b, ⟨v, e.c.a.c.b, e.c.a.c.c, e.c.a.c.d⟩, e.c.a.d⟩, e.c.b, e.c.c, e.c.d⟩, e.d⟩⟩,
 ⟨fun v e => ⟨e.a, e.b, ⟨⟨e.c.a.a, e.c.a.b, ⟨e.c.a.c.a, v, e.c.a.c.c, e.c.a.c.d⟩, e.c.a.d⟩, e.c.b, e.c.c, e.c.d⟩, e.d⟩⟩,
 ⟨fun v e => ⟨e.a, e.b, ⟨⟨e.c.a.a, e.c.a.b, ⟨e.c.a.c.a, e.c.a.c.b, v, e.c.a.c.d⟩, e.c.a.d⟩, e.c.b, e.c.c, e.c.d⟩, e.d⟩⟩,
 ⟨fun v e => ⟨e.a, e.b, ⟨⟨e.c.a.a, e.c.a.b, ⟨e.c.a.c.a, e.c.a.c.b, e.c.a.c.c, v⟩, e.c.a.d⟩, e.c.b, e.c.c, e.c.d⟩, e.d⟩⟩,
 ⟨fun v e => ⟨e.a, e.b, ⟨⟨e.c.a.a, e.c.a.b, e.c.a.c, ⟨v, e.c.a.d.b, e.c.a.d.c, e.c.a.d.d⟩⟩, e.c.b, e.c.c, e.c.d⟩, e.d⟩⟩,
 ⟨fun v e => ⟨e.a, e.b, ⟨⟨e.c.a.a, e.c.a.b, e.c.a.c, ⟨e.c.a.d.a, v, e.c.a.d.c, e.c.a.d.d⟩⟩, e.c.b, e.c.c, e.c.d⟩, e.d⟩⟩,
 ⟨fun v e => ⟨e.a, e.b, ⟨⟨e.c.a.a, e.c.a.b, e.c.a.c, ⟨e.c.a.d.a, e.c.a.d.b, v, e.c.a.d.d⟩⟩, e.c.b, e.c.c, e.c.d⟩, e.d⟩⟩,
 ⟨fun v e => ⟨e.a, e.b, ⟨⟨e.c.a.a, e.c.a.b, e.c.a.c, ⟨e.c.a.d.a, e.c.a.d.b, e.c.a.d.c, v⟩⟩, e.c.b, e.c.c, e.c.d⟩, e.d⟩⟩]
def pTab9 : List PS := [
 ⟨fun v e => ⟨e.a, e.b, ⟨e.c.a, ⟨⟨v, e.c.b.a.b, e.c.b.a.c, e.c.b.a.d⟩, e.c.b.b, e.c.b.c, e.c.b.d⟩, e.c.c, e.c.d⟩, e.d⟩⟩,
 ⟨fun v e => ⟨e.a, e.b, ⟨e.c.a, ⟨⟨e.c.b.a.a, v, e.c.b.a.c, e.c.b.a.d⟩, e.c.b.b, e.c.b.c, e.c.b.d⟩, e.c.c, e.c.d⟩, e.d⟩⟩,
 ⟨fun v e => ⟨e.a, e.b, ⟨e.c.a, ⟨⟨e.c.b.a.a, e.c.b.a.b, v, e.c.b.a.d⟩, e.c.b.b, e.c.b.c, e.c.b.d⟩, e.c.c, e.c.d⟩, e.d⟩⟩,
 ⟨fun v e => ⟨e.a, e.b, ⟨e.c.a, ⟨⟨e.c.b.a.a, e.c.b.a.b, e.c.b.a.c, v⟩, e.c.b.b, e.c.b.c, e.c.b.d⟩, e.c.c, e.c.d⟩, e.d⟩⟩,
 ⟨fun v e => ⟨e.a, e.b, ⟨e.c.a, ⟨e.c.b.a, ⟨v, e.c.b.b.b, e.c.b.b.c, e.c.b.b.d⟩, e.c.b.c, e.c.b.d⟩, e.c.c, e.c.d⟩, e.d⟩⟩,
 ⟨fun v e => ⟨e.a, e.b, ⟨e.c.a, ⟨e.c.b.a, ⟨e.c.b.b.a, v, e.c.b.b.c, e.c.b.b.d⟩, e.c.b.c, e.c.b.d⟩, e.c.c, e.c.d⟩, e.d⟩⟩,
 ⟨fun v e => ⟨e.a, e.b, ⟨e.c.a, ⟨e.c.b.a, ⟨e.c.b.b.a, e.c.b.b.b, v, e.c.b.b.d⟩, e.c.b.c, e.c.b.d⟩, e.c.c, e.c.d⟩, e.d⟩⟩,
 ⟨fun v e => ⟨e.a, e.b, ⟨e.c.a, ⟨e.c.b.a, ⟨e.c.b.b.a, e.c.b.b.b, e.c.b.b.c, v⟩, e.c.b.c, e.c.b.d⟩, e.c.c, e.c.d⟩, e.d⟩⟩,
 ⟨fun v e => ⟨e.a, e.b, ⟨e.c.a, ⟨e.c.b.a, e.c.b.b, ⟨v, e.c.b.c.b, e.c.b.c.c, e.c.b.c.d⟩, e.c.b.d⟩, e.c.c, e.c.d⟩, e.d⟩⟩,
 ⟨fun v e => ⟨e.a, e.b, ⟨e.c.a, ⟨e.c.b.a, e.c.b.b, ⟨e.c.b.c.a, v, e.c.b.c.c, e.c.b.c.d⟩, e.c.b.d⟩, e.c.c, e.c.d⟩, e.d⟩⟩,
 ⟨fun v e => ⟨e.a, e.b, ⟨e.c.a, ⟨e.c.b.a, e.c.b.b, ⟨e.c.b.c.a, e.c.b.c.b, v, e.c.b.c.d⟩, e.c.b.d⟩, e.c.c, e.c.d⟩, e.d⟩⟩,
 ⟨fun v e => ⟨e.a, e.b, ⟨e.c.a, ⟨e.c.b.a, e.c.b.b, ⟨e.c.b.c.a, e.c.b.c.b, e.c.b.c.c, v⟩, e.c.b.d⟩, e.c.c, e.c.d⟩, e.d⟩⟩,
 ⟨fun v e => ⟨e.a, e.b, ⟨e.c.a, ⟨e.c.b.a, e.c.b.b, e.c.b.c, ⟨v, e.c.b.d.b, e.c.b.d.c, e.c.b.d.d⟩⟩, e.c.c, e.c.d⟩, e.d⟩⟩,
 ⟨fun v e => ⟨e.a, e.b, ⟨e.c.a, ⟨e.c.b.a, e.c.b.b, e.c.b.c, ⟨e.c.b.d.a, v, e.c.b.d.c, e.c.b.d.d⟩⟩, e.c.c, e.c.d⟩, e.d⟩⟩,
 ⟨fun v e => ⟨e.a, e.b, ⟨e.c.a, ⟨e.c.b.a, e.c.b.b, e.c.b.c, ⟨e.c.b.d.a, e.c.b.d.b, v, e.c.b.d.d⟩⟩, e.c.c, e.c.d⟩, e.d⟩⟩,
 ⟨fun v e => ⟨e.a, e.b, ⟨e.c.a, ⟨e.c.b.a, e.c.b.b, e.c.b.c, ⟨e.c.b.d.a, e.c.b.d.b, e.c.b.d.c, v⟩⟩, e.c.c, e.c.d⟩, e.d⟩⟩]
def pTab10 : List PS := [
 ⟨fun v e => ⟨e.a, e.b, ⟨e.c.a, e.c.b, ⟨⟨v, e.c.c.a.b, e.c.c.a.c, e.c.c.a.d⟩, e.c.c.b, e.c.c.c, e.c.c.d⟩, e.c.d⟩, e.d⟩⟩,
 ⟨fun v e => ⟨e.a, e.b, ⟨e.c.a, e.c.b, ⟨⟨e.c.c.a.a, v, e.c.c.a.c, e.c.c.a.d⟩, e.c.c.b, e.c.c.c, e.c.c.d⟩, e.c.d⟩, e.d⟩⟩,
 ⟨fun v e => ⟨e.a, e.b, ⟨e.c.a, e.c.b, ⟨⟨e.c.c.a.a, e.c.c.a.b, v, e.c.c.a.d⟩, e.c.c.b, e.c.c.c, e.c.c.d⟩, e.c.d⟩, e.d⟩⟩,
 ⟨fun v e => ⟨e.a, e.b, ⟨e.c.a, e.c.b, ⟨⟨e.c.c.a.a, e.c.c.a.b, e.c.c.a.c, v⟩, e.c.c.b, e.c.c.c, e.c.c.d⟩, e.c.d⟩, e.d⟩⟩,
 ⟨fun v e => ⟨e.a, e.b, ⟨e.c.a, e.c.b, ⟨e.c.c.a, ⟨v, e.c.c.b.b, e.c.c.b.c, e.c.c.b.d⟩, e.c.c.c, e.c.c.d⟩, e.c.d⟩, e.d⟩⟩,
 ⟨fun v e => ⟨e.a, e.b, ⟨e.c.a, e.c.b, ⟨e.c.c.a, ⟨e.c.c.b.a, v, e.c.c.b.c, e.c.c.b.d⟩, e.c.c.c, e.c.c.d⟩, e.c.d⟩, e.d⟩⟩,
 ⟨fun v e => ⟨e.a, e.b, ⟨e.c.a, e.c.b, ⟨e.c.c.a, ⟨e.c.c.b.a, e.c.c.b.b, v, e.c.c.b.d⟩, e.c.c.c, e.c.c.d⟩, e.c.d⟩, e.d⟩⟩,
 ⟨fun v e => ⟨e.a, e.b, ⟨e.c.a, e.c.b, ⟨e.c.c.a, ⟨e.c.c.b.a, e.c.c.b.b, e.c.c.b.c, v⟩, e.c.c.c, e.c.c.d⟩, e.c.d⟩, e.d⟩⟩,
 ⟨fun v e => ⟨e.a, e.b, ⟨e.c.a, e.c.b, ⟨e.c.c.a, e.c.c.b, ⟨v, e.c.c.c.b, e.c.c.c.c, e.c.c.c.d⟩, e.c.c.d⟩, e.c.d⟩, e.d⟩⟩,
 ⟨fun v e => ⟨e.a, e.b, ⟨e.c.a, e.c.b, ⟨e.c.c.a, e.c.c.b, ⟨e.c.c.c.a, v, e.c.c.c.c, e.c.c.c.d⟩, e.c.c.d⟩, e.c.d⟩, e.d⟩⟩,
 ⟨fun v e => ⟨e.a, e.b, ⟨e.c.a, e.c.b, ⟨e.c.c.a, e.c.c.b, ⟨e.c.c.c.a, e.c.c.c.b, v, e.c.c.c.d⟩, e.c.c.d⟩, e.c.d⟩, e.d⟩⟩,
 ⟨fun v e => ⟨e.a, e.b, ⟨e.c.a, e.c.b, ⟨e.c.c.a, e.c.c.b, ⟨e.c.c.c.a, e.c.c.c.b, e.c.c.c.c, v⟩, e.c.c.d⟩, e.c.d⟩, e.d⟩⟩,
 ⟨fun v e => ⟨e.a, e.b, ⟨e.c.a, e.c.b, ⟨e.c.c.a, e.c.c.b, e.c.c.c, ⟨v, e.c.c.d.b, e.c.c.d.c, e.c.c.d.d⟩⟩, e.c.d⟩, e.d⟩⟩,
 ⟨fun v e => ⟨e.a, e.b, ⟨e.c.a, e.c.b, ⟨e.c.c.a, e.c.c.b, e.c.c.c, ⟨e.c.c.d.a, v, e.c.c.d.c, e.c.c.d.d⟩⟩, e.c.d⟩, e.d⟩⟩,
 ⟨fun v e => ⟨e.a, e.b, ⟨e.c.a, e.c.b, ⟨e.c.c.a, e.c.c.b, e.c.c.c, ⟨e.c.c.d.a, e.c.c.d.b, v, e.c.c.d.d⟩⟩, e.c.d⟩, e.d⟩⟩,
 ⟨fun v e => ⟨e.a, e.b, ⟨e.c.a, e.c.b, ⟨e.c.c.a, e.c.c.b, e.c.c.c, ⟨e.c.c.d.a, e.c.c.d.b, e.c.c.d.c, v⟩⟩, e.c.d⟩, e.d⟩⟩]
def pTab11 : List PS := [
 ⟨fun v e => ⟨e.a, e.b, ⟨e.c.a, e.c.b, e.c.c, ⟨⟨v, e.c.d.a.b, e.c.d.a.c, e.c.d.a.d⟩, e.c.d.b, e.c.d.c, e.c.d.d⟩⟩, e.d⟩⟩,
 ⟨fun v e => ⟨e.a, e.b, ⟨e.c.a, e.c.b, e.c.c, ⟨⟨e.c.d.a.a, v, e.c.d.a.c, e.c.d.a.d⟩, e.c.d.b, e.c.d.c, e.c.d.d⟩⟩, e.d⟩⟩,
 ⟨fun v e => ⟨e.a, e.b, ⟨e.c.a, e.c.b, e.c.c, ⟨⟨e.c.d.a.a, e.c.d.a.b, v, e.c.d.a.d⟩, e.c.d.b, e.c.d.c, e.c.d.d⟩⟩, e.d⟩⟩,
 ⟨fun v e => ⟨e.a, e.b, ⟨e.c.a, e.c.b, e.c.c, ⟨⟨e.c.d.a.a, e.c.d.a.b, e.c.d.a.c, v⟩, e.c.d.b, e.c.d.c, e.c.d.d⟩⟩, e.d⟩⟩,
 ⟨fun v e => ⟨e.a, e.b, ⟨e.c.a, e.c.b, e.c.c, ⟨e.c.d.a, ⟨v, e.c.d.b.b, e.c.d.b.c, e.c.d.b.d⟩, e.c.d.c, e.c.d.d⟩⟩, e.d⟩⟩,
 ⟨fun v e => ⟨e.a, e.b, ⟨e.c.a, e.c.b, e.c.c, ⟨e.c.d.a, ⟨e.c.d.b.a, v, e.c.d.b.c, e.c.d.b.d⟩, e.c.d.c, e.c.d.d⟩⟩, e.d⟩⟩,
 ⟨fun v e => ⟨e.a, e.b, ⟨e.c.a, e.c.b, e.c.c, ⟨e.c.d.a, ⟨e.c.d.b.a, e.c.d.b.b, v, e.c.d.b.d⟩, e.c.d.c, e.c.d.d⟩⟩, e.d⟩⟩,
 ⟨fun v e => ⟨e.a, e.b, ⟨e.c.a, e.c.b, e.c.c, ⟨e.c.d.a, ⟨e.c.d.b.a, e.c.d.b.b, e.c.d.b.c, v⟩, e.c.d.c, e.c.d.d⟩⟩, e.d⟩⟩,
 ⟨fun v e => ⟨e.a, e.b, ⟨e.c.a, e.c.b, e.c.c, ⟨e.c.d.a, e.c.d.b, ⟨v, e.c.d.c.b, e.c.d.c.c, e.c.d.c.d⟩, e.c.d.d⟩⟩, e.d⟩⟩,
 ⟨fun v e => ⟨e.a, e.b, ⟨e.c.a, e.c.b, e.c.c, ⟨e.c.d.a, e.c.d.b, ⟨e.c.d.c.a, v, e.c.d.c.c, e.c.d.c.d⟩, e.c.d.d⟩⟩, e.d⟩⟩,
 ⟨fun v e => ⟨e.a, e.b, ⟨e.c.a, e.c.b, e.c.c, ⟨e.c.d.a, e.c.d.b, ⟨e.c.d.c.a, e.c.d.c.b, v, e.c.d.c.d⟩, e.c.d.d⟩⟩, e.d⟩⟩,
 ⟨fun v e => ⟨e.a, e.b, ⟨e.c.a, e.c.b, e.c.c, ⟨e.c.d.a, e.c.d.b, ⟨e.c.d.c.a, e.c.d.c.b, e.c.d.c.c, v⟩, e.c.d.d⟩⟩, e.d⟩⟩,
 ⟨fun v e => ⟨e.a, e.b, ⟨e.c.a, e.c.b, e.c.c, ⟨e.c.d.a, e.c.d.b, e.c.d.c, ⟨v, e.c.d.d.b, e.c.d.d.c, e.c.d.d.d⟩⟩⟩, e.d⟩⟩,
 ⟨fun v e => ⟨e.a, e.b, ⟨e.c.a, e.c.b, e.c.c, ⟨e.c.d.a, e.c.d.b, e.c.d.c, ⟨e.c.d.d.a, v, e.c.d.d.c, e.c.d.d.d⟩⟩⟩, e.d⟩⟩,
 ⟨fun v e => ⟨e.a, e.b, ⟨e.c.a, e.c.b, e.c.c, ⟨e.c.d.a, e.c.d.b, e.c.d.c, ⟨e.c.d.d.a, e.c.d.d.b, v, e.c.d.d.d⟩⟩⟩, e.d⟩⟩,
 ⟨fun v e => ⟨e.a, e.b, ⟨e.c.a, e.c.b, e.c.c, ⟨e.c.d.a, e.c.d.b, e.c.d.c, ⟨e.c.d.d.a, e.c.d.d.b, e.c.d.d.c, v⟩⟩⟩, e.d⟩⟩]
def pTab12 : List PS := [
 ⟨fun v e => ⟨e.a, e.b, e.c, ⟨⟨⟨v, e.d.a.a.b, e.d.a.a.c, e.d.a.a.d⟩, e.d.a.b, e.d.a.c, e.d.a.d⟩, e.d.b, e.d.c, e.d.d⟩⟩⟩,
 ⟨fun v e => ⟨e.a, e.b, e.c, ⟨⟨⟨e.d.a.a.a, v, e.d.a.a.c, e.d.a.a.d⟩, e.d.a.b, e.d.a.c, e.d.a.d⟩, e.d.b, e.d.c, e.d.d⟩⟩⟩,
 ⟨fun v e => ⟨e.a, e.b, e.c, ⟨⟨⟨e.d.a.a.a, e.d.a.a.b, v, e.d.a.a.d⟩, e.d.a.b, e.d.a.c, e.d.a.d⟩, e.d.b, e.d.c, e.d.d⟩⟩⟩,
 ⟨fun v e => ⟨e.a, e.b, e.c, ⟨⟨⟨e.d.a.a.a, e.d.a.a.b, e.d.a.a.c, v⟩, e.d.a.b, e.d.a.c, e.d.a.d⟩, e.d.b, e.d.c, e.d.d⟩⟩⟩,
 ⟨fun v e => ⟨e.a, e.b, e.c, ⟨⟨e.d.a.a, ⟨v, e.d.a.b.b, e.d.a.b.c, e.d.a.b.d⟩, e.d.a.c, e.d.a.d⟩, e.d.b, e.d.c, e.d.d⟩⟩⟩,
 ⟨fun v e => ⟨e.a, e.b, e.c, ⟨⟨e.d.a.a, ⟨e.d.a.b.a, v, e.d.a.b.c, e.d.a.b.d⟩, e.d.a.c, e.d.a.d⟩, e.d.b, e.d.c, e.d.d⟩⟩⟩,
 ⟨fun v e => ⟨e.a, e.b, e.c, ⟨⟨e.d.a.a, ⟨e.d.a.b.a, e.d.a.b.b, v, e.d.a.b.d⟩, e.d.a.c, e.d.a.d⟩, e.d.b, e.d.c, e.d.d⟩⟩⟩,
 ⟨fun v e => ⟨e.a, e.b, e.c, ⟨⟨e.d.a.a, ⟨e.d.a.b.a, e.d.a.b.b, e.d.a.b.c, v⟩, e.d.a.c, e.d.a.d⟩, e.d.b, e.d.c, e.d.d⟩⟩⟩,
 ⟨fun v e => ⟨e.a, e.b, e.c, ⟨⟨e.d.a.a, e.d.a.b, ⟨v, e.d.a.c.b, e.d.a.c.c, e.d.a.c.d⟩, e.d.a.d⟩, e.d.b, e.d.c, e.d.d⟩⟩⟩,
 ⟨fun v e => ⟨e.a, e.b, e.c, ⟨⟨e.d.a.a, e.d.a.b, ⟨e.d.a.c.a, v, e.d.a.c.c, e.d.a.c.d⟩, e.d.a.d⟩, e.d.b, e.d.c, e.d.d⟩⟩⟩,
 ⟨fun v e => ⟨e.a, e.b, e.c, ⟨⟨e.d.a.a, e.d.a.b, ⟨e.d.a.c.a, e.d.a.c.b, v, e.d.a.c.d⟩, e.d.a.d⟩, e.d.b, e.d.c, e.d.d⟩⟩⟩,
 ⟨fun v e => ⟨e.a, e.b, e.c, ⟨⟨e.d.a.a, e.d.a.b, ⟨e.d.a.c.a, e.d.a.c.b, e.d.a.c.c, v⟩, e.d.a.d⟩, e.d.b, e.d.c, e.d.d⟩⟩⟩,
 ⟨fun v e => ⟨e.a, e.b, e.c, ⟨⟨e.d.a.a, e.d.a.b, e.d.a.c, ⟨v, e.d.a.d.b, e.d.a.d.c, e.d.a.d.d⟩⟩, e.d.b, e.d.c, e.d.d⟩⟩⟩,
 ⟨fun v e => ⟨e.a, e.b, e.c, ⟨⟨e.d.a.a, e.d.a.b, e.d.a.c, ⟨e.d.a.d.a, v, e.d.a.d.c, e.d.a.d.d⟩⟩, e.d.b, e.d.c, e.d.d⟩⟩⟩,
 ⟨fun v e => ⟨e.a, e.b, e.c, ⟨⟨e.d.a.a, e.d.a.b, e.d.a.c, ⟨e.d.a.d.a, e.d.a.d.b, v, e.d.a.d.d⟩⟩, e.d.b, e.d.c, e.d.d⟩⟩⟩,
 ⟨fun v e => ⟨e.a, e.b, e.c, ⟨⟨e.d.a.a, e.d.a.b, e.d.a.c, ⟨e.d.a.d.a, e.d.a.d.b, e.d.a.d.c, v⟩⟩, e.d.b, e.d.c, e.d.d⟩⟩⟩]
def pTab13 : List PS := [
 ⟨fun v e => ⟨e.a, e.b, e.c, ⟨e.d.a, ⟨⟨v, e.d.b.a.b, e.d.b.a.c, e.d.b.a.d⟩, e.d.b.b, e.d.b.c, e.d.b.d⟩, e.d.c, e.d.d⟩⟩⟩,
 ⟨fun v e => ⟨e.a, e.b, e.c, ⟨e.d.a, ⟨⟨e.d.b.a.a, v, e.d.b.a.c, e.d.b.a.d⟩, e.d.b.b, e.d.b.c, e.d.b.d⟩, e.d.c, e.d.d⟩⟩⟩,
 ⟨fun v e => ⟨e.a, e.b, e.c, ⟨e.d.a, ⟨⟨e.d.b.a.a, e.d.b.a.b, v, e.d.b.a.d⟩, e.d.b.b, e.d.b.c, e.d.b.d⟩, e.d.c, e.d.d⟩⟩⟩,
 ⟨fun v e => ⟨e.a, e.b, e.c, ⟨e.d.a, ⟨⟨e.d.b.a.a, e.d.b.a.b, e.d.b.a.c, v⟩, e.d.b.b, e.d.b.c, e.d.b.d⟩, e.d.c, e.d.d⟩⟩⟩,
 ⟨fun v e => ⟨e.a, e.b, e.c, ⟨e.d.a, ⟨e.d.b.a, ⟨v, e.d.b.b.b, e.d.b.b.c, e.d.b.b.d⟩, e.d.b.c, e.d.b.d⟩, e.d.c, e.d.d⟩⟩⟩,
 ⟨fun v e => ⟨e.a, e.b, e.c, ⟨e.d.a, ⟨e.d.b.a, ⟨e.d.b.b.a, v, e.d.b.b.c, e.d.b.b.d⟩, e.d.b.c, e.d.b.d⟩, e.d.c, e.d.d⟩⟩⟩,
 ⟨fun v e => ⟨e.a, e.b, e.c, ⟨e.d.a, ⟨e.d.b.a, ⟨e.d.b.b.a, e.d.b.b.b, v, e.d.b.b.d⟩, e.d.b.c, e.d.b.d⟩, e.d.c, e.d.d⟩⟩⟩,
 ⟨fun v e => ⟨e.a, e.b, e.c, ⟨e.d.a, ⟨e.d.b.a, ⟨e.d.b.b.a, e.d.b.b.b, e.d.b.b.c, v⟩, e.d.b.c, e.d.b.d⟩, e.d.c, e.d.d⟩⟩⟩,
 ⟨fun v e => ⟨e.a, e.b, e.c, ⟨e.d.a, ⟨e.d.b.a, e.d.b.b, ⟨v, e.d.b.c.b, e.d.b.c.c, e.d.b.c.d⟩, e.d.b.d⟩, e.d.c, e.d.d⟩⟩⟩,
 ⟨fun v e => ⟨e.a, e.b, e.c, ⟨e.d.a, ⟨e.d.b.a, e.d.b.b, ⟨e.d.b.c.a, v, e.d.b.c.c, e.d.b.c.d⟩, e.d.b.d⟩, e.d.c, e.d.d⟩⟩⟩,
 ⟨fun v e => ⟨e.a, e.b, e.c, ⟨e.d.a, ⟨e.d.b.a, e.d.b.b, ⟨e.d.b.c.a, e.d.b.c.b, v, e.d.b.c.d⟩, e.d.b.d⟩, e.d.c, e.d.d⟩⟩⟩,
 ⟨fun v e => ⟨e.a, e.b, e.c, ⟨e.d.a, ⟨e.d.b.a, e.d.b.b, ⟨e.d.b.c.a, e.d.b.c.b, e.d.b.c.c, v⟩, e.d.b.d⟩, e.d.c, e.d.d⟩⟩⟩,
 ⟨fun v e => ⟨e.a, e.b, e.c, ⟨e.d.a, ⟨e.d.b.a, e.d.b.b, e.d.b.c, ⟨v, e.d.b.d.b, e.d.b.d.c, e.d.b.d.d⟩⟩, e.d.c, e.d.d⟩⟩⟩,
 ⟨fun v e => ⟨e.a, e.b, e.c, ⟨e.d.a, ⟨e.d.b.a, e.d.b.b, e.d.b.c, ⟨e.d.b.d.a, v, e.d.b.d.c, e.d.b.d.d⟩⟩, e.d.c, e.d.d⟩⟩⟩,
 ⟨fun v e => ⟨e.a, e.b, e.c, ⟨e.d.a, ⟨e.d.b.a, e.d.b.b, e.d.b.c, ⟨e.d.b.d.a, e.d.b.d.b, v, e.d.b.d.d⟩⟩, e.d.c, e.d.d⟩⟩⟩,
 ⟨fun v e => ⟨e.a, e.b, e.c, ⟨e.d.a, ⟨e.d.b.a, e.d.b.b, e.d.b.c, ⟨e.d.b.d.a, e.d.b.d.b, e.d.b.d.c, v⟩⟩, e.d.c, e.d.d⟩⟩⟩]
def pTab14 : List PS := [
 ⟨fun v e => ⟨e.a, e.b, e.c, ⟨e.d.a, e.d.b, ⟨⟨v, e.d.c.a.b, e.d.c.a.c, e.d.c.a.d⟩, e.d.c.b, e.d.c.c, e.d.c.d⟩, e.d.d⟩⟩⟩,
 ⟨fun v e => ⟨e.a, e.b, e.c, ⟨e.d.a, e.d.b, ⟨⟨e.d.c.a.a, v, e.d.c.a.c, e.d.c.a.d⟩, e.d.c.b, e.d.c.c, e.d.c.d⟩, e.d.d⟩⟩⟩,
 ⟨fun v e => ⟨e.a, e.b, e.c, ⟨e.d.a, e.d.b, ⟨⟨e.d.c.a.a, e.d.c.a.b, v, e.d.c.a.d⟩, e.d.c.b, e.d.c.c, e.d.c.d⟩, e.d.d⟩⟩⟩,
 ⟨fun v e => ⟨e.a, e.b, e.c, ⟨e.d.a, e.d.b, ⟨⟨e.d.c.a.a, e.d.c.a.b, e.d.c.a.c, v⟩, e.d.c.b, e.d.c.c, e.d.c.d⟩, e.d.d⟩⟩⟩,
 ⟨fun v e => ⟨e.a, e.b, e.c, ⟨e.d.a, e.d.b, ⟨e.d.c.a, ⟨v, e.d.c.b.b, e.d.c.b.c, e.d.c.b.d⟩, e.d.c.c, e.d.c.d⟩, e.d.d⟩⟩⟩,
 ⟨fun v e => ⟨e.a, e.b, e.c, ⟨e.d.a, e.d.b, ⟨e.d.c.a, ⟨e.d.c.b.a, v, e.d.c.b.c, e.d.c.b.d⟩, e.d.c.c, e.d.c.d⟩, e.d.d⟩⟩⟩,
 ⟨fun v e => ⟨e.a, e.b, e.c, ⟨e.d.a, e.d.b, ⟨e.d.c.a, ⟨e.d.c.b.a, e.d.c.b.b, v, e.d.c.b.d⟩, e.d.c.c, e.d.c.d⟩, e.d.d⟩⟩⟩,
 ⟨fun v e => ⟨e.a, e.b, e.c, ⟨e.d.a, e.d.b, ⟨e.d.c.a, ⟨e.d.c.b.a, e.d.c.b.b, e.d.c.b.c, v⟩, e.d.c.c, e.d.c.d⟩, e.d.d⟩⟩⟩,
 ⟨fun v e => ⟨e.a, e.b, e.c, ⟨e.d.a, e.d.b, ⟨e.d.c.a, e.d.c.b, ⟨v, e.d.c.c.b, e.d.c.c.c, e.d.c.c.d⟩, e.d.c.d⟩, e.d.d⟩⟩⟩,
 ⟨fun v e => ⟨e.a, e.b, e.c, ⟨e.d.a, e.d.b, ⟨e.d.c.a, e.d.c.b, ⟨e.d.c.c.a, v, e.d.c.c.c, e.d.c.c.d⟩, e.d.c.d⟩, e.d.d⟩⟩⟩,
 ⟨fun v e => ⟨e.a, e.b, e.c, ⟨e.d.a, e.d.b, ⟨e.d.c.a, e.d.c.b, ⟨e.d.c.c.a, e.d.c.c.b, v, e.d.c.c.d⟩, e.d.c.d⟩, e.d.d⟩⟩⟩,
 ⟨fun v e => ⟨e.a, e.b, e.c, ⟨e.d.a, e.d.b, ⟨e.d.c.a, e.d.c.b, ⟨e.d.c.c.a, e.d.c.c.b, e.d.c.c.c, v⟩, e.d.c.d⟩, e.d.d⟩⟩⟩,
 ⟨fun v e => ⟨e.a, e.b, e.c, ⟨e.d.a, e.d.b, ⟨e.d.c.a, e.d.c.b, e.d.c.c, ⟨v, e.d.c.d.b, e.d.c.d.c, e.d.c.d.d⟩⟩, e.d.d⟩⟩⟩,
 ⟨fun v e => ⟨e.a, e.b, e.c, ⟨e.d.a, e.d.b, ⟨e.d.c.a, e.d.c.b, e.d.c.c, ⟨e.d.c.d.a, v, e.d.c.d.c, e.d.c.d.d⟩⟩, e.d.d⟩⟩⟩,
 ⟨fun v e => ⟨e.a, e.b, e.c, ⟨e.d.a, e.d.b, ⟨e.d.c.a, e.d.c.b, e.d.c.c, ⟨e.d.c.d.a, e.d.c.d.b, v, e.d.c.d.d⟩⟩, e.d.d⟩⟩⟩,
 ⟨fun v e => ⟨e.a, e.b, e.c, ⟨e.d.a, e.d.b, ⟨e.d.c.a, e.d.c.b, e.d.c.c, ⟨e.d.c.d.a, e.d.c.d.b, e.d.c.d.c, v⟩⟩, e.d.d⟩⟩⟩]
def pTab15 : List PS := [
 ⟨fun v e => ⟨e.a, e.b, e.c, ⟨e.d.a, e.d.b, e.d.c, ⟨⟨v, e.d.d.a.b, e.d.d.a.c, e.d.d.a.d⟩, e.d.d.b, e.d.d.c, e.d.d.d⟩⟩⟩⟩,
 ⟨fun v e => ⟨e.a, e.b, e.c, ⟨e.d.a, e.d.b, e.d.c, ⟨⟨e.d.d.a.a, v, e.d.d.a.c, e.d.d.a.d⟩, e.d.d.b, e.d.d.c, e.d.d.d⟩⟩⟩⟩,
 ⟨fun v e => ⟨e.a, e.b, e.c, ⟨e.d.a, e.d.b, e.d.c, ⟨⟨e.d.d.a.a, e.d.d.a.b, v, e.d.d.a.d⟩, e.d.d.b, e.d.d.c, e.d.d.d⟩⟩⟩⟩,
 ⟨fun v e => ⟨e.a, e.b, e.c, ⟨e.d.a, e.d.b, e.d.c, ⟨⟨e.d.d.a.a, e.d.d.a.b, e.d.d.a.c, v⟩, e.d.d.b, e.d.d.c, e.d.d.d⟩⟩⟩⟩,
 ⟨fun v e => ⟨e.a, e.b, e.c, ⟨e.d.a, e.d.b, e.d.c, ⟨e.d.d.a, ⟨v, e.d.d.b.b, e.d.d.b.c, e.d.d.b.d⟩, e.d.d.c, e.d.d.d⟩⟩⟩⟩,
 ⟨fun v e => ⟨e.a, e.b, e.c, ⟨e.d.a, e.d.b, e.d.c, ⟨e.d.d.a, ⟨e.d.d.b.a, v, e.d.d.b.c, e.d.d.b.d⟩, e.d.d.c, e.d.d.d⟩⟩⟩⟩,
 ⟨fun v e => ⟨e.a, e.b, e.c, ⟨e.d.a, e.d.b, e.d.c, ⟨e.d.d.a, ⟨e.d.d.b.a, e.d.d.b.b, v, e.d.d.b.d⟩, e.d.d.c, e.d.d.d⟩⟩⟩⟩,
 ⟨fun v e => ⟨e.a, e.b, e.c, ⟨e.d.a, e.d.b, e.d.c, ⟨e.d.d.a, ⟨e.d.d.b.a, e.d.d.b.b, e.d.d.b.c, v⟩, e.d.d.c, e.d.d.d⟩⟩⟩⟩,
 ⟨fun v e => ⟨e.a, e.b, e.c, ⟨e.d.a, e.d.b, e.d.c, ⟨e.d.d.a, e.d.d.b, ⟨v, e.d.d.c.b, e.d.d.c.c, e.d.d.c.d⟩, e.d.d.d⟩⟩⟩⟩,
 ⟨fun v e => ⟨e.a, e.b, e.c, ⟨e.d.a, e.d.b, e.d.c, ⟨e.d.d.a, e.d.d.b, ⟨e.d.d.c.a, v, e.d.d.c.c, e.d.d.c.d⟩, e.d.d.d⟩⟩⟩⟩,
 ⟨fun v e => ⟨e.a, e.b, e.c, ⟨e.d.a, e.d.b, e.d.c, ⟨e.d.d.a, e.d.d.b, ⟨e.d.d.c.a, e.d.d.c.b, v, e.d.d.c.d⟩, e.d.d.d⟩⟩⟩⟩,
 ⟨fun v e => ⟨e.a, e.b, e.c, ⟨e.d.a, e.d.b, e.d.c, ⟨e.d.d.a, e.d.d.b, ⟨e.d.d.c.a, e.d.d.c.b, e.d.d.c.c, v⟩, e.d.d.d⟩⟩⟩⟩,
 ⟨fun v e => ⟨e.a, e.b, e.c, ⟨e.d.a, e.d.b, e.d.c, ⟨e.d.d.a, e.d.d.b, e.d.d.c, ⟨v, e.d.d.d.b, e.d.d.d.c, e.d.d.d.d⟩⟩⟩⟩⟩,
 ⟨fun v e => ⟨e.a, e.b, e.c, ⟨e.d.a, e.d.b, e.d.c, ⟨e.d.d.a, e.d.d.b, e.d.d.c, ⟨e.d.d.d.a, v, e.d.d.d.c, e.d.d.d.d⟩⟩⟩⟩⟩,
 ⟨fun v e => ⟨e.a, e.b, e.c, ⟨e.d.a, e.d.b, e.d.c, ⟨e.d.d.a, e.d.d.b, e.d.d.c, ⟨e.d.d.d.a, e.d.d.d.b, v, e.d.d.d.d⟩⟩⟩⟩⟩,
 ⟨fun v e => ⟨e.a, e.b, e.c, ⟨e.d.a, e.d.b, e.d.c, ⟨e.d.d.a, e.d.d.b, e.d.d.c, ⟨e.d.d.d.a, e.d.d.d.b, e.d.d.d.c, v⟩⟩⟩⟩⟩]
def nthL {β : Type} (z : β) : List β → Nat → β :=
 List.rec (motive := fun _ => Nat → β) (fun _ => z) (fun x _ ih i => Bool.rec (ih (Nat.pred i)) x (Nat.beq i (nat_lit 0)))
def gTabs : List (List EV) := [gTab0, gTab1, gTab2, gTab3, gTab4, gTab5, gTab6, gTab7, gTab8, gTab9, gTab10, gTab11, gTab12, gTab13, gTab14, gTab15] 
def pTabs : List (List PS) := [pTab0, pTab1, pTab2, pTab3, pTab4, pTab5, pTab6, pTab7, pTab8, pTab9, pTab10, pTab11, pTab12, pTab13, pTab14, pTab15]
def gT (i : Nat) : EV := nthL ⟨fun _ => .bad⟩ (nthL [] gTabs (Nat.div i (nat_lit 16))) (Nat.mod i (nat_lit 16))
def pT (i : Nat) : PS := nthL ⟨fun _ e => e⟩ (nthL [] pTabs (Nat.div i (nat_lit 16))) (Nat.mod i (nat_lit 16))
end
end Go.Proofs.YtmpkgddioiaonaaGreatDoor.Am
