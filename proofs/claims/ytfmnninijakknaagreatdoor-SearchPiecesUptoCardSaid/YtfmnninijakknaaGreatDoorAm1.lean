/- The abstract machine, first part: its data (strings, tries, values, blocks, heaps) and their small laws. -/
import GoSem.Step
import Derived.Control
namespace Go.Proofs.YtfmnninijakknaaGreatDoor.Am
noncomputable section

/-- x is reckoned ahead of k. -/
def sN {α : Type} (x : Nat) (k : Nat → α) : α := Bool.rec (k x) (k x) (Nat.ble x (nat_lit 0))
theorem sN_eq {α : Type} (x : Nat) (k : Nat → α) : sN x k = k x := by unfold sN; cases Nat.ble x (nat_lit 0) <;> rfl

/-! ### perfect trees of four ways -/
structure S4 (α : Type) where
  a : α
  b : α
  c : α
  d : α
@[reducible] def E (α : Type) : Nat → Type
  | 0 => α
  | k + 1 => S4 (E α k)
inductive D where
  | d0 | d1 | d2 | d3
  deriving DecidableEq
inductive P where
  | z
  | s (d : D) (p : P)

def dig (n : Nat) : D :=
  Bool.rec (Bool.rec (Bool.rec .d3 .d2 (Nat.beq n (nat_lit 2))) .d1 (Nat.beq n (nat_lit 1))) .d0 (Nat.beq n (nat_lit 0))
/-- the first digit is the greatest -/
def path (k : Nat) : Nat → P :=
  Nat.rec (motive := fun _ => Nat → P) (fun _ => .z)
    (fun k ih n => .s (dig (Nat.div n (Nat.pow (nat_lit 4) k))) (ih (Nat.mod n (Nat.pow (nat_lit 4) k)))) k

def selS {β : Type} : D → S4 β → β := D.rec (motive := fun _ => S4 β → β) S4.a S4.b S4.c S4.d
def updS {β : Type} : D → (β → β) → S4 β → S4 β := D.rec (motive := fun _ => (β → β) → S4 β → S4 β)
  (fun f e => ⟨f e.a, e.b, e.c, e.d⟩) (fun f e => ⟨e.a, f e.b, e.c, e.d⟩) (fun f e => ⟨e.a, e.b, f e.c, e.d⟩) (fun f e => ⟨e.a, e.b, e.c, f e.d⟩)

namespace E
variable {α : Type}
def get (k : Nat) : P → E α k → α :=
  Nat.rec (motive := fun k => P → E α k → α) (fun _ e => e)
    (fun k ih => P.rec (motive := fun _ => E α (Nat.succ k) → α) (fun e => ih .z (S4.a e)) (fun d r _ e => ih r (selS d e))) k
def put (x : α) (k : Nat) : P → E α k → E α k :=
  Nat.rec (motive := fun k => P → E α k → E α k) (fun _ _ => x)
    (fun k ih => P.rec (motive := fun _ => E α (Nat.succ k) → E α (Nat.succ k)) (fun e => e) (fun d r _ e => updS d (ih r) e)) k
def rep (x : α) (k : Nat) : E α k := Nat.rec (motive := fun k => E α k) x (fun _ ih => ⟨ih, ih, ih, ih⟩) k
/-- one level more -/
def grow (x : α) (k : Nat) (e : E α k) : E α (Nat.succ k) := ⟨e, rep x k, rep x k, rep x k⟩
end E

theorem dig_inj {a b : Nat} (ha : a < 4) (hb : b < 4) (h : dig a = dig b) : a = b := by
  match a, b, ha, hb with
  | 0, 0, _, _ | 1, 1, _, _ | 2, 2, _, _ | 3, 3, _, _ => rfl
  | 0, 1, _, _ | 0, 2, _, _ | 0, 3, _, _ | 1, 0, _, _ | 1, 2, _, _ | 1, 3, _, _ | 2, 0, _, _ | 2, 1, _, _ | 2, 3, _, _ | 3, 0, _, _ | 3, 1, _, _ | 3, 2, _, _ => cases h
theorem path_s (k n : Nat) : path (k + 1) n = .s (dig (n / 4 ^ k)) (path k (n % 4 ^ k)) := rfl
theorem sel_upd {β : Type} (d d' : D) (f : β → β) (t : S4 β) : selS d' (updS d f t) = if d' = d then f (selS d t) else selS d' t := by
  cases d <;> cases d' <;> rfl

namespace E
variable {α : Type}
theorem get_s (k : Nat) (d : D) (p : P) (t : E α (k + 1)) : get (k + 1) (.s d p) t = get k p (selS d t) := rfl
theorem put_s (x : α) (k : Nat) (d : D) (p : P) (t : E α (k + 1)) : put x (k + 1) (.s d p) t = updS d (put x k p) t := rfl
theorem get_put_same (x : α) (k i : Nat) (t : E α k) : get k (path k i) (put x k (path k i) t) = x := by
  induction k generalizing i with
  | zero => rfl
  | succ k ih => rw [path_s, get_s, put_s, sel_upd, if_pos rfl]; exact ih _ _
theorem get_put_ne (x : α) (k i j : Nat) (hi : i < 4 ^ k) (hj : j < 4 ^ k) (h : i ≠ j) (t : E α k) : get k (path k j) (put x k (path k i) t) = get k (path k j) t := by
  induction k generalizing i j with
  | zero => simp at hi hj; omega
  | succ k ih =>
    rw [path_s, path_s, get_s, put_s, sel_upd, get_s]
    have hp : 0 < 4 ^ k := Nat.pow_pos (by omega)
    have hi' : i / 4 ^ k < 4 := Nat.div_lt_of_lt_mul (by rw [Nat.pow_succ] at hi; exact hi)
    have hj' : j / 4 ^ k < 4 := Nat.div_lt_of_lt_mul (by rw [Nat.pow_succ] at hj; exact hj)
    split
    · rename_i hd
      have hm := dig_inj hj' hi' hd
      rw [← hd]
      refine ih _ _ (Nat.mod_lt _ hp) (Nat.mod_lt _ hp) ?_ _
      intro he
      apply h
      rw [← Nat.div_add_mod i (4 ^ k), ← Nat.div_add_mod j (4 ^ k), he, hm]
    · rfl
theorem get_rep (x : α) (k : Nat) : ∀ (p : P), get k p (rep x k) = x := by
  induction k with
  | zero => intro p; rfl
  | succ k ih =>
    intro p
    cases p with
    | z => exact ih _
    | s d p => rw [get_s]; cases d <;> exact ih _
theorem get_grow (x : α) (k i : Nat) (hi : i < 4 ^ k) (e : E α k) : get (k + 1) (path (k + 1) i) (grow x k e) = get k (path k i) e := by
  rw [path_s, get_s, Nat.div_eq_of_lt hi, Nat.mod_eq_of_lt hi]; rfl
theorem get_grow_new (x : α) (k i : Nat) (hi : 4 ^ k ≤ i) (hj : i < 4 ^ (k + 1)) (e : E α k) : get (k + 1) (path (k + 1) i) (grow x k e) = x := by
  rw [path_s, get_s]
  have hp : 0 < 4 ^ k := Nat.pow_pos (by omega)
  have h1 : 1 ≤ i / 4 ^ k := (Nat.one_le_div_iff hp).2 hi
  have h2 : i / 4 ^ k < 4 := Nat.div_lt_of_lt_mul (by rw [Nat.pow_succ] at hj; exact hj)
  have : i / 4 ^ k = 1 ∨ i / 4 ^ k = 2 ∨ i / 4 ^ k = 3 := by omega
  rcases this with h | h | h <;> rw [h] <;> exact get_rep _ _ _
end E

/-! ### strings: their length, and their bytes as one number, the first byte the greatest -/
structure Str where
  len : Nat
  val : Nat
  deriving DecidableEq

namespace Str
def go : List UInt8 → Nat → Nat → Str :=
  List.rec (motive := fun _ => Nat → Nat → Str) (fun n v => ⟨n, v⟩)
    (fun b _ ih n v => sN (Nat.add (Nat.mul v (nat_lit 256)) b.toNat) fun v' => ih (Nat.succ n) v')
def of (b : ByteArray) : Str := go b.data.toList (nat_lit 0) (nat_lit 0)
def byte (s : Str) (i : Nat) : Nat := Nat.mod (Nat.shiftRight s.val (Nat.mul (nat_lit 8) (Nat.sub (Nat.sub s.len (nat_lit 1)) i))) (nat_lit 256)
def sub (s : Str) (a b : Nat) : Str :=
  ⟨Nat.sub b a, Nat.mod (Nat.shiftRight s.val (Nat.mul (nat_lit 8) (Nat.sub s.len b))) (Nat.pow (nat_lit 2) (Nat.mul (nat_lit 8) (Nat.sub b a)))⟩
def app (a b : Str) : Str := ⟨Nat.add a.len b.len, Nat.add (Nat.shiftLeft a.val (Nat.mul (nat_lit 8) b.len)) b.val⟩
def eq (a b : Str) : Bool := Bool.rec false (Nat.beq a.val b.val) (Nat.beq a.len b.len)
end Str

/-! ### values -/
inductive AV where
  | bad
  | unk
  | bool (b : Bool)
  | int (k : IntKind) (n : Int)
  | str (s : Str)
  | ptr (b off : Nat)
  | nilp
  | slice (b off len es : Nat) (z : Bool)
  | nils
  | map (b : Nat)
  | nilm
  | fn (f : Nat) (first capt : AV)
  | yld (l : Nat)
  | nilf
  | ifc (t : Nat) (v : AV)
  | nili
  | agg (cs : AV)
  | tup (vs : AV)
  | nil
  | cons (h t : AV)

/-- what a block of memory holds -/
inductive Blk where
  | cells (el : Nat) (ro : Bool) (n d : Nat) (t : E AV d)
  | imap (k : IntKind) (n clock : Nat) (t : E (Option AV) 11) (lk : Nat)
  | smap (n clock : Nat) (l : List (Str × AV))
  | iter (s : Str) (pos : Nat)
  | loop (st : LoopState) (pend : Option Code) (fn : Nat) (env : S4 (S4 (S4 (S4 AV)))) (ps : List Tmp) (assign body : Code) (dfr : Nat)
  | dfr
  | taken

def hd : Nat := nat_lit 8
structure H where
  t : E (Option Blk) hd
  next : Nat
  ln : Nat
  log : List Nat
def H.get (h : H) (b : Nat) : Option Blk := E.get hd (path hd b) h.t
def H.room (h : H) : Bool := Nat.ble (Nat.succ h.next) (nat_lit 65536)
/-- a block changed -/
def H.set (h : H) (b : Nat) (x : Blk) : H := ⟨E.put (some x) hd (path hd b) h.t, h.next, Nat.succ h.ln, b :: h.log⟩
/-- a block that is spoken of no more -/
def H.kill (h : H) (b : Nat) : H := ⟨E.put none hd (path hd b) h.t, h.next, Nat.succ h.ln, b :: h.log⟩
/-- a new block -/
def H.new (h : H) (x : Blk) : H := ⟨E.put (some x) hd (path hd h.next) h.t, Nat.succ h.next, h.ln, h.log⟩
def h00 (n : Nat) : H := ⟨E.rep none hd, n, nat_lit 0, []⟩

end
end Go.Proofs.YtfmnninijakknaaGreatDoor.Am
