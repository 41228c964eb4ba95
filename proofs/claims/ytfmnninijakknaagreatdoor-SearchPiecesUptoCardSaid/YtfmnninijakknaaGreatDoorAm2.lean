/- The abstract machine, second part: operations on values; operations that do not call. -/
import Derived.Test.YtfmnninijakknaaGreatDoorAmS
namespace Go.Proofs.YtfmnninijakknaaGreatDoor.Am
noncomputable section

/-! ### lists of values -/
def lrec {β : Type} (z : β) (c : AV → AV → β → β) : AV → β :=
  AV.rec (motive := fun _ => β) z z (fun _ => z) (fun _ _ => z) (fun _ => z) (fun _ _ => z) z (fun _ _ _ _ _ => z) z (fun _ => z) z
    (fun _ _ _ _ _ => z) (fun _ => z) z (fun _ _ _ => z) z (fun _ _ => z) (fun _ _ => z) z (fun h t _ ih => c h t ih)
def llen : AV → Nat := lrec (nat_lit 0) (fun _ _ n => Nat.succ n)
def lnth : AV → Nat → AV := lrec (fun _ => .bad) (fun h _ ih i => Bool.rec (ih (Nat.pred i)) h (Nat.beq i (nat_lit 0)))
def lapp : AV → AV → AV := lrec (fun y => y) (fun h _ ih y => .cons h (ih y))
def ltake : AV → Nat → AV := lrec (fun _ => .nil) (fun h _ ih n => Bool.rec (.cons h (ih (Nat.pred n))) .nil (Nat.beq n (nat_lit 0)))
def ldrop : AV → Nat → AV := lrec (fun _ => .nil) (fun h t ih n => Bool.rec (ih (Nat.pred n)) (.cons h t) (Nat.beq n (nat_lit 0)))

/-- is it the value of one cell, and known? -/
def one : AV → Bool :=
  AV.rec (motive := fun _ => Bool) false true (fun _ => true) (fun _ _ => true) (fun _ => true) (fun _ _ => true) true (fun _ _ _ _ _ => true) true (fun _ => true) true
    (fun _ _ _ _ _ => true) (fun _ => true) true (fun _ _ _ => true) true (fun _ _ => false) (fun _ _ => false) false (fun _ _ _ _ => false)
def ones : AV → Bool := lrec true (fun h _ ih => Bool.rec false ih (one h))
/-- the cells of a value -/
def cellsOf : AV → AV :=
  AV.rec (motive := fun _ => AV) .nil (.cons .unk .nil) (fun b => .cons (.bool b) .nil) (fun k n => .cons (.int k n) .nil) (fun s => .cons (.str s) .nil) (fun b o => .cons (.ptr b o) .nil)
    (.cons .nilp .nil) (fun b o n s z => .cons (.slice b o n s z) .nil) (.cons .nils .nil) (fun b => .cons (.map b) .nil) (.cons .nilm .nil)
    (fun f x y _ _ => .cons (.fn f x y) .nil) (fun l => .cons (.yld l) .nil) (.cons .nilf .nil) (fun t v _ => .cons (.ifc t v) .nil) (.cons .nili .nil)
    (fun cs _ => cs) (fun _ _ => .nil) .nil (fun _ _ _ _ => .nil)

/-! ### what an operation comes to -/
inductive Res where
  | fail
  | ok (v : AV) (h : H)
def frc (n : Int) (f : Int → Res) : Res :=
  Int.rec (motive := fun _ => Res) (fun m => sN m fun m' => f (.ofNat m')) (fun m => sN m fun m' => f (.negSucc m')) n
theorem frc_eq (n : Int) (f : Int → Res) : frc n f = f n := by cases n <;> simp [frc, sN_eq]
/-- a value as an operation's result: what is not known falls -/
def chk : AV → H → Res :=
  AV.rec (motive := fun _ => H → Res) (fun _ => .fail) (fun h => .ok .unk h) (fun b h => .ok (.bool b) h) (fun k n h => frc n fun n' => .ok (.int k n') h) (fun s h => .ok (.str s) h) (fun b o h => .ok (.ptr b o) h)
    (fun h => .ok .nilp h) (fun b o n s z h => .ok (.slice b o n s z) h) (fun h => .ok .nils h) (fun b h => .ok (.map b) h) (fun h => .ok .nilm h)
    (fun f x y _ _ h => .ok (.fn f x y) h) (fun l h => .ok (.yld l) h) (fun h => .ok .nilf h) (fun t v _ h => .ok (.ifc t v) h) (fun h => .ok .nili h)
    (fun cs _ h => .ok (.agg cs) h) (fun vs _ h => .ok (.tup vs) h) (fun _ => .fail) (fun _ _ _ _ _ => .fail)

/-! ### what a value is, by kinds -/
inductive OI where
  | none
  | nn (k : IntKind) (n : Nat)
  | ng (k : IntKind) (m : Nat)
def toI : AV → OI :=
  AV.rec (motive := fun _ => OI) .none .none (fun _ => .none) (fun k n => Int.rec (motive := fun _ => OI) (OI.nn k) (OI.ng k) n) (fun _ => .none) (fun _ _ => .none) .none (fun _ _ _ _ _ => .none) .none (fun _ => .none) .none
    (fun _ _ _ _ _ => .none) (fun _ => .none) .none (fun _ _ _ => .none) .none (fun _ _ => .none) (fun _ _ => .none) .none (fun _ _ _ _ => .none)
inductive OS where
  | none
  | some (s : Str)
def toS : AV → OS :=
  AV.rec (motive := fun _ => OS) .none .none (fun _ => .none) (fun _ _ => .none) (fun s => .some s) (fun _ _ => .none) .none (fun _ _ _ _ _ => .none) .none (fun _ => .none) .none
    (fun _ _ _ _ _ => .none) (fun _ => .none) .none (fun _ _ _ => .none) .none (fun _ _ => .none) (fun _ _ => .none) .none (fun _ _ _ _ => .none)
inductive OB where
  | none
  | f
  | t
def toB : AV → OB :=
  AV.rec (motive := fun _ => OB) .none .none (fun b => Bool.rec .f .t b) (fun _ _ => .none) (fun _ => .none) (fun _ _ => .none) .none (fun _ _ _ _ _ => .none) .none (fun _ => .none) .none
    (fun _ _ _ _ _ => .none) (fun _ => .none) .none (fun _ _ _ => .none) .none (fun _ _ => .none) (fun _ _ => .none) .none (fun _ _ _ _ => .none)
inductive OP where
  | none
  | at (b off : Nat)
def toP : AV → OP :=
  AV.rec (motive := fun _ => OP) .none .none (fun _ => .none) (fun _ _ => .none) (fun _ => .none) OP.at .none (fun _ _ _ _ _ => .none) .none (fun _ => .none) .none
    (fun _ _ _ _ _ => .none) (fun _ => .none) .none (fun _ _ _ => .none) .none (fun _ _ => .none) (fun _ _ => .none) .none (fun _ _ _ _ => .none)
inductive OL where
  | none
  | nil
  | at (b off len es : Nat) (z : Bool)
def toL : AV → OL :=
  AV.rec (motive := fun _ => OL) .none .none (fun _ => .none) (fun _ _ => .none) (fun _ => .none) (fun _ _ => .none) .none OL.at .nil (fun _ => .none) .none
    (fun _ _ _ _ _ => .none) (fun _ => .none) .none (fun _ _ _ => .none) .none (fun _ _ => .none) (fun _ _ => .none) .none (fun _ _ _ _ => .none)

/-! ### integers -/
def mxk : IntKind → Nat := IntKind.rec (motive := fun _ => Nat) (nat_lit 127) (nat_lit 32767) (nat_lit 2147483647) (nat_lit 9223372036854775807)
  (nat_lit 255) (nat_lit 65535) (nat_lit 4294967295) (nat_lit 18446744073709551615)
/-- of how many below 0 there are; 0 of kinds without signs -/
def mnk : IntKind → Nat := IntKind.rec (motive := fun _ => Nat) (nat_lit 128) (nat_lit 32768) (nat_lit 2147483648) (nat_lit 9223372036854775808)
  (nat_lit 0) (nat_lit 0) (nat_lit 0) (nat_lit 0)
def kix : IntKind → Nat := IntKind.rec (motive := fun _ => Nat) (nat_lit 0) (nat_lit 1) (nat_lit 2) (nat_lit 3) (nat_lit 4) (nat_lit 5) (nat_lit 6) (nat_lit 7)
def wrN (k : IntKind) (m : Nat) : Int := Bool.rec (k.wrap (.ofNat m)) (.ofNat m) (Nat.ble m (mxk k))
def wr (k : IntKind) (n : Int) : Int :=
  Int.rec (motive := fun _ => Int) (wrN k)
    (fun m => Bool.rec (k.wrap (.negSucc m)) (.negSucc m) (Nat.ble (Nat.succ m) (mnk k))) n
def mk (k : IntKind) (n : Int) : AV := .int k (wr k n)
def mkN (k : IntKind) (n : Nat) : AV := .int k (wrN k n)
/-- two integers of one kind: fast where neither is below 0 -/
def int2 (fast : IntKind → Nat → Nat → AV) (slow : IntKind → Int → Int → AV) : AV → AV → AV := fun x y =>
  OI.rec (motive := fun _ => AV) .bad
    (fun k a => OI.rec (motive := fun _ => AV) .bad (fun k' b => Bool.rec .bad (fast k a b) (Nat.beq (kix k) (kix k'))) (fun k' b => Bool.rec .bad (slow k (.ofNat a) (.negSucc b)) (Nat.beq (kix k) (kix k'))) (toI y))
    (fun k a => OI.rec (motive := fun _ => AV) .bad (fun k' b => Bool.rec .bad (slow k (.negSucc a) (.ofNat b)) (Nat.beq (kix k) (kix k'))) (fun k' b => Bool.rec .bad (slow k (.negSucc a) (.negSucc b)) (Nat.beq (kix k) (kix k'))) (toI y))
    (toI x)
def slowBad : IntKind → Int → Int → AV := fun _ _ _ => .bad
/-- bits of numbers of which one is below 0 -/
def andS (k : IntKind) (a b : Int) : AV := .int k (k.wrap ((BitVec.ofInt k.bits a &&& BitVec.ofInt k.bits b).toNat : Int))
def andNotS (k : IntKind) (a b : Int) : AV := .int k (k.wrap ((BitVec.ofInt k.bits a &&& ~~~ BitVec.ofInt k.bits b).toNat : Int))
def orS (k : IntKind) (a b : Int) : AV := .int k (k.wrap ((BitVec.ofInt k.bits a ||| BitVec.ofInt k.bits b).toNat : Int))
def xorS (k : IntKind) (a b : Int) : AV := .int k (k.wrap ((BitVec.ofInt k.bits a ^^^ BitVec.ofInt k.bits b).toNat : Int))
def addF (k : IntKind) (a b : Nat) : AV := mkN k (Nat.add a b)
def subF (k : IntKind) (a b : Nat) : AV := Bool.rec (mk k (Int.sub (.ofNat a) (.ofNat b))) (mkN k (Nat.sub a b)) (Nat.ble b a)
def mulF (k : IntKind) (a b : Nat) : AV := mkN k (Nat.mul a b)
def quoF (k : IntKind) (a b : Nat) : AV := Bool.rec (mkN k (Nat.div a b)) .bad (Nat.beq b (nat_lit 0))
def remF (k : IntKind) (a b : Nat) : AV := Bool.rec (.int k (.ofNat (Nat.mod a b))) .bad (Nat.beq b (nat_lit 0))
def bitF (f : Nat → Nat → Nat) (k : IntKind) (a b : Nat) : AV := Bool.rec .bad (Bool.rec .bad (.int k (.ofNat (f a b))) (Nat.ble b (mxk k))) (Nat.ble a (mxk k))
def notB (b : Bool) : Bool := Bool.rec true false b
def eqF (_ : IntKind) (a b : Nat) : AV := .bool (Nat.beq a b)
def neF (_ : IntKind) (a b : Nat) : AV := .bool (notB (Nat.beq a b))
def ltF (_ : IntKind) (a b : Nat) : AV := .bool (Nat.ble (Nat.succ a) b)
def leF (_ : IntKind) (a b : Nat) : AV := .bool (Nat.ble a b)
def gtF (_ : IntKind) (a b : Nat) : AV := .bool (Nat.ble (Nat.succ b) a)
def geF (_ : IntKind) (a b : Nat) : AV := .bool (Nat.ble b a)
def shlF (k : IntKind) (a n : Nat) : AV := Bool.rec .bad (mkN k (Nat.mul a (Nat.pow (nat_lit 2) n))) (Nat.ble n k.bits)
def shrF (k : IntKind) (a n : Nat) : AV := Bool.rec .bad (.int k (.ofNat (Nat.div a (Nat.pow (nat_lit 2) n)))) (Nat.ble n k.bits)
/-- a shift of what is not below 0 -/
def shift2 (f : IntKind → Nat → Nat → AV) : AV → AV → AV := fun x y =>
  OI.rec (motive := fun _ => AV) .bad (fun k a => OI.rec (motive := fun _ => AV) .bad (fun _ b => f k a b) (fun _ _ => .bad) (toI y)) (fun _ _ => .bad) (toI x)

def shrS (k : IntKind) (x : Int) (n : Nat) : AV := Bool.rec .bad (.int k (x.fdiv (2 ^ n))) (Nat.ble n k.bits)
def shrA (x y : AV) : AV :=
  match x, y with
  | .int k (.negSucc a), .int _ (.ofNat n) => shrS k (.negSucc a) n
  | x, y => shift2 shrF x y
def Str.lt (a b : Str) : Bool :=
  Bool.rec
    (Nat.ble (Nat.succ (Nat.shiftRight a.val (Nat.mul (nat_lit 8) (Nat.sub a.len b.len)))) b.val)
    (Nat.ble (Nat.succ a.val) (Nat.add (Nat.shiftRight b.val (Nat.mul (nat_lit 8) (Nat.sub b.len a.len))) (Bool.rec (nat_lit 0) (nat_lit 1) (Nat.ble (Nat.succ a.len) b.len))))
    (Nat.ble a.len b.len)
/-- two strings; else what else there is -/
def str2 (f : Str → Str → AV) (g : AV → AV → AV) : AV → AV → AV := fun x y =>
  OS.rec (motive := fun _ => AV) (g x y) (fun a => OS.rec (motive := fun _ => AV) .bad (fun b => f a b) (toS y)) (toS x)
def beqB (a b : Bool) : Bool := Bool.rec (Bool.rec true false b) b a
/-- what a comparison looks at, by its type -/
inductive EK where
  | none | bool | ptr | slice | map | func | iface | two
def eqI : Int → Int → Bool
  | .ofNat a, .ofNat b => Nat.beq a b
  | .negSucc a, .negSucc b => Nat.beq a b
  | _, _ => false
def and3 (a b : Bool) : Bool := Bool.rec false b a
/-- == and != of what else there is -/
def eqop (e : EK) (c : Bool) (r : Bool → AV) : AV → AV → AV := fun x y =>
  match e with
  | .bool => (match x, y with
    | .bool a, .bool b => r (beqB a b)
    | _, _ => .bad)
  | .ptr => (match x, y with
    | .nilp, .nilp => r true
    | .nilp, .ptr _ _ => r false
    | .ptr _ _, .nilp => r false
    | .ptr a i, .ptr b j => Bool.rec .bad (r (Nat.beq i j)) (Nat.beq a b)
    | _, _ => .bad)
  | .slice => (match x, y with
    | .nils, .nils => r true
    | .nils, .slice _ _ _ _ _ => r false
    | .slice _ _ _ _ _, .nils => r false
    | _, _ => .bad)
  | .map => (match x, y with
    | .nilm, .nilm => r true
    | .nilm, .map _ => r false
    | .map _, .nilm => r false
    | _, _ => .bad)
  | .func => (match x, y with
    | .nilf, .nilf => r true
    | .nilf, .fn _ _ _ => r false
    | .fn _ _ _, .nilf => r false
    | .nilf, .yld _ => r false
    | .yld _, .nilf => r false
    | _, _ => .bad)
  | .iface => (match x, y with
    | .nili, .nili => Bool.rec .bad (r true) c
    | .nili, .ifc _ _ => r false
    | .ifc _ _, .nili => r false
    | _, _ => .bad)
  | .two => (match x, y with
    | .agg (.cons (.int k a) (.cons (.int l b) .nil)), .agg (.cons (.int k' a') (.cons (.int l' b') .nil)) =>
      Bool.rec .bad (r (and3 (eqI a a') (eqI b b'))) (and3 (Nat.beq (kix k) (kix k')) (Nat.beq (kix l) (kix l')))
    | _, _ => .bad)
  | .none => .bad
def rT (b : Bool) : AV := .bool b
def rF (b : Bool) : AV := .bool (notB b)
def bad2 : AV → AV → AV := fun _ _ => .bad
def sEq (a b : Str) : AV := .bool (a.eq b)
def sNe (a b : Str) : AV := .bool (notB (a.eq b))
def sLt (a b : Str) : AV := .bool (a.lt b)
def sAdd (a b : Str) : AV := Bool.rec .bad (.str (a.app b)) (Nat.ble (Nat.add a.len b.len) (nat_lit 4611686018427387904))
/-- first as integers; what is none: as g says -/
def orI (f g : AV → AV → AV) : AV → AV → AV := fun x y =>
  OI.rec (motive := fun _ => AV) (g x y) (fun _ _ => f x y) (fun _ _ => f x y) (toI x)
def binF (op : BinOp) (c : Bool) (e : EK) : B2 :=
  BinOp.rec (motive := fun _ => B2)
    ⟨orI (int2 addF fun k a b => mk k (Int.add a b)) (str2 sAdd bad2)⟩
    ⟨int2 subF fun k a b => mk k (Int.sub a b)⟩
    ⟨int2 mulF fun k a b => mk k (Int.mul a b)⟩
    ⟨int2 quoF slowBad⟩
    ⟨int2 remF slowBad⟩
    ⟨int2 (bitF Nat.land) andS⟩
    ⟨int2 (bitF Nat.lor) orS⟩
    ⟨int2 (bitF Nat.xor) xorS⟩
    ⟨shift2 shlF⟩ ⟨shrA⟩ ⟨int2 (fun k a b => andNotS k (.ofNat a) (.ofNat b)) andNotS⟩
    ⟨orI (int2 eqF fun _ a b => .bool (decide (a = b))) (str2 sEq (eqop e c rT))⟩
    ⟨orI (int2 neF fun _ a b => .bool (notB (decide (a = b)))) (str2 sNe (eqop e c rF))⟩
    ⟨orI (int2 ltF fun _ a b => .bool (decide (a < b))) (str2 sLt bad2)⟩
    ⟨int2 leF fun _ a b => .bool (decide (a ≤ b))⟩
    ⟨int2 gtF fun _ a b => .bool (decide (b < a))⟩
    ⟨int2 geF fun _ a b => .bool (decide (b ≤ a))⟩
    op
def uop1 (op : UnOp) : AV → AV := fun x =>
  match op, x with
  | .not, .bool b => .bool (notB b)
  | .neg, .int k n => mk k (Int.sub (.ofNat (nat_lit 0)) n)
  | .xor, .int k n => xorS k (if k.signed then -1 else k.max) n
  | _, _ => .bad

def uop (op : UnOp) : U1 := ⟨uop1 op⟩

/-! ### types, functions -/
structure Ty where
  desc : TypeDesc
  size : Nat
  bytes : Nat
  agg : Bool
  zero : AV
  zv : AV
structure Fn where
  nt : Nat
  body : Code
  res : List ResultVar

structure G where
  ty : Nat → Option Ty
  fn : Nat → Option Fn
  ext : Nat → Nat
  /-- what is known of a call without running it -/
  orc : Nat → AV → H → Option Res
  /-- structs of two whole numbers, that may be compared -/
  eq2 : Nat → Bool

/-! ### operands -/
def ofV0 : Value → AV
  | .bool b => .bool b
  | .int k n => .int k n
  | .string s => .str (Str.of s)
  | .pointer none => .nilp
  | .slice none 0 0 => .nils
  | .map none => .nilm
  | .nilFunc => .nilf
  | .nilIface => .nili
  | _ => .bad
def ofVs : List Value → AV
  | [] => .nil
  | v :: vs => .cons (ofV0 v) (ofVs vs)
def ofV : Value → AV
  | .agg cs => .agg (ofVs cs.toList)
  | .tuple vs => .tup (ofVs vs.toList)
  | v => ofV0 v
structure AVb where
  v : AV
def ofVb (v : Value) : AVb := ⟨ofV v⟩
def ev : Operand → EV := Operand.rec (motive := fun _ => EV)
  gT (fun v => ⟨fun _ => (ofVb v).v⟩) (fun g => ⟨fun _ => .ptr g (nat_lit 0)⟩) (fun f => ⟨fun _ => .fn f .nil .nil⟩)

/-- cells of a block, n of them from a place on -/
def rdN (d : Nat) (t : E AV d) (n : Nat) : Nat → AV :=
  Nat.rec (motive := fun _ => Nat → AV) (fun _ => .nil) (fun _ ih i => .cons (E.get d (path d i) t) (ih (Nat.succ i))) n
/-- values laid from a place on -/
def wrL (d : Nat) : AV → Nat → E AV d → E AV d :=
  lrec (fun _ t => t) (fun h _ ih i t => ih (Nat.succ i) (E.put h d (path d i) t))
/-- how deep the tree of n cells is: 0 for one -/
def dep (n : Nat) : Nat :=
  Bool.rec (Bool.rec (Bool.rec (Bool.rec (Bool.rec (Bool.rec (Bool.rec (nat_lit 11) (nat_lit 8) (Nat.ble n (nat_lit 65536))) (nat_lit 6) (Nat.ble n (nat_lit 4096))) (nat_lit 5) (Nat.ble n (nat_lit 1024))) (nat_lit 4) (Nat.ble n (nat_lit 256))) (nat_lit 3) (Nat.ble n (nat_lit 64))) (nat_lit 2) (Nat.ble n (nat_lit 16)))
    (Bool.rec (nat_lit 1) (nat_lit 0) (Nat.ble n (nat_lit 1))) (Nat.ble n (nat_lit 4))
def mxCells : Nat := nat_lit 4000000
def ofL (d : Nat) (cs : AV) : E AV d := wrL d cs (nat_lit 0) (E.rep .bad d)
/-- a new row of n cells -/
def rowN (el : Nat) (cs : AV) (h : H) (n : Nat) (k : Nat → H → Res) : Res :=
  Bool.rec .fail (Bool.rec .fail (sN (dep n) fun d => k h.next (h.new (.cells el false n d (ofL d cs)))) (Nat.ble n mxCells)) h.room
def row (el : Nat) (cs : AV) (h : H) (k : Nat → H → Res) : Res := sN (llen cs) fun n => rowN el cs h n k

/-- the one variable of a type: a block that is known to begin where its memory does -/
def rowM (el : Nat) (cs : AV) (h : H) (k : Nat → H → Res) : Res :=
  match h.room, Nat.ble (llen cs) mxCells with
  | true, true => k h.next (h.new (.cells el false (llen cs) (nat_lit 12) (ofL (nat_lit 12) cs)))
  | _, _ => .fail
structure Act where
  f : Env → H → Res
structure A1 where
  f : AV → H → Res
structure A2 where
  f : AV → AV → H → Res
def failA : Act := ⟨fun _ _ => .fail⟩
/-- by the block at an address -/
def onC (f : (el : Nat) → Bool → (n d : Nat) → E AV d → Res) : Option Blk → Res :=
  Option.rec (motive := fun _ => Res) .fail (Blk.rec (motive := fun _ => Res) f (fun _ _ _ _ _ => .fail) (fun _ _ _ => .fail) (fun _ _ => .fail) (fun _ _ _ _ _ _ _ _ => .fail) .fail .fail)
def withC (h : H) (b : Nat) (k : (el : Nat) → Bool → (n d : Nat) → E AV d → Res) : Res := onC k (h.get b)
def load1 (h : H) (b off : Nat) : Res := withC h b fun _ _ n d t => Bool.rec .fail (chk (E.get d (path d off) t) h) (Nat.ble (Nat.succ off) n)
def loadN (size : Nat) (h : H) (b off : Nat) : Res := withC h b fun _ _ n d t => Bool.rec .fail (.ok (.agg (rdN d t size off)) h) (Nat.ble (Nat.add off size) n)
def onP (f : H → Nat → Nat → Res) (a : AV) (h : H) : Res := OP.rec (motive := fun _ => Res) .fail (f h) (toP a)
/-- a cell of a type; an aggregate of so many cells -/
def loadA (agg : Bool) (size : Nat) : A1 := Bool.rec ⟨onP load1⟩ ⟨onP (loadN size)⟩ agg
def store1 (v : AV) (h : H) (b off : Nat) : Res := withC h b fun el ro n d t =>
  Bool.rec .fail (Bool.rec .fail (Bool.rec (.ok (.tup .nil) (h.set b (.cells el false n d (E.put v d (path d off) t)))) .fail ro) (Nat.ble (Nat.succ off) n)) (one v)
def storeN (size : Nat) (v : AV) (h : H) (b off : Nat) : Res := withC h b fun el ro n d t =>
  Bool.rec .fail (Bool.rec .fail (Bool.rec .fail (Bool.rec (.ok (.tup .nil) (h.set b (.cells el false n d (wrL d (cellsOf v) off t)))) .fail ro)
        (Nat.ble (Nat.add off size) n)) (Nat.beq (llen (cellsOf v)) size)) (ones (cellsOf v))
def storeA (agg : Bool) (size : Nat) : A2 := Bool.rec ⟨fun a v h => onP (store1 v) a h⟩ (Bool.rec ⟨fun a v h => onP (storeN size v) a h⟩ ⟨fun _ _ _ => .fail⟩ (Nat.beq size (nat_lit 0))) (Bool.rec (notB (Nat.beq size (nat_lit 1))) true agg)
/-- n times a list of cells -/
def repL (cs : AV) : Nat → AV := Nat.rec (motive := fun _ => AV) .nil (fun _ ih => lapp cs ih)
/-- part laid over cells -/
def overL (cs : AV) (off : Nat) (v : AV) : AV := lapp (ltake cs off) (lapp v (ldrop cs (Nat.add off (llen v))))

def fieldsOf : TypeDesc → Option (Array Field)
  | .struct fs => some fs
  | _ => none
def fillA (pl : Nat → Option (Nat × Nat)) (en : Env) : List (Nat × Operand) → AV → AV :=
  List.rec (motive := fun _ => AV → AV) (fun cs => cs) (fun p _ ih cs =>
    match pl p.1 with
    | some (off, size) => match Nat.beq (llen (cellsOf ((ev p.2).f en))) size, Nat.ble (Nat.add off size) (llen cs), notB (Nat.beq size (nat_lit 0)) with
      | true, true, true => ih (overL cs off (cellsOf ((ev p.2).f en)))
      | _, _, _ => .bad
    | none => .bad)
def isL : AV → Bool :=
  AV.rec (motive := fun _ => Bool) false false (fun _ => false) (fun _ _ => false) (fun _ => false) (fun _ _ => false) false (fun _ _ _ _ _ => false) false (fun _ => false) false
    (fun _ _ _ _ _ => false) (fun _ => false) false (fun _ _ _ => false) false (fun _ _ => false) (fun _ _ => false) true (fun _ _ _ ih => ih)

end
end Go.Proofs.YtfmnninijakknaaGreatDoor.Am
