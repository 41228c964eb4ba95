/- The abstract machine, second part: operations on values; operations that do not call. -/
/- The abstract machine, third part: the operations of a region, the code, the calls. -/
import Derived.Test.YtmpkgddioiaonaaGreatDoorAmS
namespace Go.Proofs.YtmpkgddioiaonaaGreatDoor.Am
noncomputable section

def lrec {β : Type} (z : β) (c : AV → AV → β → β) : AV → β :=
 AV.rec (motive := fun _ => β) z z (fun _ => z) (fun _ _ => z) (fun _ => z) (fun _ _ => z) z (fun _ _ _ _ _ => z) z (fun _ => z) z
  (fun _ _ _ _ _ => z) (fun _ => z) z (fun _ _ _ => z) z (fun _ _ => z) (fun _ _ => z) z (fun h t _ ih => c h t ih)
def llen : AV → Nat := lrec (nat_lit 0) (fun _ _ n => Nat.succ n)
def lnth : AV → Nat → AV := lrec (fun _ => .bad) (fun h _ ih i => Bool.rec (ih (Nat.pred i)) h (Nat.beq i (nat_lit 0)))
def lapp : AV → AV → AV := lrec (fun y => y) (fun h _ ih y => .cons h (ih y))
def ltake : AV → Nat → AV := lrec (fun _ => .nil) (fun h _ ih n => Bool.rec (.cons h (ih (Nat.pred n))) .nil (Nat.beq n (nat_lit 0)))
def ldrop : AV → Nat → AV := lrec (fun _ => .nil) (fun h t ih n => Bool.rec (ih (Nat.pred n)) (.cons h t) (Nat.beq n (nat_lit 0)))
def one : AV → Bool :=
 AV.rec (motive := fun _ => Bool) false true (fun _ => true) (fun _ _ => true) (fun _ => true) (fun _ _ => true) true (fun _ _ _ _ _ => true) true (fun _ => true) true
  (fun _ _ _ _ _ => true) (fun _ => true) true (fun _ _ _ => true) true (fun _ _ => false) (fun _ _ => false) false (fun _ _ _ _ => false)
def ones : AV → Bool := lrec true (fun h _ ih => Bool.rec false ih (one h))
def cellsOf : AV → AV :=
 AV.rec (motive := fun _ => AV) .nil (.cons .unk .nil) (fun b => .cons (.bool b) .nil) (fun k n => .cons (.int k n) .nil) (fun s => .cons (.str s) .nil) (fun b o => .cons (.ptr b o) .nil)
  (.cons .nilp .nil) (fun b o n s z => .cons (.slice b o n s z) .nil) (.cons .nils .nil) (fun b => .cons (.map b) .nil) (.cons .nilm .nil)
  (fun f x y _ _ => .cons (.fn f x y) .nil) (fun l => .cons (.yld l) .nil) (.cons .nilf .nil) (fun t v _ => .cons (.ifc t v) .nil) (.cons .nili .nil)
  (fun cs _ => cs) (fun _ _ => .nil) .nil (fun _ _ _ _ => .nil)

inductive Res where
 | fail
 | ok (v : AV) (h : H)
def frc (n : Int) (f : Int → Res) : Res :=
 Int.rec (motive := fun _ => Res) (fun m => sN m fun m' => f (.ofNat m')) (fun m => sN m fun m' => f (.negSucc m')) n
theorem frc_eq (n : Int) (f : Int → Res) : frc n f = f n := by cases n <;> simp [frc, sN_eq]
def chk : AV → H → Res :=
 AV.rec (motive := fun _ => H → Res) (fun _ => .fail) (fun h => .ok .unk h) (fun b h => .ok (.bool b) h) (fun k n h => frc n fun n' => .ok (.int k n') h) (fun s h => .ok (.str s) h) (fun b o h => .ok (.ptr b o) h)
  (fun h => .ok .nilp h) (fun b o n s z h => .ok (.slice b o n s z) h) (fun h => .ok .nils h) (fun b h => .ok (.map b) h) (fun h => .ok .nilm h)
  (fun f x y _ _ h => .ok (.fn f x y) h) (fun l h => .ok (.yld l) h) (fun h => .ok .nilf h) (fun t v _ h => .ok (.ifc t v) h) (fun h => .ok .nili h)
  (fun cs _ h => .ok (.agg cs) h) (fun vs _ h => .ok (.tup vs) h) (fun _ => .fail) (fun _ _ _ _ _ => .fail)

inductive OI where
 | none
 | nn (k : IntKind) (n : Nat)
 | ng (k : IntKind) (m : Nat)
def toI : AV → OI :=
 AV.rec (motive := fun _ => OI) .none .none (fun _ => .none) (fun k n => Int.rec (motive := fun _ => OI) (OI.nn k) (OI.ng k) n) (fun _ => .none) (fun _ _ => .none) .none (fun _ _ _ _ _ => .none) .none (fun _ => .none) .none
  (fun _ _ _ _ _ => .none) (fun _ => .none) .none (fun _ _ _ => .none) .none (fun _ _ => .none) (fun _ _ => .none) .none (fun _ _ _ _ => .none)
inductive OS where
 | none
 | some (s : Str)
def toS : AV → OS :=
 AV.rec (motive := fun _ => OS) .none .none (fun _ => .none) (fun _ _ => .none) (fun s => .some s) (fun _ _ => .none) .none (fun _ _ _ _ _ => .none) .none (fun _ => .none) .none
  (fun _ _ _ _ _ => .none) (fun _ => .none) .none (fun _ _ _ => .none) .none (fun _ _ => .none) (fun _ _ => .none) .none (fun _ _ _ _ => .none)
inductive OB where
 | none
 | f
 | t
def toB : AV → OB :=
 AV.rec (motive := fun _ => OB) .none .none (fun b => Bool.rec .f .t b) (fun _ _ => .none) (fun _ => .none) (fun _ _ => .none) .none (fun _ _ _ _ _ => .none) .none (fun _ => .none) .none
  (fun _ _ _ _ _ => .none) (fun _ => .none) .none (fun _ _ _ => .none) .none (fun _ _ => .none) (fun _ _ => .none) .none (fun _ _ _ _ => .none)
inductive OP where
 | none
 | at (b off : Nat)
def toP : AV → OP :=
 AV.rec (motive := fun _ => OP) .none .none (fun _ => .none) (fun _ _ => .none) (fun _ => .none) OP.at .none (fun _ _ _ _ _ => .none) .none (fun _ => .none) .none
  (fun _ _ _ _ _ => .none) (fun _ => .none) .none (fun _ _ _ => .none) .none (fun _ _ => .none) (fun _ _ => .none) .none (fun _ _ _ _ => .none)
inductive OL where
 | none
 | nil
 | at (b off len es : Nat) (z : Bool)
def toL : AV → OL :=
 AV.rec (motive := fun _ => OL) .none .none (fun _ => .none) (fun _ _ => .none) (fun _ => .none) (fun _ _ => .none) .none OL.at .nil (fun _ => .none) .none
  (fun _ _ _ _ _ => .none) (fun _ => .none) .none (fun _ _ _ => .none) .none (fun _ _ => .none) (fun _ _ => .none) .none (fun _ _ _ _ => .none)

def mxk : IntKind → Nat := IntKind.rec (motive := fun _ => Nat) (nat_lit 127) (nat_lit 32767) (nat_lit 2147483647) (nat_lit 9223372036854775807)
 (nat_lit 255) (nat_lit 65535) (nat_lit 4294967295) (nat_lit 18446744073709551615)
def mnk : IntKind → Nat := IntKind.rec (motive := fun _ => Nat) (nat_lit 128) (nat_lit 32768) (nat_lit 2147483648) (nat_lit 9223372036854775808)
 (nat_lit 0) (nat_lit 0) (nat_lit 0) (nat_lit 0)
def kix : IntKind → Nat := IntKind.rec (motive := fun _ => Nat) (nat_lit 0) (nat_lit 1) (nat_lit 2) (nat_lit 3) (nat_lit 4) (nat_lit 5) (nat_lit 6) (nat_lit 7)
def wrN (k : IntKind) (m : Nat) : Int := Bool.rec (k.wrap (.ofNat m)) (.ofNat m) (Nat.ble m (mxk k))
def wr (k : IntKind) (n : Int) : Int :=
 Int.rec (motive := fun _ => Int) (wrN k)
  (fun m => Bool.rec (k.wrap (.negSucc m)) (.negSucc m) (Nat.ble (Nat.succ m) (mnk k))) n
def mk (k : IntKind) (n : Int) : AV := .int k (wr k n)
def mkN (k : IntKind) (n : Nat) : AV := .int k (wrN k n)
def int2 (fast : IntKind → Nat → Nat → AV) (slow : IntKind → Int → Int → AV) : AV → AV → AV := fun x y =>
 OI.rec (motive := fun _ => AV) .bad
  (fun k a => OI.rec (motive := fun _ => AV) .bad (fun k' b => Bool.rec .bad (fast k a b) (Nat.beq (kix k) (kix k'))) (fun k' b => Bool.rec .bad (slow k (.ofNat a) (.negSucc b)) (Nat.beq (kix k) (kix k'))) (toI y))
  (fun k a => OI.rec (motive := fun _ => AV) .bad (fun k' b => Bool.rec .bad (slow k (.negSucc a) (.ofNat b)) (Nat.beq (kix k) (kix k'))) (fun k' b => Bool.rec .bad (slow k (.negSucc a) (.negSucc b)) (Nat.beq (kix k) (kix k'))) (toI y))
  (toI x)
def slowBad : IntKind → Int → Int → AV := fun _ _ _ => .bad
def andS (k : IntKind) (a b : Int) : AV := .int k (k.wrap ((BitVec.ofInt k.bits a &&& BitVec.ofInt k.bits b).toNat : Int))
def andNotS (k : IntKind) (a b : Int) : AV := .int k (k.wrap ((BitVec.ofInt k.bits a &&& ~~~ BitVec.ofInt k.bits b).toNat : Int))
def orS (k : IntKind) (a b : Int) : AV := .int k (k.wrap ((BitVec.ofInt k.bits a ||| BitVec.ofInt k.bits b).toNat : Int))
def xorS (k : IntKind) (a b : Int) : AV := .int k (k.wrap ((BitVec.ofInt k.bits a ^^^ BitVec.ofInt k.bits b).toNat : Int))
def addF (k : IntKind) (a b : Nat) : AV := mkN k (Nat.add a b)
def subF (k : IntKind) (a b : Nat) : AV := Bool.rec (mk k (Int.sub (.ofNat a) (.ofNat b))) (mkN k (Nat.sub a b)) (Nat.ble b a)
def mulF (k : IntKind) (a b : Nat) : AV := mkN k (Nat.mul a b)
def quoF (k : IntKind) (a b : Nat) : AV := Bool.rec (mkN k (Nat.div a b)) .bad (Nat.beq b (nat_lit 0))
def remF (k : IntKind) (a b : Nat) : AV := Bool.rec (.int k (.ofNat (Nat.mod a b))) .bad (Nat.beq b (nat_lit 0))
def bitF (f : Nat → Nat → Nat) (k : IntKind) (a b : Nat) : AV := Bool.rec .bad (Bool.rec .bad (.int k (.ofNat (f a b))) (Nat.ble b (mxk k))) (Nat.ble a (mxk k))
def notB (b : Bool) : Bool := Bool.rec true false b
def eqF (_ : IntKind) (a b : Nat) : AV := .bool (Nat.beq a b)
def neF (_ : IntKind) (a b : Nat) : AV := .bool (notB (Nat.beq a b))
def ltF (_ : IntKind) (a b : Nat) : AV := .bool (Nat.ble (Nat.succ a) b)
def leF (_ : IntKind) (a b : Nat) : AV := .bool (Nat.ble a b)
def gtF (_ : IntKind) (a b : Nat) : AV := .bool (Nat.ble (Nat.succ b) a)
def geF (_ : IntKind) (a b : Nat) : AV := .bool (Nat.ble b a)
def shlF (k : IntKind) (a n : Nat) : AV := Bool.rec .bad (mkN k (Nat.mul a (Nat.pow (nat_lit 2) n))) (Nat.ble n k.bits)
def shrF (k : IntKind) (a n : Nat) : AV := Bool.rec .bad (.int k (.ofNat (Nat.div a (Nat.pow (nat_lit 2) n)))) (Nat.ble n k.bits)
def shift2 (f : IntKind → Nat → Nat → AV) : AV → AV → AV := fun x y =>
 OI.rec (motive := fun _ => AV) .bad (fun k a => OI.rec (motive := fun _ => AV) .bad (fun _ b => f k a b) (fun _ _ => .bad) (toI y)) (fun _ _ => .bad) (toI x)

def shrS (k : IntKind) (x : Int) (n : Nat) : AV := Bool.rec .bad (.int k (x.fdiv (2 ^ n))) (Nat.ble n k.bits)
def shrA (x y : AV) : AV :=
 match x, y with
 | .int k (.negSucc a), .int _ (.ofNat n) => shrS k (.negSucc a) n
 | x, y => shift2 shrF x y
def Str.lt (a b : Str) : Bool :=
 Bool.rec
  (Nat.ble (Nat.succ (Nat.shiftRight a.val (Nat.mul (nat_lit 8) (Nat.sub a.len b.len)))) b.val)
  (Nat.ble (Nat.succ a.val) (Nat.add (Nat.shiftRight b.val (Nat.mul (nat_lit 8) (Nat.sub b.len a.len))) (Bool.rec (nat_lit 0) (nat_lit 1) (Nat.ble (Nat.succ a.len) b.len))))
  (Nat.ble a.len b.len)
def str2 (f : Str → Str → AV) (g : AV → AV → AV) : AV → AV → AV := fun x y =>
 OS.rec (motive := fun _ => AV) (g x y) (fun a => OS.rec (motive := fun _ => AV) .bad (fun b => f a b) (toS y)) (toS x)
def beqB (a b : Bool) : Bool := Bool.rec (Bool.rec true false b) b a
inductive EK where
 | none | bool | ptr | slice | map | func | iface | two
def eqI : Int → Int → Bool
 | .ofNat a, .ofNat b => Nat.beq a b
 | .negSucc a, .negSucc b => Nat.beq a b
 | _, _ => false
def and3 (a b : Bool) : Bool := Bool.rec false b a
def eqop (e : EK) (c : Bool) (r : Bool → AV) : AV → AV → AV := fun x y =>
 match e with
 | .bool => (match x, y with
   | .bool a, .bool b => r (beqB a b)
   | _, _ => .bad)
 | .ptr => (match x, y with
   | .nilp, .nilp => r true
   | .nilp, .ptr _ _ => r false
   | .ptr _ _, .nilp => r false
   | .ptr a i, .ptr b j => Bool.rec .bad (r (Nat.beq i j)) (Nat.beq a b)
   | _, _ => .bad)
 | .slice => (match x, y with
   | .nils, .nils => r true
   | .nils, .slice _ _ _ _ _ => r false
   | .slice _ _ _ _ _, .nils => r false
   | _, _ => .bad)
 | .map => (match x, y with
   | .nilm, .nilm => r true
   | .nilm, .map _ => r false
   | .map _, .nilm => r false
   | _, _ => .bad)
 | .func => (match x, y with
   | .nilf, .nilf => r true
   | .nilf, .fn _ _ _ => r false
   | .fn _ _ _, .nilf => r false
   | .nilf, .yld _ => r false
   | .yld _, .nilf => r false
   | _, _ => .bad)
 | .iface => (match x, y with
   | .nili, .nili => Bool.rec .bad (r true) c
   | .nili, .ifc _ _ => r false
   | .ifc _ _, .nili => r false
   | _, _ => .bad)
 | .two => (match x, y with
   | .agg (.cons (.int k a) (.cons (.int l b) .nil)), .agg (.cons (.int k' a') (.cons (.int l' b') .nil)) =>
     Bool.rec .bad (r (and3 (eqI a a') (eqI b b'))) (and3 (Nat.beq (kix k) (kix k')) (Nat.beq (kix l) (kix l')))
   | _, _ => .bad)
 | .none => .bad
def rT (b : Bool) : AV := .bool b
def rF (b : Bool) : AV := .bool (notB b)
def bad2 : AV → AV → AV := fun _ _ => .bad
def sEq (a b : Str) : AV := .bool (a.eq b)
def sNe (a b : Str) : AV := .bool (notB (a.eq b))
def sLt (a b : Str) : AV := .bool (a.lt b)
def sAdd (a b : Str) : AV := Bool.rec .bad (.str (a.app b)) (Nat.ble (Nat.add a.len b.len) (nat_lit 4611686018427387904))
def orI (f g : AV → AV → AV) : AV → AV → AV := fun x y =>
 OI.rec (motive := fun _ => AV) (g x y) (fun _ _ => f x y) (fun _ _ => f x y) (toI x)
def binF (op : BinOp) (c : Bool) (e : EK) : B2 :=
 BinOp.rec (motive := fun _ => B2)
  ⟨orI (int2 addF fun k a b => mk k (Int.add a b)) (str2 sAdd bad2)⟩
  ⟨int2 subF fun k a b => mk k (Int.sub a b)⟩
  ⟨int2 mulF fun k a b => mk k (Int.mul a b)⟩
  ⟨int2 quoF slowBad⟩
  ⟨int2 remF slowBad⟩
  ⟨int2 (bitF Nat.land) andS⟩
  ⟨int2 (bitF Nat.lor) orS⟩
  ⟨int2 (bitF Nat.xor) xorS⟩
  ⟨shift2 shlF⟩ ⟨shrA⟩ ⟨int2 (fun k a b => andNotS k (.ofNat a) (.ofNat b)) andNotS⟩
  ⟨orI (int2 eqF fun _ a b => .bool (decide (a = b))) (str2 sEq (eqop e c rT))⟩
  ⟨orI (int2 neF fun _ a b => .bool (notB (decide (a = b)))) (str2 sNe (eqop e c rF))⟩
  ⟨orI (int2 ltF fun _ a b => .bool (decide (a < b))) (str2 sLt bad2)⟩
  ⟨int2 leF fun _ a b => .bool (decide (a ≤ b))⟩
  ⟨int2 gtF fun _ a b => .bool (decide (b < a))⟩
  ⟨int2 geF fun _ a b => .bool (decide (b ≤ a))⟩
  op
def uop1 (op : UnOp) : AV → AV := fun x =>
 match op, x with
 | .not, .bool b => .bool (notB b)
 | .neg, .int k n => mk k (Int.sub (.ofNat (nat_lit 0)) n)
 | .xor, .int k n => xorS k (if k.signed then -1 else k.max) n
 | _, _ => .bad

def uop (op : UnOp) : U1 := ⟨uop1 op⟩

structure Ty where
 desc : TypeDesc
 size : Nat
 bytes : Nat
 agg : Bool
 zero : AV
 zv : AV
structure Fn where
 nt : Nat
 body : Code
 res : List ResultVar

structure G where
 ty : Nat → Option Ty
 fn : Nat → Option Fn
 ext : Nat → Nat
 orc : Nat → AV → H → Option Res
 eq2 : Nat → Bool
 meth : Nat → Str → Option Nat

def ofV0 : Value → AV
 | .bool b => .bool b
 | .int k n => .int k n
 | .string s => .str (Str.of s)
 | .pointer none => .nilp
 | .slice none 0 0 => .nils
 | .map none => .nilm
 | .nilFunc => .nilf
 | .nilIface => .nili
 | _ => .bad
def ofVs : List Value → AV
 | [] => .nil
 | v :: vs => .cons (ofV0 v) (ofVs vs)
def ofV : Value → AV
 | .agg cs => .agg (ofVs cs.toList)
 | .tuple vs => .tup (ofVs vs.toList)
 | v => ofV0 v
structure AVb where
 v : AV
def ofVb (v : Value) : AVb := ⟨ofV v⟩
def ev : Operand → EV := Operand.rec (motive := fun _ => EV)
 gT (fun v => ⟨fun _ => (ofVb v).v⟩) (fun g => ⟨fun _ => .ptr g (nat_lit 0)⟩) (fun f => ⟨fun _ => .fn f .nil .nil⟩)
def rdN (d : Nat) (t : E AV d) (n : Nat) : Nat → AV :=
 Nat.rec (motive := fun _ => Nat → AV) (fun _ => .nil) (fun _ ih i => .cons (E.get d (path d i) t) (ih (Nat.succ i))) n
def wrL (d : Nat) : AV → Nat → E AV d → E AV d :=
 lrec (fun _ t => t) (fun h _ ih i t => ih (Nat.succ i) (E.put h d (path d i) t))
def dep (n : Nat) : Nat :=
 Bool.rec (Bool.rec (Bool.rec (Bool.rec (Bool.rec (Bool.rec (Bool.rec (nat_lit 11) (nat_lit 8) (Nat.ble n (nat_lit 65536))) (nat_lit 6) (Nat.ble n (nat_lit 4096))) (nat_lit 5) (Nat.ble n (nat_lit 1024))) (nat_lit 4) (Nat.ble n (nat_lit 256))) (nat_lit 3) (Nat.ble n (nat_lit 64))) (nat_lit 2) (Nat.ble n (nat_lit 16)))
  (Bool.rec (nat_lit 1) (nat_lit 0) (Nat.ble n (nat_lit 1))) (Nat.ble n (nat_lit 4))
def mxCells : Nat := nat_lit 4000000
def ofL (d : Nat) (cs : AV) : E AV d := wrL d cs (nat_lit 0) (E.rep .bad d)
def rowN (el : Nat) (cs : AV) (h : H) (n : Nat) (k : Nat → H → Res) : Res :=
 Bool.rec .fail (Bool.rec .fail (sN (dep n) fun d => k h.next (h.new (.cells el false n d (ofL d cs)))) (Nat.ble n mxCells)) h.room
def row (el : Nat) (cs : AV) (h : H) (k : Nat → H → Res) : Res := sN (llen cs) fun n => rowN el cs h n k
def rowM (el : Nat) (cs : AV) (h : H) (k : Nat → H → Res) : Res :=
 match h.room, Nat.ble (llen cs) mxCells with
 | true, true => k h.next (h.new (.cells el false (llen cs) (nat_lit 12) (ofL (nat_lit 12) cs)))
 | _, _ => .fail
structure Act where
 f : Env → H → Res
structure A1 where
 f : AV → H → Res
structure A2 where
 f : AV → AV → H → Res
def failA : Act := ⟨fun _ _ => .fail⟩
def onC (f : (el : Nat) → Bool → (n d : Nat) → E AV d → Res) : Option Blk → Res :=
 Option.rec (motive := fun _ => Res) .fail (Blk.rec (motive := fun _ => Res) f (fun _ _ _ _ _ => .fail) (fun _ _ _ => .fail) (fun _ _ => .fail) (fun _ _ _ _ _ _ _ _ => .fail) .fail .fail)
def withC (h : H) (b : Nat) (k : (el : Nat) → Bool → (n d : Nat) → E AV d → Res) : Res := onC k (h.get b)
def load1 (h : H) (b off : Nat) : Res := withC h b fun _ _ n d t => Bool.rec .fail (chk (E.get d (path d off) t) h) (Nat.ble (Nat.succ off) n)
def loadN (size : Nat) (h : H) (b off : Nat) : Res := withC h b fun _ _ n d t => Bool.rec .fail (.ok (.agg (rdN d t size off)) h) (Nat.ble (Nat.add off size) n)
def onP (f : H → Nat → Nat → Res) (a : AV) (h : H) : Res := OP.rec (motive := fun _ => Res) .fail (f h) (toP a)
def loadA (agg : Bool) (size : Nat) : A1 := Bool.rec ⟨onP load1⟩ ⟨onP (loadN size)⟩ agg
def store1 (v : AV) (h : H) (b off : Nat) : Res := withC h b fun el ro n d t =>
 Bool.rec .fail (Bool.rec .fail (Bool.rec (.ok (.tup .nil) (h.set b (.cells el false n d (E.put v d (path d off) t)))) .fail ro) (Nat.ble (Nat.succ off) n)) (one v)
def storeN (size : Nat) (v : AV) (h : H) (b off : Nat) : Res := withC h b fun el ro n d t =>
 Bool.rec .fail (Bool.rec .fail (Bool.rec .fail (Bool.rec (.ok (.tup .nil) (h.set b (.cells el false n d (wrL d (cellsOf v) off t)))) .fail ro)
  (Nat.ble (Nat.add off size) n)) (Nat.beq (llen (cellsOf v)) size)) (ones (cellsOf v))
def storeA (agg : Bool) (size : Nat) : A2 := Bool.rec ⟨fun a v h => onP (store1 v) a h⟩ (Bool.rec ⟨fun a v h => onP (storeN size v) a h⟩ ⟨fun _ _ _ => .fail⟩ (Nat.beq size (nat_lit 0))) (Bool.rec (notB (Nat.beq size (nat_lit 1))) true agg)
def repL (cs : AV) : Nat → AV := Nat.rec (motive := fun _ => AV) .nil (fun _ ih => lapp cs ih)
def overL (cs : AV) (off : Nat) (v : AV) : AV := lapp (ltake cs off) (lapp v (ldrop cs (Nat.add off (llen v))))

def fieldsOf : TypeDesc → Option (Array Field)
 | .struct fs => some fs
 | _ => none
def fillA (pl : Nat → Option (Nat × Nat)) (en : Env) : List (Nat × Operand) → AV → AV :=
 List.rec (motive := fun _ => AV → AV) (fun cs => cs) (fun p _ ih cs =>
  match pl p.1 with
  | some (off, size) => match Nat.beq (llen (cellsOf ((ev p.2).f en))) size, Nat.ble (Nat.add off size) (llen cs), notB (Nat.beq size (nat_lit 0)) with
    | true, true, true => ih (overL cs off (cellsOf ((ev p.2).f en)))
    | _, _, _ => .bad
  | none => .bad)
def isL : AV → Bool :=
 AV.rec (motive := fun _ => Bool) false false (fun _ => false) (fun _ _ => false) (fun _ => false) (fun _ _ => false) false (fun _ _ _ _ _ => false) false (fun _ => false) false
  (fun _ _ _ _ _ => false) (fun _ => false) false (fun _ _ _ => false) false (fun _ _ => false) (fun _ _ => false) true (fun _ _ _ ih => ih)

end
end Go.Proofs.YtmpkgddioiaonaaGreatDoor.Am
namespace Go.Proofs.YtmpkgddioiaonaaGreatDoor.Am
noncomputable section
def natOf {β : Type} (z : β) (k : Nat → β) : AV → β := fun v =>
 match v with
 | .int _ (.ofNat n) => k n
 | _ => z
def optN (en : Env) (x : Option Operand) (dflt : Nat) (k : Nat → Res) : Res :=
 match x with
 | none => k dflt
 | some o => natOf .fail k ((ev o).f en)
def okMx (hi mx : Option Operand) : Bool :=
 match mx, hi with
 | some _, none => false
 | _, _ => true
def mxz (mx : Option Operand) (z : Bool) (m l : Nat) : Bool :=
 match mx with
 | none => z
 | some _ => Nat.beq m l
def sliceA (es : Nat) (x : EV) (lo hi mx : Option Operand) : Act := ⟨fun en h =>
 match x.f en with
 | .slice b off len es' z => optN en mx len fun m => optN en hi len fun u => optN en lo (nat_lit 0) fun l =>
  match Nat.ble l u, Nat.ble u m, Nat.ble m len, Nat.beq es es' with
  | true, true, true, true => .ok (.slice b (Nat.add off (Nat.mul l es)) (Nat.sub u l) es (mxz mx z m l)) h
  | _, _, _, _ => .fail
 | .nils => optN en mx (nat_lit 0) fun m => optN en hi (nat_lit 0) fun u => optN en lo (nat_lit 0) fun l =>
  match Nat.add m (Nat.add u l) with
  | 0 => .ok .nils h
  | _ => .fail
 | _ => .fail⟩
def sliceStr (x : EV) (lo hi : Option Operand) : Act := ⟨fun en h =>
 match x.f en with
 | .str s => optN en hi s.len fun b => optN en lo (nat_lit 0) fun a => match Nat.ble a b, Nat.ble b s.len with
  | true, true => .ok (.str (s.sub a b)) h
  | _, _ => .fail
 | _ => .fail⟩
def sliceArrA (es n : Nat) (x : EV) (lo hi mx : Option Operand) : Act := ⟨fun en h =>
 match x.f en with
 | .ptr b off => match mx with
   | some _ => .fail
   | none => withC h b fun _ _ nb _ _ => optN en hi n fun u => optN en lo (nat_lit 0) fun l =>
     match Nat.ble l u, Nat.ble u n, Nat.ble (Nat.add off (Nat.mul n es)) nb with
     | true, true, true => .ok (.slice b (Nat.add off (Nat.mul l es)) (Nat.sub u l) es false) h
     | _, _, _ => .fail
 | _ => .fail⟩
def fieldA (off : Nat) (h : H) (b o : Nat) : Res := .ok (.ptr b (Nat.add o off)) h
def onN (f : Nat → Res) (i : AV) : Res := OI.rec (motive := fun _ => Res) .fail (fun _ n => f n) (fun _ _ => .fail) (toI i)
def idxS (es : Nat) (x i : AV) (h : H) : Res :=
 OL.rec (motive := fun _ => Res) .fail .fail (fun b off len _ _ => onN (fun k => Bool.rec .fail (.ok (.ptr b (Nat.add off (Nat.mul k es))) h) (Nat.ble (Nat.succ k) len)) i) (toL x)
def idxA (n es : Nat) (x i : AV) (h : H) : Res :=
 OP.rec (motive := fun _ => Res) .fail (fun b off => onN (fun k => Bool.rec .fail (.ok (.ptr b (Nat.add off (Nat.mul k es))) h) (Nat.ble (Nat.succ k) n)) i) (toP x)
def idxStr (x i : AV) (h : H) : Res :=
 OS.rec (motive := fun _ => Res) .fail (fun s => onN (fun k => Bool.rec .fail (sN (s.byte k) fun c => .ok (.int .u8 (.ofNat c)) h) (Nat.ble (Nat.succ k) s.len)) i) (toS x)
def partA (agg : Bool) (size off : Nat) (cs : AV) (h : H) : Res :=
 match agg with
 | true => match Nat.ble (Nat.add off size) (llen cs) with
   | true => .ok (.agg (ltake (ldrop cs off) size)) h
   | false => .fail
 | false => chk (lnth cs off) h
def indexA (n : Nat) (agg : Bool) (es : Nat) (x i : AV) (h : H) : Res :=
 onN (fun k => match x with
  | .agg cs => match Nat.ble (Nat.succ k) n with
    | true => partA agg es (Nat.mul k es) cs h
    | false => .fail
  | _ => .fail) i
def strL (s : Str) (n : Nat) : AV :=
 Nat.rec (motive := fun _ => Nat → AV) (fun _ => .nil) (fun _ ih i => sN (s.byte i) fun c => .cons (.int .u8 (.ofNat c)) (ih (Nat.succ i))) n (nat_lit 0)
def elems (es : Nat) (x : AV) (h : H) (k : AV → Nat → Res) : Res :=
 match x with
 | .nils => k .nil (nat_lit 0)
 | .str s => match Nat.beq es (nat_lit 1) with
   | true => k (strL s s.len) s.len
   | false => .fail
 | .slice b off len es' _ => match h.get b with
   | some (.cells _ _ n d t) => match Nat.beq es es', Nat.ble (Nat.add off (Nat.mul len es)) n with
     | true, true => k (rdN d t (Nat.mul len es) off) len
     | _, _ => .fail
   | _ => .fail
 | _ => .fail
def mxLen : Nat := nat_lit 1000000
def okBy (n bytes : Nat) : Bool :=
 match bytes with
 | 0 => false
 | Nat.succ _ => Nat.ble (Nat.mul n bytes) mxCells
def okMv (z ro : Bool) : Bool := Bool.rec (Bool.rec true false ro) true z
def killIf (z : Bool) (h : H) (b : Nat) : H := Bool.rec (h.kill b) h z
def growN (el es off len n : Nat) (new : AV) (h0 : H) (nb d : Nat) (t : E AV d) : Res :=
 match Nat.beq off (nat_lit 0), Nat.beq (Nat.mul len es) nb, Nat.beq (dep (Nat.add nb (llen new))) d, Nat.ble (Nat.add nb (llen new)) mxCells with
 | true, true, true, true => .ok (.slice h0.next (nat_lit 0) (Nat.add len n) es false) (h0.new (.cells el false (Nat.add nb (llen new)) d (wrL d new nb t)))
 | _, _, _, _ => row el (lapp (rdN d t (Nat.mul len es) off) new) h0 fun b' h' => .ok (.slice b' (nat_lit 0) (Nat.add len n) es false) h'
def appendM (el es bytes off len n : Nat) (new : AV) (h : H) (b nb d : Nat) (t : E AV d) (es' : Nat) (ro z : Bool) : Res :=
 match Nat.beq es es', ro, z, Nat.beq (Nat.add off (Nat.mul len es)) nb, okBy (Nat.add len n) bytes, h.room, Nat.ble (llen (lapp (rdN d t (Nat.mul len es) off) new)) mxCells with
 | true, true, false, true, true, true, true => .ok (.slice h.next (nat_lit 0) (Nat.add len n) es false)
   ((h.kill b).new (.cells (Nat.add el (nat_lit 2000000)) true (llen (lapp (rdN d t (Nat.mul len es) off) new)) (dep (llen (lapp (rdN d t (Nat.mul len es) off) new)))
     (ofL (dep (llen (lapp (rdN d t (Nat.mul len es) off) new))) (lapp (rdN d t (Nat.mul len es) off) new))))
 | _, _, _, _, _, _, _ => .fail
def appendN (el es bytes : Nat) (s : AV) (h : H) (new : AV) (n : Nat) : Res :=
 match n with
 | 0 => (match s with
   | .nils => .ok s h
   | .slice _ _ _ _ _ => .ok s h
   | _ => .fail)
 | Nat.succ _ => match ones new, s with
   | true, .nils => (match okBy n bytes with
     | true => row el new h fun b h' => .ok (.slice b (nat_lit 0) n es false) h'
     | false => .fail)
   | true, .slice b off len es' z => (match h.get b with
     | some (.cells el' ro nb d t) => match Nat.beq el' (Nat.add el (nat_lit 2000000)) with
       | true => appendM el es bytes off len n new h b nb d t es' ro z
       | false =>
       (match Nat.beq es es', Nat.beq el el', Nat.ble (Nat.add off (Nat.mul len es)) nb, okBy (Nat.add len n) bytes, h.room, okMv z ro with
       | true, true, true, true, true, true => growN el es off len n new (killIf z h b) nb d t
       | _, _, _, _, _, _ => .fail)
     | _ => .fail)
   | _, _ => .fail
def appendA (el es bytes : Nat) (s x : AV) (h : H) : Res := elems es x h (appendN el es bytes s h)
def copyA (es : Nat) (dst src : AV) (h : H) : Res :=
 elems es src h fun new n =>
  match dst with
  | .nils => .ok (.int .i64 (.ofNat (nat_lit 0))) h
  | .slice b off len es' _ => match Nat.beq n (nat_lit 0) with
    | true => .ok (.int .i64 (.ofNat (nat_lit 0))) h
    | false => match Nat.beq es es', h.get b with
    | true, some (.cells el false nb d t) =>
      match Nat.ble (Nat.add off (Nat.mul len es)) nb, ones new with
      | true, true => sN (Bool.rec len n (Nat.ble n len)) fun m =>
       .ok (.int .i64 (.ofNat m)) (h.set b (.cells el false nb d (wrL d (ltake new (Nat.mul m es)) off t)))
      | _, _ => .fail
    | _, _ => .fail
  | _ => .fail
def bytesStr : AV → Option Str → Option Str :=
 lrec (fun a => a) (fun c _ ih a => match c, a with
  | .int .u8 (.ofNat n), some s => match Nat.ble n (nat_lit 255) with
    | true => sN (Nat.add (Nat.mul s.val (nat_lit 256)) n) fun v => ih (some ⟨Nat.succ s.len, v⟩)
    | false => none
  | _, _ => none)
def strRes (o : Option Str) (h : H) : Res :=
 match o with
 | some s => .ok (.str s) h
 | none => .fail

def vld (r : Nat) : Bool := Bool.rec (Bool.rec false (Nat.ble r (nat_lit 1114111)) (Nat.ble (nat_lit 57344) r)) true (Nat.ble (Nat.succ r) (nat_lit 55296))
def enc1 (c : Nat) : Str :=
 Bool.rec (Bool.rec (Bool.rec
  ⟨nat_lit 4, Nat.add (Nat.mul (Nat.add (Nat.mul (Nat.add (Nat.mul (Nat.add (nat_lit 240) (Nat.div c (nat_lit 262144))) (nat_lit 256)) (Nat.add (nat_lit 128) (Nat.mod (Nat.div c (nat_lit 4096)) (nat_lit 64)))) (nat_lit 256)) (Nat.add (nat_lit 128) (Nat.mod (Nat.div c (nat_lit 64)) (nat_lit 64)))) (nat_lit 256)) (Nat.add (nat_lit 128) (Nat.mod c (nat_lit 64)))⟩
  ⟨nat_lit 3, Nat.add (Nat.mul (Nat.add (Nat.mul (Nat.add (nat_lit 224) (Nat.div c (nat_lit 4096))) (nat_lit 256)) (Nat.add (nat_lit 128) (Nat.mod (Nat.div c (nat_lit 64)) (nat_lit 64)))) (nat_lit 256)) (Nat.add (nat_lit 128) (Nat.mod c (nat_lit 64)))⟩ (Nat.ble (Nat.succ c) (nat_lit 65536)))
  ⟨nat_lit 2, Nat.add (Nat.mul (Nat.add (nat_lit 192) (Nat.div c (nat_lit 64))) (nat_lit 256)) (Nat.add (nat_lit 128) (Nat.mod c (nat_lit 64)))⟩ (Nat.ble (Nat.succ c) (nat_lit 2048)))
  ⟨nat_lit 1, c⟩ (Nat.ble (Nat.succ c) (nat_lit 128))
def encR (r : Int) : Str :=
 Int.rec (motive := fun _ => Str) (fun c => enc1 (Bool.rec (nat_lit 65533) c (vld c))) (fun _ => enc1 (nat_lit 65533)) r
def cont (s : Str) (i : Nat) : Bool := Bool.rec false (Nat.beq (Nat.div (s.byte i) (nat_lit 64)) (nat_lit 2)) (Nat.ble (Nat.succ i) s.len)
def and2 (a b : Bool) : Bool := Bool.rec false b a
def lo6 (s : Str) (i : Nat) : Nat := Nat.mod (s.byte i) (nat_lit 64)
def decR (s : Str) (i : Nat) (k : Nat → Nat → Res) : Res :=
 sN (s.byte i) fun b0 =>
 match Nat.ble (Nat.succ b0) (nat_lit 128) with
 | true => k b0 (nat_lit 1)
 | false => match and2 (Nat.beq (Nat.div b0 (nat_lit 32)) (nat_lit 6)) (cont s (Nat.add i (nat_lit 1))) with
   | true => sN (Nat.add (Nat.mul (Nat.mod b0 (nat_lit 32)) (nat_lit 64)) (lo6 s (Nat.add i (nat_lit 1)))) fun c =>
    Bool.rec (k (nat_lit 65533) (nat_lit 1)) (k c (nat_lit 2)) (Nat.ble (nat_lit 128) c)
   | false => match and2 (Nat.beq (Nat.div b0 (nat_lit 16)) (nat_lit 14)) (and2 (cont s (Nat.add i (nat_lit 1))) (cont s (Nat.add i (nat_lit 2)))) with
     | true => sN (Nat.add (Nat.add (Nat.mul (Nat.mod b0 (nat_lit 16)) (nat_lit 4096)) (Nat.mul (lo6 s (Nat.add i (nat_lit 1))) (nat_lit 64))) (lo6 s (Nat.add i (nat_lit 2)))) fun c =>
      Bool.rec (k (nat_lit 65533) (nat_lit 1)) (k c (nat_lit 3)) (and2 (Nat.ble (nat_lit 2048) c) (vld c))
     | false => match and2 (Nat.beq (Nat.div b0 (nat_lit 8)) (nat_lit 30)) (and2 (cont s (Nat.add i (nat_lit 1))) (and2 (cont s (Nat.add i (nat_lit 2))) (cont s (Nat.add i (nat_lit 3))))) with
       | true => sN (Nat.add (Nat.add (Nat.add (Nat.mul (Nat.mod b0 (nat_lit 8)) (nat_lit 262144)) (Nat.mul (lo6 s (Nat.add i (nat_lit 1))) (nat_lit 4096))) (Nat.mul (lo6 s (Nat.add i (nat_lit 2))) (nat_lit 64))) (lo6 s (Nat.add i (nat_lit 3)))) fun c =>
        Bool.rec (k (nat_lit 65533) (nat_lit 1)) (k c (nat_lit 4)) (and2 (Nat.ble (nat_lit 65536) c) (vld c))
       | false => k (nat_lit 65533) (nat_lit 1)

def keyMx : Nat := nat_lit 4194303
def sfind (k : Str) : List (Str × AV) → Option AV :=
 List.rec (motive := fun _ => Option AV) none (fun p _ ih => Bool.rec ih (some p.2) (p.1.eq k))
def sput (k : Str) (v : AV) : List (Str × AV) → List (Str × AV) :=
 List.rec (motive := fun _ => List (Str × AV)) [(k, v)] (fun p r ih => Bool.rec (p :: ih) ((p.1, v) :: r) (p.1.eq k))
inductive MK where
 | none
 | ints (k : IntKind)
 | strs
def mapKind (g : G) (t : Nat) : MK :=
 match g.ty t with
 | some { desc := .map k _, .. } => match g.ty k with
   | some { desc := .int kd, .. } => .ints kd
   | some { desc := .string, .. } => .strs
   | _ => .none
 | _ => .none
def mapKey (kind : MK) (x : Blk) (key : AV) (fi : IntKind → Nat → Nat → E (Option AV) 11 → Nat → Res) (fs : Nat → Nat → List (Str × AV) → Str → Res) : Res :=
 match kind with
 | .ints kt => (match x, key with
   | .imap kd n c t _, .int kd' (.ofNat i) => match Nat.ble i keyMx, Nat.beq (kix kd) (kix kd'), Nat.beq (kix kd) (kix kt) with
     | true, true, true => fi kd n c t i
     | _, _, _ => .fail
   | _, _ => .fail)
 | .strs => (match x, key with
   | .smap n c l, .str s => fs n c l s
   | _, _ => .fail)
 | .none => .fail
def okKey (kind : MK) (key : AV) : Bool :=
 match kind with
 | .ints kd => (match key with
   | .int kd' _ => Nat.beq (kix kd) (kix kd')
   | _ => false)
 | .strs => (match key with
   | .str _ => true
   | _ => false)
 | .none => false
def okA (ok : Bool) (v : AV) (b : Bool) (h : H) : Res :=
 match ok with
 | true => .ok (.tup (.cons v (.cons (.bool b) .nil))) h
 | false => chk v h
def lookupA (kind : MK) (zero : AV) (m key : AV) (ok : Bool) (h : H) : Res :=
 match m with
 | .nilm => (match okKey kind key with
   | true => okA ok zero false h
   | false => .fail)
 | .map b => match h.get b with
   | some x => mapKey kind x key
     (fun _ _ _ t i => match E.get 11 (path 11 i) t with
      | some v => okA ok v true h
      | none => okA ok zero false h)
     (fun _ _ l s => match sfind s l with
      | some v => okA ok v true h
      | none => okA ok zero false h)
   | none => .fail
 | _ => .fail
def mapUpA (kind : MK) (m key v : AV) (h : H) : Res :=
 match m with
 | .map b => match h.get b with
   | some x => mapKey kind x key
     (fun kd n c t i => match E.get 11 (path 11 i) t with
      | some _ => .ok (.tup .nil) (h.set b (.imap kd n c (E.put (some v) 11 (path 11 i) t) (nat_lit 0)))
      | none => .ok (.tup .nil) (h.set b (.imap kd (Nat.succ n) (Nat.succ c) (E.put (some v) 11 (path 11 i) t) (nat_lit 0))))
     (fun n c l s => match sfind s l with
      | some _ => .ok (.tup .nil) (h.set b (.smap n c (sput s v l)))
      | none => .ok (.tup .nil) (h.set b (.smap (Nat.succ n) (Nat.succ c) (sput s v l))))
   | none => .fail
 | _ => .fail
def mapEntA (kind : MK) (zero m key : AV) (h : H) : Res :=
 match m with
 | .map b => match h.get b with
   | some x => mapKey kind x key
     (fun kd n c t i => match E.get 11 (path 11 i) t with
      | some _ => .fail
      | none => .ok (.tup (.cons zero (.cons (.int .i64 (.ofNat c)) .nil))) (h.set b (.imap kd (Nat.succ n) (Nat.succ c) (E.put (some zero) 11 (path 11 i) t) (Nat.succ i))))
     (fun _ _ _ _ => .fail)
   | none => .fail
 | _ => .fail
def entStA (m s v : AV) (h : H) : Res :=
 match m, s with
 | .map b, .int _ (.ofNat st) => (match h.get b with
   | some (.imap kd n c t lk) => (match lk with
     | Nat.succ i => (match Nat.beq (Nat.succ st) c, Nat.ble i keyMx with
       | true, true => .ok (.tup .nil) (h.set b (.imap kd n c (E.put (some v) 11 (path 11 i) t) (nat_lit 0)))
       | _, _ => .fail)
     | 0 => .fail)
   | _ => .fail)
 | _, _ => .fail
def lenA (d : TypeDesc) (x : AV) (h : H) : Res :=
 match d with
 | .string => (match x with
   | .str s => sN s.len fun n => .ok (.int .i64 (.ofNat n)) h
   | _ => .fail)
 | .slice _ => (match x with
   | .slice _ _ n _ _ => sN n fun n => .ok (.int .i64 (.ofNat n)) h
   | .nils => .ok (.int .i64 (.ofNat (nat_lit 0))) h
   | _ => .fail)
 | .map _ _ => (match x with
   | .nilm => .ok (.int .i64 (.ofNat (nat_lit 0))) h
   | .map b => match h.get b with
     | some (.imap _ n _ _ _) => .ok (.int .i64 (.ofNat n)) h
     | some (.smap n _ _) => .ok (.int .i64 (.ofNat n)) h
     | _ => .fail
   | _ => .fail)
 | _ => .fail
def mm2 : Bool → AV → AV → AV := Bool.rec (motive := fun _ => AV → AV → AV)
 (int2 (fun k a b => .int k (.ofNat (Bool.rec b a (Nat.ble a b)))) (fun k a b => .int k (Bool.rec b a (decide (a ≤ b)))))
 (int2 (fun k a b => .int k (.ofNat (Bool.rec a b (Nat.ble a b)))) (fun k a b => .int k (Bool.rec a b (decide (a ≤ b)))))
def mmA (gt : Bool) (l : AV) : AV :=
 match l with
 | .cons x r => lrec (fun a => a) (fun y _ ih a => ih (mm2 gt a y)) r x
 | _ => .bad
def rangeA (x : AV) (h : H) : Res :=
 match x with
 | .str s => match h.room with
   | true => .ok (.ptr h.next (nat_lit 0)) (h.new (.iter s (nat_lit 0)))
   | false => .fail
 | _ => .fail
def nextA (x : AV) (h : H) : Res :=
 match x with
 | .ptr b 0 => match h.get b with
   | some (.iter s pos) => match Nat.ble (Nat.succ pos) s.len with
     | true => decR s pos fun r w => sN (Nat.add pos w) fun p => .ok (.tup (.cons (.bool true) (.cons (.int .i64 (.ofNat pos)) (.cons (.int .i32 (.ofNat r)) .nil)))) (h.set b (.iter s p))
     | false => .ok (.tup (.cons (.bool false) .nil)) h
   | _ => .fail
 | _ => .fail
def extractA (x : AV) (i : Nat) : AV :=
 match x with
 | .tup vs => lnth vs i
 | _ => .bad
def boundOk (g : G) (a c : AV) : Bool :=
 match a with
 | .ifc t _ => (match c with
   | .str s => (match g.meth t s with
     | some _ => true
     | none => false)
   | _ => false)
 | .nil => true
 | .cons _ _ => true
 | _ => false
def nilCheckA (g : G) (x : AV) : AV :=
 match x with
 | .ptr b o => .ptr b o
 | .fn f a c => Bool.rec .bad (.fn f a c) (boundOk g a c)
 | .yld l => .yld l
 | .ifc t v => .ifc t v
 | _ => .bad

def opsL : List Operand → EV := List.rec (motive := fun _ => EV) ⟨fun _ => .nil⟩ (fun o _ ih => ⟨fun en => .cons ((ev o).f en) (ih.f en)⟩)
def tyA (g : G) (t : Nat) (k : Ty → Act) : Act :=
 match g.ty t with
 | some y => k y
 | none => failA
def zeroV (y : Ty) : AV := y.zv
def convA (g : G) (same : Bool) (src dst : TypeDesc) (x : AV) (h : H) : Res :=
 match dst, x with
 | .slice e, .slice b off (Nat.succ l) es z => (match same, src, g.ty e with
   | true, .slice _, some { desc := .int .u8, .. } => (match h.get b with
     | some (.cells el ro n d t) => match Nat.ble (nat_lit 2000000) el with
       | true => .fail
       | false => .ok (.slice b off (Nat.succ l) es z) (h.set b (.cells el ro n d t))
     | _ => .fail)
   | _, _, _ => .fail)
 | .int k, .int _ n => frc (wr k n) fun n' => .ok (.int k n') h
 | .string, .str s => .ok (.str s) h
 | .string, .int _ n => .ok (.str (encR n)) h
 | .string, .nils => (match src with
   | .slice e => (match g.ty e with
     | some { desc := .int .u8, .. } => .ok (.str ⟨nat_lit 0, nat_lit 0⟩) h
     | _ => .fail)
   | _ => .fail)
 | .string, .slice b off len 1 _ => match src with
   | .slice e => match g.ty e, h.get b with
     | some { desc := .int .u8, .. }, some (.cells _ _ n d t) => match Nat.ble (Nat.add off len) n with
       | true => strRes (bytesStr (rdN d t len off) (some ⟨nat_lit 0, nat_lit 0⟩)) h
       | false => .fail
     | _, _ => .fail
   | _ => .fail
 | .slice e, .str s => match g.ty e with
   | some { desc := .int .u8, .. } => row e (strL s s.len) h fun b h' => .ok (.slice b (nat_lit 0) s.len (nat_lit 1) false) h'
   | _ => .fail
 | .unsafePointer, .nilp => match src with
   | .pointer _ => .ok .nilp h
   | _ => .fail
 | .unsafePointer, .ptr b off => match src with
   | .pointer t => match g.ty t, h.get b with
     | some y, some (.cells _ _ n _ _) => match Nat.ble (Nat.succ off) n, Nat.beq y.size (nat_lit 0) with
       | true, false => .ok (.ptr b off) h
       | _, _ => .fail
     | _, _ => .fail
   | _ => .fail
 | .pointer _, .nilp => match src with
   | .unsafePointer => .ok .nilp h
   | _ => .fail
 | .pointer u, .ptr b 0 => match src with
   | .unsafePointer => match g.ty u, h.get b with
     | some y, some (.cells el false n d _) => match Nat.beq el u, Nat.ble (nat_lit 12) d, Nat.ble y.size n, Nat.beq y.size (nat_lit 0) with
       | true, true, true, false => .ok (.ptr b (nat_lit 0)) h
       | _, _, _, _ => .fail
     | _, _ => .fail
   | _ => .fail
 | _, _ => .fail
def unsafeStrA (g : G) (pt : Nat) (p : AV) (n : Nat) (h : H) : Res :=
 match g.ty pt with
 | some { desc := .pointer u, .. } => match n, p with
   | 0, .nilp => .ok (.str ⟨nat_lit 0, nat_lit 0⟩) h
   | 0, .ptr _ _ => .ok (.str ⟨nat_lit 0, nat_lit 0⟩) h
   | Nat.succ k, .ptr b off => match g.ty u, h.get b with
     | some { desc := .int .u8, size := sz, .. }, some (.cells el true nn d t) => match Nat.beq el (Nat.add u (nat_lit 2000000)), Nat.ble (Nat.add off (Nat.succ k)) nn, Nat.beq sz (nat_lit 1), Nat.ble (Nat.succ k) mxCells with
       | true, true, true, true => match bytesStr (rdN d t (Nat.succ k) off) (some ⟨nat_lit 0, nat_lit 0⟩) with
         | some s => .ok (.str s) (h.set b (.cells el true nn d t))
         | none => .fail
       | _, _, _, _ => .fail
     | some { desc := .int .u8, size := sz, .. }, some (.cells el false nn d t) => match Nat.beq el u, Nat.ble (Nat.add off (Nat.succ k)) nn, Nat.beq sz (nat_lit 1), Nat.ble (Nat.succ k) mxCells, Nat.ble (nat_lit 2000000) el with
       | true, true, true, true, false => match bytesStr (rdN d t (Nat.succ k) off) (some ⟨nat_lit 0, nat_lit 0⟩) with
         | some s => .ok (.str s) (h.set b (.cells el true nn d t))
         | none => .fail
       | _, _, _, _, _ => .fail
     | _, _ => .fail
   | _, _ => .fail
 | _ => .fail
def builtA (g : G) (b : Builtin) (ts : List TypeId) (args : AV) (h : H) : Res :=
 match b, args with
 | .append, .cons s (.cons x .nil) => match ts with
   | [t, u] => match g.ty t, g.ty u with
     | some { desc := .slice e, .. }, some { desc := .slice _, .. } => (match g.ty e with
       | some y => appendA e y.size y.bytes s x h
       | none => .fail)
     | some { desc := .slice e, .. }, some { desc := .string, .. } => (match g.ty e with
       | some y => appendA e y.size y.bytes s x h
       | none => .fail)
     | some { desc := .slice e, .. }, some { desc := .int _, .. } => (match g.ty e, x with
       | some y, .int _ (.ofNat n) => (match Nat.ble (Nat.mul n y.bytes) mxCells, Nat.ble n mxCells with
         | true, true => appendN e y.size y.bytes s h (repL y.zero n) n
         | _, _ => .fail)
       | _, _ => .fail)
     | _, _ => .fail
   | _ => .fail
 | .copy, .cons d (.cons s .nil) => match ts with
   | t :: _ => match g.ty t with
     | some { desc := .slice e, .. } => (match g.ty e with
       | some y => copyA y.size d s h
       | none => .fail)
     | _ => .fail
   | [] => .fail
 | .cap, .cons x .nil => (match ts with
   | t :: _ => (match g.ty t with
     | some { desc := .slice _, .. } => (match x with
       | .nils => .ok (.int .i64 (.ofNat (nat_lit 0))) h
       | .slice _ _ _ _ true => .ok (.int .i64 (.ofNat (nat_lit 0))) h
       | _ => .fail)
     | _ => .fail)
   | [] => .fail)
 | .max, l => chk (mmA true l) h
 | .min, l => chk (mmA false l) h
 | .unsafeSliceData, .cons x .nil => (match x with
   | .nils => .ok .nilp h
   | .slice b off (Nat.succ _) _ _ => .ok (.ptr b off) h
   | _ => .fail)
 | .unsafeString, .cons p (.cons (.int _ (.ofNat n)) .nil) => (match ts with
   | pt :: _ => unsafeStrA g pt p n h
   | [] => .fail)
 | _, _ => .fail
def makeSliceA (e : Nat) (y : Ty) (l c : AV) (h : H) : Res :=
 natOf .fail (fun n => natOf .fail (fun m => match Nat.ble n m, Nat.ble (Nat.mul m y.bytes) mxCells, Nat.ble m mxCells with
  | true, true, true => row e (repL y.zero m) h fun b h' => .ok (.slice b (nat_lit 0) n y.size false) h'
  | _, _, _ => .fail) c) l
def makeMapA (kind : MK) (h : H) : Res :=
 match h.room, kind with
 | true, .ints k => .ok (.map h.next) (h.new (.imap k (nat_lit 0) (nat_lit 0) (E.rep none 11) (nat_lit 0)))
 | true, .strs => .ok (.map h.next) (h.new (.smap (nat_lit 0) (nat_lit 0) []))
 | _, _ => .fail
def mapElem (g : G) (t : Nat) (k : Ty → Act) : Act :=
 match g.ty t with
 | some { desc := .map _ e, .. } => tyA g e k
 | _ => failA
def fieldT (g : G) (s f : Nat) (k : Field → Ty → Act) : Act :=
 match g.ty s with
 | some { desc := .struct fs, .. } => match fs[f]? with
   | some fd => tyA g fd.type fun y => k fd y
   | none => failA
 | _ => failA
def elemT (g : G) (t : Nat) (k : Nat → Option Nat → Ty → Act) : Act :=
 match g.ty t with
 | some { desc := .slice e, .. } => tyA g e fun y => k e none y
 | some { desc := .array n e, .. } => tyA g e fun y => k e (some n) y
 | _ => failA
def placesOf (g : G) (y : Ty) : Nat → Option (Nat × Nat) :=
 match y.desc with
 | .struct fs => fun i => match fs[i]? with
   | some fd => match g.ty fd.type with
     | some z => some (fd.offset, z.size)
     | none => none
   | none => none
 | .array _ e => fun i => match g.ty e with
   | some z => some (Nat.mul i z.size, z.size)
   | none => none
 | _ => fun _ => none
def placesOk (g : G) (d : TypeDesc) : Bool :=
 match d with
 | .struct fs => fs.toList.all fun f => (g.ty f.type).isSome
 | .array _ e => (g.ty e).isSome
 | _ => false
def onB (b : Bool) (a : Act) : Act := Bool.rec (motive := fun _ => Act) failA a b
def buildOk (v : AV) (h : H) : Res :=
 match isL v with
 | true => .ok (.agg v) h
 | false => .fail
def isC : Operand → Bool := Operand.rec (motive := fun _ => Bool) (fun _ => false) (fun _ => true) (fun _ => false) (fun _ => false)
def chkV : AV → H → Res :=
 AV.rec (motive := fun _ => H → Res) (fun h => .ok .bad h) (fun h => .ok .unk h) (fun b h => .ok (.bool b) h) (fun k n h => frc n fun n' => .ok (.int k n') h) (fun s h => .ok (.str s) h) (fun b o h => .ok (.ptr b o) h)
  (fun h => .ok .nilp h) (fun b o n s z h => .ok (.slice b o n s z) h) (fun h => .ok .nils h) (fun b h => .ok (.map b) h) (fun h => .ok .nilm h)
  (fun f x y _ _ h => .ok (.fn f x y) h) (fun l h => .ok (.yld l) h) (fun h => .ok .nilf h) (fun t v _ h => .ok (.ifc t v) h) (fun h => .ok .nili h)
  (fun cs _ h => .ok (.agg cs) h) (fun vs _ h => .ok (.tup vs) h) (fun _ => .fail) (fun _ _ _ _ _ => .fail)
def actV (f : EV) : Act := ⟨fun en h => chkV (f.f en) h⟩
def actU (u : U1) (f : EV) : Act := ⟨fun en h => chk (u.f (f.f en)) h⟩
def actB (u : B2) (f g : EV) : Act := ⟨fun en h => chk (u.f (f.f en) (g.f en)) h⟩
def act1 (u : A1) (f : EV) : Act := ⟨fun en h => u.f (f.f en) h⟩
def act2 (u : A2) (f g : EV) : Act := ⟨fun en h => u.f (f.f en) (g.f en) h⟩
def actPick (c a b : EV) : Act := ⟨fun en h => OB.rec (motive := fun _ => Res) .fail (chk (b.f en) h) (chk (a.f en) h) (toB (c.f en))⟩
def eqK (g : G) (t : Nat) : EK :=
 match g.ty t with
 | some { desc := .bool, .. } => .bool
 | some { desc := .pointer e, .. } => (match g.ty e with
   | some y => Bool.rec .ptr .none (Nat.beq y.size (nat_lit 0))
   | none => .none)
 | some { desc := .slice _, .. } => .slice
 | some { desc := .map _ _, .. } => .map
 | some { desc := .func _ _ _, .. } => .func
 | some { desc := .interface _, .. } => .iface
 | _ => match g.eq2 t with
   | true => .two
   | false => .none
def selfP (g : G) (t : Nat) (y : Ty) : Bool :=
 match y.desc with
 | .struct fs => (match fs.toList with
   | [f, _] => (match g.ty f.type with
     | some { desc := .pointer u, .. } => Nat.beq u t
     | _ => false)
   | _ => false)
 | _ => false
def aop (g : G) (o : Op) : Act :=
 match o with
 | .move x => actV (ev x)
 | .assign x => actV (ev x)
 | .pick c a b => actPick (ev c) (ev a) (ev b)
 | .alloc t => tyA g t fun y => match selfP g t y with
   | true => Act.mk fun _ h => rowM t y.zero h fun b h' => .ok (.ptr b (nat_lit 0)) h'
   | false => Act.mk fun _ h => row t y.zero h fun b h' => .ok (.ptr b (nat_lit 0)) h'
 | .box t x => Act.mk fun en h => row t (cellsOf ((ev x).f en)) h fun b h' => .ok (.ptr b (nat_lit 0)) h'
 | .build t ps => tyA g t fun y => onB (placesOk g y.desc) <| Act.mk fun en h => buildOk (fillA (placesOf g y) en ps.toList y.zero) h
 | .buildSlice t n ps => elemT g t fun e arr y => match arr with
   | none => Act.mk fun en h => match Nat.ble (Nat.mul n y.size) (nat_lit 100000), fillA (fun i => some (Nat.mul i y.size, y.size)) en ps.toList (repL y.zero n) with
     | true, cs => (match isL cs with
       | true => row e cs h fun b h' => .ok (match n with | 0 => .slice b (nat_lit 0) (nat_lit 0) y.size true | _ => .slice b (nat_lit 0) n y.size false) h'
       | false => .fail)
     | false, _ => .fail
   | some _ => failA
 | .load t a => tyA g t fun y => act1 (loadA y.agg y.size) (ev a)
 | .store t a x => tyA g t fun y => act2 (storeA y.agg y.size) (ev a) (ev x)
 | .nilCheck x => actU ⟨nilCheckA g⟩ (ev x)
 | .binOp op t x y _ => actB (binF op (Bool.rec (isC y) true (isC x)) (eqK g t)) (ev x) (ev y)
 | .unOp op _ x => actU (uop op) (ev x)
 | .convert s d x => tyA g s fun ys => tyA g d fun yd => Act.mk fun en h => convA g (Nat.beq s d) ys.desc yd.desc ((ev x).f en) h
 | .makeInterface t x => tyA g t fun y => match y.desc with
   | .interface _ => failA
   | _ => Act.mk fun en h => match (ev x).f en with
     | .bad => .fail
     | v => .ok (.ifc t v) h
 | .makeFunc fn fs cs => match fn with
   | .func f => Act.mk fun en h => .ok (.fn f ((opsL fs.toList).f en) ((opsL cs.toList).f en)) h
   | .method nm => (match fs.toList, cs.toList with
     | [o], [] => Act.mk fun en h => match (ev o).f en with
       | .ifc t x => .ok (.fn (nat_lit 0) (.ifc t x) (.str (Str.of nm.toUTF8))) h
       | _ => .fail
     | _, _ => failA)
   | _ => failA
 | .makeMap t r => match r with
   | none => Act.mk fun _ h => makeMapA (mapKind g t) h
   | some x => Act.mk fun en h => match (ev x).f en with
     | .int _ _ => makeMapA (mapKind g t) h
     | _ => .fail
 | .makeSlice t l c => elemT g t fun e arr y => match arr with
   | none => Act.mk fun en h => makeSliceA e y ((ev l).f en) ((ev c).f en) h
   | some _ => failA
 | .slice t x lo hi mx => match g.ty t with
   | some { desc := .slice e, .. } => tyA g e fun y => onB (okMx hi mx) (sliceA y.size (ev x) lo hi mx)
   | some { desc := .string, .. } => (match mx with
     | none => sliceStr (ev x) lo hi
     | some _ => failA)
   | some { desc := .array n e, .. } => tyA g e fun y => sliceArrA y.size n (ev x) lo hi mx
   | _ => failA
 | .fieldAddr s x f => fieldT g s f fun fd y => match y.size with
   | Nat.succ _ => act1 ⟨onP (fieldA fd.offset)⟩ (ev x)
   | 0 => failA
 | .field s x f => fieldT g s f fun fd y => Act.mk fun en h => match (ev x).f en with
   | .agg cs => partA y.agg y.size fd.offset cs h
   | _ => .fail
 | .indexAddr t x i => elemT g t fun _ arr y => match arr with
   | none => act2 ⟨idxS y.size⟩ (ev x) (ev i)
   | some n => act2 ⟨idxA n y.size⟩ (ev x) (ev i)
 | .index t x i => match g.ty t with
   | some { desc := .string, .. } => act2 ⟨idxStr⟩ (ev x) (ev i)
   | some { desc := .array n e, .. } => tyA g e fun y => Act.mk fun en h => indexA n y.agg y.size ((ev x).f en) ((ev i).f en) h
   | _ => failA
 | .lookup t x i ok => mapElem g t fun y => Act.mk fun en h => lookupA (mapKind g t) (zeroV y) ((ev x).f en) ((ev i).f en) ok h
 | .mapUpdate t m k x => Act.mk fun en h => match (ev x).f en with
   | .bad => .fail
   | v => mapUpA (mapKind g t) ((ev m).f en) ((ev k).f en) v h
 | .insert t m k x => Act.mk fun en h => match (ev x).f en with
   | .bad => .fail
   | v => mapUpA (mapKind g t) ((ev m).f en) ((ev k).f en) v h
 | .mapEntry t m k => mapElem g t fun y => Act.mk fun en h => mapEntA (mapKind g t) (zeroV y) ((ev m).f en) ((ev k).f en) h
 | .entryStore _ m s x => Act.mk fun en h => match (ev x).f en with
   | .bad => .fail
   | v => entStA ((ev m).f en) ((ev s).f en) v h
 | .range t x => (match g.ty t with
   | some { desc := .string, .. } => Act.mk fun en h => rangeA ((ev x).f en) h
   | _ => failA)
 | .next it s => match s with
   | true => Act.mk fun en h => nextA ((ev it).f en) h
   | false => failA
 | .extract x i => actU ⟨fun v => extractA v i⟩ (ev x)
 | .call c => match c.callee with
   | .builtin b => match b, c.argTypes.toList, c.args.toList with
     | .len, t :: _, [x] => (match g.ty t with
       | some { desc := .array n _, .. } => Act.mk fun _ h => .ok (.int .i64 (.ofNat n)) h
       | some { desc := .pointer _, .. } => failA
       | some y => act1 ⟨lenA y.desc⟩ (ev x)
       | none => failA)
     | _, ts, as => Act.mk fun en h => builtA g b ts ((opsL as).f en) h
   | _ => failA
 | _ => failA

end
end Go.Proofs.YtmpkgddioiaonaaGreatDoor.Am
