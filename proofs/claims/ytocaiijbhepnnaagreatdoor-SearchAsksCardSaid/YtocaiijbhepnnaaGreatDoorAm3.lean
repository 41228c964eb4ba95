/- The abstract machine, second part: operations on values; operations that do not call. -/
import Derived.Test.YtocaiijbhepnnaaGreatDoorAmS
namespace Go.Proofs.YtocaiijbhepnnaaGreatDoor.Am
noncomputable section
def Fb {β:Type} (z:β) (c:AV→AV→β→β):AV→β:=
 AV.rec (motive:=fun _=>β) z z (fun _=>z) (fun _ _=>z) (fun _=>z) (fun _ _=>z) z (fun _ _ _ _ _=>z) z (fun _=>z) z
  (fun _ _ _ _ _=>z) (fun _=>z) z (fun _ _ _=>z) z (fun _ _=>z) (fun _ _=>z) z (fun h t _ ih=>c h t ih)
def llen:AV→Nat:=Fb (nat_lit 0) (fun _ _ n=>Nat.succ n)
def Dz:AV→Nat→AV:=Fb (fun _=> .bad) (fun h _ ih i=>Bool.rec (ih (Nat.pred i)) h (Nat.beq i (nat_lit 0)))
def l9:AV→AV→AV:=Fb (fun y=>y) (fun h _ ih y=> .cons h (ih y))
def H8:AV→Nat→AV:=Fb (fun _=> .nil) (fun h _ ih n=>Bool.rec (.cons h (ih (Nat.pred n))) .nil (Nat.beq n (nat_lit 0)))
def H9:AV→Nat→AV:=Fb (fun _=> .nil) (fun h t ih n=>Bool.rec (ih (Nat.pred n)) (.cons h t) (Nat.beq n (nat_lit 0)))
def one:AV→Bool:=
 AV.rec (motive:=fun _=>Bool) false true (fun _=>true) (fun _ _=>true) (fun _=>true) (fun _ _=>true) true (fun _ _ _ _ _=>true) true (fun _=>true) true
  (fun _ _ _ _ _=>true) (fun _=>true) true (fun _ _ _=>true) true (fun _ _=>false) (fun _ _=>false) false (fun _ _ _ _=>false)
def ones:AV→Bool:=Fb true (fun h _ ih=>Bool.rec false ih (one h))
def cellsOf:AV→AV:=
 AV.rec (motive:=fun _=>AV) .nil (.cons .unk .nil) (fun b=> .cons (.bool b) .nil) (fun k n=> .cons (.int k n) .nil) (fun s=> .cons (.str s) .nil) (fun b o=> .cons (.ptr b o) .nil)
  (.cons .oG .nil) (fun b o n s z=> .cons (.slice b o n s z) .nil) (.cons .jP .nil) (fun b=> .cons (.map b) .nil) (.cons .rZ .nil)
  (fun f x y _ _=> .cons (.fn f x y) .nil) (fun l=> .cons (.xQ l) .nil) (.cons .r9 .nil) (fun t v _=> .cons (.uh t v) .nil) (.cons .qP .nil)
  (fun cs _=>cs) (fun _ _=> .nil) .nil (fun _ _ _ _=> .nil)
inductive bJ where
 |fail
 |ok (v:AV) (h:H)
def frc (n:Int) (f:Int→bJ):bJ:=
 Int.rec (motive:=fun _=>bJ) (fun m=>sN m fun m'=>f (.ofNat m')) (fun m=>sN m fun m'=>f (.negSucc m')) n
theorem frc_eq (n:Int) (f:Int→bJ):frc n f=f n:=by cases n<;>simp[frc,p8]
def uE:AV→H→bJ:=
 AV.rec (motive:=fun _=>H→bJ) (fun _=> .fail) (fun h=> .ok .unk h) (fun b h=> .ok (.bool b) h) (fun k n h=>frc n fun n'=> .ok (.int k n') h) (fun s h=> .ok (.str s) h) (fun b o h=> .ok (.ptr b o) h)
  (fun h=> .ok .oG h) (fun b o n s z h=> .ok (.slice b o n s z) h) (fun h=> .ok .jP h) (fun b h=> .ok (.map b) h) (fun h=> .ok .rZ h)
  (fun f x y _ _ h=> .ok (.fn f x y) h) (fun l h=> .ok (.xQ l) h) (fun h=> .ok .r9 h) (fun t v _ h=> .ok (.uh t v) h) (fun h=> .ok .qP h)
  (fun cs _ h=> .ok (.agg cs) h) (fun vs _ h=> .ok (.iq vs) h) (fun _=> .fail) (fun _ _ _ _ _=> .fail)
inductive OI where
 |none
 |nn (k:IntKind) (n:Nat)
 |ng (k:IntKind) (m:Nat)
def toI:AV→OI:=
 AV.rec (motive:=fun _=>OI) .none .none (fun _=> .none) (fun k n=>Int.rec (motive:=fun _=>OI) (OI.nn k) (OI.ng k) n) (fun _=> .none) (fun _ _=> .none) .none (fun _ _ _ _ _=> .none) .none (fun _=> .none) .none
  (fun _ _ _ _ _=> .none) (fun _=> .none) .none (fun _ _ _=> .none) .none (fun _ _=> .none) (fun _ _=> .none) .none (fun _ _ _ _=> .none)
inductive OS where
 |none
 |some (s:Str)
def toS:AV→OS:=
 AV.rec (motive:=fun _=>OS) .none .none (fun _=> .none) (fun _ _=> .none) (fun s=> .some s) (fun _ _=> .none) .none (fun _ _ _ _ _=> .none) .none (fun _=> .none) .none
  (fun _ _ _ _ _=> .none) (fun _=> .none) .none (fun _ _ _=> .none) .none (fun _ _=> .none) (fun _ _=> .none) .none (fun _ _ _ _=> .none)
inductive OB where
 |none
 |f
 |t
def toB:AV→OB:=
 AV.rec (motive:=fun _=>OB) .none .none (fun b=>Bool.rec .f .t b) (fun _ _=> .none) (fun _=> .none) (fun _ _=> .none) .none (fun _ _ _ _ _=> .none) .none (fun _=> .none) .none
  (fun _ _ _ _ _=> .none) (fun _=> .none) .none (fun _ _ _=> .none) .none (fun _ _=> .none) (fun _ _=> .none) .none (fun _ _ _ _=> .none)
inductive OP where
 |none
 |at(b off:Nat)
def toP:AV→OP:=
 AV.rec (motive:=fun _=>OP) .none .none (fun _=> .none) (fun _ _=> .none) (fun _=> .none) OP.at .none (fun _ _ _ _ _=> .none) .none (fun _=> .none) .none
  (fun _ _ _ _ _=> .none) (fun _=> .none) .none (fun _ _ _=> .none) .none (fun _ _=> .none) (fun _ _=> .none) .none (fun _ _ _ _=> .none)
inductive OL where
 |none
 |nil
 |at(b off len es:Nat) (z:Bool)
def toL:AV→OL:=
 AV.rec (motive:=fun _=>OL) .none .none (fun _=> .none) (fun _ _=> .none) (fun _=> .none) (fun _ _=> .none) .none OL.at .nil (fun _=> .none) .none
  (fun _ _ _ _ _=> .none) (fun _=> .none) .none (fun _ _ _=> .none) .none (fun _ _=> .none) (fun _ _=> .none) .none (fun _ _ _ _=> .none)
def Lg:IntKind→Nat:=IntKind.rec (motive:=fun _=>Nat) (nat_lit 127) (nat_lit 32767) (nat_lit 2147483647) (nat_lit 9223372036854775807)
 (nat_lit 255) (nat_lit 65535) (nat_lit 4294967295) (nat_lit 18446744073709551615)
def TF:IntKind→Nat:=IntKind.rec (motive:=fun _=>Nat) (nat_lit 128) (nat_lit 32768) (nat_lit 2147483648) (nat_lit 9223372036854775808)
 (nat_lit 0) (nat_lit 0) (nat_lit 0) (nat_lit 0)
def uF:IntKind→Nat:=IntKind.rec (motive:=fun _=>Nat) (nat_lit 0) (nat_lit 1) (nat_lit 2) (nat_lit 3) (nat_lit 4) (nat_lit 5) (nat_lit 6) (nat_lit 7)
def wrN (k:IntKind) (m:Nat):Int:=Bool.rec (k.wrap (.ofNat m)) (.ofNat m) (Nat.ble m (Lg k))
def wr (k:IntKind) (n:Int):Int:=
 Int.rec (motive:=fun _=>Int) (wrN k)
  (fun m=>Bool.rec (k.wrap (.negSucc m)) (.negSucc m) (Nat.ble (Nat.succ m) (TF k))) n
def mk (k:IntKind) (n:Int):AV:= .int k (wr k n)
def mkN (k:IntKind) (n:Nat):AV:= .int k (wrN k n)
def je (fast:IntKind→Nat→Nat→AV) (slow:IntKind→Int→Int→AV):AV→AV→AV:=fun x y=>
 OI.rec (motive:=fun _=>AV) .bad
  (fun k a=>OI.rec (motive:=fun _=>AV) .bad (fun k' b=>Bool.rec .bad (fast k a b) (Nat.beq (uF k) (uF k'))) (fun k' b=>Bool.rec .bad (slow k (.ofNat a) (.negSucc b)) (Nat.beq (uF k) (uF k'))) (toI y))
  (fun k a=>OI.rec (motive:=fun _=>AV) .bad (fun k' b=>Bool.rec .bad (slow k (.negSucc a) (.ofNat b)) (Nat.beq (uF k) (uF k'))) (fun k' b=>Bool.rec .bad (slow k (.negSucc a) (.negSucc b)) (Nat.beq (uF k) (uF k'))) (toI y))
  (toI x)
def zo:IntKind→Int→Int→AV:=fun _ _ _=> .bad
def ag1 (k:IntKind) (a b:Int):AV:= .int k (k.wrap ((BitVec.ofInt k.bits a&&&BitVec.ofInt k.bits b).toNat:Int))
def D7 (k:IntKind) (a b:Int):AV:= .int k (k.wrap ((BitVec.ofInt k.bits a&&&~~~ BitVec.ofInt k.bits b).toNat:Int))
def orS (k:IntKind) (a b:Int):AV:= .int k (k.wrap ((BitVec.ofInt k.bits a|||BitVec.ofInt k.bits b).toNat:Int))
def ad7 (k:IntKind) (a b:Int):AV:= .int k (k.wrap ((BitVec.ofInt k.bits a^^^BitVec.ofInt k.bits b).toNat:Int))
def agZ (k:IntKind) (a b:Nat):AV:=mkN k (Nat.add a b)
def aau (k:IntKind) (a b:Nat):AV:=Bool.rec (mk k (Int.sub (.ofNat a) (.ofNat b))) (mkN k (Nat.sub a b)) (Nat.ble b a)
def ad6 (k:IntKind) (a b:Nat):AV:=mkN k (Nat.mul a b)
def VU (k:IntKind) (a b:Nat):AV:=Bool.rec (mkN k (Nat.div a b)) .bad (Nat.beq b (nat_lit 0))
def VW (k:IntKind) (a b:Nat):AV:=Bool.rec (.int k (.ofNat (Nat.mod a b))) .bad (Nat.beq b (nat_lit 0))
def JH (f:Nat→Nat→Nat) (k:IntKind) (a b:Nat):AV:=Bool.rec .bad (Bool.rec .bad (.int k (.ofNat (f a b))) (Nat.ble b (Lg k))) (Nat.ble a (Lg k))
def DC (b:Bool):Bool:=Bool.rec true false b
def eqF (_:IntKind) (a b:Nat):AV:= .bool (Nat.beq a b)
def neF (_:IntKind) (a b:Nat):AV:= .bool (DC (Nat.beq a b))
def ltF (_:IntKind) (a b:Nat):AV:= .bool (Nat.ble (Nat.succ a) b)
def leF (_:IntKind) (a b:Nat):AV:= .bool (Nat.ble a b)
def gtF (_:IntKind) (a b:Nat):AV:= .bool (Nat.ble (Nat.succ b) a)
def geF (_:IntKind) (a b:Nat):AV:= .bool (Nat.ble b a)
def ad3 (k:IntKind) (a n:Nat):AV:=Bool.rec .bad (mkN k (Nat.mul a (Nat.pow (nat_lit 2) n))) (Nat.ble n k.bits)
def ad4 (k:IntKind) (a n:Nat):AV:=Bool.rec .bad (.int k (.ofNat (Nat.div a (Nat.pow (nat_lit 2) n)))) (Nat.ble n k.bits)
def Bv (f:IntKind→Nat→Nat→AV):AV→AV→AV:=fun x y=>
 OI.rec (motive:=fun _=>AV) .bad (fun k a=>OI.rec (motive:=fun _=>AV) .bad (fun _ b=>f k a b) (fun _ _=> .bad) (toI y)) (fun _ _=> .bad) (toI x)
def agY (k:IntKind) (x:Int) (n:Nat):AV:=Bool.rec .bad (.int k (x.fdiv (2^n))) (Nat.ble n k.bits)
def ad5 (x y:AV):AV:=
 match x,y with
 | .int k (.negSucc a), .int _ (.ofNat n)=>agY k (.negSucc a) n
 |x,y=>Bv ad4 x y
def Str.lt (a b:Str):Bool:=
 Bool.rec
  (Nat.ble (Nat.succ (Nat.shiftRight a.val (Nat.mul (nat_lit 8) (Nat.sub a.len b.len)))) b.val)
  (Nat.ble (Nat.succ a.val) (Nat.add (Nat.shiftRight b.val (Nat.mul (nat_lit 8) (Nat.sub b.len a.len))) (Bool.rec (nat_lit 0) (nat_lit 1) (Nat.ble (Nat.succ a.len) b.len))))
  (Nat.ble a.len b.len)
def str2 (f:Str→Str→AV) (g:AV→AV→AV):AV→AV→AV:=fun x y=>
 OS.rec (motive:=fun _=>AV) (g x y) (fun a=>OS.rec (motive:=fun _=>AV) .bad (fun b=>f a b) (toS y)) (toS x)
def Hg (a b:Bool):Bool:=Bool.rec (Bool.rec true false b) b a
inductive EK where
 |none|bool|ptr|slice|map|func|iface|two
def eqI:Int→Int→Bool
 | .ofNat a, .ofNat b=>Nat.beq a b
 | .negSucc a, .negSucc b=>Nat.beq a b
 |_,_=>false
def adY (a b:Bool):Bool:=Bool.rec false b a
def Hl (e:EK) (c:Bool) (r:Bool→AV):AV→AV→AV:=fun x y=>
 match e with
 | .bool=>(match x,y with
   | .bool a, .bool b=>r (Hg a b)
   |_,_=> .bad)
 | .ptr=>(match x,y with
   | .oG, .oG=>r true
   | .oG, .ptr _ _=>r false
   | .ptr _ _, .oG=>r false
   | .ptr a i, .ptr b j=>Bool.rec .bad (r (Nat.beq i j)) (Nat.beq a b)
   |_,_=> .bad)
 | .slice=>(match x,y with
   | .jP, .jP=>r true
   | .jP, .slice _ _ _ _ _=>r false
   | .slice _ _ _ _ _, .jP=>r false
   |_,_=> .bad)
 | .map=>(match x,y with
   | .rZ, .rZ=>r true
   | .rZ, .map _=>r false
   | .map _, .rZ=>r false
   |_,_=> .bad)
 | .func=>(match x,y with
   | .r9, .r9=>r true
   | .r9, .fn _ _ _=>r false
   | .fn _ _ _, .r9=>r false
   | .r9, .xQ _=>r false
   | .xQ _, .r9=>r false
   |_,_=> .bad)
 | .iface=>(match x,y with
   | .qP, .qP=>Bool.rec .bad (r true) c
   | .qP, .uh _ _=>r false
   | .uh _ _, .qP=>r false
   |_,_=> .bad)
 | .two=>(match x,y with
   | .agg (.cons (.int k a) (.cons (.int l b) .nil)), .agg (.cons (.int k' a') (.cons (.int l' b') .nil))=>
     Bool.rec .bad (r (adY (eqI a a') (eqI b b'))) (adY (Nat.beq (uF k) (uF k')) (Nat.beq (uF l) (uF l')))
   |_,_=> .bad)
 | .none=> .bad
def rT (b:Bool):AV:= .bool b
def rF (b:Bool):AV:= .bool (DC b)
def ahc:AV→AV→AV:=fun _ _=> .bad
def sEq (a b:Str):AV:= .bool (a.eq b)
def sNe (a b:Str):AV:= .bool (DC (a.eq b))
def sLt (a b:Str):AV:= .bool (a.lt b)
def ag0 (a b:Str):AV:=Bool.rec .bad (.str (a.app b)) (Nat.ble (Nat.add a.len b.len) (nat_lit 4611686018427387904))
def orI (f g:AV→AV→AV):AV→AV→AV:=fun x y=>
 OI.rec (motive:=fun _=>AV) (g x y) (fun _ _=>f x y) (fun _ _=>f x y) (toI x)
def V3 (op:BinOp) (c:Bool) (e:EK):B2:=
 BinOp.rec (motive:=fun _=>B2)
  ⟨orI (je agZ fun k a b=>mk k (Int.add a b)) (str2 ag0 ahc)⟩
  ⟨je aau fun k a b=>mk k (Int.sub a b)⟩
  ⟨je ad6 fun k a b=>mk k (Int.mul a b)⟩
  ⟨je VU zo⟩
  ⟨je VW zo⟩
  ⟨je (JH Nat.land) ag1⟩
  ⟨je (JH Nat.lor) orS⟩
  ⟨je (JH Nat.xor) ad7⟩
  ⟨Bv ad3⟩ ⟨ad5⟩ ⟨je (fun k a b=>D7 k (.ofNat a) (.ofNat b)) D7⟩
  ⟨orI (je eqF fun _ a b=> .bool (decide (a=b))) (str2 sEq (Hl e c rT))⟩
  ⟨orI (je neF fun _ a b=> .bool (DC (decide (a=b)))) (str2 sNe (Hl e c rF))⟩
  ⟨orI (je ltF fun _ a b=> .bool (decide (a<b))) (str2 sLt ahc)⟩
  ⟨je leF fun _ a b=> .bool (decide (a≤b))⟩
  ⟨je gtF fun _ a b=> .bool (decide (b<a))⟩
  ⟨je geF fun _ a b=> .bool (decide (b≤a))⟩
  op
def uop1 (op:UnOp):AV→AV:=fun x=>
 match op,x with
 | .not, .bool b=> .bool (DC b)
 | .neg, .int k n=>mk k (Int.sub (.ofNat (nat_lit 0)) n)
 | .xor, .int k n=>ad7 k (if k.signed then-1 else k.max) n
 |_,_=> .bad
def uop (op:UnOp):U1:=⟨uop1 op⟩
structure Ty where
 desc:TypeDesc
 size:Nat
 bytes:Nat
 agg:Bool
 zero:AV
 zv:AV
structure Fn where
 nt:Nat
 body:Code
 res:List ResultVar
structure G where
 ty:Nat→Option Ty
 fn:Nat→Option Fn
 ext:Nat→Nat
 jl:Nat→AV→H→Option bJ
 eq2:Nat→Bool
 qH:Nat→Str→Option Nat
def W9:Value→AV
 | .bool b=> .bool b
 | .int k n=> .int k n
 | .string s=> .str (Str.of s)
 | .pointer none=> .oG
 | .slice none 0 0=> .jP
 | .map none=> .rZ
 | .nilFunc=> .r9
 | .nilIface=> .qP
 |_=> .bad
def uT:List Value→AV
 |[]=> .nil
 |v::vs=> .cons (W9 v) (uT vs)
def ofV:Value→AV
 | .agg cs=> .agg (uT cs.toList)
 | .tuple vs=> .iq (uT vs.toList)
 |v=>W9 v
structure AVb where
 v:AV
def alQ (v:Value):AVb:=⟨ofV v⟩
def ev:Operand→EV:=Operand.rec (motive:=fun _=>EV)
 gT (fun v=>⟨fun _=>(alQ v).v⟩) (fun g=>⟨fun _=> .ptr g (nat_lit 0)⟩) (fun f=>⟨fun _=> .fn f .nil .nil⟩)
def DY (d:Nat) (t:E AV d) (n:Nat):Nat→AV:=
 Nat.rec (motive:=fun _=>Nat→AV) (fun _=> .nil) (fun _ ih i=> .cons (E.get d (path d i) t) (ih (Nat.succ i))) n
def Z9 (d:Nat):AV→Nat→E AV d→E AV d:=
 Fb (fun _ t=>t) (fun h _ ih i t=>ih (Nat.succ i) (E.put h d (path d i) t))
def dep (n:Nat):Nat:=
 Bool.rec (Bool.rec (Bool.rec (Bool.rec (Bool.rec (Bool.rec (Bool.rec (nat_lit 11) (nat_lit 8) (Nat.ble n (nat_lit 65536))) (nat_lit 6) (Nat.ble n (nat_lit 4096))) (nat_lit 5) (Nat.ble n (nat_lit 1024))) (nat_lit 4) (Nat.ble n (nat_lit 256))) (nat_lit 3) (Nat.ble n (nat_lit 64))) (nat_lit 2) (Nat.ble n (nat_lit 16)))
  (Bool.rec (nat_lit 1) (nat_lit 0) (Nat.ble n (nat_lit 1))) (Nat.ble n (nat_lit 4))
def gP:Nat:=nat_lit 4000000
def G8 (d:Nat) (cs:AV):E AV d:=Z9 d cs (nat_lit 0) (E.rep .bad d)
def ag2 (el:Nat) (cs:AV) (h:H) (n:Nat) (k:Nat→H→bJ):bJ:=
 Bool.rec .fail (Bool.rec .fail (sN (dep n) fun d=>k h.next (h.new (.cells el false n d (G8 d cs)))) (Nat.ble n gP)) h.room
def row (el:Nat) (cs:AV) (h:H) (k:Nat→H→bJ):bJ:=sN (llen cs) fun n=>ag2 el cs h n k
def ad8 (el:Nat) (cs:AV) (h:H) (k:Nat→H→bJ):bJ:=
 match h.room,Nat.ble (llen cs) gP with
 |true,true=>k h.next (h.new (.cells el false (llen cs) (nat_lit 12) (G8 (nat_lit 12) cs)))
 |_,_=> .fail
structure Act where
 f:Env→H→bJ
structure A1 where
 f:AV→H→bJ
structure A2 where
 f:AV→AV→H→bJ
def failA:Act:=⟨fun _ _=> .fail⟩
def onC (f:(el:Nat)→Bool→(n d:Nat)→E AV d→bJ):Option xR→bJ:=
 Option.rec (motive:=fun _=>bJ) .fail (xR.rec (motive:=fun _=>bJ) f (fun _ _ _ _ _=> .fail) (fun _ _ _=> .fail) (fun _ _=> .fail) (fun _ _ _ _ _ _ _ _=> .fail) .fail .fail)
def CJ (h:H) (b:Nat) (k:(el:Nat)→Bool→(n d:Nat)→E AV d→bJ):bJ:=onC k (h.get b)
def V4 (h:H) (b off:Nat):bJ:=CJ h b fun _ _ n d t=>Bool.rec .fail (uE (E.get d (path d off) t) h) (Nat.ble (Nat.succ off) n)
def V5 (size:Nat) (h:H) (b off:Nat):bJ:=CJ h b fun _ _ n d t=>Bool.rec .fail (.ok (.agg (DY d t size off)) h) (Nat.ble (Nat.add off size) n)
def OJ (f:H→Nat→Nat→bJ) (a:AV) (h:H):bJ:=OP.rec (motive:=fun _=>bJ) .fail (f h) (toP a)
def qQ (agg:Bool) (size:Nat):A1:=Bool.rec ⟨OJ V4⟩ ⟨OJ (V5 size)⟩ agg
def V8 (v:AV) (h:H) (b off:Nat):bJ:=CJ h b fun el ro n d t=>
 Bool.rec .fail (Bool.rec .fail (Bool.rec (.ok (.iq .nil) (h.set b (.cells el false n d (E.put v d (path d off) t)))) .fail ro) (Nat.ble (Nat.succ off) n)) (one v)
def V9 (size:Nat) (v:AV) (h:H) (b off:Nat):bJ:=CJ h b fun el ro n d t=>
 Bool.rec .fail (Bool.rec .fail (Bool.rec .fail (Bool.rec (.ok (.iq .nil) (h.set b (.cells el false n d (Z9 d (cellsOf v) off t)))) .fail ro)
  (Nat.ble (Nat.add off size) n)) (Nat.beq (llen (cellsOf v)) size)) (ones (cellsOf v))
def ER (agg:Bool) (size:Nat):A2:=Bool.rec ⟨fun a v h=>OJ (V8 v) a h⟩ (Bool.rec ⟨fun a v h=>OJ (V9 size v) a h⟩ ⟨fun _ _ _=> .fail⟩ (Nat.beq size (nat_lit 0))) (Bool.rec (DC (Nat.beq size (nat_lit 1))) true agg)
def JD (cs:AV):Nat→AV:=Nat.rec (motive:=fun _=>AV) .nil (fun _ ih=>l9 cs ih)
def Ig (cs:AV) (off:Nat) (v:AV):AV:=l9 (H8 cs off) (l9 v (H9 cs (Nat.add off (llen v))))
def fieldsOf:TypeDesc→Option (Array Field)
 | .struct fs=>some fs
 |_=>none
def fillA (pl:Nat→Option (Nat×Nat)) (en:Env):List (Nat×Operand)→AV→AV:=
 List.rec (motive:=fun _=>AV→AV) (fun cs=>cs) (fun p _ ih cs=>
  match pl p.1 with
  |some (off,size)=>match Nat.beq (llen (cellsOf ((ev p.2).f en))) size,Nat.ble (Nat.add off size) (llen cs),DC (Nat.beq size (nat_lit 0))with
   |true,true,true=>ih (Ig cs off (cellsOf ((ev p.2).f en)))
   |_,_,_=> .bad
  |none=> .bad)
def isL:AV→Bool:=
 AV.rec (motive:=fun _=>Bool) false false (fun _=>false) (fun _ _=>false) (fun _=>false) (fun _ _=>false) false (fun _ _ _ _ _=>false) false (fun _=>false) false
  (fun _ _ _ _ _=>false) (fun _=>false) false (fun _ _ _=>false) false (fun _ _=>false) (fun _ _=>false) true (fun _ _ _ ih=>ih)
end
noncomputable section
def ET {β:Type} (z:β) (k:Nat→β):AV→β:=fun v=>
 match v with
 | .int _ (.ofNat n)=>k n
 |_=>z
def qU (en:Env) (x:Option Operand) (dflt:Nat) (k:Nat→bJ):bJ:=
 match x with
 |none=>k dflt
 |some o=>ET .fail k ((ev o).f en)
def aeb (hi mx:Option Operand):Bool:=
 match mx,hi with
 |some _,none=>false
 |_,_=>true
def mxz (mx:Option Operand) (z:Bool) (m l:Nat):Bool:=
 match mx with
 |none=>z
 |some _=>Nat.beq m l
def EU (es:Nat) (x:EV) (lo hi mx:Option Operand):Act:=⟨fun en h=>
 match x.f en with
 | .slice b off len es' z=>qU en mx len fun m=>qU en hi len fun u=>qU en lo (nat_lit 0) fun l=>
  match Nat.ble l u,Nat.ble u m,Nat.ble m len,Nat.beq es es' with
  |true,true,true,true=> .ok (.slice b (Nat.add off (Nat.mul l es)) (Nat.sub u l) es (mxz mx z m l)) h
  |_,_,_,_=> .fail
 | .jP=>qU en mx (nat_lit 0) fun m=>qU en hi (nat_lit 0) fun u=>qU en lo (nat_lit 0) fun l=>
  match Nat.add m (Nat.add u l)with
  |0=> .ok .jP h
  |_=> .fail
 |_=> .fail⟩
def qV (x:EV) (lo hi:Option Operand):Act:=⟨fun en h=>
 match x.f en with
 | .str s=>qU en hi s.len fun b=>qU en lo (nat_lit 0) fun a=>match Nat.ble a b,Nat.ble b s.len with
  |true,true=> .ok (.str (s.sub a b)) h
  |_,_=> .fail
 |_=> .fail⟩
def ow (es n:Nat) (x:EV) (lo hi mx:Option Operand):Act:=⟨fun en h=>
 match x.f en with
 | .ptr b off=>match mx with
   |some _=> .fail
   |none=>CJ h b fun _ _ nb _ _=>qU en hi n fun u=>qU en lo (nat_lit 0) fun l=>
    match Nat.ble l u,Nat.ble u n,Nat.ble (Nat.add off (Nat.mul n es)) nb with
    |true,true,true=> .ok (.slice b (Nat.add off (Nat.mul l es)) (Nat.sub u l) es false) h
    |_,_,_=> .fail
 |_=> .fail⟩
def fieldA (off:Nat) (h:H) (b o:Nat):bJ:= .ok (.ptr b (Nat.add o off)) h
def onN (f:Nat→bJ) (i:AV):bJ:=OI.rec (motive:=fun _=>bJ) .fail (fun _ n=>f n) (fun _ _=> .fail) (toI i)
def Wn (es:Nat) (x i:AV) (h:H):bJ:=
 OL.rec (motive:=fun _=>bJ) .fail .fail (fun b off len _ _=>onN (fun k=>Bool.rec .fail (.ok (.ptr b (Nat.add off (Nat.mul k es))) h) (Nat.ble (Nat.succ k) len)) i) (toL x)
def Wo (n es:Nat) (x i:AV) (h:H):bJ:=
 OP.rec (motive:=fun _=>bJ) .fail (fun b off=>onN (fun k=>Bool.rec .fail (.ok (.ptr b (Nat.add off (Nat.mul k es))) h) (Nat.ble (Nat.succ k) n)) i) (toP x)
def ES (x i:AV) (h:H):bJ:=
 OS.rec (motive:=fun _=>bJ) .fail (fun s=>onN (fun k=>Bool.rec .fail (sN (s.byte k) fun c=> .ok (.int .u8 (.ofNat c)) h) (Nat.ble (Nat.succ k) s.len)) i) (toS x)
def Lr (agg:Bool) (size off:Nat) (cs:AV) (h:H):bJ:=
 match agg with
 |true=>match Nat.ble (Nat.add off size) (llen cs)with
  |true=> .ok (.agg (H8 (H9 cs off) size)) h
  |false=> .fail
 |false=>uE (Dz cs off) h
def OZ (n:Nat) (agg:Bool) (es:Nat) (x i:AV) (h:H):bJ:=
 onN (fun k=>match x with
  | .agg cs=>match Nat.ble (Nat.succ k) n with
    |true=>Lr agg es (Nat.mul k es) cs h
    |false=> .fail
  |_=> .fail) i
def aee (s:Str) (n:Nat):AV:=
 Nat.rec (motive:=fun _=>Nat→AV) (fun _=> .nil) (fun _ ih i=>sN (s.byte i) fun c=> .cons (.int .u8 (.ofNat c)) (ih (Nat.succ i))) n (nat_lit 0)
def elems (es:Nat) (x:AV) (h:H) (k:AV→Nat→bJ):bJ:=
 match x with
 | .jP=>k .nil (nat_lit 0)
 | .str s=>match Nat.beq es (nat_lit 1)with
   |true=>k (aee s s.len) s.len
   |false=> .fail
 | .slice b off len es' _=>match h.get b with
   |some (.cells _ _ n d t)=>match Nat.beq es es',Nat.ble (Nat.add off (Nat.mul len es)) n with
    |true,true=>k (DY d t (Nat.mul len es) off) len
    |_,_=> .fail
   |_=> .fail
 |_=> .fail
def an7:Nat:=nat_lit 1000000
def WB (n bytes:Nat):Bool:=
 match bytes with
 |0=>false
 |Nat.succ _=>Nat.ble (Nat.mul n bytes) gP
def alR (z ro:Bool):Bool:=Bool.rec (Bool.rec true false ro) true z
def WC (z:Bool) (h:H) (b:Nat):H:=Bool.rec (h.kill b) h z
def Wz (el es off len n:Nat) (new:AV) (h0:H) (nb d:Nat) (t:E AV d):bJ:=
 match Nat.beq off (nat_lit 0),Nat.beq (Nat.mul len es) nb,Nat.beq (dep (Nat.add nb (llen new))) d,Nat.ble (Nat.add nb (llen new)) gP with
 |true,true,true,true=> .ok (.slice h0.next (nat_lit 0) (Nat.add len n) es false) (h0.new (.cells el false (Nat.add nb (llen new)) d (Z9 d new nb t)))
 |_,_,_,_=>row el (l9 (DY d t (Nat.mul len es) off) new) h0 fun b' h'=> .ok (.slice b' (nat_lit 0) (Nat.add len n) es false) h'
def J3 (el es bytes off len n:Nat) (new:AV) (h:H) (b nb d:Nat) (t:E AV d) (es':Nat) (ro z:Bool):bJ:=
 match Nat.beq es es',ro,z,Nat.beq (Nat.add off (Nat.mul len es)) nb,WB (Nat.add len n) bytes,h.room,Nat.ble (llen (l9 (DY d t (Nat.mul len es) off) new)) gP with
 |true,true,false,true,true,true,true=> .ok (.slice h.next (nat_lit 0) (Nat.add len n) es false)
  ((h.kill b).new (.cells (Nat.add el (nat_lit 2000000)) true (llen (l9 (DY d t (Nat.mul len es) off) new)) (dep (llen (l9 (DY d t (Nat.mul len es) off) new)))
    (G8 (dep (llen (l9 (DY d t (Nat.mul len es) off) new))) (l9 (DY d t (Nat.mul len es) off) new))))
 |_,_,_,_,_,_,_=> .fail
def zG (el es bytes:Nat) (s:AV) (h:H) (new:AV) (n:Nat):bJ:=
 match n with
 |0=>(match s with
  | .jP=> .ok s h
  | .slice _ _ _ _ _=> .ok s h
  |_=> .fail)
 |Nat.succ _=>match ones new,s with
  |true, .jP=>(match WB n bytes with
   |true=>row el new h fun b h'=> .ok (.slice b (nat_lit 0) n es false) h'
   |false=> .fail)
  |true, .slice b off len es' z=>(match h.get b with
   |some (.cells jy ro nb d t)=>match Nat.beq jy (Nat.add el (nat_lit 2000000))with
    |true=>J3 el es bytes off len n new h b nb d t es' ro z
    |false=>
    (match Nat.beq es es',Nat.beq el jy,Nat.ble (Nat.add off (Nat.mul len es)) nb,WB (Nat.add len n) bytes,h.room,alR z ro with
    |true,true,true,true,true,true=>Wz el es off len n new (WC z h b) nb d t
    |_,_,_,_,_,_=> .fail)
   |_=> .fail)
  |_,_=> .fail
def J4 (el es bytes:Nat) (s x:AV) (h:H):bJ:=elems es x h (zG el es bytes s h)
def WE (es:Nat) (dst src:AV) (h:H):bJ:=
 elems es src h fun new n=>
  match dst with
  | .jP=> .ok (.int .i64 (.ofNat (nat_lit 0))) h
  | .slice b off len es' _=>match Nat.beq n (nat_lit 0)with
    |true=> .ok (.int .i64 (.ofNat (nat_lit 0))) h
    |false=>match Nat.beq es es',h.get b with
    |true,some (.cells el false nb d t)=>
     match Nat.ble (Nat.add off (Nat.mul len es)) nb,ones new with
     |true,true=>sN (Bool.rec len n (Nat.ble n len)) fun m=>
      .ok (.int .i64 (.ofNat m)) (h.set b (.cells el false nb d (Z9 d (H8 new (Nat.mul m es)) off t)))
     |_,_=> .fail
    |_,_=> .fail
  |_=> .fail
def oL:AV→Option Str→Option Str:=
 Fb (fun a=>a) (fun c _ ih a=>match c,a with
  | .int .u8 (.ofNat n),some s=>match Nat.ble n (nat_lit 255)with
    |true=>sN (Nat.add (Nat.mul s.val (nat_lit 256)) n) fun v=>ih (some ⟨Nat.succ s.len,v⟩)
    |false=>none
  |_,_=>none)
def Wy (o:Option Str) (h:H):bJ:=
 match o with
 |some s=> .ok (.str s) h
 |none=> .fail
def vld (r:Nat):Bool:=Bool.rec (Bool.rec false (Nat.ble r (nat_lit 1114111)) (Nat.ble (nat_lit 57344) r)) true (Nat.ble (Nat.succ r) (nat_lit 55296))
def enc1 (c:Nat):Str:=
 Bool.rec (Bool.rec (Bool.rec
  ⟨nat_lit 4,Nat.add (Nat.mul (Nat.add (Nat.mul (Nat.add (Nat.mul (Nat.add (nat_lit 240) (Nat.div c (nat_lit 262144))) (nat_lit 256)) (Nat.add (nat_lit 128) (Nat.mod (Nat.div c (nat_lit 4096)) (nat_lit 64)))) (nat_lit 256)) (Nat.add (nat_lit 128) (Nat.mod (Nat.div c (nat_lit 64)) (nat_lit 64)))) (nat_lit 256)) (Nat.add (nat_lit 128) (Nat.mod c (nat_lit 64)))⟩
  ⟨nat_lit 3,Nat.add (Nat.mul (Nat.add (Nat.mul (Nat.add (nat_lit 224) (Nat.div c (nat_lit 4096))) (nat_lit 256)) (Nat.add (nat_lit 128) (Nat.mod (Nat.div c (nat_lit 64)) (nat_lit 64)))) (nat_lit 256)) (Nat.add (nat_lit 128) (Nat.mod c (nat_lit 64)))⟩ (Nat.ble (Nat.succ c) (nat_lit 65536)))
  ⟨nat_lit 2,Nat.add (Nat.mul (Nat.add (nat_lit 192) (Nat.div c (nat_lit 64))) (nat_lit 256)) (Nat.add (nat_lit 128) (Nat.mod c (nat_lit 64)))⟩ (Nat.ble (Nat.succ c) (nat_lit 2048)))
  ⟨nat_lit 1,c⟩ (Nat.ble (Nat.succ c) (nat_lit 128))
def encR (r:Int):Str:=
 Int.rec (motive:=fun _=>Str) (fun c=>enc1 (Bool.rec (nat_lit 65533) c (vld c))) (fun _=>enc1 (nat_lit 65533)) r
def cont (s:Str) (i:Nat):Bool:=Bool.rec false (Nat.beq (Nat.div (s.byte i) (nat_lit 64)) (nat_lit 2)) (Nat.ble (Nat.succ i) s.len)
def aA (a b:Bool):Bool:=Bool.rec false b a
def lo6 (s:Str) (i:Nat):Nat:=Nat.mod (s.byte i) (nat_lit 64)
def aaB (s:Str) (i:Nat) (k:Nat→Nat→bJ):bJ:=
 sN (s.byte i) fun b0=>
 match Nat.ble (Nat.succ b0) (nat_lit 128)with
 |true=>k b0 (nat_lit 1)
 |false=>match aA (Nat.beq (Nat.div b0 (nat_lit 32)) (nat_lit 6)) (cont s (Nat.add i (nat_lit 1)))with
  |true=>sN (Nat.add (Nat.mul (Nat.mod b0 (nat_lit 32)) (nat_lit 64)) (lo6 s (Nat.add i (nat_lit 1)))) fun c=>
   Bool.rec (k (nat_lit 65533) (nat_lit 1)) (k c (nat_lit 2)) (Nat.ble (nat_lit 128) c)
  |false=>match aA (Nat.beq (Nat.div b0 (nat_lit 16)) (nat_lit 14)) (aA (cont s (Nat.add i (nat_lit 1))) (cont s (Nat.add i (nat_lit 2))))with
   |true=>sN (Nat.add (Nat.add (Nat.mul (Nat.mod b0 (nat_lit 16)) (nat_lit 4096)) (Nat.mul (lo6 s (Nat.add i (nat_lit 1))) (nat_lit 64))) (lo6 s (Nat.add i (nat_lit 2)))) fun c=>
    Bool.rec (k (nat_lit 65533) (nat_lit 1)) (k c (nat_lit 3)) (aA (Nat.ble (nat_lit 2048) c) (vld c))
   |false=>match aA (Nat.beq (Nat.div b0 (nat_lit 8)) (nat_lit 30)) (aA (cont s (Nat.add i (nat_lit 1))) (aA (cont s (Nat.add i (nat_lit 2))) (cont s (Nat.add i (nat_lit 3)))))with
    |true=>sN (Nat.add (Nat.add (Nat.add (Nat.mul (Nat.mod b0 (nat_lit 8)) (nat_lit 262144)) (Nat.mul (lo6 s (Nat.add i (nat_lit 1))) (nat_lit 4096))) (Nat.mul (lo6 s (Nat.add i (nat_lit 2))) (nat_lit 64))) (lo6 s (Nat.add i (nat_lit 3)))) fun c=>
     Bool.rec (k (nat_lit 65533) (nat_lit 1)) (k c (nat_lit 4)) (aA (Nat.ble (nat_lit 65536) c) (vld c))
    |false=>k (nat_lit 65533) (nat_lit 1)
def Im:Nat:=nat_lit 4194303
def oJ (k:Str):List (Str×AV)→Option AV:=
 List.rec (motive:=fun _=>Option AV) none (fun p _ ih=>Bool.rec ih (some p.2) (p.1.eq k))
def JN (k:Str) (v:AV):List (Str×AV)→List (Str×AV):=
 List.rec (motive:=fun _=>List (Str×AV)) [(k,v)] (fun p r ih=>Bool.rec (p::ih) ((p.1,v)::r) (p.1.eq k))
inductive MK where
 |none
 |ints (k:IntKind)
 |strs
def fq (g:G) (t:Nat):MK:=
 match g.ty t with
 |some {desc:= .map k _, ..}=>match g.ty k with
  |some {desc:= .int kd, ..}=> .ints kd
  |some {desc:= .string, ..}=> .strs
  |_=> .none
 |_=> .none
def mapKey (kind:MK) (x:xR) (key:AV) (fi:IntKind→Nat→Nat→E (Option AV) 11→Nat→bJ) (fs:Nat→Nat→List (Str×AV)→Str→bJ):bJ:=
 match kind with
 | .ints kt=>(match x,key with
   | .BH kd n c t _, .int kd' (.ofNat i)=>match Nat.ble i Im,Nat.beq (uF kd) (uF kd'),Nat.beq (uF kd) (uF kt)with
     |true,true,true=>fi kd n c t i
     |_,_,_=> .fail
   |_,_=> .fail)
 | .strs=>(match x,key with
   | .smap n c l, .str s=>fs n c l s
   |_,_=> .fail)
 | .none=> .fail
def acW (kind:MK) (key:AV):Bool:=
 match kind with
 | .ints kd=>(match key with
   | .int kd' _=>Nat.beq (uF kd) (uF kd')
   |_=>false)
 | .strs=>(match key with
   | .str _=>true
   |_=>false)
 | .none=>false
def okA (ok:Bool) (v:AV) (b:Bool) (h:H):bJ:=
 match ok with
 |true=> .ok (.iq (.cons v (.cons (.bool b) .nil))) h
 |false=>uE v h
def JO (kind:MK) (zero:AV) (m key:AV) (ok:Bool) (h:H):bJ:=
 match m with
 | .rZ=>(match acW kind key with
   |true=>okA ok zero false h
   |false=> .fail)
 | .map b=>match h.get b with
   |some x=>mapKey kind x key
    (fun _ _ _ t i=>match E.get 11 (path 11 i) t with
     |some v=>okA ok v true h
     |none=>okA ok zero false h)
    (fun _ _ l s=>match oJ s l with
     |some v=>okA ok v true h
     |none=>okA ok zero false h)
   |none=> .fail
 |_=> .fail
def BG (kind:MK) (m key v:AV) (h:H):bJ:=
 match m with
 | .map b=>match h.get b with
   |some x=>mapKey kind x key
    (fun kd n c t i=>match E.get 11 (path 11 i) t with
     |some _=> .ok (.iq .nil) (h.set b (.BH kd n c (E.put (some v) 11 (path 11 i) t) (nat_lit 0)))
     |none=> .ok (.iq .nil) (h.set b (.BH kd (Nat.succ n) (Nat.succ c) (E.put (some v) 11 (path 11 i) t) (nat_lit 0))))
    (fun n c l s=>match oJ s l with
     |some _=> .ok (.iq .nil) (h.set b (.smap n c (JN s v l)))
     |none=> .ok (.iq .nil) (h.set b (.smap (Nat.succ n) (Nat.succ c) (JN s v l))))
   |none=> .fail
 |_=> .fail
def JQ (kind:MK) (zero m key:AV) (h:H):bJ:=
 match m with
 | .map b=>match h.get b with
   |some x=>mapKey kind x key
    (fun kd n c t i=>match E.get 11 (path 11 i) t with
     |some _=> .fail
     |none=> .ok (.iq (.cons zero (.cons (.int .i64 (.ofNat c)) .nil))) (h.set b (.BH kd (Nat.succ n) (Nat.succ c) (E.put (some zero) 11 (path 11 i) t) (Nat.succ i))))
    (fun _ _ _ _=> .fail)
   |none=> .fail
 |_=> .fail
def JR (m s v:AV) (h:H):bJ:=
 match m,s with
 | .map b, .int _ (.ofNat st)=>(match h.get b with
   |some (.BH kd n c t lk)=>(match lk with
    |Nat.succ i=>(match Nat.beq (Nat.succ st) c,Nat.ble i Im with
     |true,true=> .ok (.iq .nil) (h.set b (.BH kd n c (E.put (some v) 11 (path 11 i) t) (nat_lit 0)))
     |_,_=> .fail)
    |0=> .fail)
   |_=> .fail)
 |_,_=> .fail
def Wv (d:TypeDesc) (x:AV) (h:H):bJ:=
 match d with
 | .string=>(match x with
   | .str s=>sN s.len fun n=> .ok (.int .i64 (.ofNat n)) h
   |_=> .fail)
 | .slice _=>(match x with
   | .slice _ _ n _ _=>sN n fun n=> .ok (.int .i64 (.ofNat n)) h
   | .jP=> .ok (.int .i64 (.ofNat (nat_lit 0))) h
   |_=> .fail)
 | .map _ _=>(match x with
   | .rZ=> .ok (.int .i64 (.ofNat (nat_lit 0))) h
   | .map b=>match h.get b with
     |some (.BH _ n _ _ _)=> .ok (.int .i64 (.ofNat n)) h
     |some (.smap n _ _)=> .ok (.int .i64 (.ofNat n)) h
     |_=> .fail
   |_=> .fail)
 |_=> .fail
def mm2:Bool→AV→AV→AV:=Bool.rec (motive:=fun _=>AV→AV→AV)
 (je (fun k a b=> .int k (.ofNat (Bool.rec b a (Nat.ble a b)))) (fun k a b=> .int k (Bool.rec b a (decide (a≤b)))))
 (je (fun k a b=> .int k (.ofNat (Bool.rec a b (Nat.ble a b)))) (fun k a b=> .int k (Bool.rec a b (decide (a≤b)))))
def mmA (gt:Bool) (l:AV):AV:=
 match l with
 | .cons x r=>Fb (fun a=>a) (fun y _ ih a=>ih (mm2 gt a y)) r x
 |_=> .bad
def O1 (x:AV) (h:H):bJ:=
 match x with
 | .str s=>match h.room with
   |true=> .ok (.ptr h.next (nat_lit 0)) (h.new (.iter s (nat_lit 0)))
   |false=> .fail
 |_=> .fail
def LH (x:AV) (h:H):bJ:=
 match x with
 | .ptr b 0=>match h.get b with
   |some (.iter s pos)=>match Nat.ble (Nat.succ pos) s.len with
    |true=>aaB s pos fun r w=>sN (Nat.add pos w) fun p=> .ok (.iq (.cons (.bool true) (.cons (.int .i64 (.ofNat pos)) (.cons (.int .i32 (.ofNat r)) .nil)))) (h.set b (.iter s p))
    |false=> .ok (.iq (.cons (.bool false) .nil)) h
   |_=> .fail
 |_=> .fail
def uP (x:AV) (i:Nat):AV:=
 match x with
 | .iq vs=>Dz vs i
 |_=> .bad
def JY (g:G) (a c:AV):Bool:=
 match a with
 | .uh t _=>(match c with
   | .str s=>(match g.qH t s with
     |some _=>true
     |none=>false)
   |_=>false)
 | .nil=>true
 | .cons _ _=>true
 |_=>false
def oz (g:G) (x:AV):AV:=
 match x with
 | .ptr b o=> .ptr b o
 | .fn f a c=>Bool.rec .bad (.fn f a c) (JY g a c)
 | .xQ l=> .xQ l
 | .uh t v=> .uh t v
 |_=> .bad
def opsL:List Operand→EV:=List.rec (motive:=fun _=>EV) ⟨fun _=> .nil⟩ (fun o _ ih=>⟨fun en=> .cons ((ev o).f en) (ih.f en)⟩)
def J5 (g:G) (t:Nat) (k:Ty→Act):Act:=
 match g.ty t with
 |some y=>k y
 |none=>failA
def zeroV (y:Ty):AV:=y.zv
def LP (g:G) (same:Bool) (src dst:TypeDesc) (x:AV) (h:H):bJ:=
 match dst,x with
 | .slice e, .slice b off (Nat.succ l) es z=>(match same,src,g.ty e with
   |true, .slice _,some {desc:= .int .u8, ..}=>(match h.get b with
    |some (.cells el ro n d t)=>match Nat.ble (nat_lit 2000000) el with
     |true=> .fail
     |false=> .ok (.slice b off (Nat.succ l) es z) (h.set b (.cells el ro n d t))
    |_=> .fail)
   |_,_,_=> .fail)
 | .int k, .int _ n=>frc (wr k n) fun n'=> .ok (.int k n') h
 | .string, .str s=> .ok (.str s) h
 | .string, .int _ n=> .ok (.str (encR n)) h
 | .string, .jP=>(match src with
   | .slice e=>(match g.ty e with
     |some {desc:= .int .u8, ..}=> .ok (.str ⟨nat_lit 0,nat_lit 0⟩) h
     |_=> .fail)
   |_=> .fail)
 | .string, .slice b off len 1 _=>match src with
   | .slice e=>match g.ty e,h.get b with
     |some {desc:= .int .u8, ..},some (.cells _ _ n d t)=>match Nat.ble (Nat.add off len) n with
      |true=>Wy (oL (DY d t len off) (some ⟨nat_lit 0,nat_lit 0⟩)) h
      |false=> .fail
     |_,_=> .fail
   |_=> .fail
 | .slice e, .str s=>match g.ty e with
   |some {desc:= .int .u8, ..}=>row e (aee s s.len) h fun b h'=> .ok (.slice b (nat_lit 0) s.len (nat_lit 1) false) h'
   |_=> .fail
 | .unsafePointer, .oG=>match src with
   | .pointer _=> .ok .oG h
   |_=> .fail
 | .unsafePointer, .ptr b off=>match src with
   | .pointer t=>match g.ty t,h.get b with
     |some y,some (.cells _ _ n _ _)=>match Nat.ble (Nat.succ off) n,Nat.beq y.size (nat_lit 0)with
      |true,false=> .ok (.ptr b off) h
      |_,_=> .fail
     |_,_=> .fail
   |_=> .fail
 | .pointer _, .oG=>match src with
   | .unsafePointer=> .ok .oG h
   |_=> .fail
 | .pointer u, .ptr b 0=>match src with
   | .unsafePointer=>match g.ty u,h.get b with
     |some y,some (.cells el false n d _)=>match Nat.beq el u,Nat.ble (nat_lit 12) d,Nat.ble y.size n,Nat.beq y.size (nat_lit 0)with
      |true,true,true,false=> .ok (.ptr b (nat_lit 0)) h
      |_,_,_,_=> .fail
     |_,_=> .fail
   |_=> .fail
 |_,_=> .fail
def unsafeStrA (g:G) (pt:Nat) (p:AV) (n:Nat) (h:H):bJ:=
 match g.ty pt with
 |some {desc:= .pointer u, ..}=>match n,p with
  |0, .oG=> .ok (.str ⟨nat_lit 0,nat_lit 0⟩) h
  |0, .ptr _ _=> .ok (.str ⟨nat_lit 0,nat_lit 0⟩) h
  |Nat.succ k, .ptr b off=>match g.ty u,h.get b with
   |some {desc:= .int .u8,size:=sz, ..},some (.cells el true nn d t)=>match Nat.beq el (Nat.add u (nat_lit 2000000)),Nat.ble (Nat.add off (Nat.succ k)) nn,Nat.beq sz (nat_lit 1),Nat.ble (Nat.succ k) gP with
    |true,true,true,true=>match oL (DY d t (Nat.succ k) off) (some ⟨nat_lit 0,nat_lit 0⟩)with
     |some s=> .ok (.str s) (h.set b (.cells el true nn d t))
     |none=> .fail
    |_,_,_,_=> .fail
   |some {desc:= .int .u8,size:=sz, ..},some (.cells el false nn d t)=>match Nat.beq el u,Nat.ble (Nat.add off (Nat.succ k)) nn,Nat.beq sz (nat_lit 1),Nat.ble (Nat.succ k) gP,Nat.ble (nat_lit 2000000) el with
    |true,true,true,true,false=>match oL (DY d t (Nat.succ k) off) (some ⟨nat_lit 0,nat_lit 0⟩)with
     |some s=> .ok (.str s) (h.set b (.cells el true nn d t))
     |none=> .fail
    |_,_,_,_,_=> .fail
   |_,_=> .fail
  |_,_=> .fail
 |_=> .fail
def Pd (g:G) (b:Builtin) (ts:List TypeId) (args:AV) (h:H):bJ:=
 match b,args with
 | .append, .cons s (.cons x .nil)=>match ts with
   |[t,u]=>match g.ty t,g.ty u with
     |some {desc:= .slice e, ..},some {desc:= .slice _, ..}=>(match g.ty e with
      |some y=>J4 e y.size y.bytes s x h
      |none=> .fail)
     |some {desc:= .slice e, ..},some {desc:= .string, ..}=>(match g.ty e with
      |some y=>J4 e y.size y.bytes s x h
      |none=> .fail)
     |some {desc:= .slice e, ..},some {desc:= .int _, ..}=>(match g.ty e,x with
      |some y, .int _ (.ofNat n)=>(match Nat.ble (Nat.mul n y.bytes) gP,Nat.ble n gP with
       |true,true=>zG e y.size y.bytes s h (JD y.zero n) n
       |_,_=> .fail)
      |_,_=> .fail)
     |_,_=> .fail
   |_=> .fail
 | .copy, .cons d (.cons s .nil)=>match ts with
   |t::_=>match g.ty t with
    |some {desc:= .slice e, ..}=>(match g.ty e with
     |some y=>WE y.size d s h
     |none=> .fail)
    |_=> .fail
   |[]=> .fail
 | .cap, .cons x .nil=>(match ts with
   |t::_=>(match g.ty t with
    |some {desc:= .slice _, ..}=>(match x with
     | .jP=> .ok (.int .i64 (.ofNat (nat_lit 0))) h
     | .slice _ _ _ _ true=> .ok (.int .i64 (.ofNat (nat_lit 0))) h
     |_=> .fail)
    |_=> .fail)
   |[]=> .fail)
 | .max,l=>uE (mmA true l) h
 | .min,l=>uE (mmA false l) h
 | .unsafeSliceData, .cons x .nil=>(match x with
   | .jP=> .ok .oG h
   | .slice b off (Nat.succ _) _ _=> .ok (.ptr b off) h
   |_=> .fail)
 | .unsafeString, .cons p (.cons (.int _ (.ofNat n)) .nil)=>(match ts with
   |pt::_=>unsafeStrA g pt p n h
   |[]=> .fail)
 |_,_=> .fail
def yB (e:Nat) (y:Ty) (l c:AV) (h:H):bJ:=
 ET .fail (fun n=>ET .fail (fun m=>match Nat.ble n m,Nat.ble (Nat.mul m y.bytes) gP,Nat.ble m gP with
  |true,true,true=>row e (JD y.zero m) h fun b h'=> .ok (.slice b (nat_lit 0) n y.size false) h'
  |_,_,_=> .fail) c) l
def qW (kind:MK) (h:H):bJ:=
 match h.room,kind with
 |true, .ints k=> .ok (.map h.next) (h.new (.BH k (nat_lit 0) (nat_lit 0) (E.rep none 11) (nat_lit 0)))
 |true, .strs=> .ok (.map h.next) (h.new (.smap (nat_lit 0) (nat_lit 0) []))
 |_,_=> .fail
def mapElem (g:G) (t:Nat) (k:Ty→Act):Act:=
 match g.ty t with
 |some {desc:= .map _ e, ..}=>J5 g e k
 |_=>failA
def fieldT (g:G) (s f:Nat) (k:Field→Ty→Act):Act:=
 match g.ty s with
 |some {desc:= .struct fs, ..}=>match fs[f]? with
  |some fd=>J5 g fd.type fun y=>k fd y
  |none=>failA
 |_=>failA
def CQ (g:G) (t:Nat) (k:Nat→Option Nat→Ty→Act):Act:=
 match g.ty t with
 |some {desc:= .slice e, ..}=>J5 g e fun y=>k e none y
 |some {desc:= .array n e, ..}=>J5 g e fun y=>k e (some n) y
 |_=>failA
def placesOf (g:G) (y:Ty):Nat→Option (Nat×Nat):=
 match y.desc with
 | .struct fs=>fun i=>match fs[i]? with
   |some fd=>match g.ty fd.type with
    |some z=>some (fd.offset,z.size)
    |none=>none
   |none=>none
 | .array _ e=>fun i=>match g.ty e with
   |some z=>some (Nat.mul i z.size,z.size)
   |none=>none
 |_=>fun _=>none
def Ls (g:G) (d:TypeDesc):Bool:=
 match d with
 | .struct fs=>fs.toList.all fun f=>(g.ty f.type).isSome
 | .array _ e=>(g.ty e).isSome
 |_=>false
def onB (b:Bool) (a:Act):Act:=Bool.rec (motive:=fun _=>Act) failA a b
def zx (v:AV) (h:H):bJ:=
 match isL v with
 |true=> .ok (.agg v) h
 |false=> .fail
def isC:Operand→Bool:=Operand.rec (motive:=fun _=>Bool) (fun _=>false) (fun _=>true) (fun _=>false) (fun _=>false)
def JB:AV→H→bJ:=
 AV.rec (motive:=fun _=>H→bJ) (fun h=> .ok .bad h) (fun h=> .ok .unk h) (fun b h=> .ok (.bool b) h) (fun k n h=>frc n fun n'=> .ok (.int k n') h) (fun s h=> .ok (.str s) h) (fun b o h=> .ok (.ptr b o) h)
  (fun h=> .ok .oG h) (fun b o n s z h=> .ok (.slice b o n s z) h) (fun h=> .ok .jP h) (fun b h=> .ok (.map b) h) (fun h=> .ok .rZ h)
  (fun f x y _ _ h=> .ok (.fn f x y) h) (fun l h=> .ok (.xQ l) h) (fun h=> .ok .r9 h) (fun t v _ h=> .ok (.uh t v) h) (fun h=> .ok .qP h)
  (fun cs _ h=> .ok (.agg cs) h) (fun vs _ h=> .ok (.iq vs) h) (fun _=> .fail) (fun _ _ _ _ _=> .fail)
def ahe (f:EV):Act:=⟨fun en h=>JB (f.f en) h⟩
def aem (u:U1) (f:EV):Act:=⟨fun en h=>uE (u.f (f.f en)) h⟩
def alS (u:B2) (f g:EV):Act:=⟨fun en h=>uE (u.f (f.f en) (g.f en)) h⟩
def aen (u:A1) (f:EV):Act:=⟨fun en h=>u.f (f.f en) h⟩
def aaS (u:A2) (f g:EV):Act:=⟨fun en h=>u.f (f.f en) (g.f en) h⟩
def aaT (c a b:EV):Act:=⟨fun en h=>OB.rec (motive:=fun _=>bJ) .fail (uE (b.f en) h) (uE (a.f en) h) (toB (c.f en))⟩
def eqK (g:G) (t:Nat):EK:=
 match g.ty t with
 |some {desc:= .bool, ..}=> .bool
 |some {desc:= .pointer e, ..}=>(match g.ty e with
  |some y=>Bool.rec .ptr .none (Nat.beq y.size (nat_lit 0))
  |none=> .none)
 |some {desc:= .slice _, ..}=> .slice
 |some {desc:= .map _ _, ..}=> .map
 |some {desc:= .func _ _ _, ..}=> .func
 |some {desc:= .interface _, ..}=> .iface
 |_=>match g.eq2 t with
  |true=> .two
  |false=> .none
def ahf (g:G) (t:Nat) (y:Ty):Bool:=
 match y.desc with
 | .struct fs=>(match fs.toList with
   |[f,_]=>(match g.ty f.type with
     |some {desc:= .pointer u, ..}=>Nat.beq u t
     |_=>false)
   |_=>false)
 |_=>false
def Hw (g:G) (o:Op):Act:=
 match o with
 | .move x=>ahe (ev x)
 | .assign x=>ahe (ev x)
 | .pick c a b=>aaT (ev c) (ev a) (ev b)
 | .alloc t=>J5 g t fun y=>match ahf g t y with
   |true=>Act.mk fun _ h=>ad8 t y.zero h fun b h'=> .ok (.ptr b (nat_lit 0)) h'
   |false=>Act.mk fun _ h=>row t y.zero h fun b h'=> .ok (.ptr b (nat_lit 0)) h'
 | .box t x=>Act.mk fun en h=>row t (cellsOf ((ev x).f en)) h fun b h'=> .ok (.ptr b (nat_lit 0)) h'
 | .build t ps=>J5 g t fun y=>onB (Ls g y.desc)<|Act.mk fun en h=>zx (fillA (placesOf g y) en ps.toList y.zero) h
 | .buildSlice t n ps=>CQ g t fun e arr y=>match arr with
   |none=>Act.mk fun en h=>match Nat.ble (Nat.mul n y.size) (nat_lit 100000),fillA (fun i=>some (Nat.mul i y.size,y.size)) en ps.toList (JD y.zero n)with
    |true,cs=>(match isL cs with
     |true=>row e cs h fun b h'=> .ok (match n with|0=> .slice b (nat_lit 0) (nat_lit 0) y.size true|_=> .slice b (nat_lit 0) n y.size false) h'
     |false=> .fail)
    |false,_=> .fail
   |some _=>failA
 | .load t a=>J5 g t fun y=>aen (qQ y.agg y.size) (ev a)
 | .store t a x=>J5 g t fun y=>aaS (ER y.agg y.size) (ev a) (ev x)
 | .nilCheck x=>aem ⟨oz g⟩ (ev x)
 | .binOp op t x y _=>alS (V3 op (Bool.rec (isC y) true (isC x)) (eqK g t)) (ev x) (ev y)
 | .unOp op _ x=>aem (uop op) (ev x)
 | .convert s d x=>J5 g s fun ys=>J5 g d fun yd=>Act.mk fun en h=>LP g (Nat.beq s d) ys.desc yd.desc ((ev x).f en) h
 | .makeInterface t x=>J5 g t fun y=>match y.desc with
   | .interface _=>failA
   |_=>Act.mk fun en h=>match(ev x).f en with
    | .bad=> .fail
    |v=> .ok (.uh t v) h
 | .makeFunc fn fs cs=>match fn with
   | .func f=>Act.mk fun en h=> .ok (.fn f ((opsL fs.toList).f en) ((opsL cs.toList).f en)) h
   | .method nm=>(match fs.toList,cs.toList with
     |[o],[]=>Act.mk fun en h=>match(ev o).f en with
       | .uh t x=> .ok (.fn (nat_lit 0) (.uh t x) (.str (Str.of nm.toUTF8))) h
       |_=> .fail
     |_,_=>failA)
   |_=>failA
 | .makeMap t r=>match r with
   |none=>Act.mk fun _ h=>qW (fq g t) h
   |some x=>Act.mk fun en h=>match(ev x).f en with
    | .int _ _=>qW (fq g t) h
    |_=> .fail
 | .makeSlice t l c=>CQ g t fun e arr y=>match arr with
   |none=>Act.mk fun en h=>yB e y ((ev l).f en) ((ev c).f en) h
   |some _=>failA
 | .slice t x lo hi mx=>match g.ty t with
   |some {desc:= .slice e, ..}=>J5 g e fun y=>onB (aeb hi mx) (EU y.size (ev x) lo hi mx)
   |some {desc:= .string, ..}=>(match mx with
    |none=>qV (ev x) lo hi
    |some _=>failA)
   |some {desc:= .array n e, ..}=>J5 g e fun y=>ow y.size n (ev x) lo hi mx
   |_=>failA
 | .fieldAddr s x f=>fieldT g s f fun fd y=>match y.size with
   |Nat.succ _=>aen ⟨OJ (fieldA fd.offset)⟩ (ev x)
   |0=>failA
 | .field s x f=>fieldT g s f fun fd y=>Act.mk fun en h=>match(ev x).f en with
   | .agg cs=>Lr y.agg y.size fd.offset cs h
   |_=> .fail
 | .indexAddr t x i=>CQ g t fun _ arr y=>match arr with
   |none=>aaS ⟨Wn y.size⟩ (ev x) (ev i)
   |some n=>aaS ⟨Wo n y.size⟩ (ev x) (ev i)
 | .index t x i=>match g.ty t with
   |some {desc:= .string, ..}=>aaS ⟨ES⟩ (ev x) (ev i)
   |some {desc:= .array n e, ..}=>J5 g e fun y=>Act.mk fun en h=>OZ n y.agg y.size ((ev x).f en) ((ev i).f en) h
   |_=>failA
 | .lookup t x i ok=>mapElem g t fun y=>Act.mk fun en h=>JO (fq g t) (zeroV y) ((ev x).f en) ((ev i).f en) ok h
 | .mapUpdate t m k x=>Act.mk fun en h=>match(ev x).f en with
   | .bad=> .fail
   |v=>BG (fq g t) ((ev m).f en) ((ev k).f en) v h
 | .insert t m k x=>Act.mk fun en h=>match(ev x).f en with
   | .bad=> .fail
   |v=>BG (fq g t) ((ev m).f en) ((ev k).f en) v h
 | .mapEntry t m k=>mapElem g t fun y=>Act.mk fun en h=>JQ (fq g t) (zeroV y) ((ev m).f en) ((ev k).f en) h
 | .entryStore _ m s x=>Act.mk fun en h=>match(ev x).f en with
   | .bad=> .fail
   |v=>JR ((ev m).f en) ((ev s).f en) v h
 | .range t x=>(match g.ty t with
   |some {desc:= .string, ..}=>Act.mk fun en h=>O1 ((ev x).f en) h
   |_=>failA)
 | .next it s=>match s with
   |true=>Act.mk fun en h=>LH ((ev it).f en) h
   |false=>failA
 | .extract x i=>aem ⟨fun v=>uP v i⟩ (ev x)
 | .call c=>match c.callee with
   | .builtin b=>match b,c.argTypes.toList,c.args.toList with
     | .len,t::_,[x]=>(match g.ty t with
       |some {desc:= .array n _, ..}=>Act.mk fun _ h=> .ok (.int .i64 (.ofNat n)) h
       |some {desc:= .pointer _, ..}=>failA
       |some y=>aen ⟨Wv y.desc⟩ (ev x)
       |none=>failA)
     |_,ts,as=>Act.mk fun en h=>Pd g b ts ((opsL as).f en) h
   |_=>failA
 |_=>failA
end
end Go.Proofs.YtocaiijbhepnnaaGreatDoor.Am
