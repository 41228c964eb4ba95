/- The abstract machine, second part: operations on values; operations that do not call. -/
import Derived.Test.YtocaiijbhepnnaaGreatDoorAmS
namespace Go.Proofs.YtocaiijbhepnnaaGreatDoor.Am
noncomputable section
def Fw {β:Type} (z:β) (c:AV→AV→β→β):AV→β:=
 AV.rec (motive:=fun _=>β) z z (fun _=>z) (fun _ _=>z) (fun _=>z) (fun _ _=>z) z (fun _ _ _ _ _=>z) z (fun _=>z) z
  (fun _ _ _ _ _=>z) (fun _=>z) z (fun _ _ _=>z) z (fun _ _=>z) (fun _ _=>z) z (fun h t _ ih=>c h t ih)
def llen:AV→Nat:=Fw (nat_lit 0) (fun _ _ n=>Nat.succ n)
def DV:AV→Nat→AV:=Fw (fun _=> .bad) (fun h _ ih i=>Bool.rec (ih (Nat.pred i)) h (Nat.beq i (nat_lit 0)))
def l9:AV→AV→AV:=Fw (fun y=>y) (fun h _ ih y=> .cons h (ih y))
def Il:AV→Nat→AV:=Fw (fun _=> .nil) (fun h _ ih n=>Bool.rec (.cons h (ih (Nat.pred n))) .nil (Nat.beq n (nat_lit 0)))
def Im:AV→Nat→AV:=Fw (fun _=> .nil) (fun h t ih n=>Bool.rec (ih (Nat.pred n)) (.cons h t) (Nat.beq n (nat_lit 0)))
def one:AV→Bool:=
 AV.rec (motive:=fun _=>Bool) false true (fun _=>true) (fun _ _=>true) (fun _=>true) (fun _ _=>true) true (fun _ _ _ _ _=>true) true (fun _=>true) true
  (fun _ _ _ _ _=>true) (fun _=>true) true (fun _ _ _=>true) true (fun _ _=>false) (fun _ _=>false) false (fun _ _ _ _=>false)
def ones:AV→Bool:=Fw true (fun h _ ih=>Bool.rec false ih (one h))
def cellsOf:AV→AV:=
 AV.rec (motive:=fun _=>AV) .nil (.cons .unk .nil) (fun b=> .cons (.bool b) .nil) (fun k n=> .cons (.int k n) .nil) (fun s=> .cons (.str s) .nil) (fun b o=> .cons (.ptr b o) .nil)
  (.cons .oK .nil) (fun b o n s z=> .cons (.slice b o n s z) .nil) (.cons .jO .nil) (fun b=> .cons (.map b) .nil) (.cons .sF .nil)
  (fun f x y _ _=> .cons (.fn f x y) .nil) (fun l=> .cons (.xY l) .nil) (.cons .sG .nil) (fun t v _=> .cons (.uy t v) .nil) (.cons .qX .nil)
  (fun cs _=>cs) (fun _ _=> .nil) .nil (fun _ _ _ _=> .nil)
inductive bF where
 |fail
 |ok (v:AV) (h:H)
def frc (n:Int) (f:Int→bF):bF:=
 Int.rec (motive:=fun _=>bF) (fun m=>sN m fun m'=>f (.ofNat m')) (fun m=>sN m fun m'=>f (.negSucc m')) n
theorem frc_eq (n:Int) (f:Int→bF):frc n f=f n:=by cases n<;>simp[frc,qg]
def uJ:AV→H→bF:=
 AV.rec (motive:=fun _=>H→bF) (fun _=> .fail) (fun h=> .ok .unk h) (fun b h=> .ok (.bool b) h) (fun k n h=>frc n fun n'=> .ok (.int k n') h) (fun s h=> .ok (.str s) h) (fun b o h=> .ok (.ptr b o) h)
  (fun h=> .ok .oK h) (fun b o n s z h=> .ok (.slice b o n s z) h) (fun h=> .ok .jO h) (fun b h=> .ok (.map b) h) (fun h=> .ok .sF h)
  (fun f x y _ _ h=> .ok (.fn f x y) h) (fun l h=> .ok (.xY l) h) (fun h=> .ok .sG h) (fun t v _ h=> .ok (.uy t v) h) (fun h=> .ok .qX h)
  (fun cs _ h=> .ok (.agg cs) h) (fun vs _ h=> .ok (.ig vs) h) (fun _=> .fail) (fun _ _ _ _ _=> .fail)
inductive OI where
 |none
 |nn (k:IntKind) (n:Nat)
 |ng (k:IntKind) (m:Nat)
def toI:AV→OI:=
 AV.rec (motive:=fun _=>OI) .none .none (fun _=> .none) (fun k n=>Int.rec (motive:=fun _=>OI) (OI.nn k) (OI.ng k) n) (fun _=> .none) (fun _ _=> .none) .none (fun _ _ _ _ _=> .none) .none (fun _=> .none) .none
  (fun _ _ _ _ _=> .none) (fun _=> .none) .none (fun _ _ _=> .none) .none (fun _ _=> .none) (fun _ _=> .none) .none (fun _ _ _ _=> .none)
inductive OS where
 |none
 |some (s:Str)
def toS:AV→OS:=
 AV.rec (motive:=fun _=>OS) .none .none (fun _=> .none) (fun _ _=> .none) (fun s=> .some s) (fun _ _=> .none) .none (fun _ _ _ _ _=> .none) .none (fun _=> .none) .none
  (fun _ _ _ _ _=> .none) (fun _=> .none) .none (fun _ _ _=> .none) .none (fun _ _=> .none) (fun _ _=> .none) .none (fun _ _ _ _=> .none)
inductive OB where
 |none
 |f
 |t
def toB:AV→OB:=
 AV.rec (motive:=fun _=>OB) .none .none (fun b=>Bool.rec .f .t b) (fun _ _=> .none) (fun _=> .none) (fun _ _=> .none) .none (fun _ _ _ _ _=> .none) .none (fun _=> .none) .none
  (fun _ _ _ _ _=> .none) (fun _=> .none) .none (fun _ _ _=> .none) .none (fun _ _=> .none) (fun _ _=> .none) .none (fun _ _ _ _=> .none)
inductive OP where
 |none
 |at(b off:Nat)
def toP:AV→OP:=
 AV.rec (motive:=fun _=>OP) .none .none (fun _=> .none) (fun _ _=> .none) (fun _=> .none) OP.at .none (fun _ _ _ _ _=> .none) .none (fun _=> .none) .none
  (fun _ _ _ _ _=> .none) (fun _=> .none) .none (fun _ _ _=> .none) .none (fun _ _=> .none) (fun _ _=> .none) .none (fun _ _ _ _=> .none)
inductive OL where
 |none
 |nil
 |at(b off len es:Nat) (z:Bool)
def toL:AV→OL:=
 AV.rec (motive:=fun _=>OL) .none .none (fun _=> .none) (fun _ _=> .none) (fun _=> .none) (fun _ _=> .none) .none OL.at .nil (fun _=> .none) .none
  (fun _ _ _ _ _=> .none) (fun _=> .none) .none (fun _ _ _=> .none) .none (fun _ _=> .none) (fun _ _=> .none) .none (fun _ _ _ _=> .none)
def Lx:IntKind→Nat:=IntKind.rec (motive:=fun _=>Nat) (nat_lit 127) (nat_lit 32767) (nat_lit 2147483647) (nat_lit 9223372036854775807)
 (nat_lit 255) (nat_lit 65535) (nat_lit 4294967295) (nat_lit 18446744073709551615)
def TV:IntKind→Nat:=IntKind.rec (motive:=fun _=>Nat) (nat_lit 128) (nat_lit 32768) (nat_lit 2147483648) (nat_lit 9223372036854775808)
 (nat_lit 0) (nat_lit 0) (nat_lit 0) (nat_lit 0)
def uK:IntKind→Nat:=IntKind.rec (motive:=fun _=>Nat) (nat_lit 0) (nat_lit 1) (nat_lit 2) (nat_lit 3) (nat_lit 4) (nat_lit 5) (nat_lit 6) (nat_lit 7)
def wrN (k:IntKind) (m:Nat):Int:=Bool.rec (k.wrap (.ofNat m)) (.ofNat m) (Nat.ble m (Lx k))
def wr (k:IntKind) (n:Int):Int:=
 Int.rec (motive:=fun _=>Int) (wrN k)
  (fun m=>Bool.rec (k.wrap (.negSucc m)) (.negSucc m) (Nat.ble (Nat.succ m) (TV k))) n
def mk (k:IntKind) (n:Int):AV:= .int k (wr k n)
def mkN (k:IntKind) (n:Nat):AV:= .int k (wrN k n)
def jd (fast:IntKind→Nat→Nat→AV) (slow:IntKind→Int→Int→AV):AV→AV→AV:=fun x y=>
 OI.rec (motive:=fun _=>AV) .bad
  (fun k a=>OI.rec (motive:=fun _=>AV) .bad (fun k' b=>Bool.rec .bad (fast k a b) (Nat.beq (uK k) (uK k'))) (fun k' b=>Bool.rec .bad (slow k (.ofNat a) (.negSucc b)) (Nat.beq (uK k) (uK k'))) (toI y))
  (fun k a=>OI.rec (motive:=fun _=>AV) .bad (fun k' b=>Bool.rec .bad (slow k (.negSucc a) (.ofNat b)) (Nat.beq (uK k) (uK k'))) (fun k' b=>Bool.rec .bad (slow k (.negSucc a) (.negSucc b)) (Nat.beq (uK k) (uK k'))) (toI y))
  (toI x)
def zF:IntKind→Int→Int→AV:=fun _ _ _=> .bad
def ahh (k:IntKind) (a b:Int):AV:= .int k (k.wrap ((BitVec.ofInt k.bits a&&&BitVec.ofInt k.bits b).toNat:Int))
def Ei (k:IntKind) (a b:Int):AV:= .int k (k.wrap ((BitVec.ofInt k.bits a&&&~~~ BitVec.ofInt k.bits b).toNat:Int))
def orS (k:IntKind) (a b:Int):AV:= .int k (k.wrap ((BitVec.ofInt k.bits a|||BitVec.ofInt k.bits b).toNat:Int))
def aex (k:IntKind) (a b:Int):AV:= .int k (k.wrap ((BitVec.ofInt k.bits a^^^BitVec.ofInt k.bits b).toNat:Int))
def ahf (k:IntKind) (a b:Nat):AV:=mkN k (Nat.add a b)
def aaP (k:IntKind) (a b:Nat):AV:=Bool.rec (mk k (Int.sub (.ofNat a) (.ofNat b))) (mkN k (Nat.sub a b)) (Nat.ble b a)
def aew (k:IntKind) (a b:Nat):AV:=mkN k (Nat.mul a b)
def Wo (k:IntKind) (a b:Nat):AV:=Bool.rec (mkN k (Nat.div a b)) .bad (Nat.beq b (nat_lit 0))
def Wp (k:IntKind) (a b:Nat):AV:=Bool.rec (.int k (.ofNat (Nat.mod a b))) .bad (Nat.beq b (nat_lit 0))
def JR (f:Nat→Nat→Nat) (k:IntKind) (a b:Nat):AV:=Bool.rec .bad (Bool.rec .bad (.int k (.ofNat (f a b))) (Nat.ble b (Lx k))) (Nat.ble a (Lx k))
def DW (b:Bool):Bool:=Bool.rec true false b
def eqF (_:IntKind) (a b:Nat):AV:= .bool (Nat.beq a b)
def neF (_:IntKind) (a b:Nat):AV:= .bool (DW (Nat.beq a b))
def ltF (_:IntKind) (a b:Nat):AV:= .bool (Nat.ble (Nat.succ a) b)
def leF (_:IntKind) (a b:Nat):AV:= .bool (Nat.ble a b)
def gtF (_:IntKind) (a b:Nat):AV:= .bool (Nat.ble (Nat.succ b) a)
def geF (_:IntKind) (a b:Nat):AV:= .bool (Nat.ble b a)
def aes (k:IntKind) (a n:Nat):AV:=Bool.rec .bad (mkN k (Nat.mul a (Nat.pow (nat_lit 2) n))) (Nat.ble n k.bits)
def aeu (k:IntKind) (a n:Nat):AV:=Bool.rec .bad (.int k (.ofNat (Nat.div a (Nat.pow (nat_lit 2) n)))) (Nat.ble n k.bits)
def BK (f:IntKind→Nat→Nat→AV):AV→AV→AV:=fun x y=>
 OI.rec (motive:=fun _=>AV) .bad (fun k a=>OI.rec (motive:=fun _=>AV) .bad (fun _ b=>f k a b) (fun _ _=> .bad) (toI y)) (fun _ _=> .bad) (toI x)
def ahe (k:IntKind) (x:Int) (n:Nat):AV:=Bool.rec .bad (.int k (x.fdiv (2^n))) (Nat.ble n k.bits)
def aev (x y:AV):AV:=
 match x,y with
 | .int k (.negSucc a), .int _ (.ofNat n)=>ahe k (.negSucc a) n
 |x,y=>BK aeu x y
def Str.lt (a b:Str):Bool:=
 Bool.rec
  (Nat.ble (Nat.succ (Nat.shiftRight a.val (Nat.mul (nat_lit 8) (Nat.sub a.len b.len)))) b.val)
  (Nat.ble (Nat.succ a.val) (Nat.add (Nat.shiftRight b.val (Nat.mul (nat_lit 8) (Nat.sub b.len a.len))) (Bool.rec (nat_lit 0) (nat_lit 1) (Nat.ble (Nat.succ a.len) b.len))))
  (Nat.ble a.len b.len)
def str2 (f:Str→Str→AV) (g:AV→AV→AV):AV→AV→AV:=fun x y=>
 OS.rec (motive:=fun _=>AV) (g x y) (fun a=>OS.rec (motive:=fun _=>AV) .bad (fun b=>f a b) (toS y)) (toS x)
def H7 (a b:Bool):Bool:=Bool.rec (Bool.rec true false b) b a
inductive EK where
 |none|bool|ptr|slice|map|func|iface|two
def eqI:Int→Int→Bool
 | .ofNat a, .ofNat b=>Nat.beq a b
 | .negSucc a, .negSucc b=>Nat.beq a b
 |_,_=>false
def aen (a b:Bool):Bool:=Bool.rec false b a
def H8 (e:EK) (c:Bool) (r:Bool→AV):AV→AV→AV:=fun x y=>
 match e with
 | .bool=>(match x,y with
   | .bool a, .bool b=>r (H7 a b)
   |_,_=> .bad)
 | .ptr=>(match x,y with
   | .oK, .oK=>r true
   | .oK, .ptr _ _=>r false
   | .ptr _ _, .oK=>r false
   | .ptr a i, .ptr b j=>Bool.rec .bad (r (Nat.beq i j)) (Nat.beq a b)
   |_,_=> .bad)
 | .slice=>(match x,y with
   | .jO, .jO=>r true
   | .jO, .slice _ _ _ _ _=>r false
   | .slice _ _ _ _ _, .jO=>r false
   |_,_=> .bad)
 | .map=>(match x,y with
   | .sF, .sF=>r true
   | .sF, .map _=>r false
   | .map _, .sF=>r false
   |_,_=> .bad)
 | .func=>(match x,y with
   | .sG, .sG=>r true
   | .sG, .fn _ _ _=>r false
   | .fn _ _ _, .sG=>r false
   | .sG, .xY _=>r false
   | .xY _, .sG=>r false
   |_,_=> .bad)
 | .iface=>(match x,y with
   | .qX, .qX=>Bool.rec .bad (r true) c
   | .qX, .uy _ _=>r false
   | .uy _ _, .qX=>r false
   |_,_=> .bad)
 | .two=>(match x,y with
   | .agg (.cons (.int k a) (.cons (.int l b) .nil)), .agg (.cons (.int k' a') (.cons (.int l' b') .nil))=>
     Bool.rec .bad (r (aen (eqI a a') (eqI b b'))) (aen (Nat.beq (uK k) (uK k')) (Nat.beq (uK l) (uK l')))
   |_,_=> .bad)
 | .none=> .bad
def rT (b:Bool):AV:= .bool b
def rF (b:Bool):AV:= .bool (DW b)
def ahs:AV→AV→AV:=fun _ _=> .bad
def sEq (a b:Str):AV:= .bool (a.eq b)
def sNe (a b:Str):AV:= .bool (DW (a.eq b))
def sLt (a b:Str):AV:= .bool (a.lt b)
def ahg (a b:Str):AV:=Bool.rec .bad (.str (a.app b)) (Nat.ble (Nat.add a.len b.len) (nat_lit 4611686018427387904))
def orI (f g:AV→AV→AV):AV→AV→AV:=fun x y=>
 OI.rec (motive:=fun _=>AV) (g x y) (fun _ _=>f x y) (fun _ _=>f x y) (toI x)
def Wu (op:BinOp) (c:Bool) (e:EK):B2:=
 BinOp.rec (motive:=fun _=>B2)
  ⟨orI (jd ahf fun k a b=>mk k (Int.add a b)) (str2 ahg ahs)⟩
  ⟨jd aaP fun k a b=>mk k (Int.sub a b)⟩
  ⟨jd aew fun k a b=>mk k (Int.mul a b)⟩
  ⟨jd Wo zF⟩
  ⟨jd Wp zF⟩
  ⟨jd (JR Nat.land) ahh⟩
  ⟨jd (JR Nat.lor) orS⟩
  ⟨jd (JR Nat.xor) aex⟩
  ⟨BK aes⟩ ⟨aev⟩ ⟨jd (fun k a b=>Ei k (.ofNat a) (.ofNat b)) Ei⟩
  ⟨orI (jd eqF fun _ a b=> .bool (decide (a=b))) (str2 sEq (H8 e c rT))⟩
  ⟨orI (jd neF fun _ a b=> .bool (DW (decide (a=b)))) (str2 sNe (H8 e c rF))⟩
  ⟨orI (jd ltF fun _ a b=> .bool (decide (a<b))) (str2 sLt ahs)⟩
  ⟨jd leF fun _ a b=> .bool (decide (a≤b))⟩
  ⟨jd gtF fun _ a b=> .bool (decide (b<a))⟩
  ⟨jd geF fun _ a b=> .bool (decide (b≤a))⟩
  op
def uop1 (op:UnOp):AV→AV:=fun x=>
 match op,x with
 | .not, .bool b=> .bool (DW b)
 | .neg, .int k n=>mk k (Int.sub (.ofNat (nat_lit 0)) n)
 | .xor, .int k n=>aex k (if k.signed then-1 else k.max) n
 |_,_=> .bad
def uop (op:UnOp):U1:=⟨uop1 op⟩
structure Ty where
 desc:TypeDesc
 size:Nat
 bytes:Nat
 agg:Bool
 zero:AV
 zv:AV
structure Fn where
 nt:Nat
 body:Code
 res:List ResultVar
structure G where
 ty:Nat→Option Ty
 fn:Nat→Option Fn
 ext:Nat→Nat
 jh:Nat→AV→H→Option bF
 eq2:Nat→Bool
 qM:Nat→Str→Option Nat
def Xq:Value→AV
 | .bool b=> .bool b
 | .int k n=> .int k n
 | .string s=> .str (Str.of s)
 | .pointer none=> .oK
 | .slice none 0 0=> .jO
 | .map none=> .sF
 | .nilFunc=> .sG
 | .nilIface=> .qX
 |_=> .bad
def uZ:List Value→AV
 |[]=> .nil
 |v::vs=> .cons (Xq v) (uZ vs)
def ofV:Value→AV
 | .agg cs=> .agg (uZ cs.toList)
 | .tuple vs=> .ig (uZ vs.toList)
 |v=>Xq v
structure AVb where
 v:AV
def amc (v:Value):AVb:=⟨ofV v⟩
def ev:Operand→EV:=Operand.rec (motive:=fun _=>EV)
 gT (fun v=>⟨fun _=>(amc v).v⟩) (fun g=>⟨fun _=> .ptr g (nat_lit 0)⟩) (fun f=>⟨fun _=> .fn f .nil .nil⟩)
def Ed (d:Nat) (t:E AV d) (n:Nat):Nat→AV:=
 Nat.rec (motive:=fun _=>Nat→AV) (fun _=> .nil) (fun _ ih i=> .cons (E.get d (path d i) t) (ih (Nat.succ i))) n
def wrL (d:Nat):AV→Nat→E AV d→E AV d:=
 Fw (fun _ t=>t) (fun h _ ih i t=>ih (Nat.succ i) (E.put h d (path d i) t))
def dep (n:Nat):Nat:=
 Bool.rec (Bool.rec (Bool.rec (Bool.rec (Bool.rec (Bool.rec (Bool.rec (nat_lit 11) (nat_lit 8) (Nat.ble n (nat_lit 65536))) (nat_lit 6) (Nat.ble n (nat_lit 4096))) (nat_lit 5) (Nat.ble n (nat_lit 1024))) (nat_lit 4) (Nat.ble n (nat_lit 256))) (nat_lit 3) (Nat.ble n (nat_lit 64))) (nat_lit 2) (Nat.ble n (nat_lit 16)))
  (Bool.rec (nat_lit 1) (nat_lit 0) (Nat.ble n (nat_lit 1))) (Nat.ble n (nat_lit 4))
def gP:Nat:=nat_lit 4000000
def Hu (d:Nat) (cs:AV):E AV d:=wrL d cs (nat_lit 0) (E.rep .bad d)
def ahi (el:Nat) (cs:AV) (h:H) (n:Nat) (k:Nat→H→bF):bF:=
 Bool.rec .fail (Bool.rec .fail (sN (dep n) fun d=>k h.next (h.new (.cells el false n d (Hu d cs)))) (Nat.ble n gP)) h.room
def row (el:Nat) (cs:AV) (h:H) (k:Nat→H→bF):bF:=sN (llen cs) fun n=>ahi el cs h n k
def aey (el:Nat) (cs:AV) (h:H) (k:Nat→H→bF):bF:=
 match h.room,Nat.ble (llen cs) gP with
 |true,true=>k h.next (h.new (.cells el false (llen cs) (nat_lit 12) (Hu (nat_lit 12) cs)))
 |_,_=> .fail
structure Act where
 f:Env→H→bF
structure A1 where
 f:AV→H→bF
structure A2 where
 f:AV→AV→H→bF
def failA:Act:=⟨fun _ _=> .fail⟩
def onC (f:(el:Nat)→Bool→(n d:Nat)→E AV d→bF):Option xZ→bF:=
 Option.rec (motive:=fun _=>bF) .fail (xZ.rec (motive:=fun _=>bF) f (fun _ _ _ _ _=> .fail) (fun _ _ _=> .fail) (fun _ _=> .fail) (fun _ _ _ _ _ _ _ _=> .fail) .fail .fail)
def CZ (h:H) (b:Nat) (k:(el:Nat)→Bool→(n d:Nat)→E AV d→bF):bF:=onC k (h.get b)
def Wv (h:H) (b off:Nat):bF:=CZ h b fun _ _ n d t=>Bool.rec .fail (uJ (E.get d (path d off) t) h) (Nat.ble (Nat.succ off) n)
def Ww (size:Nat) (h:H) (b off:Nat):bF:=CZ h b fun _ _ n d t=>Bool.rec .fail (.ok (.agg (Ed d t size off)) h) (Nat.ble (Nat.add off size) n)
def O6 (f:H→Nat→Nat→bF) (a:AV) (h:H):bF:=OP.rec (motive:=fun _=>bF) .fail (f h) (toP a)
def qY (agg:Bool) (size:Nat):A1:=Bool.rec ⟨O6 Wv⟩ ⟨O6 (Ww size)⟩ agg
def Wz (v:AV) (h:H) (b off:Nat):bF:=CZ h b fun el ro n d t=>
 Bool.rec .fail (Bool.rec .fail (Bool.rec (.ok (.ig .nil) (h.set b (.cells el false n d (E.put v d (path d off) t)))) .fail ro) (Nat.ble (Nat.succ off) n)) (one v)
def WA (size:Nat) (v:AV) (h:H) (b off:Nat):bF:=CZ h b fun el ro n d t=>
 Bool.rec .fail (Bool.rec .fail (Bool.rec .fail (Bool.rec (.ok (.ig .nil) (h.set b (.cells el false n d (wrL d (cellsOf v) off t)))) .fail ro)
  (Nat.ble (Nat.add off size) n)) (Nat.beq (llen (cellsOf v)) size)) (ones (cellsOf v))
def Fa (agg:Bool) (size:Nat):A2:=Bool.rec ⟨fun a v h=>O6 (Wz v) a h⟩ (Bool.rec ⟨fun a v h=>O6 (WA size v) a h⟩ ⟨fun _ _ _=> .fail⟩ (Nat.beq size (nat_lit 0))) (Bool.rec (DW (Nat.beq size (nat_lit 1))) true agg)
def JM (cs:AV):Nat→AV:=Nat.rec (motive:=fun _=>AV) .nil (fun _ ih=>l9 cs ih)
def Iu (cs:AV) (off:Nat) (v:AV):AV:=l9 (Il cs off) (l9 v (Im cs (Nat.add off (llen v))))
def fieldsOf:TypeDesc→Option (Array Field)
 | .struct fs=>some fs
 |_=>none
def fillA (pl:Nat→Option (Nat×Nat)) (en:Env):List (Nat×Operand)→AV→AV:=
 List.rec (motive:=fun _=>AV→AV) (fun cs=>cs) (fun p _ ih cs=>
  match pl p.1 with
  |some (off,size)=>match Nat.beq (llen (cellsOf ((ev p.2).f en))) size,Nat.ble (Nat.add off size) (llen cs),DW (Nat.beq size (nat_lit 0))with
   |true,true,true=>ih (Iu cs off (cellsOf ((ev p.2).f en)))
   |_,_,_=> .bad
  |none=> .bad)
def isL:AV→Bool:=
 AV.rec (motive:=fun _=>Bool) false false (fun _=>false) (fun _ _=>false) (fun _=>false) (fun _ _=>false) false (fun _ _ _ _ _=>false) false (fun _=>false) false
  (fun _ _ _ _ _=>false) (fun _=>false) false (fun _ _ _=>false) false (fun _ _=>false) (fun _ _=>false) true (fun _ _ _ ih=>ih)
end
noncomputable section
def Fe {β:Type} (z:β) (k:Nat→β):AV→β:=fun v=>
 match v with
 | .int _ (.ofNat n)=>k n
 |_=>z
def ru (en:Env) (x:Option Operand) (dflt:Nat) (k:Nat→bF):bF:=
 match x with
 |none=>k dflt
 |some o=>Fe .fail k ((ev o).f en)
def aeB (hi mx:Option Operand):Bool:=
 match mx,hi with
 |some _,none=>false
 |_,_=>true
def mxz (mx:Option Operand) (z:Bool) (m l:Nat):Bool:=
 match mx with
 |none=>z
 |some _=>Nat.beq m l
def Fg (es:Nat) (x:EV) (lo hi mx:Option Operand):Act:=⟨fun en h=>
 match x.f en with
 | .slice b off len es' z=>ru en mx len fun m=>ru en hi len fun u=>ru en lo (nat_lit 0) fun l=>
  match Nat.ble l u,Nat.ble u m,Nat.ble m len,Nat.beq es es' with
  |true,true,true,true=> .ok (.slice b (Nat.add off (Nat.mul l es)) (Nat.sub u l) es (mxz mx z m l)) h
  |_,_,_,_=> .fail
 | .jO=>ru en mx (nat_lit 0) fun m=>ru en hi (nat_lit 0) fun u=>ru en lo (nat_lit 0) fun l=>
  match Nat.add m (Nat.add u l)with
  |0=> .ok .jO h
  |_=> .fail
 |_=> .fail⟩
def rz (x:EV) (lo hi:Option Operand):Act:=⟨fun en h=>
 match x.f en with
 | .str s=>ru en hi s.len fun b=>ru en lo (nat_lit 0) fun a=>match Nat.ble a b,Nat.ble b s.len with
  |true,true=> .ok (.str (s.sub a b)) h
  |_,_=> .fail
 |_=> .fail⟩
def oG (es n:Nat) (x:EV) (lo hi mx:Option Operand):Act:=⟨fun en h=>
 match x.f en with
 | .ptr b off=>match mx with
   |some _=> .fail
   |none=>CZ h b fun _ _ nb _ _=>ru en hi n fun u=>ru en lo (nat_lit 0) fun l=>
    match Nat.ble l u,Nat.ble u n,Nat.ble (Nat.add off (Nat.mul n es)) nb with
    |true,true,true=> .ok (.slice b (Nat.add off (Nat.mul l es)) (Nat.sub u l) es false) h
    |_,_,_=> .fail
 |_=> .fail⟩
def fieldA (off:Nat) (h:H) (b o:Nat):bF:= .ok (.ptr b (Nat.add o off)) h
def onN (f:Nat→bF) (i:AV):bF:=OI.rec (motive:=fun _=>bF) .fail (fun _ n=>f n) (fun _ _=> .fail) (toI i)
def WH (es:Nat) (x i:AV) (h:H):bF:=
 OL.rec (motive:=fun _=>bF) .fail .fail (fun b off len _ _=>onN (fun k=>Bool.rec .fail (.ok (.ptr b (Nat.add off (Nat.mul k es))) h) (Nat.ble (Nat.succ k) len)) i) (toL x)
def WI (n es:Nat) (x i:AV) (h:H):bF:=
 OP.rec (motive:=fun _=>bF) .fail (fun b off=>onN (fun k=>Bool.rec .fail (.ok (.ptr b (Nat.add off (Nat.mul k es))) h) (Nat.ble (Nat.succ k) n)) i) (toP x)
def Fb (x i:AV) (h:H):bF:=
 OS.rec (motive:=fun _=>bF) .fail (fun s=>onN (fun k=>Bool.rec .fail (sN (s.byte k) fun c=> .ok (.int .u8 (.ofNat c)) h) (Nat.ble (Nat.succ k) s.len)) i) (toS x)
def LU (agg:Bool) (size off:Nat) (cs:AV) (h:H):bF:=
 match agg with
 |true=>match Nat.ble (Nat.add off size) (llen cs)with
  |true=> .ok (.agg (Il (Im cs off) size)) h
  |false=> .fail
 |false=>uJ (DV cs off) h
def Pk (n:Nat) (agg:Bool) (es:Nat) (x i:AV) (h:H):bF:=
 onN (fun k=>match x with
  | .agg cs=>match Nat.ble (Nat.succ k) n with
    |true=>LU agg es (Nat.mul k es) cs h
    |false=> .fail
  |_=> .fail) i
def aeE (s:Str) (n:Nat):AV:=
 Nat.rec (motive:=fun _=>Nat→AV) (fun _=> .nil) (fun _ ih i=>sN (s.byte i) fun c=> .cons (.int .u8 (.ofNat c)) (ih (Nat.succ i))) n (nat_lit 0)
def elems (es:Nat) (x:AV) (h:H) (k:AV→Nat→bF):bF:=
 match x with
 | .jO=>k .nil (nat_lit 0)
 | .str s=>match Nat.beq es (nat_lit 1)with
   |true=>k (aeE s s.len) s.len
   |false=> .fail
 | .slice b off len es' _=>match h.get b with
   |some (.cells _ _ n d t)=>match Nat.beq es es',Nat.ble (Nat.add off (Nat.mul len es)) n with
    |true,true=>k (Ed d t (Nat.mul len es) off) len
    |_,_=> .fail
   |_=> .fail
 |_=> .fail
def aor:Nat:=nat_lit 1000000
def WZ (n bytes:Nat):Bool:=
 match bytes with
 |0=>false
 |Nat.succ _=>Nat.ble (Nat.mul n bytes) gP
def amd (z ro:Bool):Bool:=Bool.rec (Bool.rec true false ro) true z
def W9 (z:Bool) (h:H) (b:Nat):H:=Bool.rec (h.kill b) h z
def WX (el es off len n:Nat) (new:AV) (h0:H) (nb d:Nat) (t:E AV d):bF:=
 match Nat.beq off (nat_lit 0),Nat.beq (Nat.mul len es) nb,Nat.beq (dep (Nat.add nb (llen new))) d,Nat.ble (Nat.add nb (llen new)) gP with
 |true,true,true,true=> .ok (.slice h0.next (nat_lit 0) (Nat.add len n) es false) (h0.new (.cells el false (Nat.add nb (llen new)) d (wrL d new nb t)))
 |_,_,_,_=>row el (l9 (Ed d t (Nat.mul len es) off) new) h0 fun b' h'=> .ok (.slice b' (nat_lit 0) (Nat.add len n) es false) h'
def Ke (el es bytes off len n:Nat) (new:AV) (h:H) (b nb d:Nat) (t:E AV d) (es':Nat) (ro z:Bool):bF:=
 match Nat.beq es es',ro,z,Nat.beq (Nat.add off (Nat.mul len es)) nb,WZ (Nat.add len n) bytes,h.room,Nat.ble (llen (l9 (Ed d t (Nat.mul len es) off) new)) gP with
 |true,true,false,true,true,true,true=> .ok (.slice h.next (nat_lit 0) (Nat.add len n) es false)
  ((h.kill b).new (.cells (Nat.add el (nat_lit 2000000)) true (llen (l9 (Ed d t (Nat.mul len es) off) new)) (dep (llen (l9 (Ed d t (Nat.mul len es) off) new)))
    (Hu (dep (llen (l9 (Ed d t (Nat.mul len es) off) new))) (l9 (Ed d t (Nat.mul len es) off) new))))
 |_,_,_,_,_,_,_=> .fail
def zQ (el es bytes:Nat) (s:AV) (h:H) (new:AV) (n:Nat):bF:=
 match n with
 |0=>(match s with
  | .jO=> .ok s h
  | .slice _ _ _ _ _=> .ok s h
  |_=> .fail)
 |Nat.succ _=>match ones new,s with
  |true, .jO=>(match WZ n bytes with
   |true=>row el new h fun b h'=> .ok (.slice b (nat_lit 0) n es false) h'
   |false=> .fail)
  |true, .slice b off len es' z=>(match h.get b with
   |some (.cells jv ro nb d t)=>match Nat.beq jv (Nat.add el (nat_lit 2000000))with
    |true=>Ke el es bytes off len n new h b nb d t es' ro z
    |false=>
    (match Nat.beq es es',Nat.beq el jv,Nat.ble (Nat.add off (Nat.mul len es)) nb,WZ (Nat.add len n) bytes,h.room,amd z ro with
    |true,true,true,true,true,true=>WX el es off len n new (W9 z h b) nb d t
    |_,_,_,_,_,_=> .fail)
   |_=> .fail)
  |_,_=> .fail
def Kg (el es bytes:Nat) (s x:AV) (h:H):bF:=elems es x h (zQ el es bytes s h)
def Xa (es:Nat) (dst src:AV) (h:H):bF:=
 elems es src h fun new n=>
  match dst with
  | .jO=> .ok (.int .i64 (.ofNat (nat_lit 0))) h
  | .slice b off len es' _=>match Nat.beq n (nat_lit 0)with
    |true=> .ok (.int .i64 (.ofNat (nat_lit 0))) h
    |false=>match Nat.beq es es',h.get b with
    |true,some (.cells el false nb d t)=>
     match Nat.ble (Nat.add off (Nat.mul len es)) nb,ones new with
     |true,true=>sN (Bool.rec len n (Nat.ble n len)) fun m=>
      .ok (.int .i64 (.ofNat m)) (h.set b (.cells el false nb d (wrL d (Il new (Nat.mul m es)) off t)))
     |_,_=> .fail
    |_,_=> .fail
  |_=> .fail
def oU:AV→Option Str→Option Str:=
 Fw (fun a=>a) (fun c _ ih a=>match c,a with
  | .int .u8 (.ofNat n),some s=>match Nat.ble n (nat_lit 255)with
    |true=>sN (Nat.add (Nat.mul s.val (nat_lit 256)) n) fun v=>ih (some ⟨Nat.succ s.len,v⟩)
    |false=>none
  |_,_=>none)
def WV (o:Option Str) (h:H):bF:=
 match o with
 |some s=> .ok (.str s) h
 |none=> .fail
def vld (r:Nat):Bool:=Bool.rec (Bool.rec false (Nat.ble r (nat_lit 1114111)) (Nat.ble (nat_lit 57344) r)) true (Nat.ble (Nat.succ r) (nat_lit 55296))
def enc1 (c:Nat):Str:=
 Bool.rec (Bool.rec (Bool.rec
  ⟨nat_lit 4,Nat.add (Nat.mul (Nat.add (Nat.mul (Nat.add (Nat.mul (Nat.add (nat_lit 240) (Nat.div c (nat_lit 262144))) (nat_lit 256)) (Nat.add (nat_lit 128) (Nat.mod (Nat.div c (nat_lit 4096)) (nat_lit 64)))) (nat_lit 256)) (Nat.add (nat_lit 128) (Nat.mod (Nat.div c (nat_lit 64)) (nat_lit 64)))) (nat_lit 256)) (Nat.add (nat_lit 128) (Nat.mod c (nat_lit 64)))⟩
  ⟨nat_lit 3,Nat.add (Nat.mul (Nat.add (Nat.mul (Nat.add (nat_lit 224) (Nat.div c (nat_lit 4096))) (nat_lit 256)) (Nat.add (nat_lit 128) (Nat.mod (Nat.div c (nat_lit 64)) (nat_lit 64)))) (nat_lit 256)) (Nat.add (nat_lit 128) (Nat.mod c (nat_lit 64)))⟩ (Nat.ble (Nat.succ c) (nat_lit 65536)))
  ⟨nat_lit 2,Nat.add (Nat.mul (Nat.add (nat_lit 192) (Nat.div c (nat_lit 64))) (nat_lit 256)) (Nat.add (nat_lit 128) (Nat.mod c (nat_lit 64)))⟩ (Nat.ble (Nat.succ c) (nat_lit 2048)))
  ⟨nat_lit 1,c⟩ (Nat.ble (Nat.succ c) (nat_lit 128))
def encR (r:Int):Str:=
 Int.rec (motive:=fun _=>Str) (fun c=>enc1 (Bool.rec (nat_lit 65533) c (vld c))) (fun _=>enc1 (nat_lit 65533)) r
def cont (s:Str) (i:Nat):Bool:=Bool.rec false (Nat.beq (Nat.div (s.byte i) (nat_lit 64)) (nat_lit 2)) (Nat.ble (Nat.succ i) s.len)
def aA (a b:Bool):Bool:=Bool.rec false b a
def lo6 (s:Str) (i:Nat):Nat:=Nat.mod (s.byte i) (nat_lit 64)
def aaW (s:Str) (i:Nat) (k:Nat→Nat→bF):bF:=
 sN (s.byte i) fun b0=>
 match Nat.ble (Nat.succ b0) (nat_lit 128)with
 |true=>k b0 (nat_lit 1)
 |false=>match aA (Nat.beq (Nat.div b0 (nat_lit 32)) (nat_lit 6)) (cont s (Nat.add i (nat_lit 1)))with
  |true=>sN (Nat.add (Nat.mul (Nat.mod b0 (nat_lit 32)) (nat_lit 64)) (lo6 s (Nat.add i (nat_lit 1)))) fun c=>
   Bool.rec (k (nat_lit 65533) (nat_lit 1)) (k c (nat_lit 2)) (Nat.ble (nat_lit 128) c)
  |false=>match aA (Nat.beq (Nat.div b0 (nat_lit 16)) (nat_lit 14)) (aA (cont s (Nat.add i (nat_lit 1))) (cont s (Nat.add i (nat_lit 2))))with
   |true=>sN (Nat.add (Nat.add (Nat.mul (Nat.mod b0 (nat_lit 16)) (nat_lit 4096)) (Nat.mul (lo6 s (Nat.add i (nat_lit 1))) (nat_lit 64))) (lo6 s (Nat.add i (nat_lit 2)))) fun c=>
    Bool.rec (k (nat_lit 65533) (nat_lit 1)) (k c (nat_lit 3)) (aA (Nat.ble (nat_lit 2048) c) (vld c))
   |false=>match aA (Nat.beq (Nat.div b0 (nat_lit 8)) (nat_lit 30)) (aA (cont s (Nat.add i (nat_lit 1))) (aA (cont s (Nat.add i (nat_lit 2))) (cont s (Nat.add i (nat_lit 3)))))with
    |true=>sN (Nat.add (Nat.add (Nat.add (Nat.mul (Nat.mod b0 (nat_lit 8)) (nat_lit 262144)) (Nat.mul (lo6 s (Nat.add i (nat_lit 1))) (nat_lit 4096))) (Nat.mul (lo6 s (Nat.add i (nat_lit 2))) (nat_lit 64))) (lo6 s (Nat.add i (nat_lit 3)))) fun c=>
     Bool.rec (k (nat_lit 65533) (nat_lit 1)) (k c (nat_lit 4)) (aA (Nat.ble (nat_lit 65536) c) (vld c))
    |false=>k (nat_lit 65533) (nat_lit 1)
def IE:Nat:=nat_lit 4194303
def oO (k:Str):List (Str×AV)→Option AV:=
 List.rec (motive:=fun _=>Option AV) none (fun p _ ih=>Bool.rec ih (some p.2) (p.1.eq k))
def JZ (k:Str) (v:AV):List (Str×AV)→List (Str×AV):=
 List.rec (motive:=fun _=>List (Str×AV)) [(k,v)] (fun p r ih=>Bool.rec (p::ih) ((p.1,v)::r) (p.1.eq k))
inductive MK where
 |none
 |ints (k:IntKind)
 |strs
def eZ (g:G) (t:Nat):MK:=
 match g.ty t with
 |some {desc:= .map k _, ..}=>match g.ty k with
  |some {desc:= .int kd, ..}=> .ints kd
  |some {desc:= .string, ..}=> .strs
  |_=> .none
 |_=> .none
def mapKey (kind:MK) (x:xZ) (key:AV) (fi:IntKind→Nat→Nat→E (Option AV) 11→Nat→bF) (fs:Nat→Nat→List (Str×AV)→Str→bF):bF:=
 match kind with
 | .ints kt=>(match x,key with
   | .BZ kd n c t _, .int kd' (.ofNat i)=>match Nat.ble i IE,Nat.beq (uK kd) (uK kd'),Nat.beq (uK kd) (uK kt)with
     |true,true,true=>fi kd n c t i
     |_,_,_=> .fail
   |_,_=> .fail)
 | .strs=>(match x,key with
   | .smap n c l, .str s=>fs n c l s
   |_,_=> .fail)
 | .none=> .fail
def adn (kind:MK) (key:AV):Bool:=
 match kind with
 | .ints kd=>(match key with
   | .int kd' _=>Nat.beq (uK kd) (uK kd')
   |_=>false)
 | .strs=>(match key with
   | .str _=>true
   |_=>false)
 | .none=>false
def okA (ok:Bool) (v:AV) (b:Bool) (h:H):bF:=
 match ok with
 |true=> .ok (.ig (.cons v (.cons (.bool b) .nil))) h
 |false=>uJ v h
def J2 (kind:MK) (zero:AV) (m key:AV) (ok:Bool) (h:H):bF:=
 match m with
 | .sF=>(match adn kind key with
   |true=>okA ok zero false h
   |false=> .fail)
 | .map b=>match h.get b with
   |some x=>mapKey kind x key
    (fun _ _ _ t i=>match E.get 11 (path 11 i) t with
     |some v=>okA ok v true h
     |none=>okA ok zero false h)
    (fun _ _ l s=>match oO s l with
     |some v=>okA ok v true h
     |none=>okA ok zero false h)
   |none=> .fail
 |_=> .fail
def BX (kind:MK) (m key v:AV) (h:H):bF:=
 match m with
 | .map b=>match h.get b with
   |some x=>mapKey kind x key
    (fun kd n c t i=>match E.get 11 (path 11 i) t with
     |some _=> .ok (.ig .nil) (h.set b (.BZ kd n c (E.put (some v) 11 (path 11 i) t) (nat_lit 0)))
     |none=> .ok (.ig .nil) (h.set b (.BZ kd (Nat.succ n) (Nat.succ c) (E.put (some v) 11 (path 11 i) t) (nat_lit 0))))
    (fun n c l s=>match oO s l with
     |some _=> .ok (.ig .nil) (h.set b (.smap n c (JZ s v l)))
     |none=> .ok (.ig .nil) (h.set b (.smap (Nat.succ n) (Nat.succ c) (JZ s v l))))
   |none=> .fail
 |_=> .fail
def J3 (kind:MK) (zero m key:AV) (h:H):bF:=
 match m with
 | .map b=>match h.get b with
   |some x=>mapKey kind x key
    (fun kd n c t i=>match E.get 11 (path 11 i) t with
     |some _=> .fail
     |none=> .ok (.ig (.cons zero (.cons (.int .i64 (.ofNat c)) .nil))) (h.set b (.BZ kd (Nat.succ n) (Nat.succ c) (E.put (some zero) 11 (path 11 i) t) (Nat.succ i))))
    (fun _ _ _ _=> .fail)
   |none=> .fail
 |_=> .fail
def J4 (m s v:AV) (h:H):bF:=
 match m,s with
 | .map b, .int _ (.ofNat st)=>(match h.get b with
   |some (.BZ kd n c t lk)=>(match lk with
    |Nat.succ i=>(match Nat.beq (Nat.succ st) c,Nat.ble i IE with
     |true,true=> .ok (.ig .nil) (h.set b (.BZ kd n c (E.put (some v) 11 (path 11 i) t) (nat_lit 0)))
     |_,_=> .fail)
    |0=> .fail)
   |_=> .fail)
 |_,_=> .fail
def WS (d:TypeDesc) (x:AV) (h:H):bF:=
 match d with
 | .string=>(match x with
   | .str s=>sN s.len fun n=> .ok (.int .i64 (.ofNat n)) h
   |_=> .fail)
 | .slice _=>(match x with
   | .slice _ _ n _ _=>sN n fun n=> .ok (.int .i64 (.ofNat n)) h
   | .jO=> .ok (.int .i64 (.ofNat (nat_lit 0))) h
   |_=> .fail)
 | .map _ _=>(match x with
   | .sF=> .ok (.int .i64 (.ofNat (nat_lit 0))) h
   | .map b=>match h.get b with
     |some (.BZ _ n _ _ _)=> .ok (.int .i64 (.ofNat n)) h
     |some (.smap n _ _)=> .ok (.int .i64 (.ofNat n)) h
     |_=> .fail
   |_=> .fail)
 |_=> .fail
def mm2:Bool→AV→AV→AV:=Bool.rec (motive:=fun _=>AV→AV→AV)
 (jd (fun k a b=> .int k (.ofNat (Bool.rec b a (Nat.ble a b)))) (fun k a b=> .int k (Bool.rec b a (decide (a≤b)))))
 (jd (fun k a b=> .int k (.ofNat (Bool.rec a b (Nat.ble a b)))) (fun k a b=> .int k (Bool.rec a b (decide (a≤b)))))
def mmA (gt:Bool) (l:AV):AV:=
 match l with
 | .cons x r=>Fw (fun a=>a) (fun y _ ih a=>ih (mm2 gt a y)) r x
 |_=> .bad
def Pm (x:AV) (h:H):bF:=
 match x with
 | .str s=>match h.room with
   |true=> .ok (.ptr h.next (nat_lit 0)) (h.new (.iter s (nat_lit 0)))
   |false=> .fail
 |_=> .fail
def Ma (x:AV) (h:H):bF:=
 match x with
 | .ptr b 0=>match h.get b with
   |some (.iter s pos)=>match Nat.ble (Nat.succ pos) s.len with
    |true=>aaW s pos fun r w=>sN (Nat.add pos w) fun p=> .ok (.ig (.cons (.bool true) (.cons (.int .i64 (.ofNat pos)) (.cons (.int .i32 (.ofNat r)) .nil)))) (h.set b (.iter s p))
    |false=> .ok (.ig (.cons (.bool false) .nil)) h
   |_=> .fail
 |_=> .fail
def uV (x:AV) (i:Nat):AV:=
 match x with
 | .ig vs=>DV vs i
 |_=> .bad
def J9 (g:G) (a c:AV):Bool:=
 match a with
 | .uy t _=>(match c with
   | .str s=>(match g.qM t s with
     |some _=>true
     |none=>false)
   |_=>false)
 | .nil=>true
 | .cons _ _=>true
 |_=>false
def oH (g:G) (x:AV):AV:=
 match x with
 | .ptr b o=> .ptr b o
 | .fn f a c=>Bool.rec .bad (.fn f a c) (J9 g a c)
 | .xY l=> .xY l
 | .uy t v=> .uy t v
 |_=> .bad
def opsL:List Operand→EV:=List.rec (motive:=fun _=>EV) ⟨fun _=> .nil⟩ (fun o _ ih=>⟨fun en=> .cons ((ev o).f en) (ih.f en)⟩)
def Kh (g:G) (t:Nat) (k:Ty→Act):Act:=
 match g.ty t with
 |some y=>k y
 |none=>failA
def zeroV (y:Ty):AV:=y.zv
def Me (g:G) (same:Bool) (src dst:TypeDesc) (x:AV) (h:H):bF:=
 match dst,x with
 | .slice e, .slice b off (Nat.succ l) es z=>(match same,src,g.ty e with
   |true, .slice _,some {desc:= .int .u8, ..}=>(match h.get b with
    |some (.cells el ro n d t)=>match Nat.ble (nat_lit 2000000) el with
     |true=> .fail
     |false=> .ok (.slice b off (Nat.succ l) es z) (h.set b (.cells el ro n d t))
    |_=> .fail)
   |_,_,_=> .fail)
 | .int k, .int _ n=>frc (wr k n) fun n'=> .ok (.int k n') h
 | .string, .str s=> .ok (.str s) h
 | .string, .int _ n=> .ok (.str (encR n)) h
 | .string, .jO=>(match src with
   | .slice e=>(match g.ty e with
     |some {desc:= .int .u8, ..}=> .ok (.str ⟨nat_lit 0,nat_lit 0⟩) h
     |_=> .fail)
   |_=> .fail)
 | .string, .slice b off len 1 _=>match src with
   | .slice e=>match g.ty e,h.get b with
     |some {desc:= .int .u8, ..},some (.cells _ _ n d t)=>match Nat.ble (Nat.add off len) n with
      |true=>WV (oU (Ed d t len off) (some ⟨nat_lit 0,nat_lit 0⟩)) h
      |false=> .fail
     |_,_=> .fail
   |_=> .fail
 | .slice e, .str s=>match g.ty e with
   |some {desc:= .int .u8, ..}=>row e (aeE s s.len) h fun b h'=> .ok (.slice b (nat_lit 0) s.len (nat_lit 1) false) h'
   |_=> .fail
 | .unsafePointer, .oK=>match src with
   | .pointer _=> .ok .oK h
   |_=> .fail
 | .unsafePointer, .ptr b off=>match src with
   | .pointer t=>match g.ty t,h.get b with
     |some y,some (.cells _ _ n _ _)=>match Nat.ble (Nat.succ off) n,Nat.beq y.size (nat_lit 0)with
      |true,false=> .ok (.ptr b off) h
      |_,_=> .fail
     |_,_=> .fail
   |_=> .fail
 | .pointer _, .oK=>match src with
   | .unsafePointer=> .ok .oK h
   |_=> .fail
 | .pointer u, .ptr b 0=>match src with
   | .unsafePointer=>match g.ty u,h.get b with
     |some y,some (.cells el false n d _)=>match Nat.beq el u,Nat.ble (nat_lit 12) d,Nat.ble y.size n,Nat.beq y.size (nat_lit 0)with
      |true,true,true,false=> .ok (.ptr b (nat_lit 0)) h
      |_,_,_,_=> .fail
     |_,_=> .fail
   |_=> .fail
 |_,_=> .fail
def unsafeStrA (g:G) (pt:Nat) (p:AV) (n:Nat) (h:H):bF:=
 match g.ty pt with
 |some {desc:= .pointer u, ..}=>match n,p with
  |0, .oK=> .ok (.str ⟨nat_lit 0,nat_lit 0⟩) h
  |0, .ptr _ _=> .ok (.str ⟨nat_lit 0,nat_lit 0⟩) h
  |Nat.succ k, .ptr b off=>match g.ty u,h.get b with
   |some {desc:= .int .u8,size:=sz, ..},some (.cells el true nn d t)=>match Nat.beq el (Nat.add u (nat_lit 2000000)),Nat.ble (Nat.add off (Nat.succ k)) nn,Nat.beq sz (nat_lit 1),Nat.ble (Nat.succ k) gP with
    |true,true,true,true=>match oU (Ed d t (Nat.succ k) off) (some ⟨nat_lit 0,nat_lit 0⟩)with
     |some s=> .ok (.str s) (h.set b (.cells el true nn d t))
     |none=> .fail
    |_,_,_,_=> .fail
   |some {desc:= .int .u8,size:=sz, ..},some (.cells el false nn d t)=>match Nat.beq el u,Nat.ble (Nat.add off (Nat.succ k)) nn,Nat.beq sz (nat_lit 1),Nat.ble (Nat.succ k) gP,Nat.ble (nat_lit 2000000) el with
    |true,true,true,true,false=>match oU (Ed d t (Nat.succ k) off) (some ⟨nat_lit 0,nat_lit 0⟩)with
     |some s=> .ok (.str s) (h.set b (.cells el true nn d t))
     |none=> .fail
    |_,_,_,_,_=> .fail
   |_,_=> .fail
  |_,_=> .fail
 |_=> .fail
def Px (g:G) (b:Builtin) (ts:List TypeId) (args:AV) (h:H):bF:=
 match b,args with
 | .append, .cons s (.cons x .nil)=>match ts with
   |[t,u]=>match g.ty t,g.ty u with
     |some {desc:= .slice e, ..},some {desc:= .slice _, ..}=>(match g.ty e with
      |some y=>Kg e y.size y.bytes s x h
      |none=> .fail)
     |some {desc:= .slice e, ..},some {desc:= .string, ..}=>(match g.ty e with
      |some y=>Kg e y.size y.bytes s x h
      |none=> .fail)
     |some {desc:= .slice e, ..},some {desc:= .int _, ..}=>(match g.ty e,x with
      |some y, .int _ (.ofNat n)=>(match Nat.ble (Nat.mul n y.bytes) gP,Nat.ble n gP with
       |true,true=>zQ e y.size y.bytes s h (JM y.zero n) n
       |_,_=> .fail)
      |_,_=> .fail)
     |_,_=> .fail
   |_=> .fail
 | .copy, .cons d (.cons s .nil)=>match ts with
   |t::_=>match g.ty t with
    |some {desc:= .slice e, ..}=>(match g.ty e with
     |some y=>Xa y.size d s h
     |none=> .fail)
    |_=> .fail
   |[]=> .fail
 | .cap, .cons x .nil=>(match ts with
   |t::_=>(match g.ty t with
    |some {desc:= .slice _, ..}=>(match x with
     | .jO=> .ok (.int .i64 (.ofNat (nat_lit 0))) h
     | .slice _ _ _ _ true=> .ok (.int .i64 (.ofNat (nat_lit 0))) h
     |_=> .fail)
    |_=> .fail)
   |[]=> .fail)
 | .max,l=>uJ (mmA true l) h
 | .min,l=>uJ (mmA false l) h
 | .unsafeSliceData, .cons x .nil=>(match x with
   | .jO=> .ok .oK h
   | .slice b off (Nat.succ _) _ _=> .ok (.ptr b off) h
   |_=> .fail)
 | .unsafeString, .cons p (.cons (.int _ (.ofNat n)) .nil)=>(match ts with
   |pt::_=>unsafeStrA g pt p n h
   |[]=> .fail)
 |_,_=> .fail
def yI (e:Nat) (y:Ty) (l c:AV) (h:H):bF:=
 Fe .fail (fun n=>Fe .fail (fun m=>match Nat.ble n m,Nat.ble (Nat.mul m y.bytes) gP,Nat.ble m gP with
  |true,true,true=>row e (JM y.zero m) h fun b h'=> .ok (.slice b (nat_lit 0) n y.size false) h'
  |_,_,_=> .fail) c) l
def rC (kind:MK) (h:H):bF:=
 match h.room,kind with
 |true, .ints k=> .ok (.map h.next) (h.new (.BZ k (nat_lit 0) (nat_lit 0) (E.rep none 11) (nat_lit 0)))
 |true, .strs=> .ok (.map h.next) (h.new (.smap (nat_lit 0) (nat_lit 0) []))
 |_,_=> .fail
def mapElem (g:G) (t:Nat) (k:Ty→Act):Act:=
 match g.ty t with
 |some {desc:= .map _ e, ..}=>Kh g e k
 |_=>failA
def fieldT (g:G) (s f:Nat) (k:Field→Ty→Act):Act:=
 match g.ty s with
 |some {desc:= .struct fs, ..}=>match fs[f]? with
  |some fd=>Kh g fd.type fun y=>k fd y
  |none=>failA
 |_=>failA
def Da (g:G) (t:Nat) (k:Nat→Option Nat→Ty→Act):Act:=
 match g.ty t with
 |some {desc:= .slice e, ..}=>Kh g e fun y=>k e none y
 |some {desc:= .array n e, ..}=>Kh g e fun y=>k e (some n) y
 |_=>failA
def placesOf (g:G) (y:Ty):Nat→Option (Nat×Nat):=
 match y.desc with
 | .struct fs=>fun i=>match fs[i]? with
   |some fd=>match g.ty fd.type with
    |some z=>some (fd.offset,z.size)
    |none=>none
   |none=>none
 | .array _ e=>fun i=>match g.ty e with
   |some z=>some (Nat.mul i z.size,z.size)
   |none=>none
 |_=>fun _=>none
def LV (g:G) (d:TypeDesc):Bool:=
 match d with
 | .struct fs=>fs.toList.all fun f=>(g.ty f.type).isSome
 | .array _ e=>(g.ty e).isSome
 |_=>false
def onB (b:Bool) (a:Act):Act:=Bool.rec (motive:=fun _=>Act) failA a b
def zJ (v:AV) (h:H):bF:=
 match isL v with
 |true=> .ok (.agg v) h
 |false=> .fail
def isC:Operand→Bool:=Operand.rec (motive:=fun _=>Bool) (fun _=>false) (fun _=>true) (fun _=>false) (fun _=>false)
def JK:AV→H→bF:=
 AV.rec (motive:=fun _=>H→bF) (fun h=> .ok .bad h) (fun h=> .ok .unk h) (fun b h=> .ok (.bool b) h) (fun k n h=>frc n fun n'=> .ok (.int k n') h) (fun s h=> .ok (.str s) h) (fun b o h=> .ok (.ptr b o) h)
  (fun h=> .ok .oK h) (fun b o n s z h=> .ok (.slice b o n s z) h) (fun h=> .ok .jO h) (fun b h=> .ok (.map b) h) (fun h=> .ok .sF h)
  (fun f x y _ _ h=> .ok (.fn f x y) h) (fun l h=> .ok (.xY l) h) (fun h=> .ok .sG h) (fun t v _ h=> .ok (.uy t v) h) (fun h=> .ok .qX h)
  (fun cs _ h=> .ok (.agg cs) h) (fun vs _ h=> .ok (.ig vs) h) (fun _=> .fail) (fun _ _ _ _ _=> .fail)
def ahu (f:EV):Act:=⟨fun en h=>JK (f.f en) h⟩
def aeM (u:U1) (f:EV):Act:=⟨fun en h=>uJ (u.f (f.f en)) h⟩
def ame (u:B2) (f g:EV):Act:=⟨fun en h=>uJ (u.f (f.f en) (g.f en)) h⟩
def aeN (u:A1) (f:EV):Act:=⟨fun en h=>u.f (f.f en) h⟩
def abg (u:A2) (f g:EV):Act:=⟨fun en h=>u.f (f.f en) (g.f en) h⟩
def abh (c a b:EV):Act:=⟨fun en h=>OB.rec (motive:=fun _=>bF) .fail (uJ (b.f en) h) (uJ (a.f en) h) (toB (c.f en))⟩
def eqK (g:G) (t:Nat):EK:=
 match g.ty t with
 |some {desc:= .bool, ..}=> .bool
 |some {desc:= .pointer e, ..}=>(match g.ty e with
  |some y=>Bool.rec .ptr .none (Nat.beq y.size (nat_lit 0))
  |none=> .none)
 |some {desc:= .slice _, ..}=> .slice
 |some {desc:= .map _ _, ..}=> .map
 |some {desc:= .func _ _ _, ..}=> .func
 |some {desc:= .interface _, ..}=> .iface
 |_=>match g.eq2 t with
  |true=> .two
  |false=> .none
def ahv (g:G) (t:Nat) (y:Ty):Bool:=
 match y.desc with
 | .struct fs=>(match fs.toList with
   |[f,_]=>(match g.ty f.type with
     |some {desc:= .pointer u, ..}=>Nat.beq u t
     |_=>false)
   |_=>false)
 |_=>false
def Ig (g:G) (o:Op):Act:=
 match o with
 | .move x=>ahu (ev x)
 | .assign x=>ahu (ev x)
 | .pick c a b=>abh (ev c) (ev a) (ev b)
 | .alloc t=>Kh g t fun y=>match ahv g t y with
   |true=>Act.mk fun _ h=>aey t y.zero h fun b h'=> .ok (.ptr b (nat_lit 0)) h'
   |false=>Act.mk fun _ h=>row t y.zero h fun b h'=> .ok (.ptr b (nat_lit 0)) h'
 | .box t x=>Act.mk fun en h=>row t (cellsOf ((ev x).f en)) h fun b h'=> .ok (.ptr b (nat_lit 0)) h'
 | .build t ps=>Kh g t fun y=>onB (LV g y.desc)<|Act.mk fun en h=>zJ (fillA (placesOf g y) en ps.toList y.zero) h
 | .buildSlice t n ps=>Da g t fun e arr y=>match arr with
   |none=>Act.mk fun en h=>match Nat.ble (Nat.mul n y.size) (nat_lit 100000),fillA (fun i=>some (Nat.mul i y.size,y.size)) en ps.toList (JM y.zero n)with
    |true,cs=>(match isL cs with
     |true=>row e cs h fun b h'=> .ok (match n with|0=> .slice b (nat_lit 0) (nat_lit 0) y.size true|_=> .slice b (nat_lit 0) n y.size false) h'
     |false=> .fail)
    |false,_=> .fail
   |some _=>failA
 | .load t a=>Kh g t fun y=>aeN (qY y.agg y.size) (ev a)
 | .store t a x=>Kh g t fun y=>abg (Fa y.agg y.size) (ev a) (ev x)
 | .nilCheck x=>aeM ⟨oH g⟩ (ev x)
 | .binOp op t x y _=>ame (Wu op (Bool.rec (isC y) true (isC x)) (eqK g t)) (ev x) (ev y)
 | .unOp op _ x=>aeM (uop op) (ev x)
 | .convert s d x=>Kh g s fun ys=>Kh g d fun yd=>Act.mk fun en h=>Me g (Nat.beq s d) ys.desc yd.desc ((ev x).f en) h
 | .makeInterface t x=>Kh g t fun y=>match y.desc with
   | .interface _=>failA
   |_=>Act.mk fun en h=>match(ev x).f en with
    | .bad=> .fail
    |v=> .ok (.uy t v) h
 | .makeFunc fn fs cs=>match fn with
   | .func f=>Act.mk fun en h=> .ok (.fn f ((opsL fs.toList).f en) ((opsL cs.toList).f en)) h
   | .method nm=>(match fs.toList,cs.toList with
     |[o],[]=>Act.mk fun en h=>match(ev o).f en with
       | .uy t x=> .ok (.fn (nat_lit 0) (.uy t x) (.str (Str.of nm.toUTF8))) h
       |_=> .fail
     |_,_=>failA)
   |_=>failA
 | .makeMap t r=>match r with
   |none=>Act.mk fun _ h=>rC (eZ g t) h
   |some x=>Act.mk fun en h=>match(ev x).f en with
    | .int _ _=>rC (eZ g t) h
    |_=> .fail
 | .makeSlice t l c=>Da g t fun e arr y=>match arr with
   |none=>Act.mk fun en h=>yI e y ((ev l).f en) ((ev c).f en) h
   |some _=>failA
 | .slice t x lo hi mx=>match g.ty t with
   |some {desc:= .slice e, ..}=>Kh g e fun y=>onB (aeB hi mx) (Fg y.size (ev x) lo hi mx)
   |some {desc:= .string, ..}=>(match mx with
    |none=>rz (ev x) lo hi
    |some _=>failA)
   |some {desc:= .array n e, ..}=>Kh g e fun y=>oG y.size n (ev x) lo hi mx
   |_=>failA
 | .fieldAddr s x f=>fieldT g s f fun fd y=>match y.size with
   |Nat.succ _=>aeN ⟨O6 (fieldA fd.offset)⟩ (ev x)
   |0=>failA
 | .field s x f=>fieldT g s f fun fd y=>Act.mk fun en h=>match(ev x).f en with
   | .agg cs=>LU y.agg y.size fd.offset cs h
   |_=> .fail
 | .indexAddr t x i=>Da g t fun _ arr y=>match arr with
   |none=>abg ⟨WH y.size⟩ (ev x) (ev i)
   |some n=>abg ⟨WI n y.size⟩ (ev x) (ev i)
 | .index t x i=>match g.ty t with
   |some {desc:= .string, ..}=>abg ⟨Fb⟩ (ev x) (ev i)
   |some {desc:= .array n e, ..}=>Kh g e fun y=>Act.mk fun en h=>Pk n y.agg y.size ((ev x).f en) ((ev i).f en) h
   |_=>failA
 | .lookup t x i ok=>mapElem g t fun y=>Act.mk fun en h=>J2 (eZ g t) (zeroV y) ((ev x).f en) ((ev i).f en) ok h
 | .mapUpdate t m k x=>Act.mk fun en h=>match(ev x).f en with
   | .bad=> .fail
   |v=>BX (eZ g t) ((ev m).f en) ((ev k).f en) v h
 | .insert t m k x=>Act.mk fun en h=>match(ev x).f en with
   | .bad=> .fail
   |v=>BX (eZ g t) ((ev m).f en) ((ev k).f en) v h
 | .mapEntry t m k=>mapElem g t fun y=>Act.mk fun en h=>J3 (eZ g t) (zeroV y) ((ev m).f en) ((ev k).f en) h
 | .entryStore _ m s x=>Act.mk fun en h=>match(ev x).f en with
   | .bad=> .fail
   |v=>J4 ((ev m).f en) ((ev s).f en) v h
 | .range t x=>(match g.ty t with
   |some {desc:= .string, ..}=>Act.mk fun en h=>Pm ((ev x).f en) h
   |_=>failA)
 | .next it s=>match s with
   |true=>Act.mk fun en h=>Ma ((ev it).f en) h
   |false=>failA
 | .extract x i=>aeM ⟨fun v=>uV v i⟩ (ev x)
 | .call c=>match c.callee with
   | .builtin b=>match b,c.argTypes.toList,c.args.toList with
     | .len,t::_,[x]=>(match g.ty t with
       |some {desc:= .array n _, ..}=>Act.mk fun _ h=> .ok (.int .i64 (.ofNat n)) h
       |some {desc:= .pointer _, ..}=>failA
       |some y=>aeN ⟨WS y.desc⟩ (ev x)
       |none=>failA)
     |_,ts,as=>Act.mk fun en h=>Px g b ts ((opsL as).f en) h
   |_=>failA
 |_=>failA
end
end Go.Proofs.YtocaiijbhepnnaaGreatDoor.Am
