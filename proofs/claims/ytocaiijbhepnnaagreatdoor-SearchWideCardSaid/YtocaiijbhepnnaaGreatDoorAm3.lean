/- The abstract machine, second part: operations on values; operations that do not call. -/
import Derived.Test.YtocaiijbhepnnaaGreatDoorAmS
namespace Go.Proofs.YtocaiijbhepnnaaGreatDoor.Am
noncomputable section
def DU {β:Type} (z:β) (c:AV->AV->β->β):AV->β:=
 AV.rec (motive:=λ_=>β) z z (λ_=>z) (λ_ _=>z) (λ_=>z) (λ_ _=>z) z (λ_ _ _ _ _=>z) z (λ_=>z) z
  (λ_ _ _ _ _=>z) (λ_=>z) z (λ_ _ _=>z) z (λ_ _=>z) (λ_ _=>z) z (λh t _ ih=>c h t ih)
def llen:AV->Nat:=DU (nat_lit 0) (λ_ _ n=>Nat.succ n)
def Ch:AV->Nat->AV:=DU (λ_=> .bad) (λh _ ih i=>Bool.rec (ih (Nat.pred i)) h (Nat.beq i (nat_lit 0)))
def kZ:AV->AV->AV:=DU (λy=>y) (λh _ ih y=> .cons h (ih y))
def Gb:AV->Nat->AV:=DU (λ_=> .nil) (λh _ ih n=>Bool.rec (.cons h (ih (Nat.pred n))) .nil (Nat.beq n (nat_lit 0)))
def Gc:AV->Nat->AV:=DU (λ_=> .nil) (λh t ih n=>Bool.rec (ih (Nat.pred n)) (.cons h t) (Nat.beq n (nat_lit 0)))
def one:AV->Bool:=
 AV.rec (motive:=λ_=>Bool) false true (λ_=>true) (λ_ _=>true) (λ_=>true) (λ_ _=>true) true (λ_ _ _ _ _=>true) true (λ_=>true) true
  (λ_ _ _ _ _=>true) (λ_=>true) true (λ_ _ _=>true) true (λ_ _=>false) (λ_ _=>false) false (λ_ _ _ _=>false)
def ones:AV->Bool:=DU true (λh _ ih=>Bool.rec false ih (one h))
def cellsOf:AV->AV:=
 AV.rec (motive:=λ_=>AV) .nil (.cons .unk .nil) (λb=> .cons (.bool b) .nil) (λk n=> .cons (.int k n) .nil) (λs=> .cons (.str s) .nil) (λb o=> .cons (.ptr b o) .nil)
  (.cons .nK .nil) (λb o n s z=> .cons (.slice b o n s z) .nil) (.cons .jq .nil) (λb=> .cons (.map b) .nil) (.cons .qN .nil)
  (λf x y _ _=> .cons (.fn f x y) .nil) (λl=> .cons (.wG l) .nil) (.cons .qO .nil) (λt v _=> .cons (.sG t v) .nil) (.cons .qd .nil)
  (λcs _=>cs) (λ_ _=> .nil) .nil (λ_ _ _ _=> .nil)
inductive bF where
 |fail
 |ok (v:AV) (h:H)
def frc (n:Int) (f:Int->bF):bF:=
 Int.rec (motive:=λ_=>bF) (λm=>sN m λm'=>f (.ofNat m')) (λm=>sN m λm'=>f (.negSucc m')) n
theorem frc_eq (n:Int) (f:Int->bF):frc n f=f n:=by cases n<;>simp[frc,oN]
def sU:AV->H->bF:=
 AV.rec (motive:=λ_=>H->bF) (λ_=> .fail) (λh=> .ok .unk h) (λb h=> .ok (.bool b) h) (λk n h=>frc n λn'=> .ok (.int k n') h) (λs h=> .ok (.str s) h) (λb o h=> .ok (.ptr b o) h)
  (λh=> .ok .nK h) (λb o n s z h=> .ok (.slice b o n s z) h) (λh=> .ok .jq h) (λb h=> .ok (.map b) h) (λh=> .ok .qN h)
  (λf x y _ _ h=> .ok (.fn f x y) h) (λl h=> .ok (.wG l) h) (λh=> .ok .qO h) (λt v _ h=> .ok (.sG t v) h) (λh=> .ok .qd h)
  (λcs _ h=> .ok (.agg cs) h) (λvs _ h=> .ok (.fV vs) h) (λ_=> .fail) (λ_ _ _ _ _=> .fail)
inductive OI where
 |none
 |nn (k:IntKind) (n:Nat)
 |ng (k:IntKind) (m:Nat)
def toI:AV->OI:=
 AV.rec (motive:=λ_=>OI) .none .none (λ_=> .none) (λk n=>Int.rec (motive:=λ_=>OI) (OI.nn k) (OI.ng k) n) (λ_=> .none) (λ_ _=> .none) .none (λ_ _ _ _ _=> .none) .none (λ_=> .none) .none
  (λ_ _ _ _ _=> .none) (λ_=> .none) .none (λ_ _ _=> .none) .none (λ_ _=> .none) (λ_ _=> .none) .none (λ_ _ _ _=> .none)
inductive OS where
 |none
 |some (s:Str)
def toS:AV->OS:=
 AV.rec (motive:=λ_=>OS) .none .none (λ_=> .none) (λ_ _=> .none) (λs=> .some s) (λ_ _=> .none) .none (λ_ _ _ _ _=> .none) .none (λ_=> .none) .none
  (λ_ _ _ _ _=> .none) (λ_=> .none) .none (λ_ _ _=> .none) .none (λ_ _=> .none) (λ_ _=> .none) .none (λ_ _ _ _=> .none)
inductive OB where
 |none
 |f
 |t
def toB:AV->OB:=
 AV.rec (motive:=λ_=>OB) .none .none (λb=>Bool.rec .f .t b) (λ_ _=> .none) (λ_=> .none) (λ_ _=> .none) .none (λ_ _ _ _ _=> .none) .none (λ_=> .none) .none
  (λ_ _ _ _ _=> .none) (λ_=> .none) .none (λ_ _ _=> .none) .none (λ_ _=> .none) (λ_ _=> .none) .none (λ_ _ _ _=> .none)
inductive OP where
 |none
 |at(b off:Nat)
def toP:AV->OP:=
 AV.rec (motive:=λ_=>OP) .none .none (λ_=> .none) (λ_ _=> .none) (λ_=> .none) OP.at .none (λ_ _ _ _ _=> .none) .none (λ_=> .none) .none
  (λ_ _ _ _ _=> .none) (λ_=> .none) .none (λ_ _ _=> .none) .none (λ_ _=> .none) (λ_ _=> .none) .none (λ_ _ _ _=> .none)
inductive OL where
 |none
 |nil
 |at(b off len es:Nat) (z:Bool)
def toL:AV->OL:=
 AV.rec (motive:=λ_=>OL) .none .none (λ_=> .none) (λ_ _=> .none) (λ_=> .none) (λ_ _=> .none) .none OL.at .nil (λ_=> .none) .none
  (λ_ _ _ _ _=> .none) (λ_=> .none) .none (λ_ _ _=> .none) .none (λ_ _=> .none) (λ_ _=> .none) .none (λ_ _ _ _=> .none)
def Kc:IntKind->Nat:=IntKind.rec (motive:=λ_=>Nat) (nat_lit 127) (nat_lit 32767) (nat_lit 2147483647) (nat_lit 0x7fffffffffffffff)
 (nat_lit 255) (nat_lit 65535) (nat_lit 4294967295) (nat_lit 0xffffffffffffffff)
def Q7:IntKind->Nat:=IntKind.rec (motive:=λ_=>Nat) (nat_lit 128) (nat_lit 32768) (nat_lit 2147483648) (nat_lit 0x8000000000000000)
 (nat_lit 0) (nat_lit 0) (nat_lit 0) (nat_lit 0)
def sV:IntKind->Nat:=IntKind.rec (motive:=λ_=>Nat) (nat_lit 0) (nat_lit 1) (nat_lit 2) (nat_lit 3) (nat_lit 4) (nat_lit 5) (nat_lit 6) (nat_lit 7)
def wrN (k:IntKind) (m:Nat):Int:=Bool.rec (k.wrap (.ofNat m)) (.ofNat m) (Nat.ble m (Kc k))
def wr (k:IntKind) (n:Int):Int:=
 Int.rec (motive:=λ_=>Int) (wrN k)
  (λm=>Bool.rec (k.wrap (.negSucc m)) (.negSucc m) (Nat.ble (Nat.succ m) (Q7 k))) n
def mk (k:IntKind) (n:Int):AV:= .int k (wr k n)
def XJ (k:IntKind) (n:Nat):AV:= .int k (wrN k n)
def iI (fast:IntKind->Nat->Nat->AV) (slow:IntKind->Int->Int->AV):AV->AV->AV:=λx y=>
 OI.rec (motive:=λ_=>AV) .bad
  (λk a=>OI.rec (motive:=λ_=>AV) .bad (λk' b=>Bool.rec .bad (fast k a b) (Nat.beq (sV k) (sV k'))) (λk' b=>Bool.rec .bad (slow k (.ofNat a) (.negSucc b)) (Nat.beq (sV k) (sV k'))) (toI y))
  (λk a=>OI.rec (motive:=λ_=>AV) .bad (λk' b=>Bool.rec .bad (slow k (.negSucc a) (.ofNat b)) (Nat.beq (sV k) (sV k'))) (λk' b=>Bool.rec .bad (slow k (.negSucc a) (.negSucc b)) (Nat.beq (sV k) (sV k'))) (toI y))
  (toI x)
def yA:IntKind->Int->Int->AV:=λ_ _ _=> .bad
def aek (k:IntKind) (a b:Int):AV:= .int k (k.wrap ((BitVec.ofInt k.bits a&&&BitVec.ofInt k.bits b).toNat:Int))
def CB (k:IntKind) (a b:Int):AV:= .int k (k.wrap ((BitVec.ofInt k.bits a&&&~~~ BitVec.ofInt k.bits b).toNat:Int))
def orS (k:IntKind) (a b:Int):AV:= .int k (k.wrap ((BitVec.ofInt k.bits a|||BitVec.ofInt k.bits b).toNat:Int))
def abz (k:IntKind) (a b:Int):AV:= .int k (k.wrap ((BitVec.ofInt k.bits a^^^BitVec.ofInt k.bits b).toNat:Int))
def aei (k:IntKind) (a b:Nat):AV:=XJ k (Nat.add a b)
def Ya (k:IntKind) (a b:Nat):AV:=Bool.rec (mk k (Int.sub (.ofNat a) (.ofNat b))) (XJ k (Nat.sub a b)) (Nat.ble b a)
def aby (k:IntKind) (a b:Nat):AV:=XJ k (Nat.mul a b)
def TN (k:IntKind) (a b:Nat):AV:=Bool.rec (XJ k (Nat.div a b)) .bad (Nat.beq b (nat_lit 0))
def TP (k:IntKind) (a b:Nat):AV:=Bool.rec (.int k (.ofNat (Nat.mod a b))) .bad (Nat.beq b (nat_lit 0))
def IC (f:Nat->Nat->Nat) (k:IntKind) (a b:Nat):AV:=Bool.rec .bad (Bool.rec .bad (.int k (.ofNat (f a b))) (Nat.ble b (Kc k))) (Nat.ble a (Kc k))
def Ci (b:Bool):Bool:=Bool.rec true false b
def eqF (_:IntKind) (a b:Nat):AV:= .bool (Nat.beq a b)
def neF (_:IntKind) (a b:Nat):AV:= .bool (Ci (Nat.beq a b))
def ltF (_:IntKind) (a b:Nat):AV:= .bool (Nat.ble (Nat.succ a) b)
def leF (_:IntKind) (a b:Nat):AV:= .bool (Nat.ble a b)
def gtF (_:IntKind) (a b:Nat):AV:= .bool (Nat.ble (Nat.succ b) a)
def geF (_:IntKind) (a b:Nat):AV:= .bool (Nat.ble b a)
def abv (k:IntKind) (a n:Nat):AV:=Bool.rec .bad (XJ k (Nat.mul a (Nat.pow (nat_lit 2) n))) (Nat.ble n k.bits)
def abw (k:IntKind) (a n:Nat):AV:=Bool.rec .bad (.int k (.ofNat (Nat.div a (Nat.pow (nat_lit 2) n)))) (Nat.ble n k.bits)
def zY (f:IntKind->Nat->Nat->AV):AV->AV->AV:=λx y=>
 OI.rec (motive:=λ_=>AV) .bad (λk a=>OI.rec (motive:=λ_=>AV) .bad (λ_ b=>f k a b) (λ_ _=> .bad) (toI y)) (λ_ _=> .bad) (toI x)
def aeh (k:IntKind) (x:Int) (n:Nat):AV:=Bool.rec .bad (.int k (x.fdiv (2^n))) (Nat.ble n k.bits)
def abx (x y:AV):AV:=
 match x,y with
 | .int k (.negSucc a), .int _ (.ofNat n)=>aeh k (.negSucc a) n
 |x,y=>zY abw x y
def Str.lt (a b:Str):Bool:=
 Bool.rec
  (Nat.ble (Nat.succ (Nat.shiftRight a.val (Nat.mul (nat_lit 8) (Nat.sub a.len b.len)))) b.val)
  (Nat.ble (Nat.succ a.val) (Nat.add (Nat.shiftRight b.val (Nat.mul (nat_lit 8) (Nat.sub b.len a.len))) (Bool.rec (nat_lit 0) (nat_lit 1) (Nat.ble (Nat.succ a.len) b.len))))
  (Nat.ble a.len b.len)
def str2 (f:Str->Str->AV) (g:AV->AV->AV):AV->AV->AV:=λx y=>
 OS.rec (motive:=λ_=>AV) (g x y) (λa=>OS.rec (motive:=λ_=>AV) .bad (λb=>f a b) (toS y)) (toS x)
def FU (a b:Bool):Bool:=Bool.rec (Bool.rec true false b) b a
inductive EK where
 |none|bool|ptr|slice|map|func|iface|two
def eqI:Int->Int->Bool
 | .ofNat a, .ofNat b=>Nat.beq a b
 | .negSucc a, .negSucc b=>Nat.beq a b
 |_,_=>false
def abq (a b:Bool):Bool:=Bool.rec false b a
def FV (e:EK) (c:Bool) (r:Bool->AV):AV->AV->AV:=λx y=>
 match e with
 | .bool=>(match x,y with
   | .bool a, .bool b=>r (FU a b)
   |_,_=> .bad)
 | .ptr=>(match x,y with
   | .nK, .nK=>r true
   | .nK, .ptr _ _=>r false
   | .ptr _ _, .nK=>r false
   | .ptr a i, .ptr b j=>Bool.rec .bad (r (Nat.beq i j)) (Nat.beq a b)
   |_,_=> .bad)
 | .slice=>(match x,y with
   | .jq, .jq=>r true
   | .jq, .slice _ _ _ _ _=>r false
   | .slice _ _ _ _ _, .jq=>r false
   |_,_=> .bad)
 | .map=>(match x,y with
   | .qN, .qN=>r true
   | .qN, .map _=>r false
   | .map _, .qN=>r false
   |_,_=> .bad)
 | .func=>(match x,y with
   | .qO, .qO=>r true
   | .qO, .fn _ _ _=>r false
   | .fn _ _ _, .qO=>r false
   | .qO, .wG _=>r false
   | .wG _, .qO=>r false
   |_,_=> .bad)
 | .iface=>(match x,y with
   | .qd, .qd=>Bool.rec .bad (r true) c
   | .qd, .sG _ _=>r false
   | .sG _ _, .qd=>r false
   |_,_=> .bad)
 | .two=>(match x,y with
   | .agg (.cons (.int k a) (.cons (.int l b) .nil)), .agg (.cons (.int k' a') (.cons (.int l' b') .nil))=>
     Bool.rec .bad (r (abq (eqI a a') (eqI b b'))) (abq (Nat.beq (sV k) (sV k')) (Nat.beq (sV l) (sV l')))
   |_,_=> .bad)
 | .none=> .bad
def rT (b:Bool):AV:= .bool b
def rF (b:Bool):AV:= .bool (Ci b)
def aex:AV->AV->AV:=λ_ _=> .bad
def sEq (a b:Str):AV:= .bool (a.eq b)
def sNe (a b:Str):AV:= .bool (Ci (a.eq b))
def sLt (a b:Str):AV:= .bool (a.lt b)
def aej (a b:Str):AV:=Bool.rec .bad (.str (a.app b)) (Nat.ble (Nat.add a.len b.len) (nat_lit 0x4000000000000000))
def orI (f g:AV->AV->AV):AV->AV->AV:=λx y=>
 OI.rec (motive:=λ_=>AV) (g x y) (λ_ _=>f x y) (λ_ _=>f x y) (toI x)
def TT (op:BinOp) (c:Bool) (e:EK):B2:=
 BinOp.rec (motive:=λ_=>B2)
  ⟨orI (iI aei λk a b=>mk k (Int.add a b)) (str2 aej aex)⟩
  ⟨iI Ya λk a b=>mk k (Int.sub a b)⟩
  ⟨iI aby λk a b=>mk k (Int.mul a b)⟩
  ⟨iI TN yA⟩
  ⟨iI TP yA⟩
  ⟨iI (IC Nat.land) aek⟩
  ⟨iI (IC Nat.lor) orS⟩
  ⟨iI (IC Nat.xor) abz⟩
  ⟨zY abv⟩ ⟨abx⟩ ⟨iI (λk a b=>CB k (.ofNat a) (.ofNat b)) CB⟩
  ⟨orI (iI eqF λ_ a b=> .bool (decide (a=b))) (str2 sEq (FV e c rT))⟩
  ⟨orI (iI neF λ_ a b=> .bool (Ci (decide (a=b)))) (str2 sNe (FV e c rF))⟩
  ⟨orI (iI ltF λ_ a b=> .bool (decide (a<b))) (str2 sLt aex)⟩
  ⟨iI leF λ_ a b=> .bool (decide (a<=b))⟩
  ⟨iI gtF λ_ a b=> .bool (decide (b<a))⟩
  ⟨iI geF λ_ a b=> .bool (decide (b<=a))⟩
  op
def uop1 (op:UnOp):AV->AV:=λx=>
 match op,x with
 | .not, .bool b=> .bool (Ci b)
 | .neg, .int k n=>mk k (Int.sub (.ofNat (nat_lit 0)) n)
 | .xor, .int k n=>abz k (if k.signed then-1 else k.max) n
 |_,_=> .bad
def uop (op:UnOp):U1:=⟨uop1 op⟩
structure Ty where
 desc:TypeDesc
 size:Nat
 bytes:Nat
 agg:Bool
 zero:AV
 zv:AV
structure Fn where
 nt:Nat
 body:Code
 res:List ResultVar
structure G where
 ty:Nat->Option Ty
 fn:Nat->Option Fn
 ext:Nat->Nat
 iP:Nat->AV->H->Option bF
 eq2:Nat->Bool
 pU:Nat->Str->Option Nat
def UO:Value->AV
 | .bool b=> .bool b
 | .int k n=> .int k n
 | .string s=> .str (Str.of s)
 | .pointer none=> .nK
 | .slice none 0 0=> .jq
 | .map none=> .qN
 | .nilFunc=> .qO
 | .nilIface=> .qd
 |_=> .bad
def tT:List Value->AV
 |[]=> .nil
 |v::vs=> .cons (UO v) (tT vs)
def ofV:Value->AV
 | .agg cs=> .agg (tT cs.toList)
 | .tuple vs=> .fV (tT vs.toList)
 |v=>UO v
structure AVb where
 v:AV
def aiJ (v:Value):AVb:=⟨ofV v⟩
def ev:Operand->EV:=Operand.rec (motive:=λ_=>EV)
 gT (λv=>⟨λ_=>(aiJ v).v⟩) (λg=>⟨λ_=> .ptr g (nat_lit 0)⟩) (λf=>⟨λ_=> .fn f .nil .nil⟩)
def Cv (d:Nat) (t:E AV d) (n:Nat):Nat->AV:=
 Nat.rec (motive:=λ_=>Nat->AV) (λ_=> .nil) (λ_ ih i=> .cons (E.get d (path d i) t) (ih (Nat.succ i))) n
def XI (d:Nat):AV->Nat->E AV d->E AV d:=
 DU (λ_ t=>t) (λh _ ih i t=>ih (Nat.succ i) (E.put h d (path d i) t))
def dep (n:Nat):Nat:=
 Bool.rec (Bool.rec (Bool.rec (Bool.rec (Bool.rec (Bool.rec (Bool.rec (nat_lit 11) (nat_lit 8) (Nat.ble n (nat_lit 65536))) (nat_lit 6) (Nat.ble n (nat_lit 4096))) (nat_lit 5) (Nat.ble n (nat_lit 1024))) (nat_lit 4) (Nat.ble n (nat_lit 256))) (nat_lit 3) (Nat.ble n (nat_lit 64))) (nat_lit 2) (Nat.ble n (nat_lit 16)))
  (Bool.rec (nat_lit 1) (nat_lit 0) (Nat.ble n (nat_lit 1))) (Nat.ble n (nat_lit 4))
def fM:Nat:=nat_lit 4000000
def FN (d:Nat) (cs:AV):E AV d:=XI d cs (nat_lit 0) (E.rep .bad d)
def ael (el:Nat) (cs:AV) (h:H) (n:Nat) (k:Nat->H->bF):bF:=
 Bool.rec .fail (Bool.rec .fail (sN (dep n) λd=>k h.next (h.new (.cells el false n d (FN d cs)))) (Nat.ble n fM)) h.room
def row (el:Nat) (cs:AV) (h:H) (k:Nat->H->bF):bF:=sN (llen cs) λn=>ael el cs h n k
def abA (el:Nat) (cs:AV) (h:H) (k:Nat->H->bF):bF:=
 match h.room,Nat.ble (llen cs) fM with
 |true,true=>k h.next (h.new (.cells el false (llen cs) (nat_lit 12) (FN (nat_lit 12) cs)))
 |_,_=> .fail
structure Act where
 f:Env->H->bF
structure A1 where
 f:AV->H->bF
structure A2 where
 f:AV->AV->H->bF
def failA:Act:=⟨λ_ _=> .fail⟩
def onC (f:(el:Nat)->Bool->(n d:Nat)->E AV d->bF):Option wH->bF:=
 Option.rec (motive:=λ_=>bF) .fail (wH.rec (motive:=λ_=>bF) f (λ_ _ _ _ _=> .fail) (λ_ _ _=> .fail) (λ_ _=> .fail) (λ_ _ _ _ _ _ _ _=> .fail) .fail .fail)
def Bq (h:H) (b:Nat) (k:(el:Nat)->Bool->(n d:Nat)->E AV d->bF):bF:=onC k (h.get b)
def TU (h:H) (b off:Nat):bF:=Bq h b λ_ _ n d t=>Bool.rec .fail (sU (E.get d (path d off) t) h) (Nat.ble (Nat.succ off) n)
def TV (size:Nat) (h:H) (b off:Nat):bF:=Bq h b λ_ _ n d t=>Bool.rec .fail (.ok (.agg (Cv d t size off)) h) (Nat.ble (Nat.add off size) n)
def M7 (f:H->Nat->Nat->bF) (a:AV) (h:H):bF:=OP.rec (motive:=λ_=>bF) .fail (f h) (toP a)
def qg (agg:Bool) (size:Nat):A1:=Bool.rec ⟨M7 TU⟩ ⟨M7 (TV size)⟩ agg
def Ua (v:AV) (h:H) (b off:Nat):bF:=Bq h b λel ro n d t=>
 Bool.rec .fail (Bool.rec .fail (Bool.rec (.ok (.fV .nil) (h.set b (.cells el false n d (E.put v d (path d off) t)))) .fail ro) (Nat.ble (Nat.succ off) n)) (one v)
def Ub (size:Nat) (v:AV) (h:H) (b off:Nat):bF:=Bq h b λel ro n d t=>
 Bool.rec .fail (Bool.rec .fail (Bool.rec .fail (Bool.rec (.ok (.fV .nil) (h.set b (.cells el false n d (XI d (cellsOf v) off t)))) .fail ro)
  (Nat.ble (Nat.add off size) n)) (Nat.beq (llen (cellsOf v)) size)) (ones (cellsOf v))
def Dz (agg:Bool) (size:Nat):A2:=Bool.rec ⟨λa v h=>M7 (Ua v) a h⟩ (Bool.rec ⟨λa v h=>M7 (Ub size v) a h⟩ ⟨λ_ _ _=> .fail⟩ (Nat.beq size (nat_lit 0))) (Bool.rec (Ci (Nat.beq size (nat_lit 1))) true agg)
def Iw (cs:AV):Nat->AV:=Nat.rec (motive:=λ_=>AV) .nil (λ_ ih=>kZ cs ih)
def Gi (cs:AV) (off:Nat) (v:AV):AV:=kZ (Gb cs off) (kZ v (Gc cs (Nat.add off (llen v))))
def fieldsOf:TypeDesc->Option (Array Field)
 | .struct fs=>some fs
 |_=>none
def fillA (pl:Nat->Option (Nat×Nat)) (en:Env):List (Nat×Operand)->AV->AV:=
 List.rec (motive:=λ_=>AV->AV) (λcs=>cs) (λp _ ih cs=>
  match pl p.1 with
  |some (off,size)=>match Nat.beq (llen (cellsOf ((ev p.2).f en))) size,Nat.ble (Nat.add off size) (llen cs),Ci (Nat.beq size (nat_lit 0))with
   |true,true,true=>ih (Gi cs off (cellsOf ((ev p.2).f en)))
   |_,_,_=> .bad
  |none=> .bad)
def isL:AV->Bool:=
 AV.rec (motive:=λ_=>Bool) false false (λ_=>false) (λ_ _=>false) (λ_=>false) (λ_ _=>false) false (λ_ _ _ _ _=>false) false (λ_=>false) false
  (λ_ _ _ _ _=>false) (λ_=>false) false (λ_ _ _=>false) false (λ_ _=>false) (λ_ _=>false) true (λ_ _ _ ih=>ih)
end
noncomputable section
def DF {β:Type} (z:β) (k:Nat->β):AV->β:=λv=>
 match v with
 | .int _ (.ofNat n)=>k n
 |_=>z
def qj (en:Env) (x:Option Operand) (dflt:Nat) (k:Nat->bF):bF:=
 match x with
 |none=>k dflt
 |some o=>DF .fail k ((ev o).f en)
def abD (hi mx:Option Operand):Bool:=
 match mx,hi with
 |some _,none=>false
 |_,_=>true
def mxz (mx:Option Operand) (z:Bool) (m l:Nat):Bool:=
 match mx with
 |none=>z
 |some _=>Nat.beq m l
def DI (es:Nat) (x:EV) (lo hi mx:Option Operand):Act:=⟨λen h=>
 match x.f en with
 | .slice b off len es' z=>qj en mx len λm=>qj en hi len λu=>qj en lo (nat_lit 0) λl=>
  match Nat.ble l u,Nat.ble u m,Nat.ble m len,Nat.beq es es' with
  |true,true,true,true=> .ok (.slice b (Nat.add off (Nat.mul l es)) (Nat.sub u l) es (mxz mx z m l)) h
  |_,_,_,_=> .fail
 | .jq=>qj en mx (nat_lit 0) λm=>qj en hi (nat_lit 0) λu=>qj en lo (nat_lit 0) λl=>
  match Nat.add m (Nat.add u l)with
  |0=> .ok .jq h
  |_=> .fail
 |_=> .fail⟩
def ql (x:EV) (lo hi:Option Operand):Act:=⟨λen h=>
 match x.f en with
 | .str s=>qj en hi s.len λb=>qj en lo (nat_lit 0) λa=>match Nat.ble a b,Nat.ble b s.len with
  |true,true=> .ok (.str (s.sub a b)) h
  |_,_=> .fail
 |_=> .fail⟩
def nG (es n:Nat) (x:EV) (lo hi mx:Option Operand):Act:=⟨λen h=>
 match x.f en with
 | .ptr b off=>match mx with
   |some _=> .fail
   |none=>Bq h b λ_ _ nb _ _=>qj en hi n λu=>qj en lo (nat_lit 0) λl=>
    match Nat.ble l u,Nat.ble u n,Nat.ble (Nat.add off (Nat.mul n es)) nb with
    |true,true,true=> .ok (.slice b (Nat.add off (Nat.mul l es)) (Nat.sub u l) es false) h
    |_,_,_=> .fail
 |_=> .fail⟩
def fieldA (off:Nat) (h:H) (b o:Nat):bF:= .ok (.ptr b (Nat.add o off)) h
def onN (f:Nat->bF) (i:AV):bF:=OI.rec (motive:=λ_=>bF) .fail (λ_ n=>f n) (λ_ _=> .fail) (toI i)
def Ug (es:Nat) (x i:AV) (h:H):bF:=
 OL.rec (motive:=λ_=>bF) .fail .fail (λb off len _ _=>onN (λk=>Bool.rec .fail (.ok (.ptr b (Nat.add off (Nat.mul k es))) h) (Nat.ble (Nat.succ k) len)) i) (toL x)
def Uh (n es:Nat) (x i:AV) (h:H):bF:=
 OP.rec (motive:=λ_=>bF) .fail (λb off=>onN (λk=>Bool.rec .fail (.ok (.ptr b (Nat.add off (Nat.mul k es))) h) (Nat.ble (Nat.succ k) n)) i) (toP x)
def DC (x i:AV) (h:H):bF:=
 OS.rec (motive:=λ_=>bF) .fail (λs=>onN (λk=>Bool.rec .fail (sN (s.byte k) λc=> .ok (.int .u8 (.ofNat c)) h) (Nat.ble (Nat.succ k) s.len)) i) (toS x)
def Kl (agg:Bool) (size off:Nat) (cs:AV) (h:H):bF:=
 match agg with
 |true=>match Nat.ble (Nat.add off size) (llen cs)with
  |true=> .ok (.agg (Gb (Gc cs off) size)) h
  |false=> .fail
 |false=>sU (Ch cs off) h
def Ng (n:Nat) (agg:Bool) (es:Nat) (x i:AV) (h:H):bF:=
 onN (λk=>match x with
  | .agg cs=>match Nat.ble (Nat.succ k) n with
    |true=>Kl agg es (Nat.mul k es) cs h
    |false=> .fail
  |_=> .fail) i
def abG (s:Str) (n:Nat):AV:=
 Nat.rec (motive:=λ_=>Nat->AV) (λ_=> .nil) (λ_ ih i=>sN (s.byte i) λc=> .cons (.int .u8 (.ofNat c)) (ih (Nat.succ i))) n (nat_lit 0)
def elems (es:Nat) (x:AV) (h:H) (k:AV->Nat->bF):bF:=
 match x with
 | .jq=>k .nil (nat_lit 0)
 | .str s=>match Nat.beq es (nat_lit 1)with
   |true=>k (abG s s.len) s.len
   |false=> .fail
 | .slice b off len es' _=>match h.get b with
   |some (.cells _ _ n d t)=>match Nat.beq es es',Nat.ble (Nat.add off (Nat.mul len es)) n with
    |true,true=>k (Cv d t (Nat.mul len es) off) len
    |_,_=> .fail
   |_=> .fail
 |_=> .fail
def akz:Nat:=nat_lit 1000000
def Uu (n bytes:Nat):Bool:=
 match bytes with
 |0=>false
 |Nat.succ _=>Nat.ble (Nat.mul n bytes) fM
def aiK (z ro:Bool):Bool:=Bool.rec (Bool.rec true false ro) true z
def Uv (z:Bool) (h:H) (b:Nat):H:=Bool.rec (h.kill b) h z
def Us (el es off len n:Nat) (new:AV) (h0:H) (nb d:Nat) (t:E AV d):bF:=
 match Nat.beq off (nat_lit 0),Nat.beq (Nat.mul len es) nb,Nat.beq (dep (Nat.add nb (llen new))) d,Nat.ble (Nat.add nb (llen new)) fM with
 |true,true,true,true=> .ok (.slice h0.next (nat_lit 0) (Nat.add len n) es false) (h0.new (.cells el false (Nat.add nb (llen new)) d (XI d new nb t)))
 |_,_,_,_=>row el (kZ (Cv d t (Nat.mul len es) off) new) h0 λb' h'=> .ok (.slice b' (nat_lit 0) (Nat.add len n) es false) h'
def Jb (el es bytes off len n:Nat) (new:AV) (h:H) (b nb d:Nat) (t:E AV d) (es':Nat) (ro z:Bool):bF:=
 match Nat.beq es es',ro,z,Nat.beq (Nat.add off (Nat.mul len es)) nb,Uu (Nat.add len n) bytes,h.room,Nat.ble (llen (kZ (Cv d t (Nat.mul len es) off) new)) fM with
 |true,true,false,true,true,true,true=> .ok (.slice h.next (nat_lit 0) (Nat.add len n) es false)
  ((h.kill b).new (.cells (Nat.add el (nat_lit 2000000)) true (llen (kZ (Cv d t (Nat.mul len es) off) new)) (dep (llen (kZ (Cv d t (Nat.mul len es) off) new)))
    (FN (dep (llen (kZ (Cv d t (Nat.mul len es) off) new))) (kZ (Cv d t (Nat.mul len es) off) new))))
 |_,_,_,_,_,_,_=> .fail
def yJ (el es bytes:Nat) (s:AV) (h:H) (new:AV) (n:Nat):bF:=
 match n with
 |0=>(match s with
  | .jq=> .ok s h
  | .slice _ _ _ _ _=> .ok s h
  |_=> .fail)
 |Nat.succ _=>match ones new,s with
  |true, .jq=>(match Uu n bytes with
   |true=>row el new h λb h'=> .ok (.slice b (nat_lit 0) n es false) h'
   |false=> .fail)
  |true, .slice b off len es' z=>(match h.get b with
   |some (.cells iY ro nb d t)=>match Nat.beq iY (Nat.add el (nat_lit 2000000))with
    |true=>Jb el es bytes off len n new h b nb d t es' ro z
    |false=>
    (match Nat.beq es es',Nat.beq el iY,Nat.ble (Nat.add off (Nat.mul len es)) nb,Uu (Nat.add len n) bytes,h.room,aiK z ro with
    |true,true,true,true,true,true=>Us el es off len n new (Uv z h b) nb d t
    |_,_,_,_,_,_=> .fail)
   |_=> .fail)
  |_,_=> .fail
def Jc (el es bytes:Nat) (s x:AV) (h:H):bF:=elems es x h (yJ el es bytes s h)
def Uw (es:Nat) (dst src:AV) (h:H):bF:=
 elems es src h λnew n=>
  match dst with
  | .jq=> .ok (.int .i64 (.ofNat (nat_lit 0))) h
  | .slice b off len es' _=>match Nat.beq n (nat_lit 0)with
    |true=> .ok (.int .i64 (.ofNat (nat_lit 0))) h
    |false=>match Nat.beq es es',h.get b with
    |true,some (.cells el false nb d t)=>
     match Nat.ble (Nat.add off (Nat.mul len es)) nb,ones new with
     |true,true=>sN (Bool.rec len n (Nat.ble n len)) λm=>
      .ok (.int .i64 (.ofNat m)) (h.set b (.cells el false nb d (XI d (Gb new (Nat.mul m es)) off t)))
     |_,_=> .fail
    |_,_=> .fail
  |_=> .fail
def nO:AV->Option Str->Option Str:=
 DU (λa=>a) (λc _ ih a=>match c,a with
  | .int .u8 (.ofNat n),some s=>match Nat.ble n (nat_lit 255)with
    |true=>sN (Nat.add (Nat.mul s.val (nat_lit 256)) n) λv=>ih (some ⟨Nat.succ s.len,v⟩)
    |false=>none
  |_,_=>none)
def Ur (o:Option Str) (h:H):bF:=
 match o with
 |some s=> .ok (.str s) h
 |none=> .fail
def vld (r:Nat):Bool:=Bool.rec (Bool.rec false (Nat.ble r (nat_lit 1114111)) (Nat.ble (nat_lit 57344) r)) true (Nat.ble (Nat.succ r) (nat_lit 55296))
def enc1 (c:Nat):Str:=
 Bool.rec (Bool.rec (Bool.rec
  ⟨nat_lit 4,Nat.add (Nat.mul (Nat.add (Nat.mul (Nat.add (Nat.mul (Nat.add (nat_lit 240) (Nat.div c (nat_lit 262144))) (nat_lit 256)) (Nat.add (nat_lit 128) (Nat.mod (Nat.div c (nat_lit 4096)) (nat_lit 64)))) (nat_lit 256)) (Nat.add (nat_lit 128) (Nat.mod (Nat.div c (nat_lit 64)) (nat_lit 64)))) (nat_lit 256)) (Nat.add (nat_lit 128) (Nat.mod c (nat_lit 64)))⟩
  ⟨nat_lit 3,Nat.add (Nat.mul (Nat.add (Nat.mul (Nat.add (nat_lit 224) (Nat.div c (nat_lit 4096))) (nat_lit 256)) (Nat.add (nat_lit 128) (Nat.mod (Nat.div c (nat_lit 64)) (nat_lit 64)))) (nat_lit 256)) (Nat.add (nat_lit 128) (Nat.mod c (nat_lit 64)))⟩ (Nat.ble (Nat.succ c) (nat_lit 65536)))
  ⟨nat_lit 2,Nat.add (Nat.mul (Nat.add (nat_lit 192) (Nat.div c (nat_lit 64))) (nat_lit 256)) (Nat.add (nat_lit 128) (Nat.mod c (nat_lit 64)))⟩ (Nat.ble (Nat.succ c) (nat_lit 2048)))
  ⟨nat_lit 1,c⟩ (Nat.ble (Nat.succ c) (nat_lit 128))
def encR (r:Int):Str:=
 Int.rec (motive:=λ_=>Str) (λc=>enc1 (Bool.rec (nat_lit 65533) c (vld c))) (λ_=>enc1 (nat_lit 65533)) r
def cont (s:Str) (i:Nat):Bool:=Bool.rec false (Nat.beq (Nat.div (s.byte i) (nat_lit 64)) (nat_lit 2)) (Nat.ble (Nat.succ i) s.len)
def aA (a b:Bool):Bool:=Bool.rec false b a
def XK (s:Str) (i:Nat):Nat:=Nat.mod (s.byte i) (nat_lit 64)
def Yh (s:Str) (i:Nat) (k:Nat->Nat->bF):bF:=
 sN (s.byte i) λb0=>
 match Nat.ble (Nat.succ b0) (nat_lit 128)with
 |true=>k b0 (nat_lit 1)
 |false=>match aA (Nat.beq (Nat.div b0 (nat_lit 32)) (nat_lit 6)) (cont s (Nat.add i (nat_lit 1)))with
  |true=>sN (Nat.add (Nat.mul (Nat.mod b0 (nat_lit 32)) (nat_lit 64)) (XK s (Nat.add i (nat_lit 1)))) λc=>
   Bool.rec (k (nat_lit 65533) (nat_lit 1)) (k c (nat_lit 2)) (Nat.ble (nat_lit 128) c)
  |false=>match aA (Nat.beq (Nat.div b0 (nat_lit 16)) (nat_lit 14)) (aA (cont s (Nat.add i (nat_lit 1))) (cont s (Nat.add i (nat_lit 2))))with
   |true=>sN (Nat.add (Nat.add (Nat.mul (Nat.mod b0 (nat_lit 16)) (nat_lit 4096)) (Nat.mul (XK s (Nat.add i (nat_lit 1))) (nat_lit 64))) (XK s (Nat.add i (nat_lit 2)))) λc=>
    Bool.rec (k (nat_lit 65533) (nat_lit 1)) (k c (nat_lit 3)) (aA (Nat.ble (nat_lit 2048) c) (vld c))
   |false=>match aA (Nat.beq (Nat.div b0 (nat_lit 8)) (nat_lit 30)) (aA (cont s (Nat.add i (nat_lit 1))) (aA (cont s (Nat.add i (nat_lit 2))) (cont s (Nat.add i (nat_lit 3)))))with
    |true=>sN (Nat.add (Nat.add (Nat.add (Nat.mul (Nat.mod b0 (nat_lit 8)) (nat_lit 262144)) (Nat.mul (XK s (Nat.add i (nat_lit 1))) (nat_lit 4096))) (Nat.mul (XK s (Nat.add i (nat_lit 2))) (nat_lit 64))) (XK s (Nat.add i (nat_lit 3)))) λc=>
     Bool.rec (k (nat_lit 65533) (nat_lit 1)) (k c (nat_lit 4)) (aA (Nat.ble (nat_lit 65536) c) (vld c))
    |false=>k (nat_lit 65533) (nat_lit 1)
def Gq:Nat:=nat_lit 4194303
def nM (k:Str):List (Str×AV)->Option AV:=
 List.rec (motive:=λ_=>Option AV) none (λp _ ih=>Bool.rec ih (some p.2) (p.1.eq k))
def IL (k:Str) (v:AV):List (Str×AV)->List (Str×AV):=
 List.rec (motive:=λ_=>List (Str×AV)) [(k,v)] (λp r ih=>Bool.rec (p::ih) ((p.1,v)::r) (p.1.eq k))
inductive MK where
 |none
 |ints (k:IntKind)
 |strs
def eG (g:G) (t:Nat):MK:=
 match g.ty t with
 |some {desc:= .map k _, ..}=>match g.ty k with
  |some {desc:= .int kd, ..}=> .ints kd
  |some {desc:= .string, ..}=> .strs
  |_=> .none
 |_=> .none
def mapKey (kind:MK) (x:wH) (key:AV) (fi:IntKind->Nat->Nat->E (Option AV) 11->Nat->bF) (fs:Nat->Nat->List (Str×AV)->Str->bF):bF:=
 match kind with
 | .ints kt=>(match x,key with
   | .Ag kd n c t _, .int kd' (.ofNat i)=>match Nat.ble i Gq,Nat.beq (sV kd) (sV kd'),Nat.beq (sV kd) (sV kt)with
     |true,true,true=>fi kd n c t i
     |_,_,_=> .fail
   |_,_=> .fail)
 | .strs=>(match x,key with
   | .smap n c l, .str s=>fs n c l s
   |_,_=> .fail)
 | .none=> .fail
def aat (kind:MK) (key:AV):Bool:=
 match kind with
 | .ints kd=>(match key with
   | .int kd' _=>Nat.beq (sV kd) (sV kd')
   |_=>false)
 | .strs=>(match key with
   | .str _=>true
   |_=>false)
 | .none=>false
def okA (ok:Bool) (v:AV) (b:Bool) (h:H):bF:=
 match ok with
 |true=> .ok (.fV (.cons v (.cons (.bool b) .nil))) h
 |false=>sU v h
def IQ (kind:MK) (zero:AV) (m key:AV) (ok:Bool) (h:H):bF:=
 match m with
 | .qN=>(match aat kind key with
   |true=>okA ok zero false h
   |false=> .fail)
 | .map b=>match h.get b with
   |some x=>mapKey kind x key
    (λ_ _ _ t i=>match E.get 11 (path 11 i) t with
     |some v=>okA ok v true h
     |none=>okA ok zero false h)
    (λ_ _ l s=>match nM s l with
     |some v=>okA ok v true h
     |none=>okA ok zero false h)
   |none=> .fail
 |_=> .fail
def Af (kind:MK) (m key v:AV) (h:H):bF:=
 match m with
 | .map b=>match h.get b with
   |some x=>mapKey kind x key
    (λkd n c t i=>match E.get 11 (path 11 i) t with
     |some _=> .ok (.fV .nil) (h.set b (.Ag kd n c (E.put (some v) 11 (path 11 i) t) (nat_lit 0)))
     |none=> .ok (.fV .nil) (h.set b (.Ag kd (Nat.succ n) (Nat.succ c) (E.put (some v) 11 (path 11 i) t) (nat_lit 0))))
    (λn c l s=>match nM s l with
     |some _=> .ok (.fV .nil) (h.set b (.smap n c (IL s v l)))
     |none=> .ok (.fV .nil) (h.set b (.smap (Nat.succ n) (Nat.succ c) (IL s v l))))
   |none=> .fail
 |_=> .fail
def IU (kind:MK) (zero m key:AV) (h:H):bF:=
 match m with
 | .map b=>match h.get b with
   |some x=>mapKey kind x key
    (λkd n c t i=>match E.get 11 (path 11 i) t with
     |some _=> .fail
     |none=> .ok (.fV (.cons zero (.cons (.int .i64 (.ofNat c)) .nil))) (h.set b (.Ag kd (Nat.succ n) (Nat.succ c) (E.put (some zero) 11 (path 11 i) t) (Nat.succ i))))
    (λ_ _ _ _=> .fail)
   |none=> .fail
 |_=> .fail
def IV (m s v:AV) (h:H):bF:=
 match m,s with
 | .map b, .int _ (.ofNat st)=>(match h.get b with
   |some (.Ag kd n c t lk)=>(match lk with
    |Nat.succ i=>(match Nat.beq (Nat.succ st) c,Nat.ble i Gq with
     |true,true=> .ok (.fV .nil) (h.set b (.Ag kd n c (E.put (some v) 11 (path 11 i) t) (nat_lit 0)))
     |_,_=> .fail)
    |0=> .fail)
   |_=> .fail)
 |_,_=> .fail
def Un (d:TypeDesc) (x:AV) (h:H):bF:=
 match d with
 | .string=>(match x with
   | .str s=>sN s.len λn=> .ok (.int .i64 (.ofNat n)) h
   |_=> .fail)
 | .slice _=>(match x with
   | .slice _ _ n _ _=>sN n λn=> .ok (.int .i64 (.ofNat n)) h
   | .jq=> .ok (.int .i64 (.ofNat (nat_lit 0))) h
   |_=> .fail)
 | .map _ _=>(match x with
   | .qN=> .ok (.int .i64 (.ofNat (nat_lit 0))) h
   | .map b=>match h.get b with
     |some (.Ag _ n _ _ _)=> .ok (.int .i64 (.ofNat n)) h
     |some (.smap n _ _)=> .ok (.int .i64 (.ofNat n)) h
     |_=> .fail
   |_=> .fail)
 |_=> .fail
def mm2:Bool->AV->AV->AV:=Bool.rec (motive:=λ_=>AV->AV->AV)
 (iI (λk a b=> .int k (.ofNat (Bool.rec b a (Nat.ble a b)))) (λk a b=> .int k (Bool.rec b a (decide (a<=b)))))
 (iI (λk a b=> .int k (.ofNat (Bool.rec a b (Nat.ble a b)))) (λk a b=> .int k (Bool.rec a b (decide (a<=b)))))
def mmA (gt:Bool) (l:AV):AV:=
 match l with
 | .cons x r=>DU (λa=>a) (λy _ ih a=>ih (mm2 gt a y)) r x
 |_=> .bad
def Nh (x:AV) (h:H):bF:=
 match x with
 | .str s=>match h.room with
   |true=> .ok (.ptr h.next (nat_lit 0)) (h.new (.iter s (nat_lit 0)))
   |false=> .fail
 |_=> .fail
def Kw (x:AV) (h:H):bF:=
 match x with
 | .ptr b 0=>match h.get b with
   |some (.iter s pos)=>match Nat.ble (Nat.succ pos) s.len with
    |true=>Yh s pos λr w=>sN (Nat.add pos w) λp=> .ok (.fV (.cons (.bool true) (.cons (.int .i64 (.ofNat pos)) (.cons (.int .i32 (.ofNat r)) .nil)))) (h.set b (.iter s p))
    |false=> .ok (.fV (.cons (.bool false) .nil)) h
   |_=> .fail
 |_=> .fail
def tL (x:AV) (i:Nat):AV:=
 match x with
 | .fV vs=>Ch vs i
 |_=> .bad
def I8 (g:G) (a c:AV):Bool:=
 match a with
 | .sG t _=>(match c with
   | .str s=>(match g.pU t s with
     |some _=>true
     |none=>false)
   |_=>false)
 | .nil=>true
 | .cons _ _=>true
 |_=>false
def nH (g:G) (x:AV):AV:=
 match x with
 | .ptr b o=> .ptr b o
 | .fn f a c=>Bool.rec .bad (.fn f a c) (I8 g a c)
 | .wG l=> .wG l
 | .sG t v=> .sG t v
 |_=> .bad
def opsL:List Operand->EV:=List.rec (motive:=λ_=>EV) ⟨λ_=> .nil⟩ (λo _ ih=>⟨λen=> .cons ((ev o).f en) (ih.f en)⟩)
def Jd (g:G) (t:Nat) (k:Ty->Act):Act:=
 match g.ty t with
 |some y=>k y
 |none=>failA
def zeroV (y:Ty):AV:=y.zv
def KA (g:G) (same:Bool) (src dst:TypeDesc) (x:AV) (h:H):bF:=
 match dst,x with
 | .slice e, .slice b off (Nat.succ l) es z=>(match same,src,g.ty e with
   |true, .slice _,some {desc:= .int .u8, ..}=>(match h.get b with
    |some (.cells el ro n d t)=>match Nat.ble (nat_lit 2000000) el with
     |true=> .fail
     |false=> .ok (.slice b off (Nat.succ l) es z) (h.set b (.cells el ro n d t))
    |_=> .fail)
   |_,_,_=> .fail)
 | .int k, .int _ n=>frc (wr k n) λn'=> .ok (.int k n') h
 | .string, .str s=> .ok (.str s) h
 | .string, .int _ n=> .ok (.str (encR n)) h
 | .string, .jq=>(match src with
   | .slice e=>(match g.ty e with
     |some {desc:= .int .u8, ..}=> .ok (.str ⟨nat_lit 0,nat_lit 0⟩) h
     |_=> .fail)
   |_=> .fail)
 | .string, .slice b off len 1 _=>match src with
   | .slice e=>match g.ty e,h.get b with
     |some {desc:= .int .u8, ..},some (.cells _ _ n d t)=>match Nat.ble (Nat.add off len) n with
      |true=>Ur (nO (Cv d t len off) (some ⟨nat_lit 0,nat_lit 0⟩)) h
      |false=> .fail
     |_,_=> .fail
   |_=> .fail
 | .slice e, .str s=>match g.ty e with
   |some {desc:= .int .u8, ..}=>row e (abG s s.len) h λb h'=> .ok (.slice b (nat_lit 0) s.len (nat_lit 1) false) h'
   |_=> .fail
 | .unsafePointer, .nK=>match src with
   | .pointer _=> .ok .nK h
   |_=> .fail
 | .unsafePointer, .ptr b off=>match src with
   | .pointer t=>match g.ty t,h.get b with
     |some y,some (.cells _ _ n _ _)=>match Nat.ble (Nat.succ off) n,Nat.beq y.size (nat_lit 0)with
      |true,false=> .ok (.ptr b off) h
      |_,_=> .fail
     |_,_=> .fail
   |_=> .fail
 | .pointer _, .nK=>match src with
   | .unsafePointer=> .ok .nK h
   |_=> .fail
 | .pointer u, .ptr b 0=>match src with
   | .unsafePointer=>match g.ty u,h.get b with
     |some y,some (.cells el false n d _)=>match Nat.beq el u,Nat.ble (nat_lit 12) d,Nat.ble y.size n,Nat.beq y.size (nat_lit 0)with
      |true,true,true,false=> .ok (.ptr b (nat_lit 0)) h
      |_,_,_,_=> .fail
     |_,_=> .fail
   |_=> .fail
 |_,_=> .fail
def unsafeStrA (g:G) (pt:Nat) (p:AV) (n:Nat) (h:H):bF:=
 match g.ty pt with
 |some {desc:= .pointer u, ..}=>match n,p with
  |0, .nK=> .ok (.str ⟨nat_lit 0,nat_lit 0⟩) h
  |0, .ptr _ _=> .ok (.str ⟨nat_lit 0,nat_lit 0⟩) h
  |Nat.succ k, .ptr b off=>match g.ty u,h.get b with
   |some {desc:= .int .u8,size:=sz, ..},some (.cells el true nn d t)=>match Nat.beq el (Nat.add u (nat_lit 2000000)),Nat.ble (Nat.add off (Nat.succ k)) nn,Nat.beq sz (nat_lit 1),Nat.ble (Nat.succ k) fM with
    |true,true,true,true=>match nO (Cv d t (Nat.succ k) off) (some ⟨nat_lit 0,nat_lit 0⟩)with
     |some s=> .ok (.str s) (h.set b (.cells el true nn d t))
     |none=> .fail
    |_,_,_,_=> .fail
   |some {desc:= .int .u8,size:=sz, ..},some (.cells el false nn d t)=>match Nat.beq el u,Nat.ble (Nat.add off (Nat.succ k)) nn,Nat.beq sz (nat_lit 1),Nat.ble (Nat.succ k) fM,Nat.ble (nat_lit 2000000) el with
    |true,true,true,true,false=>match nO (Cv d t (Nat.succ k) off) (some ⟨nat_lit 0,nat_lit 0⟩)with
     |some s=> .ok (.str s) (h.set b (.cells el true nn d t))
     |none=> .fail
    |_,_,_,_,_=> .fail
   |_,_=> .fail
  |_,_=> .fail
 |_=> .fail
def Nr (g:G) (b:Builtin) (ts:List TypeId) (args:AV) (h:H):bF:=
 match b,args with
 | .append, .cons s (.cons x .nil)=>match ts with
   |[t,u]=>match g.ty t,g.ty u with
     |some {desc:= .slice e, ..},some {desc:= .slice _, ..}=>(match g.ty e with
      |some y=>Jc e y.size y.bytes s x h
      |none=> .fail)
     |some {desc:= .slice e, ..},some {desc:= .string, ..}=>(match g.ty e with
      |some y=>Jc e y.size y.bytes s x h
      |none=> .fail)
     |some {desc:= .slice e, ..},some {desc:= .int _, ..}=>(match g.ty e,x with
      |some y, .int _ (.ofNat n)=>(match Nat.ble (Nat.mul n y.bytes) fM,Nat.ble n fM with
       |true,true=>yJ e y.size y.bytes s h (Iw y.zero n) n
       |_,_=> .fail)
      |_,_=> .fail)
     |_,_=> .fail
   |_=> .fail
 | .copy, .cons d (.cons s .nil)=>match ts with
   |t::_=>match g.ty t with
    |some {desc:= .slice e, ..}=>(match g.ty e with
     |some y=>Uw y.size d s h
     |none=> .fail)
    |_=> .fail
   |[]=> .fail
 | .cap, .cons x .nil=>(match ts with
   |t::_=>(match g.ty t with
    |some {desc:= .slice _, ..}=>(match x with
     | .jq=> .ok (.int .i64 (.ofNat (nat_lit 0))) h
     | .slice _ _ _ _ true=> .ok (.int .i64 (.ofNat (nat_lit 0))) h
     |_=> .fail)
    |_=> .fail)
   |[]=> .fail)
 | .max,l=>sU (mmA true l) h
 | .min,l=>sU (mmA false l) h
 | .unsafeSliceData, .cons x .nil=>(match x with
   | .jq=> .ok .nK h
   | .slice b off (Nat.succ _) _ _=> .ok (.ptr b off) h
   |_=> .fail)
 | .unsafeString, .cons p (.cons (.int _ (.ofNat n)) .nil)=>(match ts with
   |pt::_=>unsafeStrA g pt p n h
   |[]=> .fail)
 |_,_=> .fail
def wZ (e:Nat) (y:Ty) (l c:AV) (h:H):bF:=
 DF .fail (λn=>DF .fail (λm=>match Nat.ble n m,Nat.ble (Nat.mul m y.bytes) fM,Nat.ble m fM with
  |true,true,true=>row e (Iw y.zero m) h λb h'=> .ok (.slice b (nat_lit 0) n y.size false) h'
  |_,_,_=> .fail) c) l
def qm (kind:MK) (h:H):bF:=
 match h.room,kind with
 |true, .ints k=> .ok (.map h.next) (h.new (.Ag k (nat_lit 0) (nat_lit 0) (E.rep none 11) (nat_lit 0)))
 |true, .strs=> .ok (.map h.next) (h.new (.smap (nat_lit 0) (nat_lit 0) []))
 |_,_=> .fail
def mapElem (g:G) (t:Nat) (k:Ty->Act):Act:=
 match g.ty t with
 |some {desc:= .map _ e, ..}=>Jd g e k
 |_=>failA
def fieldT (g:G) (s f:Nat) (k:Field->Ty->Act):Act:=
 match g.ty s with
 |some {desc:= .struct fs, ..}=>match fs[f]? with
  |some fd=>Jd g fd.type λy=>k fd y
  |none=>failA
 |_=>failA
def Bu (g:G) (t:Nat) (k:Nat->Option Nat->Ty->Act):Act:=
 match g.ty t with
 |some {desc:= .slice e, ..}=>Jd g e λy=>k e none y
 |some {desc:= .array n e, ..}=>Jd g e λy=>k e (some n) y
 |_=>failA
def placesOf (g:G) (y:Ty):Nat->Option (Nat×Nat):=
 match y.desc with
 | .struct fs=>λi=>match fs[i]? with
   |some fd=>match g.ty fd.type with
    |some z=>some (fd.offset,z.size)
    |none=>none
   |none=>none
 | .array _ e=>λi=>match g.ty e with
   |some z=>some (Nat.mul i z.size,z.size)
   |none=>none
 |_=>λ_=>none
def Km (g:G) (d:TypeDesc):Bool:=
 match d with
 | .struct fs=>fs.toList.all λf=>(g.ty f.type).isSome
 | .array _ e=>(g.ty e).isSome
 |_=>false
def onB (b:Bool) (a:Act):Act:=Bool.rec (motive:=λ_=>Act) failA a b
def yE (v:AV) (h:H):bF:=
 match isL v with
 |true=> .ok (.agg v) h
 |false=> .fail
def X8:Operand->Bool:=Operand.rec (motive:=λ_=>Bool) (λ_=>false) (λ_=>true) (λ_=>false) (λ_=>false)
def Ir:AV->H->bF:=
 AV.rec (motive:=λ_=>H->bF) (λh=> .ok .bad h) (λh=> .ok .unk h) (λb h=> .ok (.bool b) h) (λk n h=>frc n λn'=> .ok (.int k n') h) (λs h=> .ok (.str s) h) (λb o h=> .ok (.ptr b o) h)
  (λh=> .ok .nK h) (λb o n s z h=> .ok (.slice b o n s z) h) (λh=> .ok .jq h) (λb h=> .ok (.map b) h) (λh=> .ok .qN h)
  (λf x y _ _ h=> .ok (.fn f x y) h) (λl h=> .ok (.wG l) h) (λh=> .ok .qO h) (λt v _ h=> .ok (.sG t v) h) (λh=> .ok .qd h)
  (λcs _ h=> .ok (.agg cs) h) (λvs _ h=> .ok (.fV vs) h) (λ_=> .fail) (λ_ _ _ _ _=> .fail)
def aez (f:EV):Act:=⟨λen h=>Ir (f.f en) h⟩
def abO (u:U1) (f:EV):Act:=⟨λen h=>sU (u.f (f.f en)) h⟩
def aiL (u:B2) (f g:EV):Act:=⟨λen h=>sU (u.f (f.f en) (g.f en)) h⟩
def abP (u:A1) (f:EV):Act:=⟨λen h=>u.f (f.f en) h⟩
def YA (u:A2) (f g:EV):Act:=⟨λen h=>u.f (f.f en) (g.f en) h⟩
def YB (c a b:EV):Act:=⟨λen h=>OB.rec (motive:=λ_=>bF) .fail (sU (b.f en) h) (sU (a.f en) h) (toB (c.f en))⟩
def eqK (g:G) (t:Nat):EK:=
 match g.ty t with
 |some {desc:= .bool, ..}=> .bool
 |some {desc:= .pointer e, ..}=>(match g.ty e with
  |some y=>Bool.rec .ptr .none (Nat.beq y.size (nat_lit 0))
  |none=> .none)
 |some {desc:= .slice _, ..}=> .slice
 |some {desc:= .map _ _, ..}=> .map
 |some {desc:= .func _ _ _, ..}=> .func
 |some {desc:= .interface _, ..}=> .iface
 |_=>match g.eq2 t with
  |true=> .two
  |false=> .none
def aeA (g:G) (t:Nat) (y:Ty):Bool:=
 match y.desc with
 | .struct fs=>(match fs.toList with
   |[f,_]=>(match g.ty f.type with
     |some {desc:= .pointer u, ..}=>Nat.beq u t
     |_=>false)
   |_=>false)
 |_=>false
def F4 (g:G) (o:Op):Act:=
 match o with
 | .move x=>aez (ev x)
 | .assign x=>aez (ev x)
 | .pick c a b=>YB (ev c) (ev a) (ev b)
 | .alloc t=>Jd g t λy=>match aeA g t y with
   |true=>Act.mk λ_ h=>abA t y.zero h λb h'=> .ok (.ptr b (nat_lit 0)) h'
   |false=>Act.mk λ_ h=>row t y.zero h λb h'=> .ok (.ptr b (nat_lit 0)) h'
 | .box t x=>Act.mk λen h=>row t (cellsOf ((ev x).f en)) h λb h'=> .ok (.ptr b (nat_lit 0)) h'
 | .build t ps=>Jd g t λy=>onB (Km g y.desc)<|Act.mk λen h=>yE (fillA (placesOf g y) en ps.toList y.zero) h
 | .buildSlice t n ps=>Bu g t λe arr y=>match arr with
   |none=>Act.mk λen h=>match Nat.ble (Nat.mul n y.size) (nat_lit 100000),fillA (λi=>some (Nat.mul i y.size,y.size)) en ps.toList (Iw y.zero n)with
    |true,cs=>(match isL cs with
     |true=>row e cs h λb h'=> .ok (match n with|0=> .slice b (nat_lit 0) (nat_lit 0) y.size true|_=> .slice b (nat_lit 0) n y.size false) h'
     |false=> .fail)
    |false,_=> .fail
   |some _=>failA
 | .load t a=>Jd g t λy=>abP (qg y.agg y.size) (ev a)
 | .store t a x=>Jd g t λy=>YA (Dz y.agg y.size) (ev a) (ev x)
 | .nilCheck x=>abO ⟨nH g⟩ (ev x)
 | .binOp op t x y _=>aiL (TT op (Bool.rec (X8 y) true (X8 x)) (eqK g t)) (ev x) (ev y)
 | .unOp op _ x=>abO (uop op) (ev x)
 | .convert s d x=>Jd g s λys=>Jd g d λyd=>Act.mk λen h=>KA g (Nat.beq s d) ys.desc yd.desc ((ev x).f en) h
 | .makeInterface t x=>Jd g t λy=>match y.desc with
   | .interface _=>failA
   |_=>Act.mk λen h=>match(ev x).f en with
    | .bad=> .fail
    |v=> .ok (.sG t v) h
 | .makeFunc fn fs cs=>match fn with
   | .func f=>Act.mk λen h=> .ok (.fn f ((opsL fs.toList).f en) ((opsL cs.toList).f en)) h
   | .method nm=>(match fs.toList,cs.toList with
     |[o],[]=>Act.mk λen h=>match(ev o).f en with
       | .sG t x=> .ok (.fn (nat_lit 0) (.sG t x) (.str (Str.of nm.toUTF8))) h
       |_=> .fail
     |_,_=>failA)
   |_=>failA
 | .makeMap t r=>match r with
   |none=>Act.mk λ_ h=>qm (eG g t) h
   |some x=>Act.mk λen h=>match(ev x).f en with
    | .int _ _=>qm (eG g t) h
    |_=> .fail
 | .makeSlice t l c=>Bu g t λe arr y=>match arr with
   |none=>Act.mk λen h=>wZ e y ((ev l).f en) ((ev c).f en) h
   |some _=>failA
 | .slice t x lo hi mx=>match g.ty t with
   |some {desc:= .slice e, ..}=>Jd g e λy=>onB (abD hi mx) (DI y.size (ev x) lo hi mx)
   |some {desc:= .string, ..}=>(match mx with
    |none=>ql (ev x) lo hi
    |some _=>failA)
   |some {desc:= .array n e, ..}=>Jd g e λy=>nG y.size n (ev x) lo hi mx
   |_=>failA
 | .fieldAddr s x f=>fieldT g s f λfd y=>match y.size with
   |Nat.succ _=>abP ⟨M7 (fieldA fd.offset)⟩ (ev x)
   |0=>failA
 | .field s x f=>fieldT g s f λfd y=>Act.mk λen h=>match(ev x).f en with
   | .agg cs=>Kl y.agg y.size fd.offset cs h
   |_=> .fail
 | .indexAddr t x i=>Bu g t λ_ arr y=>match arr with
   |none=>YA ⟨Ug y.size⟩ (ev x) (ev i)
   |some n=>YA ⟨Uh n y.size⟩ (ev x) (ev i)
 | .index t x i=>match g.ty t with
   |some {desc:= .string, ..}=>YA ⟨DC⟩ (ev x) (ev i)
   |some {desc:= .array n e, ..}=>Jd g e λy=>Act.mk λen h=>Ng n y.agg y.size ((ev x).f en) ((ev i).f en) h
   |_=>failA
 | .lookup t x i ok=>mapElem g t λy=>Act.mk λen h=>IQ (eG g t) (zeroV y) ((ev x).f en) ((ev i).f en) ok h
 | .mapUpdate t m k x=>Act.mk λen h=>match(ev x).f en with
   | .bad=> .fail
   |v=>Af (eG g t) ((ev m).f en) ((ev k).f en) v h
 | .insert t m k x=>Act.mk λen h=>match(ev x).f en with
   | .bad=> .fail
   |v=>Af (eG g t) ((ev m).f en) ((ev k).f en) v h
 | .mapEntry t m k=>mapElem g t λy=>Act.mk λen h=>IU (eG g t) (zeroV y) ((ev m).f en) ((ev k).f en) h
 | .entryStore _ m s x=>Act.mk λen h=>match(ev x).f en with
   | .bad=> .fail
   |v=>IV ((ev m).f en) ((ev s).f en) v h
 | .range t x=>(match g.ty t with
   |some {desc:= .string, ..}=>Act.mk λen h=>Nh ((ev x).f en) h
   |_=>failA)
 | .next it s=>match s with
   |true=>Act.mk λen h=>Kw ((ev it).f en) h
   |false=>failA
 | .extract x i=>abO ⟨λv=>tL v i⟩ (ev x)
 | .call c=>match c.callee with
   | .builtin b=>match b,c.argTypes.toList,c.args.toList with
     | .len,t::_,[x]=>(match g.ty t with
       |some {desc:= .array n _, ..}=>Act.mk λ_ h=> .ok (.int .i64 (.ofNat n)) h
       |some {desc:= .pointer _, ..}=>failA
       |some y=>abP ⟨Un y.desc⟩ (ev x)
       |none=>failA)
     |_,ts,as=>Act.mk λen h=>Nr g b ts ((opsL as).f en) h
   |_=>failA
 |_=>failA
