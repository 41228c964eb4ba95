/- The abstract machine, second part: operations on values; operations that do not call. -/
import Derived.Test.YtocaiijbhepnnaaGreatDoorAmS
namespace Go.Proofs.YtocaiijbhepnnaaGreatDoor.Am
noncomputable section
def Dv {β:Type} (z:β) (c:AV->AV->β->β):AV->β:=
 AV.rec (motive:=λ_=>β) z z (λ_=>z) (λ_ _=>z) (λ_=>z) (λ_ _=>z) z (λ_ _ _ _ _=>z) z (λ_=>z) z
  (λ_ _ _ _ _=>z) (λ_=>z) z (λ_ _ _=>z) z (λ_ _=>z) (λ_ _=>z) z (λh t _ ih=>c h t ih)
def llen:AV->Nat:=Dv (nat_lit 0) (λ_ _ n=>Nat.succ n)
def Bw:AV->Nat->AV:=Dv (λ_=> .bad) (λh _ ih i=>Bool.rec (ih (Nat.pred i)) h (Nat.beq i (nat_lit 0)))
def kT:AV->AV->AV:=Dv (λy=>y) (λh _ ih y=> .cons h (ih y))
def FD:AV->Nat->AV:=Dv (λ_=> .nil) (λh _ ih n=>Bool.rec (.cons h (ih (Nat.pred n))) .nil (Nat.beq n (nat_lit 0)))
def FE:AV->Nat->AV:=Dv (λ_=> .nil) (λh t ih n=>Bool.rec (ih (Nat.pred n)) (.cons h t) (Nat.beq n (nat_lit 0)))
def one:AV->Bool:=
 AV.rec (motive:=λ_=>Bool) false true (λ_=>true) (λ_ _=>true) (λ_=>true) (λ_ _=>true) true (λ_ _ _ _ _=>true) true (λ_=>true) true
  (λ_ _ _ _ _=>true) (λ_=>true) true (λ_ _ _=>true) true (λ_ _=>false) (λ_ _=>false) false (λ_ _ _ _=>false)
def ones:AV->Bool:=Dv true (λh _ ih=>Bool.rec false ih (one h))
def cellsOf:AV->AV:=
 AV.rec (motive:=λ_=>AV) .nil (.cons .unk .nil) (λb=> .cons (.bool b) .nil) (λk n=> .cons (.int k n) .nil) (λs=> .cons (.str s) .nil) (λb o=> .cons (.ptr b o) .nil)
  (.cons .nG .nil) (λb o n s z=> .cons (.slice b o n s z) .nil) (.cons .jm .nil) (λb=> .cons (.map b) .nil) (.cons .qL .nil)
  (λf x y _ _=> .cons (.fn f x y) .nil) (λl=> .cons (.wE l) .nil) (.cons .qM .nil) (λt v _=> .cons (.sH t v) .nil) (.cons .qc .nil)
  (λcs _=>cs) (λ_ _=> .nil) .nil (λ_ _ _ _=> .nil)
inductive bB where
 |fail
 |ok (v:AV) (h:H)
def frc (n:Int) (f:Int->bB):bB:=
 Int.rec (motive:=λ_=>bB) (λm=>sN m λm'=>f (.ofNat m')) (λm=>sN m λm'=>f (.negSucc m')) n
theorem frc_eq (n:Int) (f:Int->bB):frc n f=f n:=by cases n<;>simp[frc,oq]
def sQ:AV->H->bB:=
 AV.rec (motive:=λ_=>H->bB) (λ_=> .fail) (λh=> .ok .unk h) (λb h=> .ok (.bool b) h) (λk n h=>frc n λn'=> .ok (.int k n') h) (λs h=> .ok (.str s) h) (λb o h=> .ok (.ptr b o) h)
  (λh=> .ok .nG h) (λb o n s z h=> .ok (.slice b o n s z) h) (λh=> .ok .jm h) (λb h=> .ok (.map b) h) (λh=> .ok .qL h)
  (λf x y _ _ h=> .ok (.fn f x y) h) (λl h=> .ok (.wE l) h) (λh=> .ok .qM h) (λt v _ h=> .ok (.sH t v) h) (λh=> .ok .qc h)
  (λcs _ h=> .ok (.agg cs) h) (λvs _ h=> .ok (.fT vs) h) (λ_=> .fail) (λ_ _ _ _ _=> .fail)
inductive OI where
 |none
 |nn (k:IntKind) (n:Nat)
 |ng (k:IntKind) (m:Nat)
def toI:AV->OI:=
 AV.rec (motive:=λ_=>OI) .none .none (λ_=> .none) (λk n=>Int.rec (motive:=λ_=>OI) (OI.nn k) (OI.ng k) n) (λ_=> .none) (λ_ _=> .none) .none (λ_ _ _ _ _=> .none) .none (λ_=> .none) .none
  (λ_ _ _ _ _=> .none) (λ_=> .none) .none (λ_ _ _=> .none) .none (λ_ _=> .none) (λ_ _=> .none) .none (λ_ _ _ _=> .none)
inductive OS where
 |none
 |some (s:Str)
def toS:AV->OS:=
 AV.rec (motive:=λ_=>OS) .none .none (λ_=> .none) (λ_ _=> .none) (λs=> .some s) (λ_ _=> .none) .none (λ_ _ _ _ _=> .none) .none (λ_=> .none) .none
  (λ_ _ _ _ _=> .none) (λ_=> .none) .none (λ_ _ _=> .none) .none (λ_ _=> .none) (λ_ _=> .none) .none (λ_ _ _ _=> .none)
inductive OB where
 |none
 |f
 |t
def toB:AV->OB:=
 AV.rec (motive:=λ_=>OB) .none .none (λb=>Bool.rec .f .t b) (λ_ _=> .none) (λ_=> .none) (λ_ _=> .none) .none (λ_ _ _ _ _=> .none) .none (λ_=> .none) .none
  (λ_ _ _ _ _=> .none) (λ_=> .none) .none (λ_ _ _=> .none) .none (λ_ _=> .none) (λ_ _=> .none) .none (λ_ _ _ _=> .none)
inductive OP where
 |none
 |at(b off:Nat)
def toP:AV->OP:=
 AV.rec (motive:=λ_=>OP) .none .none (λ_=> .none) (λ_ _=> .none) (λ_=> .none) OP.at .none (λ_ _ _ _ _=> .none) .none (λ_=> .none) .none
  (λ_ _ _ _ _=> .none) (λ_=> .none) .none (λ_ _ _=> .none) .none (λ_ _=> .none) (λ_ _=> .none) .none (λ_ _ _ _=> .none)
inductive OL where
 |none
 |nil
 |at(b off len es:Nat) (z:Bool)
def toL:AV->OL:=
 AV.rec (motive:=λ_=>OL) .none .none (λ_=> .none) (λ_ _=> .none) (λ_=> .none) (λ_ _=> .none) .none OL.at .nil (λ_=> .none) .none
  (λ_ _ _ _ _=> .none) (λ_=> .none) .none (λ_ _ _=> .none) .none (λ_ _=> .none) (λ_ _=> .none) .none (λ_ _ _ _=> .none)
def Jt:IntKind->Nat:=IntKind.rec (motive:=λ_=>Nat) (nat_lit 127) (nat_lit 32767) (nat_lit 2147483647) (nat_lit 0x7fffffffffffffff)
 (nat_lit 255) (nat_lit 65535) (nat_lit 4294967295) (nat_lit 0xffffffffffffffff)
def Qi:IntKind->Nat:=IntKind.rec (motive:=λ_=>Nat) (nat_lit 128) (nat_lit 32768) (nat_lit 2147483648) (nat_lit 0x8000000000000000)
 (nat_lit 0) (nat_lit 0) (nat_lit 0) (nat_lit 0)
def sS:IntKind->Nat:=IntKind.rec (motive:=λ_=>Nat) (nat_lit 0) (nat_lit 1) (nat_lit 2) (nat_lit 3) (nat_lit 4) (nat_lit 5) (nat_lit 6) (nat_lit 7)
def wrN (k:IntKind) (m:Nat):Int:=Bool.rec (k.wrap (.ofNat m)) (.ofNat m) (Nat.ble m (Jt k))
def wr (k:IntKind) (n:Int):Int:=
 Int.rec (motive:=λ_=>Int) (wrN k)
  (λm=>Bool.rec (k.wrap (.negSucc m)) (.negSucc m) (Nat.ble (Nat.succ m) (Qi k))) n
def mk (k:IntKind) (n:Int):AV:= .int k (wr k n)
def WU (k:IntKind) (n:Nat):AV:= .int k (wrN k n)
def iD (fast:IntKind->Nat->Nat->AV) (slow:IntKind->Int->Int->AV):AV->AV->AV:=λx y=>
 OI.rec (motive:=λ_=>AV) .bad
  (λk a=>OI.rec (motive:=λ_=>AV) .bad (λk' b=>Bool.rec .bad (fast k a b) (Nat.beq (sS k) (sS k'))) (λk' b=>Bool.rec .bad (slow k (.ofNat a) (.negSucc b)) (Nat.beq (sS k) (sS k'))) (toI y))
  (λk a=>OI.rec (motive:=λ_=>AV) .bad (λk' b=>Bool.rec .bad (slow k (.negSucc a) (.ofNat b)) (Nat.beq (sS k) (sS k'))) (λk' b=>Bool.rec .bad (slow k (.negSucc a) (.negSucc b)) (Nat.beq (sS k) (sS k'))) (toI y))
  (toI x)
def yg:IntKind->Int->Int->AV:=λ_ _ _=> .bad
def adl (k:IntKind) (a b:Int):AV:= .int k (k.wrap ((BitVec.ofInt k.bits a&&&BitVec.ofInt k.bits b).toNat:Int))
def BX (k:IntKind) (a b:Int):AV:= .int k (k.wrap ((BitVec.ofInt k.bits a&&&~~~ BitVec.ofInt k.bits b).toNat:Int))
def orS (k:IntKind) (a b:Int):AV:= .int k (k.wrap ((BitVec.ofInt k.bits a|||BitVec.ofInt k.bits b).toNat:Int))
def aaH (k:IntKind) (a b:Int):AV:= .int k (k.wrap ((BitVec.ofInt k.bits a^^^BitVec.ofInt k.bits b).toNat:Int))
def adj (k:IntKind) (a b:Nat):AV:=WU k (Nat.add a b)
def Xo (k:IntKind) (a b:Nat):AV:=Bool.rec (mk k (Int.sub (.ofNat a) (.ofNat b))) (WU k (Nat.sub a b)) (Nat.ble b a)
def aaG (k:IntKind) (a b:Nat):AV:=WU k (Nat.mul a b)
def Sn (k:IntKind) (a b:Nat):AV:=Bool.rec (WU k (Nat.div a b)) .bad (Nat.beq b (nat_lit 0))
def Sq (k:IntKind) (a b:Nat):AV:=Bool.rec (.int k (.ofNat (Nat.mod a b))) .bad (Nat.beq b (nat_lit 0))
def Hr (f:Nat->Nat->Nat) (k:IntKind) (a b:Nat):AV:=Bool.rec .bad (Bool.rec .bad (.int k (.ofNat (f a b))) (Nat.ble b (Jt k))) (Nat.ble a (Jt k))
def Bz (b:Bool):Bool:=Bool.rec true false b
def eqF (_:IntKind) (a b:Nat):AV:= .bool (Nat.beq a b)
def neF (_:IntKind) (a b:Nat):AV:= .bool (Bz (Nat.beq a b))
def ltF (_:IntKind) (a b:Nat):AV:= .bool (Nat.ble (Nat.succ a) b)
def leF (_:IntKind) (a b:Nat):AV:= .bool (Nat.ble a b)
def gtF (_:IntKind) (a b:Nat):AV:= .bool (Nat.ble (Nat.succ b) a)
def geF (_:IntKind) (a b:Nat):AV:= .bool (Nat.ble b a)
def aaD (k:IntKind) (a n:Nat):AV:=Bool.rec .bad (WU k (Nat.mul a (Nat.pow (nat_lit 2) n))) (Nat.ble n k.bits)
def aaE (k:IntKind) (a n:Nat):AV:=Bool.rec .bad (.int k (.ofNat (Nat.div a (Nat.pow (nat_lit 2) n)))) (Nat.ble n k.bits)
def zL (f:IntKind->Nat->Nat->AV):AV->AV->AV:=λx y=>
 OI.rec (motive:=λ_=>AV) .bad (λk a=>OI.rec (motive:=λ_=>AV) .bad (λ_ b=>f k a b) (λ_ _=> .bad) (toI y)) (λ_ _=> .bad) (toI x)
def adi (k:IntKind) (x:Int) (n:Nat):AV:=Bool.rec .bad (.int k (x.fdiv (2^n))) (Nat.ble n k.bits)
def aaF (x y:AV):AV:=
 match x,y with
 | .int k (.negSucc a), .int _ (.ofNat n)=>adi k (.negSucc a) n
 |x,y=>zL aaE x y
def Str.lt (a b:Str):Bool:=
 Bool.rec
  (Nat.ble (Nat.succ (Nat.shiftRight a.val (Nat.mul (nat_lit 8) (Nat.sub a.len b.len)))) b.val)
  (Nat.ble (Nat.succ a.val) (Nat.add (Nat.shiftRight b.val (Nat.mul (nat_lit 8) (Nat.sub b.len a.len))) (Bool.rec (nat_lit 0) (nat_lit 1) (Nat.ble (Nat.succ a.len) b.len))))
  (Nat.ble a.len b.len)
def str2 (f:Str->Str->AV) (g:AV->AV->AV):AV->AV->AV:=λx y=>
 OS.rec (motive:=λ_=>AV) (g x y) (λa=>OS.rec (motive:=λ_=>AV) .bad (λb=>f a b) (toS y)) (toS x)
def Fh (a b:Bool):Bool:=Bool.rec (Bool.rec true false b) b a
inductive EK where
 |none|bool|ptr|slice|map|func|iface|two
def eqI:Int->Int->Bool
 | .ofNat a, .ofNat b=>Nat.beq a b
 | .negSucc a, .negSucc b=>Nat.beq a b
 |_,_=>false
def aaz (a b:Bool):Bool:=Bool.rec false b a
def Fj (e:EK) (c:Bool) (r:Bool->AV):AV->AV->AV:=λx y=>
 match e with
 | .bool=>(match x,y with
   | .bool a, .bool b=>r (Fh a b)
   |_,_=> .bad)
 | .ptr=>(match x,y with
   | .nG, .nG=>r true
   | .nG, .ptr _ _=>r false
   | .ptr _ _, .nG=>r false
   | .ptr a i, .ptr b j=>Bool.rec .bad (r (Nat.beq i j)) (Nat.beq a b)
   |_,_=> .bad)
 | .slice=>(match x,y with
   | .jm, .jm=>r true
   | .jm, .slice _ _ _ _ _=>r false
   | .slice _ _ _ _ _, .jm=>r false
   |_,_=> .bad)
 | .map=>(match x,y with
   | .qL, .qL=>r true
   | .qL, .map _=>r false
   | .map _, .qL=>r false
   |_,_=> .bad)
 | .func=>(match x,y with
   | .qM, .qM=>r true
   | .qM, .fn _ _ _=>r false
   | .fn _ _ _, .qM=>r false
   | .qM, .wE _=>r false
   | .wE _, .qM=>r false
   |_,_=> .bad)
 | .iface=>(match x,y with
   | .qc, .qc=>Bool.rec .bad (r true) c
   | .qc, .sH _ _=>r false
   | .sH _ _, .qc=>r false
   |_,_=> .bad)
 | .two=>(match x,y with
   | .agg (.cons (.int k a) (.cons (.int l b) .nil)), .agg (.cons (.int k' a') (.cons (.int l' b') .nil))=>
     Bool.rec .bad (r (aaz (eqI a a') (eqI b b'))) (aaz (Nat.beq (sS k) (sS k')) (Nat.beq (sS l) (sS l')))
   |_,_=> .bad)
 | .none=> .bad
def rT (b:Bool):AV:= .bool b
def rF (b:Bool):AV:= .bool (Bz b)
def adx:AV->AV->AV:=λ_ _=> .bad
def sEq (a b:Str):AV:= .bool (a.eq b)
def sNe (a b:Str):AV:= .bool (Bz (a.eq b))
def sLt (a b:Str):AV:= .bool (a.lt b)
def adk (a b:Str):AV:=Bool.rec .bad (.str (a.app b)) (Nat.ble (Nat.add a.len b.len) (nat_lit 0x4000000000000000))
def orI (f g:AV->AV->AV):AV->AV->AV:=λx y=>
 OI.rec (motive:=λ_=>AV) (g x y) (λ_ _=>f x y) (λ_ _=>f x y) (toI x)
def Sy (op:BinOp) (c:Bool) (e:EK):B2:=
 BinOp.rec (motive:=λ_=>B2)
  ⟨orI (iD adj λk a b=>mk k (Int.add a b)) (str2 adk adx)⟩
  ⟨iD Xo λk a b=>mk k (Int.sub a b)⟩
  ⟨iD aaG λk a b=>mk k (Int.mul a b)⟩
  ⟨iD Sn yg⟩
  ⟨iD Sq yg⟩
  ⟨iD (Hr Nat.land) adl⟩
  ⟨iD (Hr Nat.lor) orS⟩
  ⟨iD (Hr Nat.xor) aaH⟩
  ⟨zL aaD⟩ ⟨aaF⟩ ⟨iD (λk a b=>BX k (.ofNat a) (.ofNat b)) BX⟩
  ⟨orI (iD eqF λ_ a b=> .bool (decide (a=b))) (str2 sEq (Fj e c rT))⟩
  ⟨orI (iD neF λ_ a b=> .bool (Bz (decide (a=b)))) (str2 sNe (Fj e c rF))⟩
  ⟨orI (iD ltF λ_ a b=> .bool (decide (a<b))) (str2 sLt adx)⟩
  ⟨iD leF λ_ a b=> .bool (decide (a<=b))⟩
  ⟨iD gtF λ_ a b=> .bool (decide (b<a))⟩
  ⟨iD geF λ_ a b=> .bool (decide (b<=a))⟩
  op
def uop1 (op:UnOp):AV->AV:=λx=>
 match op,x with
 | .not, .bool b=> .bool (Bz b)
 | .neg, .int k n=>mk k (Int.sub (.ofNat (nat_lit 0)) n)
 | .xor, .int k n=>aaH k (if k.signed then-1 else k.max) n
 |_,_=> .bad
def uop (op:UnOp):U1:=⟨uop1 op⟩
structure Ty where
 desc:TypeDesc
 size:Nat
 bytes:Nat
 agg:Bool
 zero:AV
 zv:AV
structure Fn where
 nt:Nat
 body:Code
 res:List ResultVar
structure G where
 ty:Nat->Option Ty
 fn:Nat->Option Fn
 ext:Nat->Nat
 iK:Nat->AV->H->Option bB
 eq2:Nat->Bool
 pU:Nat->Str->Option Nat
def TL:Value->AV
 | .bool b=> .bool b
 | .int k n=> .int k n
 | .string s=> .str (Str.of s)
 | .pointer none=> .nG
 | .slice none 0 0=> .jm
 | .map none=> .qL
 | .nilFunc=> .qM
 | .nilIface=> .qc
 |_=> .bad
def tQ:List Value->AV
 |[]=> .nil
 |v::vs=> .cons (TL v) (tQ vs)
def ofV:Value->AV
 | .agg cs=> .agg (tQ cs.toList)
 | .tuple vs=> .fT (tQ vs.toList)
 |v=>TL v
structure AVb where
 v:AV
def ahc (v:Value):AVb:=⟨ofV v⟩
def ev:Operand->EV:=Operand.rec (motive:=λ_=>EV)
 gT (λv=>⟨λ_=>(ahc v).v⟩) (λg=>⟨λ_=> .ptr g (nat_lit 0)⟩) (λf=>⟨λ_=> .fn f .nil .nil⟩)
def BN (d:Nat) (t:E AV d) (n:Nat):Nat->AV:=
 Nat.rec (motive:=λ_=>Nat->AV) (λ_=> .nil) (λ_ ih i=> .cons (E.get d (path d i) t) (ih (Nat.succ i))) n
def WT (d:Nat):AV->Nat->E AV d->E AV d:=
 Dv (λ_ t=>t) (λh _ ih i t=>ih (Nat.succ i) (E.put h d (path d i) t))
def dep (n:Nat):Nat:=
 Bool.rec (Bool.rec (Bool.rec (Bool.rec (Bool.rec (Bool.rec (Bool.rec (nat_lit 11) (nat_lit 8) (Nat.ble n (nat_lit 65536))) (nat_lit 6) (Nat.ble n (nat_lit 4096))) (nat_lit 5) (Nat.ble n (nat_lit 1024))) (nat_lit 4) (Nat.ble n (nat_lit 256))) (nat_lit 3) (Nat.ble n (nat_lit 64))) (nat_lit 2) (Nat.ble n (nat_lit 16)))
  (Bool.rec (nat_lit 1) (nat_lit 0) (Nat.ble n (nat_lit 1))) (Nat.ble n (nat_lit 4))
def fH:Nat:=nat_lit 4000000
def Fa (d:Nat) (cs:AV):E AV d:=WT d cs (nat_lit 0) (E.rep .bad d)
def adn (el:Nat) (cs:AV) (h:H) (n:Nat) (k:Nat->H->bB):bB:=
 Bool.rec .fail (Bool.rec .fail (sN (dep n) λd=>k h.next (h.new (.cells el false n d (Fa d cs)))) (Nat.ble n fH)) h.room
def row (el:Nat) (cs:AV) (h:H) (k:Nat->H->bB):bB:=sN (llen cs) λn=>adn el cs h n k
def aaI (el:Nat) (cs:AV) (h:H) (k:Nat->H->bB):bB:=
 match h.room,Nat.ble (llen cs) fH with
 |true,true=>k h.next (h.new (.cells el false (llen cs) (nat_lit 12) (Fa (nat_lit 12) cs)))
 |_,_=> .fail
structure Act where
 f:Env->H->bB
structure A1 where
 f:AV->H->bB
structure A2 where
 f:AV->AV->H->bB
def failA:Act:=⟨λ_ _=> .fail⟩
def onC (f:(el:Nat)->Bool->(n d:Nat)->E AV d->bB):Option wF->bB:=
 Option.rec (motive:=λ_=>bB) .fail (wF.rec (motive:=λ_=>bB) f (λ_ _ _ _ _=> .fail) (λ_ _ _=> .fail) (λ_ _=> .fail) (λ_ _ _ _ _ _ _ _=> .fail) .fail .fail)
def AU (h:H) (b:Nat) (k:(el:Nat)->Bool->(n d:Nat)->E AV d->bB):bB:=onC k (h.get b)
def Sz (h:H) (b off:Nat):bB:=AU h b λ_ _ n d t=>Bool.rec .fail (sQ (E.get d (path d off) t) h) (Nat.ble (Nat.succ off) n)
def SA (size:Nat) (h:H) (b off:Nat):bB:=AU h b λ_ _ n d t=>Bool.rec .fail (.ok (.agg (BN d t size off)) h) (Nat.ble (Nat.add off size) n)
def L9 (f:H->Nat->Nat->bB) (a:AV) (h:H):bB:=OP.rec (motive:=λ_=>bB) .fail (f h) (toP a)
def qd (agg:Bool) (size:Nat):A1:=Bool.rec ⟨L9 Sz⟩ ⟨L9 (SA size)⟩ agg
def SE (v:AV) (h:H) (b off:Nat):bB:=AU h b λel ro n d t=>
 Bool.rec .fail (Bool.rec .fail (Bool.rec (.ok (.fT .nil) (h.set b (.cells el false n d (E.put v d (path d off) t)))) .fail ro) (Nat.ble (Nat.succ off) n)) (one v)
def SG (size:Nat) (v:AV) (h:H) (b off:Nat):bB:=AU h b λel ro n d t=>
 Bool.rec .fail (Bool.rec .fail (Bool.rec .fail (Bool.rec (.ok (.fT .nil) (h.set b (.cells el false n d (WT d (cellsOf v) off t)))) .fail ro)
  (Nat.ble (Nat.add off size) n)) (Nat.beq (llen (cellsOf v)) size)) (ones (cellsOf v))
def Dj (agg:Bool) (size:Nat):A2:=Bool.rec ⟨λa v h=>L9 (SE v) a h⟩ (Bool.rec ⟨λa v h=>L9 (SG size v) a h⟩ ⟨λ_ _ _=> .fail⟩ (Nat.beq size (nat_lit 0))) (Bool.rec (Bz (Nat.beq size (nat_lit 1))) true agg)
def Hg (cs:AV):Nat->AV:=Nat.rec (motive:=λ_=>AV) .nil (λ_ ih=>kT cs ih)
def qh (cs:AV) (off:Nat) (v:AV):AV:=kT (FD cs off) (kT v (FE cs (Nat.add off (llen v))))
def fieldsOf:TypeDesc->Option (Array Field)
 | .struct fs=>some fs
 |_=>none
def fillA (pl:Nat->Option (Nat×Nat)) (en:Env):List (Nat×Operand)->AV->AV:=
 List.rec (motive:=λ_=>AV->AV) (λcs=>cs) (λp _ ih cs=>
  match pl p.1 with
  |some (off,size)=>match Nat.beq (llen (cellsOf ((ev p.2).f en))) size,Nat.ble (Nat.add off size) (llen cs),Bz (Nat.beq size (nat_lit 0))with
   |true,true,true=>ih (qh cs off (cellsOf ((ev p.2).f en)))
   |_,_,_=> .bad
  |none=> .bad)
def isL:AV->Bool:=
 AV.rec (motive:=λ_=>Bool) false false (λ_=>false) (λ_ _=>false) (λ_=>false) (λ_ _=>false) false (λ_ _ _ _ _=>false) false (λ_=>false) false
  (λ_ _ _ _ _=>false) (λ_=>false) false (λ_ _ _=>false) false (λ_ _=>false) (λ_ _=>false) true (λ_ _ _ ih=>ih)
end
noncomputable section
def Dl {β:Type} (z:β) (k:Nat->β):AV->β:=λv=>
 match v with
 | .int _ (.ofNat n)=>k n
 |_=>z
def qj (en:Env) (x:Option Operand) (dflt:Nat) (k:Nat->bB):bB:=
 match x with
 |none=>k dflt
 |some o=>Dl .fail k ((ev o).f en)
def aaL (hi mx:Option Operand):Bool:=
 match mx,hi with
 |some _,none=>false
 |_,_=>true
def mxz (mx:Option Operand) (z:Bool) (m l:Nat):Bool:=
 match mx with
 |none=>z
 |some _=>Nat.beq m l
def Dm (es:Nat) (x:EV) (lo hi mx:Option Operand):Act:=⟨λen h=>
 match x.f en with
 | .slice b off len es' z=>qj en mx len λm=>qj en hi len λu=>qj en lo (nat_lit 0) λl=>
  match Nat.ble l u,Nat.ble u m,Nat.ble m len,Nat.beq es es' with
  |true,true,true,true=> .ok (.slice b (Nat.add off (Nat.mul l es)) (Nat.sub u l) es (mxz mx z m l)) h
  |_,_,_,_=> .fail
 | .jm=>qj en mx (nat_lit 0) λm=>qj en hi (nat_lit 0) λu=>qj en lo (nat_lit 0) λl=>
  match Nat.add m (Nat.add u l)with
  |0=> .ok .jm h
  |_=> .fail
 |_=> .fail⟩
def ql (x:EV) (lo hi:Option Operand):Act:=⟨λen h=>
 match x.f en with
 | .str s=>qj en hi s.len λb=>qj en lo (nat_lit 0) λa=>match Nat.ble a b,Nat.ble b s.len with
  |true,true=> .ok (.str (s.sub a b)) h
  |_,_=> .fail
 |_=> .fail⟩
def nA (es n:Nat) (x:EV) (lo hi mx:Option Operand):Act:=⟨λen h=>
 match x.f en with
 | .ptr b off=>match mx with
   |some _=> .fail
   |none=>AU h b λ_ _ nb _ _=>qj en hi n λu=>qj en lo (nat_lit 0) λl=>
    match Nat.ble l u,Nat.ble u n,Nat.ble (Nat.add off (Nat.mul n es)) nb with
    |true,true,true=> .ok (.slice b (Nat.add off (Nat.mul l es)) (Nat.sub u l) es false) h
    |_,_,_=> .fail
 |_=> .fail⟩
def fieldA (off:Nat) (h:H) (b o:Nat):bB:= .ok (.ptr b (Nat.add o off)) h
def onN (f:Nat->bB) (i:AV):bB:=OI.rec (motive:=λ_=>bB) .fail (λ_ n=>f n) (λ_ _=> .fail) (toI i)
def SQ (es:Nat) (x i:AV) (h:H):bB:=
 OL.rec (motive:=λ_=>bB) .fail .fail (λb off len _ _=>onN (λk=>Bool.rec .fail (.ok (.ptr b (Nat.add off (Nat.mul k es))) h) (Nat.ble (Nat.succ k) len)) i) (toL x)
def SS (n es:Nat) (x i:AV) (h:H):bB:=
 OP.rec (motive:=λ_=>bB) .fail (λb off=>onN (λk=>Bool.rec .fail (.ok (.ptr b (Nat.add off (Nat.mul k es))) h) (Nat.ble (Nat.succ k) n)) i) (toP x)
def Dk (x i:AV) (h:H):bB:=
 OS.rec (motive:=λ_=>bB) .fail (λs=>onN (λk=>Bool.rec .fail (sN (s.byte k) λc=> .ok (.int .u8 (.ofNat c)) h) (Nat.ble (Nat.succ k) s.len)) i) (toS x)
def JB (agg:Bool) (size off:Nat) (cs:AV) (h:H):bB:=
 match agg with
 |true=>match Nat.ble (Nat.add off size) (llen cs)with
  |true=> .ok (.agg (FD (FE cs off) size)) h
  |false=> .fail
 |false=>sQ (Bw cs off) h
def Mg (n:Nat) (agg:Bool) (es:Nat) (x i:AV) (h:H):bB:=
 onN (λk=>match x with
  | .agg cs=>match Nat.ble (Nat.succ k) n with
    |true=>JB agg es (Nat.mul k es) cs h
    |false=> .fail
  |_=> .fail) i
def aaO (s:Str) (n:Nat):AV:=
 Nat.rec (motive:=λ_=>Nat->AV) (λ_=> .nil) (λ_ ih i=>sN (s.byte i) λc=> .cons (.int .u8 (.ofNat c)) (ih (Nat.succ i))) n (nat_lit 0)
def elems (es:Nat) (x:AV) (h:H) (k:AV->Nat->bB):bB:=
 match x with
 | .jm=>k .nil (nat_lit 0)
 | .str s=>match Nat.beq es (nat_lit 1)with
   |true=>k (aaO s s.len) s.len
   |false=> .fail
 | .slice b off len es' _=>match h.get b with
   |some (.cells _ _ n d t)=>match Nat.beq es es',Nat.ble (Nat.add off (Nat.mul len es)) n with
    |true,true=>k (BN d t (Nat.mul len es) off) len
    |_,_=> .fail
   |_=> .fail
 |_=> .fail
def ajv:Nat:=nat_lit 1000000
def Tk (n bytes:Nat):Bool:=
 match bytes with
 |0=>false
 |Nat.succ _=>Nat.ble (Nat.mul n bytes) fH
def ahd (z ro:Bool):Bool:=Bool.rec (Bool.rec true false ro) true z
def Tm (z:Bool) (h:H) (b:Nat):H:=Bool.rec (h.kill b) h z
def Ti (el es off len n:Nat) (new:AV) (h0:H) (nb d:Nat) (t:E AV d):bB:=
 match Nat.beq off (nat_lit 0),Nat.beq (Nat.mul len es) nb,Nat.beq (dep (Nat.add nb (llen new))) d,Nat.ble (Nat.add nb (llen new)) fH with
 |true,true,true,true=> .ok (.slice h0.next (nat_lit 0) (Nat.add len n) es false) (h0.new (.cells el false (Nat.add nb (llen new)) d (WT d new nb t)))
 |_,_,_,_=>row el (kT (BN d t (Nat.mul len es) off) new) h0 λb' h'=> .ok (.slice b' (nat_lit 0) (Nat.add len n) es false) h'
def Ij (el es bytes off len n:Nat) (new:AV) (h:H) (b nb d:Nat) (t:E AV d) (es':Nat) (ro z:Bool):bB:=
 match Nat.beq es es',ro,z,Nat.beq (Nat.add off (Nat.mul len es)) nb,Tk (Nat.add len n) bytes,h.room,Nat.ble (llen (kT (BN d t (Nat.mul len es) off) new)) fH with
 |true,true,false,true,true,true,true=> .ok (.slice h.next (nat_lit 0) (Nat.add len n) es false)
  ((h.kill b).new (.cells (Nat.add el (nat_lit 2000000)) true (llen (kT (BN d t (Nat.mul len es) off) new)) (dep (llen (kT (BN d t (Nat.mul len es) off) new)))
    (Fa (dep (llen (kT (BN d t (Nat.mul len es) off) new))) (kT (BN d t (Nat.mul len es) off) new))))
 |_,_,_,_,_,_,_=> .fail
def yG (el es bytes:Nat) (s:AV) (h:H) (new:AV) (n:Nat):bB:=
 match n with
 |0=>(match s with
  | .jm=> .ok s h
  | .slice _ _ _ _ _=> .ok s h
  |_=> .fail)
 |Nat.succ _=>match ones new,s with
  |true, .jm=>(match Tk n bytes with
   |true=>row el new h λb h'=> .ok (.slice b (nat_lit 0) n es false) h'
   |false=> .fail)
  |true, .slice b off len es' z=>(match h.get b with
   |some (.cells iV ro nb d t)=>match Nat.beq iV (Nat.add el (nat_lit 2000000))with
    |true=>Ij el es bytes off len n new h b nb d t es' ro z
    |false=>
    (match Nat.beq es es',Nat.beq el iV,Nat.ble (Nat.add off (Nat.mul len es)) nb,Tk (Nat.add len n) bytes,h.room,ahd z ro with
    |true,true,true,true,true,true=>Ti el es off len n new (Tm z h b) nb d t
    |_,_,_,_,_,_=> .fail)
   |_=> .fail)
  |_,_=> .fail
def Ik (el es bytes:Nat) (s x:AV) (h:H):bB:=elems es x h (yG el es bytes s h)
def Tn (es:Nat) (dst src:AV) (h:H):bB:=
 elems es src h λnew n=>
  match dst with
  | .jm=> .ok (.int .i64 (.ofNat (nat_lit 0))) h
  | .slice b off len es' _=>match Nat.beq n (nat_lit 0)with
    |true=> .ok (.int .i64 (.ofNat (nat_lit 0))) h
    |false=>match Nat.beq es es',h.get b with
    |true,some (.cells el false nb d t)=>
     match Nat.ble (Nat.add off (Nat.mul len es)) nb,ones new with
     |true,true=>sN (Bool.rec len n (Nat.ble n len)) λm=>
      .ok (.int .i64 (.ofNat m)) (h.set b (.cells el false nb d (WT d (FD new (Nat.mul m es)) off t)))
     |_,_=> .fail
    |_,_=> .fail
  |_=> .fail
def nJ:AV->Option Str->Option Str:=
 Dv (λa=>a) (λc _ ih a=>match c,a with
  | .int .u8 (.ofNat n),some s=>match Nat.ble n (nat_lit 255)with
    |true=>sN (Nat.add (Nat.mul s.val (nat_lit 256)) n) λv=>ih (some ⟨Nat.succ s.len,v⟩)
    |false=>none
  |_,_=>none)
def Tg (o:Option Str) (h:H):bB:=
 match o with
 |some s=> .ok (.str s) h
 |none=> .fail
def ZC (r:Nat):Bool:=Bool.rec (Bool.rec false (Nat.ble r (nat_lit 1114111)) (Nat.ble (nat_lit 57344) r)) true (Nat.ble (Nat.succ r) (nat_lit 55296))
def enc1 (c:Nat):Str:=
 Bool.rec (Bool.rec (Bool.rec
  ⟨nat_lit 4,Nat.add (Nat.mul (Nat.add (Nat.mul (Nat.add (Nat.mul (Nat.add (nat_lit 240) (Nat.div c (nat_lit 262144))) (nat_lit 256)) (Nat.add (nat_lit 128) (Nat.mod (Nat.div c (nat_lit 4096)) (nat_lit 64)))) (nat_lit 256)) (Nat.add (nat_lit 128) (Nat.mod (Nat.div c (nat_lit 64)) (nat_lit 64)))) (nat_lit 256)) (Nat.add (nat_lit 128) (Nat.mod c (nat_lit 64)))⟩
  ⟨nat_lit 3,Nat.add (Nat.mul (Nat.add (Nat.mul (Nat.add (nat_lit 224) (Nat.div c (nat_lit 4096))) (nat_lit 256)) (Nat.add (nat_lit 128) (Nat.mod (Nat.div c (nat_lit 64)) (nat_lit 64)))) (nat_lit 256)) (Nat.add (nat_lit 128) (Nat.mod c (nat_lit 64)))⟩ (Nat.ble (Nat.succ c) (nat_lit 65536)))
  ⟨nat_lit 2,Nat.add (Nat.mul (Nat.add (nat_lit 192) (Nat.div c (nat_lit 64))) (nat_lit 256)) (Nat.add (nat_lit 128) (Nat.mod c (nat_lit 64)))⟩ (Nat.ble (Nat.succ c) (nat_lit 2048)))
  ⟨nat_lit 1,c⟩ (Nat.ble (Nat.succ c) (nat_lit 128))
def encR (r:Int):Str:=
 Int.rec (motive:=λ_=>Str) (λc=>enc1 (Bool.rec (nat_lit 65533) c (ZC c))) (λ_=>enc1 (nat_lit 65533)) r
def cont (s:Str) (i:Nat):Bool:=Bool.rec false (Nat.beq (Nat.div (s.byte i) (nat_lit 64)) (nat_lit 2)) (Nat.ble (Nat.succ i) s.len)
def aA (a b:Bool):Bool:=Bool.rec false b a
def WV (s:Str) (i:Nat):Nat:=Nat.mod (s.byte i) (nat_lit 64)
def Xw (s:Str) (i:Nat) (k:Nat->Nat->bB):bB:=
 sN (s.byte i) λb0=>
 match Nat.ble (Nat.succ b0) (nat_lit 128)with
 |true=>k b0 (nat_lit 1)
 |false=>match aA (Nat.beq (Nat.div b0 (nat_lit 32)) (nat_lit 6)) (cont s (Nat.add i (nat_lit 1)))with
  |true=>sN (Nat.add (Nat.mul (Nat.mod b0 (nat_lit 32)) (nat_lit 64)) (WV s (Nat.add i (nat_lit 1)))) λc=>
   Bool.rec (k (nat_lit 65533) (nat_lit 1)) (k c (nat_lit 2)) (Nat.ble (nat_lit 128) c)
  |false=>match aA (Nat.beq (Nat.div b0 (nat_lit 16)) (nat_lit 14)) (aA (cont s (Nat.add i (nat_lit 1))) (cont s (Nat.add i (nat_lit 2))))with
   |true=>sN (Nat.add (Nat.add (Nat.mul (Nat.mod b0 (nat_lit 16)) (nat_lit 4096)) (Nat.mul (WV s (Nat.add i (nat_lit 1))) (nat_lit 64))) (WV s (Nat.add i (nat_lit 2)))) λc=>
    Bool.rec (k (nat_lit 65533) (nat_lit 1)) (k c (nat_lit 3)) (aA (Nat.ble (nat_lit 2048) c) (ZC c))
   |false=>match aA (Nat.beq (Nat.div b0 (nat_lit 8)) (nat_lit 30)) (aA (cont s (Nat.add i (nat_lit 1))) (aA (cont s (Nat.add i (nat_lit 2))) (cont s (Nat.add i (nat_lit 3)))))with
    |true=>sN (Nat.add (Nat.add (Nat.add (Nat.mul (Nat.mod b0 (nat_lit 8)) (nat_lit 262144)) (Nat.mul (WV s (Nat.add i (nat_lit 1))) (nat_lit 4096))) (Nat.mul (WV s (Nat.add i (nat_lit 2))) (nat_lit 64))) (WV s (Nat.add i (nat_lit 3)))) λc=>
     Bool.rec (k (nat_lit 65533) (nat_lit 1)) (k c (nat_lit 4)) (aA (Nat.ble (nat_lit 65536) c) (ZC c))
    |false=>k (nat_lit 65533) (nat_lit 1)
def FR:Nat:=nat_lit 4194303
def nH (k:Str):List (Str×AV)->Option AV:=
 List.rec (motive:=λ_=>Option AV) none (λp _ ih=>Bool.rec ih (some p.2) (p.1.eq k))
def H6 (k:Str) (v:AV):List (Str×AV)->List (Str×AV):=
 List.rec (motive:=λ_=>List (Str×AV)) [(k,v)] (λp r ih=>Bool.rec (p::ih) ((p.1,v)::r) (p.1.eq k))
inductive MK where
 |none
 |ints (k:IntKind)
 |strs
def dV (g:G) (t:Nat):MK:=
 match g.ty t with
 |some {desc:= .map k _, ..}=>match g.ty k with
  |some {desc:= .int kd, ..}=> .ints kd
  |some {desc:= .string, ..}=> .strs
  |_=> .none
 |_=> .none
def mapKey (kind:MK) (x:wF) (key:AV) (fi:IntKind->Nat->Nat->E (Option AV) 11->Nat->bB) (fs:Nat->Nat->List (Str×AV)->Str->bB):bB:=
 match kind with
 | .ints kt=>(match x,key with
   | .zU kd n c t _, .int kd' (.ofNat i)=>match Nat.ble i FR,Nat.beq (sS kd) (sS kd'),Nat.beq (sS kd) (sS kt)with
     |true,true,true=>fi kd n c t i
     |_,_,_=> .fail
   |_,_=> .fail)
 | .strs=>(match x,key with
   | .smap n c l, .str s=>fs n c l s
   |_,_=> .fail)
 | .none=> .fail
def ZB (kind:MK) (key:AV):Bool:=
 match kind with
 | .ints kd=>(match key with
   | .int kd' _=>Nat.beq (sS kd) (sS kd')
   |_=>false)
 | .strs=>(match key with
   | .str _=>true
   |_=>false)
 | .none=>false
def okA (ok:Bool) (v:AV) (b:Bool) (h:H):bB:=
 match ok with
 |true=> .ok (.fT (.cons v (.cons (.bool b) .nil))) h
 |false=>sQ v h
def H7 (kind:MK) (zero:AV) (m key:AV) (ok:Bool) (h:H):bB:=
 match m with
 | .qL=>(match ZB kind key with
   |true=>okA ok zero false h
   |false=> .fail)
 | .map b=>match h.get b with
   |some x=>mapKey kind x key
    (λ_ _ _ t i=>match E.get 11 (path 11 i) t with
     |some v=>okA ok v true h
     |none=>okA ok zero false h)
    (λ_ _ l s=>match nH s l with
     |some v=>okA ok v true h
     |none=>okA ok zero false h)
   |none=> .fail
 |_=> .fail
def zT (kind:MK) (m key v:AV) (h:H):bB:=
 match m with
 | .map b=>match h.get b with
   |some x=>mapKey kind x key
    (λkd n c t i=>match E.get 11 (path 11 i) t with
     |some _=> .ok (.fT .nil) (h.set b (.zU kd n c (E.put (some v) 11 (path 11 i) t) (nat_lit 0)))
     |none=> .ok (.fT .nil) (h.set b (.zU kd (Nat.succ n) (Nat.succ c) (E.put (some v) 11 (path 11 i) t) (nat_lit 0))))
    (λn c l s=>match nH s l with
     |some _=> .ok (.fT .nil) (h.set b (.smap n c (H6 s v l)))
     |none=> .ok (.fT .nil) (h.set b (.smap (Nat.succ n) (Nat.succ c) (H6 s v l))))
   |none=> .fail
 |_=> .fail
def H8 (kind:MK) (zero m key:AV) (h:H):bB:=
 match m with
 | .map b=>match h.get b with
   |some x=>mapKey kind x key
    (λkd n c t i=>match E.get 11 (path 11 i) t with
     |some _=> .fail
     |none=> .ok (.fT (.cons zero (.cons (.int .i64 (.ofNat c)) .nil))) (h.set b (.zU kd (Nat.succ n) (Nat.succ c) (E.put (some zero) 11 (path 11 i) t) (Nat.succ i))))
    (λ_ _ _ _=> .fail)
   |none=> .fail
 |_=> .fail
def H9 (m s v:AV) (h:H):bB:=
 match m,s with
 | .map b, .int _ (.ofNat st)=>(match h.get b with
   |some (.zU kd n c t lk)=>(match lk with
    |Nat.succ i=>(match Nat.beq (Nat.succ st) c,Nat.ble i FR with
     |true,true=> .ok (.fT .nil) (h.set b (.zU kd n c (E.put (some v) 11 (path 11 i) t) (nat_lit 0)))
     |_,_=> .fail)
    |0=> .fail)
   |_=> .fail)
 |_,_=> .fail
def Td (d:TypeDesc) (x:AV) (h:H):bB:=
 match d with
 | .string=>(match x with
   | .str s=>sN s.len λn=> .ok (.int .i64 (.ofNat n)) h
   |_=> .fail)
 | .slice _=>(match x with
   | .slice _ _ n _ _=>sN n λn=> .ok (.int .i64 (.ofNat n)) h
   | .jm=> .ok (.int .i64 (.ofNat (nat_lit 0))) h
   |_=> .fail)
 | .map _ _=>(match x with
   | .qL=> .ok (.int .i64 (.ofNat (nat_lit 0))) h
   | .map b=>match h.get b with
     |some (.zU _ n _ _ _)=> .ok (.int .i64 (.ofNat n)) h
     |some (.smap n _ _)=> .ok (.int .i64 (.ofNat n)) h
     |_=> .fail
   |_=> .fail)
 |_=> .fail
def ZJ:Bool->AV->AV->AV:=Bool.rec (motive:=λ_=>AV->AV->AV)
 (iD (λk a b=> .int k (.ofNat (Bool.rec b a (Nat.ble a b)))) (λk a b=> .int k (Bool.rec b a (decide (a<=b)))))
 (iD (λk a b=> .int k (.ofNat (Bool.rec a b (Nat.ble a b)))) (λk a b=> .int k (Bool.rec a b (decide (a<=b)))))
def mmA (gt:Bool) (l:AV):AV:=
 match l with
 | .cons x r=>Dv (λa=>a) (λy _ ih a=>ih (ZJ gt a y)) r x
 |_=> .bad
def Mh (x:AV) (h:H):bB:=
 match x with
 | .str s=>match h.room with
   |true=> .ok (.ptr h.next (nat_lit 0)) (h.new (.iter s (nat_lit 0)))
   |false=> .fail
 |_=> .fail
def JK (x:AV) (h:H):bB:=
 match x with
 | .ptr b 0=>match h.get b with
   |some (.iter s pos)=>match Nat.ble (Nat.succ pos) s.len with
    |true=>Xw s pos λr w=>sN (Nat.add pos w) λp=> .ok (.fT (.cons (.bool true) (.cons (.int .i64 (.ofNat pos)) (.cons (.int .i32 (.ofNat r)) .nil)))) (h.set b (.iter s p))
    |false=> .ok (.fT (.cons (.bool false) .nil)) h
   |_=> .fail
 |_=> .fail
def tJ (x:AV) (i:Nat):AV:=
 match x with
 | .fT vs=>Bw vs i
 |_=> .bad
def Ig (g:G) (a c:AV):Bool:=
 match a with
 | .sH t _=>(match c with
   | .str s=>(match g.pU t s with
     |some _=>true
     |none=>false)
   |_=>false)
 | .nil=>true
 | .cons _ _=>true
 |_=>false
def nC (g:G) (x:AV):AV:=
 match x with
 | .ptr b o=> .ptr b o
 | .fn f a c=>Bool.rec .bad (.fn f a c) (Ig g a c)
 | .wE l=> .wE l
 | .sH t v=> .sH t v
 |_=> .bad
def opsL:List Operand->EV:=List.rec (motive:=λ_=>EV) ⟨λ_=> .nil⟩ (λo _ ih=>⟨λen=> .cons ((ev o).f en) (ih.f en)⟩)
def Il (g:G) (t:Nat) (k:Ty->Act):Act:=
 match g.ty t with
 |some y=>k y
 |none=>failA
def zeroV (y:Ty):AV:=y.zv
def JN (g:G) (same:Bool) (src dst:TypeDesc) (x:AV) (h:H):bB:=
 match dst,x with
 | .slice e, .slice b off (Nat.succ l) es z=>(match same,src,g.ty e with
   |true, .slice _,some {desc:= .int .u8, ..}=>(match h.get b with
    |some (.cells el ro n d t)=>match Nat.ble (nat_lit 2000000) el with
     |true=> .fail
     |false=> .ok (.slice b off (Nat.succ l) es z) (h.set b (.cells el ro n d t))
    |_=> .fail)
   |_,_,_=> .fail)
 | .int k, .int _ n=>frc (wr k n) λn'=> .ok (.int k n') h
 | .string, .str s=> .ok (.str s) h
 | .string, .int _ n=> .ok (.str (encR n)) h
 | .string, .jm=>(match src with
   | .slice e=>(match g.ty e with
     |some {desc:= .int .u8, ..}=> .ok (.str ⟨nat_lit 0,nat_lit 0⟩) h
     |_=> .fail)
   |_=> .fail)
 | .string, .slice b off len 1 _=>match src with
   | .slice e=>match g.ty e,h.get b with
     |some {desc:= .int .u8, ..},some (.cells _ _ n d t)=>match Nat.ble (Nat.add off len) n with
      |true=>Tg (nJ (BN d t len off) (some ⟨nat_lit 0,nat_lit 0⟩)) h
      |false=> .fail
     |_,_=> .fail
   |_=> .fail
 | .slice e, .str s=>match g.ty e with
   |some {desc:= .int .u8, ..}=>row e (aaO s s.len) h λb h'=> .ok (.slice b (nat_lit 0) s.len (nat_lit 1) false) h'
   |_=> .fail
 | .unsafePointer, .nG=>match src with
   | .pointer _=> .ok .nG h
   |_=> .fail
 | .unsafePointer, .ptr b off=>match src with
   | .pointer t=>match g.ty t,h.get b with
     |some y,some (.cells _ _ n _ _)=>match Nat.ble (Nat.succ off) n,Nat.beq y.size (nat_lit 0)with
      |true,false=> .ok (.ptr b off) h
      |_,_=> .fail
     |_,_=> .fail
   |_=> .fail
 | .pointer _, .nG=>match src with
   | .unsafePointer=> .ok .nG h
   |_=> .fail
 | .pointer u, .ptr b 0=>match src with
   | .unsafePointer=>match g.ty u,h.get b with
     |some y,some (.cells el false n d _)=>match Nat.beq el u,Nat.ble (nat_lit 12) d,Nat.ble y.size n,Nat.beq y.size (nat_lit 0)with
      |true,true,true,false=> .ok (.ptr b (nat_lit 0)) h
      |_,_,_,_=> .fail
     |_,_=> .fail
   |_=> .fail
 |_,_=> .fail
def unsafeStrA (g:G) (pt:Nat) (p:AV) (n:Nat) (h:H):bB:=
 match g.ty pt with
 |some {desc:= .pointer u, ..}=>match n,p with
  |0, .nG=> .ok (.str ⟨nat_lit 0,nat_lit 0⟩) h
  |0, .ptr _ _=> .ok (.str ⟨nat_lit 0,nat_lit 0⟩) h
  |Nat.succ k, .ptr b off=>match g.ty u,h.get b with
   |some {desc:= .int .u8,size:=sz, ..},some (.cells el true nn d t)=>match Nat.beq el (Nat.add u (nat_lit 2000000)),Nat.ble (Nat.add off (Nat.succ k)) nn,Nat.beq sz (nat_lit 1),Nat.ble (Nat.succ k) fH with
    |true,true,true,true=>match nJ (BN d t (Nat.succ k) off) (some ⟨nat_lit 0,nat_lit 0⟩)with
     |some s=> .ok (.str s) (h.set b (.cells el true nn d t))
     |none=> .fail
    |_,_,_,_=> .fail
   |some {desc:= .int .u8,size:=sz, ..},some (.cells el false nn d t)=>match Nat.beq el u,Nat.ble (Nat.add off (Nat.succ k)) nn,Nat.beq sz (nat_lit 1),Nat.ble (Nat.succ k) fH,Nat.ble (nat_lit 2000000) el with
    |true,true,true,true,false=>match nJ (BN d t (Nat.succ k) off) (some ⟨nat_lit 0,nat_lit 0⟩)with
     |some s=> .ok (.str s) (h.set b (.cells el true nn d t))
     |none=> .fail
    |_,_,_,_,_=> .fail
   |_,_=> .fail
  |_,_=> .fail
 |_=> .fail
def Mv (g:G) (b:Builtin) (ts:List TypeId) (args:AV) (h:H):bB:=
 match b,args with
 | .append, .cons s (.cons x .nil)=>match ts with
   |[t,u]=>match g.ty t,g.ty u with
     |some {desc:= .slice e, ..},some {desc:= .slice _, ..}=>(match g.ty e with
      |some y=>Ik e y.size y.bytes s x h
      |none=> .fail)
     |some {desc:= .slice e, ..},some {desc:= .string, ..}=>(match g.ty e with
      |some y=>Ik e y.size y.bytes s x h
      |none=> .fail)
     |some {desc:= .slice e, ..},some {desc:= .int _, ..}=>(match g.ty e,x with
      |some y, .int _ (.ofNat n)=>(match Nat.ble (Nat.mul n y.bytes) fH,Nat.ble n fH with
       |true,true=>yG e y.size y.bytes s h (Hg y.zero n) n
       |_,_=> .fail)
      |_,_=> .fail)
     |_,_=> .fail
   |_=> .fail
 | .copy, .cons d (.cons s .nil)=>match ts with
   |t::_=>match g.ty t with
    |some {desc:= .slice e, ..}=>(match g.ty e with
     |some y=>Tn y.size d s h
     |none=> .fail)
    |_=> .fail
   |[]=> .fail
 | .cap, .cons x .nil=>(match ts with
   |t::_=>(match g.ty t with
    |some {desc:= .slice _, ..}=>(match x with
     | .jm=> .ok (.int .i64 (.ofNat (nat_lit 0))) h
     | .slice _ _ _ _ true=> .ok (.int .i64 (.ofNat (nat_lit 0))) h
     |_=> .fail)
    |_=> .fail)
   |[]=> .fail)
 | .max,l=>sQ (mmA true l) h
 | .min,l=>sQ (mmA false l) h
 | .unsafeSliceData, .cons x .nil=>(match x with
   | .jm=> .ok .nG h
   | .slice b off (Nat.succ _) _ _=> .ok (.ptr b off) h
   |_=> .fail)
 | .unsafeString, .cons p (.cons (.int _ (.ofNat n)) .nil)=>(match ts with
   |pt::_=>unsafeStrA g pt p n h
   |[]=> .fail)
 |_,_=> .fail
def wX (e:Nat) (y:Ty) (l c:AV) (h:H):bB:=
 Dl .fail (λn=>Dl .fail (λm=>match Nat.ble n m,Nat.ble (Nat.mul m y.bytes) fH,Nat.ble m fH with
  |true,true,true=>row e (Hg y.zero m) h λb h'=> .ok (.slice b (nat_lit 0) n y.size false) h'
  |_,_,_=> .fail) c) l
def qm (kind:MK) (h:H):bB:=
 match h.room,kind with
 |true, .ints k=> .ok (.map h.next) (h.new (.zU k (nat_lit 0) (nat_lit 0) (E.rep none 11) (nat_lit 0)))
 |true, .strs=> .ok (.map h.next) (h.new (.smap (nat_lit 0) (nat_lit 0) []))
 |_,_=> .fail
def mapElem (g:G) (t:Nat) (k:Ty->Act):Act:=
 match g.ty t with
 |some {desc:= .map _ e, ..}=>Il g e k
 |_=>failA
def fieldT (g:G) (s f:Nat) (k:Field->Ty->Act):Act:=
 match g.ty s with
 |some {desc:= .struct fs, ..}=>match fs[f]? with
  |some fd=>Il g fd.type λy=>k fd y
  |none=>failA
 |_=>failA
def AZ (g:G) (t:Nat) (k:Nat->Option Nat->Ty->Act):Act:=
 match g.ty t with
 |some {desc:= .slice e, ..}=>Il g e λy=>k e none y
 |some {desc:= .array n e, ..}=>Il g e λy=>k e (some n) y
 |_=>failA
def placesOf (g:G) (y:Ty):Nat->Option (Nat×Nat):=
 match y.desc with
 | .struct fs=>λi=>match fs[i]? with
   |some fd=>match g.ty fd.type with
    |some z=>some (fd.offset,z.size)
    |none=>none
   |none=>none
 | .array _ e=>λi=>match g.ty e with
   |some z=>some (Nat.mul i z.size,z.size)
   |none=>none
 |_=>λ_=>none
def JC (g:G) (d:TypeDesc):Bool:=
 match d with
 | .struct fs=>fs.toList.all λf=>(g.ty f.type).isSome
 | .array _ e=>(g.ty e).isSome
 |_=>false
def onB (b:Bool) (a:Act):Act:=Bool.rec (motive:=λ_=>Act) failA a b
def yx (v:AV) (h:H):bB:=
 match isL v with
 |true=> .ok (.agg v) h
 |false=> .fail
def Xm:Operand->Bool:=Operand.rec (motive:=λ_=>Bool) (λ_=>false) (λ_=>true) (λ_=>false) (λ_=>false)
def He:AV->H->bB:=
 AV.rec (motive:=λ_=>H->bB) (λh=> .ok .bad h) (λh=> .ok .unk h) (λb h=> .ok (.bool b) h) (λk n h=>frc n λn'=> .ok (.int k n') h) (λs h=> .ok (.str s) h) (λb o h=> .ok (.ptr b o) h)
  (λh=> .ok .nG h) (λb o n s z h=> .ok (.slice b o n s z) h) (λh=> .ok .jm h) (λb h=> .ok (.map b) h) (λh=> .ok .qL h)
  (λf x y _ _ h=> .ok (.fn f x y) h) (λl h=> .ok (.wE l) h) (λh=> .ok .qM h) (λt v _ h=> .ok (.sH t v) h) (λh=> .ok .qc h)
  (λcs _ h=> .ok (.agg cs) h) (λvs _ h=> .ok (.fT vs) h) (λ_=> .fail) (λ_ _ _ _ _=> .fail)
def adz (f:EV):Act:=⟨λen h=>He (f.f en) h⟩
def aaW (u:U1) (f:EV):Act:=⟨λen h=>sQ (u.f (f.f en)) h⟩
def ahe (u:B2) (f g:EV):Act:=⟨λen h=>sQ (u.f (f.f en) (g.f en)) h⟩
def aaX (u:A1) (f:EV):Act:=⟨λen h=>u.f (f.f en) h⟩
def XP (u:A2) (f g:EV):Act:=⟨λen h=>u.f (f.f en) (g.f en) h⟩
def XQ (c a b:EV):Act:=⟨λen h=>OB.rec (motive:=λ_=>bB) .fail (sQ (b.f en) h) (sQ (a.f en) h) (toB (c.f en))⟩
def eqK (g:G) (t:Nat):EK:=
 match g.ty t with
 |some {desc:= .bool, ..}=> .bool
 |some {desc:= .pointer e, ..}=>(match g.ty e with
  |some y=>Bool.rec .ptr .none (Nat.beq y.size (nat_lit 0))
  |none=> .none)
 |some {desc:= .slice _, ..}=> .slice
 |some {desc:= .map _ _, ..}=> .map
 |some {desc:= .func _ _ _, ..}=> .func
 |some {desc:= .interface _, ..}=> .iface
 |_=>match g.eq2 t with
  |true=> .two
  |false=> .none
def adA (g:G) (t:Nat) (y:Ty):Bool:=
 match y.desc with
 | .struct fs=>(match fs.toList with
   |[f,_]=>(match g.ty f.type with
     |some {desc:= .pointer u, ..}=>Nat.beq u t
     |_=>false)
   |_=>false)
 |_=>false
def Fx (g:G) (o:Op):Act:=
 match o with
 | .move x=>adz (ev x)
 | .assign x=>adz (ev x)
 | .pick c a b=>XQ (ev c) (ev a) (ev b)
 | .alloc t=>Il g t λy=>match adA g t y with
   |true=>Act.mk λ_ h=>aaI t y.zero h λb h'=> .ok (.ptr b (nat_lit 0)) h'
   |false=>Act.mk λ_ h=>row t y.zero h λb h'=> .ok (.ptr b (nat_lit 0)) h'
 | .box t x=>Act.mk λen h=>row t (cellsOf ((ev x).f en)) h λb h'=> .ok (.ptr b (nat_lit 0)) h'
 | .build t ps=>Il g t λy=>onB (JC g y.desc)<|Act.mk λen h=>yx (fillA (placesOf g y) en ps.toList y.zero) h
 | .buildSlice t n ps=>AZ g t λe arr y=>match arr with
   |none=>Act.mk λen h=>match Nat.ble (Nat.mul n y.size) (nat_lit 100000),fillA (λi=>some (Nat.mul i y.size,y.size)) en ps.toList (Hg y.zero n)with
    |true,cs=>(match isL cs with
     |true=>row e cs h λb h'=> .ok (match n with|0=> .slice b (nat_lit 0) (nat_lit 0) y.size true|_=> .slice b (nat_lit 0) n y.size false) h'
     |false=> .fail)
    |false,_=> .fail
   |some _=>failA
 | .load t a=>Il g t λy=>aaX (qd y.agg y.size) (ev a)
 | .store t a x=>Il g t λy=>XP (Dj y.agg y.size) (ev a) (ev x)
 | .nilCheck x=>aaW ⟨nC g⟩ (ev x)
 | .binOp op t x y _=>ahe (Sy op (Bool.rec (Xm y) true (Xm x)) (eqK g t)) (ev x) (ev y)
 | .unOp op _ x=>aaW (uop op) (ev x)
 | .convert s d x=>Il g s λys=>Il g d λyd=>Act.mk λen h=>JN g (Nat.beq s d) ys.desc yd.desc ((ev x).f en) h
 | .makeInterface t x=>Il g t λy=>match y.desc with
   | .interface _=>failA
   |_=>Act.mk λen h=>match(ev x).f en with
    | .bad=> .fail
    |v=> .ok (.sH t v) h
 | .makeFunc fn fs cs=>match fn with
   | .func f=>Act.mk λen h=> .ok (.fn f ((opsL fs.toList).f en) ((opsL cs.toList).f en)) h
   | .method nm=>(match fs.toList,cs.toList with
     |[o],[]=>Act.mk λen h=>match(ev o).f en with
       | .sH t x=> .ok (.fn (nat_lit 0) (.sH t x) (.str (Str.of nm.toUTF8))) h
       |_=> .fail
     |_,_=>failA)
   |_=>failA
 | .makeMap t r=>match r with
   |none=>Act.mk λ_ h=>qm (dV g t) h
   |some x=>Act.mk λen h=>match(ev x).f en with
    | .int _ _=>qm (dV g t) h
    |_=> .fail
 | .makeSlice t l c=>AZ g t λe arr y=>match arr with
   |none=>Act.mk λen h=>wX e y ((ev l).f en) ((ev c).f en) h
   |some _=>failA
 | .slice t x lo hi mx=>match g.ty t with
   |some {desc:= .slice e, ..}=>Il g e λy=>onB (aaL hi mx) (Dm y.size (ev x) lo hi mx)
   |some {desc:= .string, ..}=>(match mx with
    |none=>ql (ev x) lo hi
    |some _=>failA)
   |some {desc:= .array n e, ..}=>Il g e λy=>nA y.size n (ev x) lo hi mx
   |_=>failA
 | .fieldAddr s x f=>fieldT g s f λfd y=>match y.size with
   |Nat.succ _=>aaX ⟨L9 (fieldA fd.offset)⟩ (ev x)
   |0=>failA
 | .field s x f=>fieldT g s f λfd y=>Act.mk λen h=>match(ev x).f en with
   | .agg cs=>JB y.agg y.size fd.offset cs h
   |_=> .fail
 | .indexAddr t x i=>AZ g t λ_ arr y=>match arr with
   |none=>XP ⟨SQ y.size⟩ (ev x) (ev i)
   |some n=>XP ⟨SS n y.size⟩ (ev x) (ev i)
 | .index t x i=>match g.ty t with
   |some {desc:= .string, ..}=>XP ⟨Dk⟩ (ev x) (ev i)
   |some {desc:= .array n e, ..}=>Il g e λy=>Act.mk λen h=>Mg n y.agg y.size ((ev x).f en) ((ev i).f en) h
   |_=>failA
 | .lookup t x i ok=>mapElem g t λy=>Act.mk λen h=>H7 (dV g t) (zeroV y) ((ev x).f en) ((ev i).f en) ok h
 | .mapUpdate t m k x=>Act.mk λen h=>match(ev x).f en with
   | .bad=> .fail
   |v=>zT (dV g t) ((ev m).f en) ((ev k).f en) v h
 | .insert t m k x=>Act.mk λen h=>match(ev x).f en with
   | .bad=> .fail
   |v=>zT (dV g t) ((ev m).f en) ((ev k).f en) v h
 | .mapEntry t m k=>mapElem g t λy=>Act.mk λen h=>H8 (dV g t) (zeroV y) ((ev m).f en) ((ev k).f en) h
 | .entryStore _ m s x=>Act.mk λen h=>match(ev x).f en with
   | .bad=> .fail
   |v=>H9 ((ev m).f en) ((ev s).f en) v h
 | .range t x=>(match g.ty t with
   |some {desc:= .string, ..}=>Act.mk λen h=>Mh ((ev x).f en) h
   |_=>failA)
 | .next it s=>match s with
   |true=>Act.mk λen h=>JK ((ev it).f en) h
   |false=>failA
 | .extract x i=>aaW ⟨λv=>tJ v i⟩ (ev x)
 | .call c=>match c.callee with
   | .builtin b=>match b,c.argTypes.toList,c.args.toList with
     | .len,t::_,[x]=>(match g.ty t with
       |some {desc:= .array n _, ..}=>Act.mk λ_ h=> .ok (.int .i64 (.ofNat n)) h
       |some {desc:= .pointer _, ..}=>failA
       |some y=>aaX ⟨Td y.desc⟩ (ev x)
       |none=>failA)
     |_,ts,as=>Act.mk λen h=>Mv g b ts ((opsL as).f en) h
   |_=>failA
 |_=>failA
