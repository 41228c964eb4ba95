/- The abstract machine, fourth part: regions, code, calls. -/
import Derived.Test.YtocaiijbhepnnaaGreatDoorAm3
import Derived.Calls
import Derived.Laws.Sem
import Derived.KernelRfl
import Derived.Laws.World
import Derived.Laws.Cells
namespace Go.Proofs.YtocaiijbhepnnaaGreatDoor.Am
noncomputable section
inductive Df where
 |call (f:Nat) (args:AV)
 |coll (b:Nat)
inductive XR where
 |fail
 |norm (en:Env) (h:H) (df:List Df)
 |ret (en:Env) (h:H) (df:List Df)
 |ext (i:Nat) (en:Env) (h:H) (df:List Df)
 |got (l:Nat) (en:Env) (h:H) (df:List Df)
structure Cx where
 call:Nat→AV→H→bF
 xY:Nat→AV→H→bF
 fuel:Nat
 rd:Option Nat
 qM:Nat→Str→Option Nat
structure K where
 k:Cx→Env→H→List Df→XR
def aeO (a:AV):Bool:=
 match a with
 | .nil=>true
 | .cons _ _=>true
 |_=>false
def apply(cx:Cx) (f args:AV) (h:H):bF:=
 match f with
 | .fn f a c=>(match a with
   | .uy t x=>(match c with
     | .str s=>(match cx.qM t s with
       |some f'=>cx.call f' (.cons x args) h
       |none=> .fail)
     |_=> .fail)
   | .nil=>cx.call f (l9 args c) h
   | .cons x r=>cx.call f (.cons x (l9 r (l9 args c))) h
   |_=> .fail)
 | .xY l=>cx.xY l args h
 |_=> .fail
def onR (k:AV→H→XR) (r:bF):XR:=bF.rec (motive:=fun _=>XR) .fail k r
def ae1 (p:PS) (a:Act) (ih:K):K:=⟨fun cx en h df=>onR (fun v h'=>ih.k cx (p.f v en) h' df) (a.f en h)⟩
def ae2 (a:Act) (ih:K):K:=⟨fun cx en h df=>onR (fun _ h'=>ih.k cx en h' df) (a.f en h)⟩
def ahX (p:PS) (f as:EV) (ih:K):K:=⟨fun cx en h df=>onR (fun v h'=>ih.k cx (p.f v en) h' df) (apply cx (f.f en) (as.f en) h)⟩
def ae3 (p:PS) (f as:EV) (ih:K):K:=⟨fun cx en h df=>
 match cx.rd,f.f en with
 |none, .fn g a c=>(match aeO a with
  |false=> .fail
  |true=>ih.k cx (p.f (.ig .nil) en) h (.call g (l9 a (l9 (as.f en) c))::df))
 |_,_=> .fail⟩
def amD (p:PS) (ih:K):K:=⟨fun cx en h df=>
 match cx.rd with
 |none=>ih.k cx (p.f .qX en) h df
 |some _=> .fail⟩
def Mt (w:Bool) (v:AV):OB:=
 match v with
 | .bool b=>Bool.rec .f .t (H7 b w)
 | .ig _=> .f
 |_=> .none
def ae4 (gp:EV) (w:Bool) (p:PS) (body:K→K) (ih:K):K:=⟨fun cx en h df=>
 OB.rec (motive:=fun _=>XR) .fail (ih.k cx (p.f (.ig .nil) en) h df) ((body ih).k cx en h df) (Mt w (gp.f en))⟩
def failK:K:=⟨fun _ _ _ _=> .fail⟩
def pN:PS:=⟨fun _ e=>e⟩
def pO (d:Option Tmp):PS:=Option.rec (motive:=fun _=>PS) pN pT d
inductive OpK where
 |plain (a:Act)
 |call (f:EV) (args:List Operand)
 |defer (f:Operand) (args:List Operand)
 |recover
def Xr (x:AV) (s:Str):AV:=
 match x with
 | .uy t v=> .fn (nat_lit 0) (.uy t v) (.str s)
 |_=> .bad
def ahx (r:Operand) (s:Str):EV:=⟨fun en=>Xr ((ev r).f en) s⟩
def pY (g:G) (o:Op):OpK:=
 match o with
 | .call c=>match c.callee with
   | .value f=> .call (ev f) c.args.toList
   | .invoke r nm=> .call (ahx r (Str.of nm.toUTF8)) c.args.toList
   | .builtin .recover=> .recover
   |_=> .plain (Ig g (.call c))
 | .defer c=>match c.callee with
   | .value f=> .defer f c.args.toList
   |_=> .plain failA
 |o=> .plain (Ig g o)
def rE (d:Option Tmp) (k:OpK):K→K:=
 match k with
 | .plain a=>(match d with
   |some t=>ae1 (pT t) a
   |none=>ae2 a)
 | .call f as=>ahX (pO d) f (opsL as)
 | .defer f as=>ae3 (pO d) (ev f) (opsL as)
 | .recover=>amD (pO d)
def zW (ops:List Oper) (j:Nat):Option Tmp:=
 match ops[j]? with
 |some o=>o.dst
 |none=>none
def PG (g:G) (ops:List Oper) (o:Oper):K→K:=
 match o.guard with
 |none=>rE o.dst (pY g o.op)
 |some (j,w)=>(match zW ops j with
  |some t=>ae4 (gT t) w (pO o.dst) (rE o.dst (pY g o.op))
  |none=>fun _=>failK)
def IC:K:=⟨fun _=> .norm⟩
def ahy (g:G) (ops:List Oper):List Oper→K:=List.rec (motive:=fun _=>K) IC (fun o _ ih=>PG g ops o ih)
def aR (v:AV):List Nat:=
 match v with
 | .ptr b _=>[b]
 | .slice b _ _ _ _=>[b]
 | .map b=>[b]
 |_=>[]
def blks (l:List Operand) (en:Env):List Nat:=List.rec (motive:=fun _=>List Nat) [] (fun o _ ih=>List.append (aR ((ev o).f en)) ih) l
def uD (o:Op):Option (Env→List Nat):=
 match o with
 | .load _ a=>some fun en=>aR ((ev a).f en)
 | .store _ a _=>some fun en=>aR ((ev a).f en)
 | .lookup _ m _ _=>some fun en=>aR ((ev m).f en)
 | .mapUpdate _ m _ _=>some fun en=>aR ((ev m).f en)
 | .insert _ m _ _=>some fun en=>aR ((ev m).f en)
 | .mapEntry _ m _=>some fun en=>aR ((ev m).f en)
 | .entryStore _ m _ _=>some fun en=>aR ((ev m).f en)
 | .next i _=>some fun en=>aR ((ev i).f en)
 | .convert _ _ x=>some fun en=>aR ((ev x).f en)
 | .slice _ x _ _ _=>some fun en=>aR ((ev x).f en)
 | .call c=>match c.callee with
   | .builtin _=>some fun en=>blks c.args.toList en
   |_=>none
 | .defer _=>none
 |_=>some fun _=>[]
structure DO where
 step:K→K
 acc:Option (Env→List Nat)
 gd:Option (EV×Bool)
 p:PS
 dn:Nat
 rs:List Nat
 es:List Nat
 ok:Bool
structure Rc where
 i:Nat
 call:Bool
 acc:List Nat
 wrt:List Nat
 lo:Nat
 hi:Nat
def zY (x:Nat):List Nat→Bool:=List.rec (motive:=fun _=>Bool) false (fun y _ ih=>Bool.rec ih true (Nat.beq x y))
def PX (a b:List Nat):Bool:=List.rec (motive:=fun _=>Bool) true (fun x _ ih=>Bool.rec ih false (zY x b)) a
def yL (lo hi:Nat) (a:List Nat):Bool:=List.rec (motive:=fun _=>Bool) true (fun x _ ih=>Bool.rec ih (Bool.rec false ih (Nat.ble hi x)) (Nat.ble lo x)) a
def FR (a:List Nat):Bool:=List.rec (motive:=fun _=>Bool) true (fun _ _ _=>false) a
def compat (k i:Rc):Bool:=
 match k.call,i.call with
 |false,false=>aA (PX k.wrt i.acc) (aA (PX i.wrt k.acc) (yL k.lo k.hi i.acc))
 |true,false=>aA (PX k.wrt i.acc) (aA (FR i.wrt) (yL k.lo k.hi i.acc))
 |false,true=>aA (FR k.wrt) (aA (PX i.wrt k.acc) (Nat.beq k.lo k.hi))
 |true,true=>false
def tq (pm:Nat) (i:Rc):List Rc→Bool:=List.rec (motive:=fun _=>Bool) true (fun k _ ih=>Bool.rec false ih (Bool.rec (compat k i) true (Nat.testBit pm k.i)))
def below (lo:Nat):Nat→List Nat→List Nat:=
 Nat.rec (motive:=fun _=>List Nat→List Nat) (fun _=>[]) (fun _ ih l=>List.rec (motive:=fun _=>List Nat) [] (fun x r _=>Bool.rec (ih r) (x::ih r) (Nat.ble (Nat.succ x) lo)) l)
def quiet (r:Rc):Bool:=aA (Bool.rec true false r.call) (aA (FR r.acc) (aA (FR r.wrt) (Nat.beq r.lo r.hi)))
def Yc (o:DO) (i:Nat) (en:Env) (h h':H):Rc:=
 match o.acc with
 |some f=>⟨i,false,List.append (f en) (below h.next (Nat.sub h'.ln h.ln) h'.log),below h.next (Nat.sub h'.ln h.ln) h'.log,h.next,h'.next⟩
 |none=>⟨i,true,[],below h.next (Nat.sub h'.ln h.ln) h'.log,h.next,h'.next⟩
def doneD (o:DO) (i pm:Nat) (en:Env) (h:H) (rs:List Rc) (k:List Rc→Env→H→List Df→XR) (en':Env) (h':H) (kZ:List Df):XR:=
 match tq pm (Yc o i en h h') rs with
 |true=>k (match quiet (Yc o i en h h')with|true=>rs|false=>Yc o i en h h'::rs) en' h' kZ
 |false=> .fail
def RU (cx:Cx) (o:DO) (i pm:Nat) (en:Env) (h:H) (df:List Df) (rs:List Rc) (k:List Rc→Env→H→List Df→XR):XR:=
 match(match o.gd with|none=>OB.t|some (f,w)=>Mt w (f.f en))with
 | .t=>(o.step ⟨fun _ en' h' kZ=>doneD o i pm en h rs k en' h' kZ⟩).k cx en h df
 | .f=>k rs (o.p.f (.ig .nil) en) h df
 | .none=> .fail
def iE:List Nat→Nat→Nat:=List.rec (motive:=fun _=>Nat→Nat) (fun _=>nat_lit 0) (fun x _ ih i=>Bool.rec (ih (Nat.pred i)) x (Nat.beq i (nat_lit 0)))
def o7 (ms:List Nat):List Nat→Nat:=List.rec (motive:=fun _=>Nat) (nat_lit 0) (fun e _ ih=>Nat.lor (Nat.lor (Nat.pow (nat_lit 2) e) (iE ms e)) ih)
def masks (ms:List Nat):List DO→List Nat:=fun l=>
 List.rec (motive:=fun _=>List Nat→List Nat) (fun ms=>ms) (fun o _ ih ms=>sN (o7 ms o.es) fun m=>ih (List.append ms [m])) l ms
def vD (a b:DO):Bool:=
 aA (Bool.rec (aA (Bool.rec true false (zY a.dn b.rs)) (Bool.rec true false (Nat.beq a.dn b.dn))) true (Nat.beq a.dn (nat_lit 0)))
  (Bool.rec (Bool.rec true false (zY b.dn a.rs)) true (Nat.beq b.dn (nat_lit 0)))
def o8 (o:DO) (pm:Nat):List DO→Nat→Bool:=List.rec (motive:=fun _=>Nat→Bool) (fun _=>true)
 (fun k _ ih i=>Bool.rec false (ih (Nat.succ i)) (Bool.rec (vD k o) true (Nat.testBit pm i)))
def IV (i:Nat):List Nat→Bool:=List.rec (motive:=fun _=>Bool) true (fun e _ ih=>Bool.rec false ih (Nat.ble (Nat.succ e) i))
def okD (ms:List Nat):List DO→Nat→List DO→Bool:=
 List.rec (motive:=fun _=>Nat→List DO→Bool) (fun _ _=>true)
  (fun o _ ih i ahead=>aA o.ok (aA (o8 o (iE ms i) ahead (nat_lit 0)) (aA (IV i o.es) (ih (Nat.succ i) (List.append ahead [o])))))
def kDr (ms:List Nat) (cx:Cx):List DO→Nat→List Rc→Env→H→List Df→XR:=
 List.rec (motive:=fun _=>Nat→List Rc→Env→H→List Df→XR) (fun _ _ en h df=> .norm en h df)
  (fun o _ ih i rs en h df=>RU cx o i (iE ms i) en h df rs (ih (Nat.succ i)))
def slot (o:Operand):List Nat:=
 match o with
 | .tmp t=>[Nat.succ t]
 |_=>[]
def slots (l:List Operand):List Nat:=List.rec (motive:=fun _=>List Nat) [] (fun o _ ih=>List.append (slot o) ih) l
def uM (o:Oper):Nat:=
 match o.dst with
 |some d=>Nat.succ d
 |none=>nat_lit 0
def wP (ops:List Oper) (o:Oper):List Nat:=
 match o.guard with
 |some (j,_)=>match ops[j]? with
  |some x=>[uM x]
  |none=>[]
 |none=>[]
def mU (o:Oper):List Nat:=(o.after.toList.filter (Region.binds .any)).map (·.on)
def tu (k:OpK):Bool:=
 match k with
 | .plain _=>true
 | .call _ _=>true
 |_=>false
def lu (g:G) (ops:List Oper) (o:Oper):DO:=
 {step:=rE o.dst (pY g o.op),acc:=uD o.op
  gd:=match o.guard with|none=>none|some (j,w)=>some (match zW ops j with|some t=>gT t|none=>⟨fun _=> .bad⟩,w)
  p:=pO o.dst,dn:=uM o,rs:=List.append (wP ops o) (slots o.op.operands.toList),es:=mU o,ok:=tu (pY g o.op)}
def ahY (ds:List DO):K:=
 match okD (masks [] ds) ds (nat_lit 0) []with
 |true=>⟨fun cx en h df=>kDr (masks [] ds) cx ds (nat_lit 0) [] en h df⟩
 |false=>failK
def Er (g:G) (ops:List Oper) (draw:Bool):K:=
 match draw with
 |false=>ahy g ops ops
 |true=>ahY (ops.map (lu g ops))
def abf (a b:K):K:=⟨fun cx en h df=>XR.rec (motive:=fun _=>XR) .fail (b.k cx) .ret .ext .got (a.k cx en h df)⟩
def ady (c:EV) (a b:K):K:=⟨fun cx en h df=>OB.rec (motive:=fun _=>XR) .fail (b.k cx en h df) (a.k cx en h df) (toB (c.f en))⟩
def leave (i j:Nat) (en:Env) (h:H) (df:List Df):XR:=Bool.rec (.ext j en h df) (.norm en h df) (Nat.beq j i)
def Xl (i:Nat) (a:K):K:=⟨fun cx en h df=>XR.rec (motive:=fun _=>XR) .fail .norm .ret (leave i) .got (a.k cx en h df)⟩
def adA (a:K):K:=⟨fun cx=>Nat.rec (motive:=fun _=>Env→H→List Df→XR) (fun _ _ _=> .fail)
 (fun _ ih en h df=>XR.rec (motive:=fun _=>XR) .fail ih .ret .ext .got (a.k cx en h df)) cx.fuel⟩
def Xp (a b:Nat→Option K) (kb:K):Nat→Option K:=fun l=>match a l with
 |some r=>some (abf r kb)
 |none=>b l
def Xn (a:K) (lk:Nat→Option K):K:=⟨fun cx=>Nat.rec (motive:=fun _=>K→Env→H→List Df→XR) (fun _ _ _ _=> .fail)
 (fun _ ih k en h df=>XR.rec (motive:=fun _=>XR) .fail .norm .ret .ext
  (fun l en' h' kZ=>match lk l with
   |some r=>ih r en' h' kZ
   |none=> .got l en' h' kZ) (k.k cx en h df)) cx.fuel a⟩
def PN (c:Option Code) (en:Env) (h:H) (df:List Df):XR:=
 match c with
 |none=> .norm en h df
 |some .ret=> .ret en h df
 |some (.exit i)=> .ext i en h df
 |some (.goto l)=> .got l en h df
 |some _=> .fail
def Kl (f:EV) (ps:List Tmp) (assign body:Code):K:=⟨fun cx en h0 df0=>
 let fin (l:Nat) (df:List Df) (h:H):XR:=match apply cx (f.f en) (.cons (.xY l) .nil) h with
  | .ok _ h'=>(match h'.get l with
    |some (.loop st pend fn env ps' as bo dd)=>(match st with
     | .busy=> .fail
     |_=>PN pend en (h'.set l (.loop .exhausted pend fn env ps' as bo dd)) df)
    |_=> .fail)
  | .fail=> .fail
 match cx.rd with
 |none=>(match Nat.ble (Nat.succ (Nat.succ h0.next)) (nat_lit 65536)with
  |true=>fin (Nat.succ h0.next) (.coll h0.next::df0) ((h0.new .wK).new (.loop .ready none (nat_lit 0) en ps assign body h0.next))
  |false=> .fail)
 |some l0=>(match h0.room,h0.get l0 with
  |true,some (.loop _ _ _ _ _ _ _ dd)=>fin h0.next df0 (h0.new (.loop .ready none (nat_lit 0) en ps assign body dd))
  |_,_=> .fail)⟩
structure CK where
 k:K
 lk:Nat→Option K
def DZ:Nat→Option K:=fun _=>none
def exC (g:G):Code→CK:=Code.rec (motive:=fun _=>CK)
 ⟨IC,DZ⟩
 (fun _ ops draw=>⟨Er g ops.toList draw,DZ⟩)
 (fun _ _ a b=>⟨abf a.k b.k,Xp a.lk b.lk b.k⟩)
 (fun c _ _ a b=>⟨ady (ev c) a.k b.k,DZ⟩)
 (fun i _ a=>⟨Xl i a.k,DZ⟩)
 (fun _ a=>⟨adA a.k,DZ⟩)
 (fun f ps as bo _ _=>⟨Kl (ev f) ps.toList as bo,DZ⟩)
 (fun i=>⟨⟨fun _=> .ext i⟩,DZ⟩)
 (fun _ a=>⟨Xn a.k a.lk,DZ⟩)
 (fun l=>⟨IC,fun l'=>match Nat.beq l l' with|true=>some IC|false=>none⟩)
 (fun l=>⟨⟨fun _=> .got l⟩,DZ⟩)
 ⟨⟨fun _=> .ret⟩,DZ⟩
 (fun _=>⟨failK,DZ⟩)
def IL:AV→Nat→Env→Env:=Fw (fun _ t=>t) (fun v _ ih i t=>ih (Nat.succ i) ((pT i).f v t))
def FK (cx:Cx):List Df→H→Option H:=List.rec (motive:=fun _=>H→Option H) some
 (fun d _ ih h=>match d with
  | .call f a=>(match cx.call f a h with
    | .ok _ h'=>ih h'
    | .fail=>none)
  | .coll b=>(match h.get b with
    |some .wK=>ih (h.set b .taken)
    |_=>none))
def Mw (g:G) (r:ResultVar) (en:Env) (h:H):AV:=
 match r with
 | .tmp t=>(gT t).f en
 | .cell a t=>match g.ty t with
   |some y=>(match(qY y.agg y.size).f ((gT a).f en) h with
    | .ok v _=>v
    | .fail=> .bad)
   |none=> .bad
def Xu (g:G) (en:Env) (h:H):List ResultVar→AV:=List.rec (motive:=fun _=>AV) .nil (fun r _ ih=> .cons (Mw g r en h) ih)
def lq (g:G) (en:Env) (h:H):List ResultVar→Bool:=List.rec (motive:=fun _=>Bool) true (fun r _ ih=>match r with
 | .tmp _=>ih
 | .cell a t=>match g.ty t with
   |some y=>(match(qY y.agg y.size).f ((gT a).f en) h with
    | .ok _ _=>ih
    | .fail=>false)
   |none=>false)
def IJ (g:G) (rs:List ResultVar) (en:Env) (h:H):bF:=
 match rs with
 |[r]=>uJ (Mw g r en h) h
 |rs=>match lq g en h rs with
  |true=> .ok (.ig (Xu g en h rs)) h
  |false=> .fail
def enter (g:G) (cx:Cx) (fn:Fn) (args:AV) (h:H):bF:=
 let fin (en:Env) (h:H) (df:List Df):bF:=match FK cx df h with
  |some h'=>IJ g fn.res en h'
  |none=> .fail
 match Nat.ble (llen args) fn.nt,(exC g fn.body).k.k cx (IL args (nat_lit 0) PV) h []with
 |true, .norm en h df=>fin en h df
 |true, .ret en h df=>fin en h df
 |_,_=> .fail
def ahO (s:Str) (c:Nat):Nat→Nat→Nat:=fun n i=>
 Nat.rec (motive:=fun _=>Nat→Nat→Nat) (fun _ a=>a) (fun _ ih i a=>sN (Bool.rec a (Nat.succ a) (Nat.beq (s.byte i) c)) fun a'=>ih (Nat.succ i) a') n i (nat_lit 0)
def ahP (s:Str) (c:Nat):Nat→Nat→Int:=fun n i=>
 Nat.rec (motive:=fun _=>Nat→Int) (fun _=> .negSucc (nat_lit 0)) (fun _ ih i=>Bool.rec (ih (Nat.succ i)) (.ofNat i) (Nat.beq (s.byte i) c)) n i
def Xy (kind:Nat) (args:AV) (h:H):bF:=
 match kind,args with
 |1, .cons (.str s) (.cons (.int .u8 (.ofNat c)) .nil)=>Bool.rec .fail (.ok (.int .i64 (.ofNat (ahO s c s.len (nat_lit 0)))) h) (Nat.ble c (nat_lit 255))
 |2, .cons (.str s) (.cons (.int .u8 (.ofNat c)) .nil)=>Bool.rec .fail (frc (ahP s c s.len (nat_lit 0)) fun n=> .ok (.int .i64 n) h) (Nat.ble c (nat_lit 255))
 |3, .cons v .nil=> .ok v h
 |k, .cons (.int .i64 (.ofNat n)) .nil=>match Nat.ble (nat_lit 16) k,Nat.ble n gP,h.room with
  |true,true,true=> .ok (.slice h.next (nat_lit 0) n (nat_lit 1) false) (h.new (.cells (Nat.add (Nat.sub k (nat_lit 16)) (nat_lit 2000000)) true (nat_lit 0) (nat_lit 0) (Hu (nat_lit 0) .nil)))
  |_,_,_=> .fail
 |_,_=> .fail
structure Rn where
 call:Nat→AV→H→bF
 xY:Nat→AV→H→bF
def params (ps:List Tmp):AV→Env→Env:=List.rec (motive:=fun _=>AV→Env→Env) (fun _ t=>t) (fun p _ ih a t=>ih (Im a (nat_lit 1)) ((pT p).f (DV a (nat_lit 0)) t)) ps
def begun (g:G) (cx:Cx) (l:Nat) (args:AV) (h:H):bF:=
 match h.get l with
 |some (.loop _ _ _ env ps as bo _)=>match Nat.beq (llen args) ps.length with
  |true=>(match(exC g as).k.k {cx with rd:=some l} (params ps args env) h []with
   | .norm qp h1 []=>(match h1.get l with
     |some (.loop .ready pend fn env' ps' as' LB dd)=>
      let fin (jump:Option Code) (st:LoopState) (b:Bool) (h2:H):bF:=(match h2.get l with
       |some (.loop _ _ fn2 aeS ps2 as2 bo2 dd2)=> .ok (.bool b) (h2.set l (.loop st jump fn2 aeS ps2 as2 bo2 dd2))
       |_=> .fail)
      (match(exC g bo).k.k {cx with rd:=some l} qp (h1.set l (.loop .busy pend fn env' ps' as' LB dd)) []with
       | .norm _ h2 _=>fin none .ready true h2
       | .ret _ h2 _=>fin (some .ret) .done false h2
       | .ext i _ h2 _=>fin (some (.exit i)) .done false h2
       | .got l' _ h2 _=>fin (some (.goto l')) .done false h2
       | .fail=> .fail)
     |_=> .fail)
   |_=> .fail)
  |false=> .fail
 |_=> .fail
def run (g:G):Nat→Rn:=Nat.rec (motive:=fun _=>Rn) ⟨fun _ _ _=> .fail,fun _ _ _=> .fail⟩
 (fun n ih=>⟨fun f args h=>(match g.jh f args h with
  |some r=>r
  |none=>(match g.fn f with
   |some fn=>enter g ⟨ih.call,ih.xY,n,none,g.qM⟩ fn args h
   |none=>Xy (g.ext f) args h)),
  fun l args h=>begun g ⟨ih.call,ih.xY,n,none,g.qM⟩ l args h⟩)
end
noncomputable section
def isAggD:TypeDesc→Bool
 | .struct _=>true
 | .array _ _=>true
 |_=>false
def ahZ (p:Program) (t:Nat):Option Ty:=
 match p.info? t,p.underlying t with
 |some i,some d=>match i.zero with
  |some z=>match Nat.beq (llen (uZ z.cells.toList)) i.size with
   |true=>some ⟨d,i.size,i.bytes,isAggD d,uZ z.cells.toList,ofV z⟩
   |false=>none
  |none=>none
 |_,_=>none
def fnOf (p:Program) (f:Nat):Option Fn:=
 match p.funcs[f]? with
 |some fn=>match fn.body with
  |some b=>some ⟨fn.ntmps,b,fn.results.toList⟩
  |none=>none
 |none=>none
def intTy (p:Program) (t:Nat):Bool:=
 match p.underlying t with
 |some (.int _)=>true
 |_=>false
def Yd (p:Program) (t:Nat):Bool:=
 match p.underlying t with
 |some (.struct fs)=>(match fs.toList with
  |[f0,f1]=>aA (intTy p f0.type) (aA (intTy p f1.type) (aA (Nat.beq f0.offset (nat_lit 0)) (aA (Nat.beq f1.offset (nat_lit 1)) (aA (Bool.rec true false (f0.name== "_")) (aA (Bool.rec true false (f1.name== "_"))
    (aA (Bool.rec true false (p.stoodInHeld t)) (Bool.rec true false (p.eqGuardType p.depth t))))))))
  |_=>false)
 |_=>false
def BJ (p:Program) (t:Nat) (s:Str):Option Nat:=
 match p.info? t,p.underlying t with
 |some i,some d=>(match i.methods.find? (fun m=>(Str.of m.name.toUTF8).eq s)with
  |some m=>(match m.path.toList,m.func,d with
   |[],some (f,true), .pointer _=>some f
   |[],some (_,false), .pointer _=>none
   |[],some (f,false),_=>some f
   |_,_,_=>none)
  |none=>none)
 |_,_=>none
def cB (p:Program) (ext:Nat→Nat) (jh:Nat→AV→H→Option bF):G:=⟨ahZ p,fnOf p,ext,jh,Yd p,BJ p⟩
def gOf (p:Program) (ext:Nat→Nat):G:=cB p ext fun _ _ _=>none
end
structure Nm where
 B:Nat
 sh:Nat
 cs:Nat
abbrev bg:=Nat→Option Nm
def R (ι:bg):AV→(Value→Prop)×(List Value→Prop)
 | .bad=>(fun _=>True,fun _=>False)
 | .unk=>(fun v=>v.oneCell'=true,fun _=>False)
 | .bool b=>(fun v=>v= .bool b,fun _=>False)
 | .int k n=>(fun v=>v= .int k n,fun _=>False)
 | .str s=>(fun v=>∃b,v= .string b∧s=Str.of b,fun _=>False)
 | .ptr b off=>(fun v=>∃m,ι b=some m∧v= .pointer (some ⟨m.B,m.sh+off,none⟩),fun _=>False)
 | .oK=>(fun v=>v= .pointer none,fun _=>False)
 | .slice b off len es z=>(fun v=>∃m y cap,ι b=some m∧v= .slice (some y) len cap∧len≤cap∧(z=true→cap=0)∧
  (cap=0∨(y=⟨m.B,m.sh+off,none⟩∧m.sh+off+cap*es≤m.cs)),fun _=>False)
 | .jO=>(fun v=>v= .slice none 0 0,fun _=>False)
 | .map b=>(fun v=>∃m,ι b=some m∧v= .map (some m.B),fun _=>False)
 | .sF=>(fun v=>v= .map none,fun _=>False)
 | .fn f a c=>(fun v=>(∃xs ys:Array Value,v= .func (.func f) xs ys∧(R ι a).2 xs.toList∧(R ι c).2 ys.toList)∨(∃(y:Value) (nm:String),v= .func (.method nm) #[y] #[]∧(R ι a).1 y∧(R ι c).1 (.string nm.toUTF8)),fun _=>False)
 | .xY l=>(fun v=>∃m,ι l=some m∧v= .func (.yield m.B) #[] #[],fun _=>False)
 | .sG=>(fun v=>v= .nilFunc,fun _=>False)
 | .uy t x=>(fun v=>∃y,v= .iface t y∧(R ι x).1 y,fun _=>False)
 | .qX=>(fun v=>v= .nilIface,fun _=>False)
 | .agg cs=>(fun v=>∃xs:Array Value,v= .agg xs∧(R ι cs).2 xs.toList,fun _=>False)
 | .ig vs=>(fun v=>∃xs:Array Value,v= .tuple xs∧(R ι vs).2 xs.toList,fun _=>False)
 | .nil=>(fun _=>False,fun l=>l=[])
 | .cons h t=>(fun _=>False,fun l=>∃x xs,l=x::xs∧(R ι h).1 x∧(R ι t).2 xs)
def VR (ι:bg) (a:AV) (v:Value):Prop:=(R ι a).1 v
def iC (ι:bg) (a:AV) (l:List Value):Prop:=(R ι a).2 l
def bg.le (ι ι':bg):Prop:=∀b m,ι b=some m→ι' b=some m
theorem bg.le_refl (ι:bg):ι.le ι:=fun _ _ h=>h
theorem bg.le_trans {ι ι' ι'':bg} (h:ι.le ι') (k:ι'.le ι''):ι.le ι'':=fun b m e=>k b m (h b m e)
theorem Ye {ι ι':bg} (hle:ι.le ι') (a:AV):(∀v,(R ι a).1 v→(R ι' a).1 v)∧(∀l,(R ι a).2 l→(R ι' a).2 l):=by
 induction a with
 |bad=>exact⟨fun _ _=>trivial,fun _ h=>h⟩
 |unk=>exact⟨fun _ h=>h,fun _ h=>h⟩
 |bool b=>exact⟨fun _ h=>h,fun _ h=>h⟩
 |int k n=>exact⟨fun _ h=>h,fun _ h=>h⟩
 |str s=>exact⟨fun _ h=>h,fun _ h=>h⟩
 |ptr b off=>exact⟨fun _ ⟨m,h,e⟩=>⟨m,hle _ _ h,e⟩,fun _ h=>h⟩
 |oK=>exact⟨fun _ h=>h,fun _ h=>h⟩
 |slice b off len es z=>exact⟨fun _ ⟨m,y,cap,h,r⟩=>⟨m,y,cap,hle _ _ h,r⟩,fun _ h=>h⟩
 |jO=>exact⟨fun _ h=>h,fun _ h=>h⟩
 |map b=>exact⟨fun _ ⟨m,h,e⟩=>⟨m,hle _ _ h,e⟩,fun _ h=>h⟩
 |sF=>exact⟨fun _ h=>h,fun _ h=>h⟩
 |fn f a c iha ihc=>exact⟨fun _ hv=>hv.elim (fun⟨xs,ys,e,h,k⟩=> .inl ⟨xs,ys,e,iha.2 _ h,ihc.2 _ k⟩) (fun⟨y,nm,e,h,k⟩=> .inr ⟨y,nm,e,iha.1 _ h,ihc.1 _ k⟩),fun _ h=>h⟩
 |xY l=>exact⟨fun _ ⟨m,h,e⟩=>⟨m,hle _ _ h,e⟩,fun _ h=>h⟩
 |sG=>exact⟨fun _ h=>h,fun _ h=>h⟩
 |uy t x ih=>exact⟨fun _ ⟨y,e,h⟩=>⟨y,e,ih.1 _ h⟩,fun _ h=>h⟩
 |qX=>exact⟨fun _ h=>h,fun _ h=>h⟩
 |agg cs ih=>exact⟨fun _ ⟨xs,e,h⟩=>⟨xs,e,ih.2 _ h⟩,fun _ h=>h⟩
 |ig cs ih=>exact⟨fun _ ⟨xs,e,h⟩=>⟨xs,e,ih.2 _ h⟩,fun _ h=>h⟩
 |nil=>exact⟨fun _ h=>h,fun _ h=>h⟩
 |cons h t ihh iht=>exact⟨fun _ h=>h,fun _ ⟨x,xs,e,hx,hxs⟩=>⟨x,xs,e,ihh.1 _ hx,iht.2 _ hxs⟩⟩
theorem VR.mono {ι ι':bg} (hle:ι.le ι') {a:AV} {v:Value} (h:VR ι a v):VR ι' a v:=(Ye hle a).1 v h
theorem iC.mono {ι ι':bg} (hle:ι.le ι') {a:AV} {l:List Value} (h:iC ι a l):iC ι' a l:=(Ye hle a).2 l h
structure iD (ι:bg) (n:Nat) (en:Env) (tmps:Array Value):Prop where
 size:tmps.size=n
 most:n≤256
 at_:∀i,i<n→VR ι ((gT i).f en) (tmps.getD i undef)
 rest:∀i,n≤i→i<256→(gT i).f en= .bad
theorem iD.mono {ι ι':bg} (hle:ι.le ι') {n:Nat} {en:Env} {tmps:Array Value} (h:iD ι n en tmps):iD ι' n en tmps:=
 ⟨h.size,h.most,fun i hi=>(h.at_ i hi).mono hle,h.rest⟩
def Xg (ι:bg):List Df→List Deferred→Prop
 |[],ds=>ds=[]
 | .call f args::r,ds=>∃(Cc as:Array Value) (ds':List Deferred),ds={target:= .fn (.func f) Cc,args:=as}::ds'∧iC ι args (as.toList++Cc.toList)∧Xg ι r ds'
 | .coll b::r,ds=>∃m ds',ι b=some m∧ds={target:= .collected m.B,args:=#[]}::ds'∧Xg ι r ds'
theorem Xg.mono {ι ι':bg} (hle:ι.le ι'):∀{l:List Df} {ds:List Deferred},Xg ι l ds→Xg ι' l ds
 |[],_,h=>h
 | .call _ _::_,_,⟨c,as,ds',e,h,k⟩=>⟨c,as,ds',e,h.mono hle,Xg.mono hle k⟩
 | .coll _::_,_,⟨m,ds',h,e,k⟩=>⟨m,ds',hle _ _ h,e,Xg.mono hle k⟩
def aG (n:Nat):Operand→Bool
 | .tmp t=>Nat.blt t n
 | .global g=>Nat.blt g 64
 |_=>true
def iy (n:Nat) (ops:List Oper) (o:Oper):Bool:=
 (match o.dst with|some d=>Nat.blt d n|none=>true)&&o.op.operands.toList.all (aG n)&&
 (match o.guard with|some (j,_)=>(match ops[j]? with|some x=>(match x.dst with|some d=>Nat.blt d n|none=>false)|none=>false)|none=>true)
def codeOk (n:Nat):Code→Bool
 | .skip| .exit _| .label _| .goto _| .ret| .refuse _=>true
 | .region _ ops _=>ops.toList.all (iy n ops.toList)
 | .seq a b=>codeOk n a&&codeOk n b
 | .cond c a b=>aG n c&&codeOk n a&&codeOk n b
 | .block _ c| .loop c| .scope c=>codeOk n c
 | .rangeFunc f ps a c=>aG n f&&ps.toList.all (Nat.blt · n)&&codeOk n a&&codeOk n c
def bT:List MapEntry→Value→Option MapEntry→Prop
 |[],_,o=>o=none
 |x::r,k,o=>(x.key=k∧o=some x)∨(x.key≠k∧bT r k o)
def LK (kd:IntKind) (es:Array MapEntry) (c lk:Nat):Prop:=
 (∀e∈es.toList,e.born<c)∧∀i:Nat,lk=i+1→∃r e,es.toList=r++[e]∧e.key= .int kd i∧bT r (.int kd i) none∧e.born+1=c∧∀x∈r,x.born+1<c
def BR (ι:bg) (blk:xZ) (o:Obj) (m:Nm):Prop:=
 match blk with
 | .cells el ro n d t=>∃arr jv lo hi,o= .cells arr jv (lo,hi)∧arr.size=m.cs∧m.sh+n≤m.cs∧n≤4^d∧
  (∀i,i<n→VR ι (E.get d (path d i) t) (arr.getD (m.sh+i) undef))∧((ro=false→jv=el∧(lo=hi∨m.cs≤lo))∧(12≤d→m.sh=0)∧(ro=true→2000000≤el→jv=el-2000000∧(lo=hi∨hi≤m.sh+n)))
 | .BZ kd n c t lk=>∃es,o= .map es c∧es.size=n∧m.sh=0∧((∀e∈es.toList,∃i:Nat,i≤IE∧e.key= .int kd (i:Int))∧LK kd es c lk)∧
  (∀i,i≤IE→match E.get 11 (path 11 i) t with
   |none=>bT es.toList (.int kd i) none
   |some v=>∃e,bT es.toList (.int kd i) (some e)∧VR ι v e.val)
 | .smap n c l=>∃es,o= .map es c∧es.size=n∧m.sh=0∧(∀e∈es.toList,∃s,e.key= .string s)∧
  (∀s,match oO (Str.of s) l with
   |none=>bT es.toList (.string s) none
   |some v=>∃e,bT es.toList (.string s) (some e)∧VR ι v e.val)
 | .iter s pos=>m.sh=0∧∃b,o= .stringIter b pos∧s=Str.of b
 | .loop st pend _ en ps as bo wK=>∃(r:Loop) (n:Nat) (md:Nm),o= .loop r∧r.state=st∧r.pending=pend∧iD ι n en r.tmps∧r.params.toList=ps∧r.assign=as∧r.body=bo∧
  ι wK=some md∧r.defers=md.B∧codeOk n as=true∧codeOk n bo=true∧ps.all (Nat.blt · n)=true
 | .wK=>o= .deferred (some [])
 | .taken=>o= .deferred none
theorem BR.mono {ι ι':bg} (hle:ι.le ι') {blk:xZ} {o:Obj} {m:Nm} (h:BR ι blk o m):BR ι' blk o m:=by
 cases blk with
 |cells el ro n d t=>obtain⟨arr,jv,lo,hi,e,h1,h2,h3,h4,h5⟩:=h;exact⟨arr,jv,lo,hi,e,h1,h2,h3,fun i hi=>(h4 i hi).mono hle,h5⟩
 |BZ kd n c t lk=>
  obtain⟨es,e,h1,h0,h2,h3⟩:=h;refine⟨es,e,h1,h0,h2,fun i hi=> ?_⟩;have:=h3 i hi;split at this;·simp[*]
  ·rename_i v hv;obtain⟨e,he,hv'⟩:=this;exact⟨e,he,hv'.mono hle⟩
 |smap n c l=>
  obtain⟨es,e,h1,h0,h2,h3⟩:=h;refine⟨es,e,h1,h0,h2,fun s=> ?_⟩;have:=h3 s;split at this;·simp[*]
  ·rename_i v hv;obtain⟨e,he,hv'⟩:=this;exact⟨e,he,hv'.mono hle⟩
 |iter s pos=>exact h
 |loop st pend fn en ps as bo wK=>obtain⟨r,n,md,h1,h2,h3,h4,h5,h6,h7,h8,h9⟩:=h;exact⟨r,n,md,h1,h2,h3,h4.mono hle,h5,h6,h7,hle _ _ h8,h9⟩
 |wK=>exact h
 |taken=>exact h
structure WR (ι:bg) (h:H) (w:World) (D:Nat→Prop:=fun _=>True):Prop where
 most:h.next≤65536
 fresh:∀b,h.next≤b→ι b=none
 blk:∀b x,D b→b<h.next→h.get b=some x→∃m o,ι b=some m∧w.heap[m.B]? =some o∧BR ι x o m
 inj:∀b b' x x' m m',D b→D b'→b<h.next→b'<h.next→h.get b=some x→h.get b'=some x'→ι b=some m→ι b'=some m'→m.B=m'.B→b=b'
structure Ext (ι:bg) (h:H) (w:World) (ι':bg) (h':H) (w':World) (W:List Nat):Prop where
 next:h.next≤h'.next
 Eo:∀b,b<h.next→ι' b=ι b
 log:h'.log=W++h.log
 ln:h'.ln=h.ln+W.length
 kept:∀b,b<h.next→b∉W→h'.get b=h.get b
 live:∀b,b∈W→b<h.next→∃x,h.get b=some x
 size:w.heap.size≤w'.heap.size
 heap:∀k,k<w.heap.size→(∀b∈W,∀m,ι b=some m→m.B≠k)→w'.heap[k]? =w.heap[k]?
 new:∀b m,h.next≤b→ι' b=some m→w.heap.size≤m.B∨∃b0∈W,∃m0,ι b0=some m0∧m0.B=m.B
 os:w'.os=w.os
 tape:w'.tape=w.tape
 out:w'.output=w.output
theorem Ext.refl (ι:bg) (h:H) (w:World) (hf:∀b,h.next≤b→ι b=none):Ext ι h w ι h w []:=
 ⟨ay _,fun _ _=>rfl,rfl,rfl,fun _ _ _=>rfl,fun _ hb=>(by cases hb),ay _,fun _ _ _=>rfl,fun b m hb e=>(by rw[hf b hb]at e;cases e),rfl,rfl,rfl⟩
theorem Ext.le {ι ι':bg} {h h':H} {w w':World} {W:List Nat} (e:Ext ι h w ι' h' w' W) (hf:∀b,h.next≤b→ι b=none):ι.le ι':=by
 intro b m hb;rcases aK b h.next with hlt|hge;·rw[e.Eo b hlt];exact hb
 ·rw[hf b hge]at hb;cases hb
theorem Ext.trans {ι ι1 ι2:bg} {h h1 h2:H} {w w1 w2:World} {W1 W2:List Nat}
 (e:Ext ι h w ι1 h1 w1 W1) (k:Ext ι1 h1 w1 ι2 h2 w2 W2):Ext ι h w ι2 h2 w2 (W2++W1)where
 next:=aQ e.next k.next
 Eo b hb:=by rw[k.Eo b (bH hb e.next),e.Eo b hb]
 log:=by rw[k.log,e.log,dI]
 ln:=by rw[k.ln,e.ln,bf];omega
 kept b hb hn:=by rw[k.kept b (bH hb e.next) (fun hm=>hn (iq _ hm)),e.kept b hb (fun hm=>hn (iM _ hm))]
 live b hb hlt:=by
  rcases jk.1 hb with h2|h1
  ·by_cases hm:b∈W1
   ·exact e.live b hm hlt
   ·obtain⟨x,hx⟩:=k.live b h2 (bH hlt e.next);exact⟨x,by rw[←e.kept b hlt hm];exact hx⟩
  ·exact e.live b h1 hlt
 size:=aQ e.size k.size
 heap i hi hn:=by
  rw[k.heap i (bH hi e.size) ?_,e.heap i hi (fun b hb m hm=>hn b (iM _ hb) m hm)];intro b hb m hm hB;rcases aK b h.next with hlt|hge;·rw[e.Eo b hlt]at hm;exact hn b (iq _ hb) m hm hB
  ·rcases e.new b m hge hm with h0|⟨b0,hb0,m0,hm0,hB0⟩
   ·omega
   ·exact hn b0 (iM _ hb0) m0 hm0 (hB0.trans hB)
 new b m hb hm:=by
  rcases aK b h1.next with hlt|hge
  ·rw[k.Eo b hlt]at hm;rcases e.new b m hb hm with h0|⟨b0,hb0,r⟩
   ·exact .inl h0
   ·exact .inr ⟨b0,iM _ hb0,r⟩
  ·rcases k.new b m hge hm with h0|⟨b0,hb0,m0,hm0,hB0⟩
   ·exact .inl (aQ e.size h0)
   ·rcases aK b0 h.next with abv|amE
    ·rw[e.Eo b0 abv]at hm0;exact .inr ⟨b0,iq _ hb0,m0,hm0,hB0⟩
    ·rcases e.new b0 m0 amE hm0 with h0|⟨b1,hb1,m1,hm1,hB1⟩
     ·exact .inl (by omega)
     ·exact .inr ⟨b1,iM _ hb1,m1,hm1,hB1.trans hB0⟩
 os:=k.os.trans e.os
 tape:=k.tape.trans e.tape
 out:=k.out.trans e.out
theorem ae5 (e:Env):(List.range 256).map (fun i=>(gT i).f e)=(List.range 256).map (fun i=>E.get 4 (path 4 i) e):=by kernel_rfl
theorem ae6 (v:AV) (e:Env):(List.range 256).map (fun i=>(pT i).f v e)=(List.range 256).map (fun i=>E.put v 4 (path 4 i) e):=by kernel_rfl
theorem Sg {i:Nat} (hi:i<256) (e:Env):(gT i).f e=E.get 4 (path 4 i) e:=by have:=eT (fun l=>l[i]?) (ae5 e);simpa[List.getElem?_map,List.getElem?_range hi]using this
theorem adG {i:Nat} (hi:i<256) (v:AV) (e:Env):(pT i).f v e=E.put v 4 (path 4 i) e:=by have:=eT (fun l=>l[i]?) (ae6 v e);simpa[List.getElem?_map,List.getElem?_range hi]using this
theorem sZ {i:Nat} (hi:i<256) (v:AV) (e:Env):(gT i).f ((pT i).f v e)=v:=by rw[Sg hi,adG hi,E.dX]
theorem vg {i j:Nat} (hi:i<256) (hj:j<256) (h:i≠j) (v:AV) (e:Env):(gT j).f ((pT i).f v e)=(gT j).f e:=by rw[Sg hj,adG hi,E.fP v 4 i j hi hj h,Sg hj]
theorem Kr {i:Nat} (hi:i<256):(gT i).f PV= .bad:=by rw[Sg hi];exact E.wF _ _ _
theorem iD.put {ι:bg} {n:Nat} {en:Env} {tmps:Array Value} (h:iD ι n en tmps) {d:Nat} (hd:d<n) {v:AV} {x:Value} (hv:VR ι v x):
 iD ι n ((pT d).f v en) (tmps.setIfInBounds d x):=by
 refine⟨by simpa using h.size,h.most,fun i hi=> ?_,fun i h1 h2=>by rw[vg (bH hd h.most) h2 (by omega)];exact h.rest i h1 h2⟩;by_cases e:d=i
 ·subst e;rw[sZ (bH hd h.most)];have:d<tmps.size:=by rw[h.size];exact hd
  simpa[Array.getD_eq_getD_getElem?,this]using hv
 ·rw[vg (bH hd h.most) (bH hi h.most) e];have:=h.at_ i hi;rw[iL]at this⊢;rwa [kr e]
theorem H.En {h:H} {x:xZ} {b:Nat} (hn:h.next<65536) (hb:b<65536):(h.new x).get b=if b=h.next then some x else h.get b:=by
 unfold H.get H.new;split;·rename_i e;subst e;exact E.dX _ _ _ _
 ·rename_i e;exact E.fP _ 8 _ _ hn hb (fun e'=>e e'.symm) _
theorem H.Si {h:H} {x:xZ} {a b:Nat} (ha:a<65536) (hb:b<65536):(h.set a x).get b=if b=a then some x else h.get b:=by
 unfold H.get H.set;split;·rename_i e;subst e;exact E.dX _ _ _ _
 ·rename_i e;exact E.fP _ 8 _ _ ha hb (fun e'=>e e'.symm) _
theorem H.WY {h:H} {a b:Nat} (ha:a<65536) (hb:b<65536):(h.kill a).get b=if b=a then none else h.get b:=by
 unfold H.get H.kill;split;·rename_i e;subst e;exact E.dX _ _ _ _
 ·rename_i e;exact E.fP _ 8 _ _ ha hb (fun e'=>e e'.symm) _
theorem H.kY {h:H}:h.room=true↔h.next<65536:=by unfold H.room;rw[aI];exact Iff.rfl
structure Loc (ι:bg) (h:H) (w:World) (ι':bg) (h':H) (w':World) (W:List Nat):Prop extends Ext ι h w ι' h' w' W where
 most:h'.next≤65536
 fresh:∀b,h'.next≤b→ι' b=none
 blk:∀b x,(b∈W∨h.next≤b)→b<h'.next→h'.get b=some x→∃m o,ι' b=some m∧w'.heap[m.B]? =some o∧BR ι' x o m
 inj1:∀b x m,h.next≤b→b<h'.next→h'.get b=some x→ι' b=some m→w.heap.size≤m.B∨∃b0∈W,∃m0,ι b0=some m0∧m0.B=m.B∧h'.get b0=none
 inj2:∀b b' x x' m m',h.next≤b→h.next≤b'→b<h'.next→b'<h'.next→h'.get b=some x→h'.get b'=some x'→ι' b=some m→ι' b'=some m'→m.B=m'.B→b=b'
theorem Loc.wr {ι ι':bg} {h h':H} {w w':World} {W:List Nat} (e:Loc ι h w ι' h' w' W) (k:WR ι h w):WR ι' h' w' where
 most:=e.most
 fresh:=e.fresh
 blk b x _ hbn hx:=by
  by_cases hb:b∈W∨h.next≤b;·exact e.blk b x hb hbn hx
  ·have hbW:b∉W:=fun c=>hb (.inl c);have hlt:b<h.next:=by omega
   rw[e.kept b hlt hbW]at hx;obtain⟨m,o,h1,h2,h3⟩:=k.blk b x trivial hlt hx;have hsz:m.B<w.heap.size:=(dH.1 h2).1;refine⟨m,o,by rw[e.Eo b hlt];exact h1,?_,h3.mono (e.toExt.le k.fresh)⟩;rw[e.heap m.B hsz,h2];intro b1 hb1 m1 hm1 hB;have hlt1:b1<h.next:=by
    rcases aK b1 h.next with c|c;·exact c
    ·rw[k.fresh b1 c]at hm1;cases hm1
   obtain⟨x1,hx1⟩:=e.live b1 hb1 hlt1;have:=k.inj b1 b x1 x m1 m trivial trivial hlt1 hlt hx1 hx hm1 h1 hB;exact hbW (this▸hb1)
 inj b b' x x' m m' _ _ hbn M5 hx hx' hm hm' hB:=by
  have old:∀b x m,b<h.next→h'.get b=some x→ι' b=some m→(∃y,h.get b=some y)∧ι b=some m:=fun b x m hlt hx hm=>by
   refine⟨?_,by rw[←e.Eo b hlt];exact hm⟩;by_cases hbW:b∈W;·exact e.live b hbW hlt
   ·exact⟨x,by rw[←e.kept b hlt hbW];exact hx⟩
  have sz:∀b y m,b<h.next→h.get b=some y→ι b=some m→m.B<w.heap.size:=fun b y m hlt hy hm=>by obtain⟨m1,o,h1,h2,_⟩:=k.blk b y trivial hlt hy;rw[hm]at h1;cases h1;exact(dH.1 h2).1
  have mix:∀b b' x x' m m',b<h.next→h.next≤b'→b'<h'.next→h'.get b=some x→h'.get b'=some x'→ι' b=some m→ι' b'=some m'→m.B≠m'.B:=fun b b' x x' m m' hlt hge M5 hx hx' hm hm' hB=>by
   obtain⟨⟨y,hy⟩,hm0⟩:=old b x m hlt hx hm;have h1:=sz b y m hlt hy hm0;rcases e.inj1 b' x' m' hge M5 hx' hm' with h2|⟨b0,hb0,m0,Cj,hB0,XO⟩
   ·omega
   ·have abv:b0<h.next:=by
     rcases aK b0 h.next with c|c;·exact c
     ·rw[k.fresh b0 c]at Cj;cases Cj
    obtain⟨y0,hy0⟩:=e.live b0 hb0 abv;have:=k.inj b b0 y y0 m m0 trivial trivial hlt abv hy hy0 hm0 Cj (hB.trans hB0.symm);subst this;rw[XO]at hx;cases hx
  rcases aK b h.next with hlt|hge<;>rcases aK b' h.next with hlt'|hge';·obtain⟨⟨y,hy⟩,hm0⟩:=old b x m hlt hx hm;obtain⟨⟨y',hy'⟩,Cj⟩:=old b' x' m' hlt' hx' hm';exact k.inj b b' y y' m m' trivial trivial hlt hlt' hy hy' hm0 Cj hB
  ·exact absurd hB (mix b b' x x' m m' hlt hge' M5 hx hx' hm hm')
  ·exact absurd hB.symm (mix b' b x' x m' m hlt' hge hbn hx' hx hm' hm)
  ·exact e.inj2 b b' x x' m m' hge hge' hbn M5 hx hx' hm hm' hB
theorem Loc.refl {ι:bg} {h:H} {w:World} {D:Nat→Prop} (k:WR ι h w D):Loc ι h w ι h w []where
 toExt:=Ext.refl ι h w k.fresh
 most:=k.most
 fresh:=k.fresh
 blk b x hb hbn _:=by
  rcases hb with hb|hb;·cases hb
  ·omega
 inj1 b x m hb hbn:=by omega
 inj2 b b' x x' m m' hb _ hbn:=by omega
def World.bY (w:World) (n:Nat):World:={w with drawn:=n}
theorem Loc.draw {ι:bg} {h:H} {w:World} {D:Nat→Prop} (k:WR ι h w D) (n:Nat):Loc ι h w ι h (World.bY w n) []where
 toExt:={Ext.refl ι h w k.fresh with heap:=fun _ _ _=>rfl,size:=ay _,new:=fun b m hb e=>(by rw[k.fresh b hb]at e;cases e),os:=rfl,tape:=rfl,out:=rfl}
 most:=k.most
 fresh:=k.fresh
 blk b x hb hbn _:=by
  rcases hb with hb|hb;·cases hb
  ·omega
 inj1 b x m hb hbn:=by omega
 inj2 b b' x x' m m' hb _ hbn:=by omega
def bg.add (ι:bg) (b:Nat) (m:Nm):bg:=fun x=>if x=b then some m else ι x
theorem bg.add_same (ι:bg) (b:Nat) (m:Nm):ι.add b m b=some m:=by simp[bg.add]
theorem bg.uX (ι:bg) {b x:Nat} (m:Nm) (h:x≠b):ι.add b m x=ι x:=by simp[bg.add,h]
theorem bg.uP {ι:bg} {b:Nat} (m:Nm) (h:ι b=none):ι.le (ι.add b m):=fun x y e=>by
 by_cases hx:x=b;·subst hx;rw[h]at e;cases e
 ·rw[bg.uX ι m hx];exact e
theorem Loc.zG {ι:bg} {h:H} {w w':World} {D:Nat→Prop} (k:WR ι h w D) (hr:h.next<65536) (x:xZ) (m:Nm) (o:Obj)
 (hsz:w.heap.size≤w'.heap.size) (hold:∀i,i<w.heap.size→w'.heap[i]? =w.heap[i]?) (hB:w.heap.size≤m.B) (ho:w'.heap[m.B]? =some o)
 (hbr:BR (ι.add h.next m) x o m) (hos:w'.os=w.os) (Mi:w'.tape=w.tape) (hout:w'.output=w.output):
 Loc ι h w (ι.add h.next m) (h.new x) w' []where
 next:=mR _
 Eo b hb:=bg.uX ι m (by omega)
 log:=rfl
 ln:=rfl
 kept b hb _:=by rw[H.En hr (by omega),aj (by omega)]
 live b hb:=by cases hb
 size:=hsz
 heap i hi _:=hold i hi
 new b m' hb e:=by
  by_cases hx:b=h.next;·subst hx;rw[bg.add_same]at e;cases e;exact .inl hB
  ·rw[bg.uX ι m hx,k.fresh b hb]at e;cases e
 os:=hos
 tape:=Mi
 out:=hout
 most:=hr
 fresh b hb:=by have hb':h.next+1≤b:=hb;rw[bg.uX ι m (by omega)];exact k.fresh b (by omega)
 blk b y hb hbn hy:=by
  rcases hb with hb|hb;·cases hb
  ·have M5:b<h.next+1:=hbn;obtain rfl:b=h.next:=by omega
   rw[H.En hr hr,ak rfl]at hy;cases hy;exact⟨m,o,bg.add_same _ _ _,ho,hbr⟩
 inj1 b y m' hb hbn _ hm:=by
  have M5:b<h.next+1:=hbn;obtain rfl:b=h.next:=by omega
  rw[bg.add_same]at hm;cases hm;exact .inl hB
 inj2 b b' y y' m1 m2 hb hb' hbn M5 _ _ _ _ _:=by have h1:b<h.next+1:=hbn;have h2:b'<h.next+1:=M5;omega
theorem Loc.mkSet {ι:bg} {h:H} {w w':World} {D:Nat→Prop} (k:WR ι h w D) {b:Nat} {x0 x:xZ} (hb:b<h.next) (hx0:h.get b=some x0) (m:Nm) (hm:ι b=some m) (o:Obj)
 (hsz:w.heap.size≤w'.heap.size) (hold:∀i,i<w.heap.size→i≠m.B→w'.heap[i]? =w.heap[i]?) (ho:w'.heap[m.B]? =some o)
 (hbr:BR ι x o m) (hos:w'.os=w.os) (Mi:w'.tape=w.tape) (hout:w'.output=w.output):
 Loc ι h w ι (h.set b x) w' [b]where
 next:=ay _
 Eo _ _:=rfl
 log:=rfl
 ln:=rfl
 kept c hc hn:=by
  have:c≠b:=by simpa using hn
  rw[H.Si (by have:=k.most;omega) (by have:=k.most;omega),aj this]
 live c hc _:=by
  obtain rfl:c=b:=by simpa using hc
  exact⟨x0,hx0⟩
 size:=hsz
 heap i hi hn:=hold i hi (fun e=>hn b (by simp) m hm e.symm)
 new c m' hc e:=by rw[k.fresh c hc]at e;cases e
 os:=hos
 tape:=Mi
 out:=hout
 most:=k.most
 fresh:=k.fresh
 blk c y hc hcn hy:=by
  rcases hc with hc|hc
  ·obtain rfl:c=b:=by simpa using hc
   rw[H.Si (by have:=k.most;omega) (by have:=k.most;omega),ak rfl]at hy;cases hy;exact⟨m,o,hm,ho,hbr⟩
  ·have:c<h.next:=hcn;omega
 inj1 c y m' hc hcn:=by have:c<h.next:=hcn;omega
 inj2 c c' y y' m1 m2 hc _ hcn:=by have:c<h.next:=hcn;omega
def Eq2 (P:Program) (t:TypeId):Prop:=∃f0 f1 k0 k1,P.underlying t=some (.struct #[f0,f1])∧P.underlying f0.type=some (.int k0)∧P.underlying f1.type=some (.int k1)∧
 f0.offset=0∧f1.offset=1∧f0.name≠ "_" ∧f1.name≠ "_" ∧P.stoodInHeld t=false∧P.eqGuardType P.depth t=false
theorem au {a b:Bool} (h:aA a b=true):a=true∧b=true:=by cases a<;>first|(cases h;done)|exact⟨rfl,h⟩
theorem wX {b:Bool} (h:(Bool.rec true false b:Bool)=true):b=false:=by cases b<;>first|rfl|cases h
theorem M6 {P:Program} {t:TypeId} (h:intTy P t=true):∃k,P.underlying t=some (.int k):=by
 unfold intTy at h;split at h;·rename_i k hk;exact⟨k,hk⟩
 ·cases h
theorem Yf {P:Program} {t:TypeId} (h:Yd P t=true):Eq2 P t:=by
 unfold Yd at h;split at h
 ·rename_i fs hd;split at h
  ·rename_i f0 f1 hl;obtain rfl:fs=#[f0,f1]:=by cases fs;simp only at hl;rw[hl]
   obtain⟨h0,h⟩:=au h;obtain⟨h1,h⟩:=au h;obtain⟨h2,h⟩:=au h;obtain⟨h3,h⟩:=au h;obtain⟨h4,h⟩:=au h;obtain⟨h5,h⟩:=au h;obtain⟨h6,h7⟩:=au h;obtain⟨k0,h0⟩:=M6 h0;obtain⟨k1,h1⟩:=M6 h1;exact⟨f0,f1,k0,k1,hd,h0,h1,aO h2,aO h3,(fun c=>by have q:=wX h4;rw[c]at q;cases q),(fun c=>by have q:=wX h5;rw[c]at q;cases q),wX h6,wX h7⟩
  ·cases h
 ·cases h
structure kP (P:Program) (g:G):Prop where
 ty:∀t y,g.ty t=some y→P.underlying t=some y.desc∧y.agg=isAggD y.desc∧
  ∃i z,P.info? t=some i∧i.size=y.size∧i.bytes=y.bytes∧i.zero=some z∧y.zero=uZ z.cells.toList∧z.cells.size=y.size∧y.zv=ofV z
 fn:∀f x,g.fn f=some x→∃fn,P.funcs[f]? =some fn∧fn.body=some x.body∧fn.ntmps=x.nt∧fn.results.toList=x.res
 eq2:∀t,g.eq2 t=true→Eq2 P t
 qM:∀t s f,g.qM t s=some f→BJ P t s=some f
theorem I7:∀l:List Value,llen (uZ l)=l.length
 |[]=>rfl
 |_::r=>eT Nat.succ (I7 r)
theorem nZ (P:Program) (ext:Nat→Nat) (jh:Nat→AV→H→Option bF):kP P (cB P ext jh)where
 ty t y h:=by
  simp only[cB,ahZ]at h;split at h
  ·rename_i i d hi hd;split at h
   ·rename_i z hz;split at h
    ·rename_i hn;have hn:=aO hn;rw[I7]at hn;cases h;exact⟨hd,rfl,i,z,hi,rfl,rfl,hz,rfl,by simpa using hn,rfl⟩
    ·cases h
   ·cases h
  ·cases h
 fn f x h:=by
  simp only[cB,fnOf]at h;split at h
  ·rename_i fn hf;split at h
   ·rename_i b hb;cases h;exact⟨fn,hf,hb,rfl,rfl⟩
   ·cases h
  ·cases h
 eq2 t h:=Yf h
 qM _ _ _ h:=h
theorem amF (P:Program) (ext:Nat→Nat):kP P (gOf P ext):=nZ P ext _
section
variable {P:Program}
theorem aC {t:TypeId} {d:TypeDesc} (h:P.underlying t=some d) (w:World):(underlying t).run P w= .ok d w:=by simp[underlying,h]
theorem sQ {t:TypeId} {i:TypeInfo} (h:P.info? t=some i) (w:World):(typeInfo t).run P w= .ok i w:=by simp[typeInfo,h]
theorem eu {t:TypeId} {i:TypeInfo} (h:P.info? t=some i) (w:World):(sizeOf t).run P w= .ok i.size w:=by simp[sizeOf,sQ h]
theorem BN {t:TypeId} {d:TypeDesc} (h:P.underlying t=some d) (w:World):(isAgg t).run P w= .ok (isAggD d) w:=by simp only[isAgg,Sem.run_bind,aC h,Result.andThen_ok];cases d<;>rfl
theorem mE {t:TypeId} {i:TypeInfo} {z:Value} (h:P.info? t=some i) (hz:i.zero=some z) (w:World):(zeroValue t).run P w= .ok z w:=by simp[zeroValue,sQ h,hz]
end
theorem Sj (ι:bg) (v:Value):VR ι (Xq v) v:=by unfold Xq;split<;>first|rfl|exact⟨_,rfl,rfl⟩|exact trivial
theorem nT (ι:bg):∀l:List Value,iC ι (uZ l) l
 |[]=>rfl
 |v::r=>⟨v,r,rfl,Sj ι v,nT ι r⟩
theorem WK (ι:bg) (v:Value):VR ι (ofV v) v:=by
 unfold ofV;split;·exact⟨_,rfl,nT ι _⟩
 ·exact⟨_,rfl,nT ι _⟩
 ·exact Sj ι _
def GI (ι:bg):Prop:=∀g,g<64→∃cs,ι g=some ⟨g,0,cs⟩
theorem GI.mono {ι ι':bg} (h:ι.le ι') (k:GI ι):GI ι':=fun g hg=>let⟨cs,e⟩:=k g hg;⟨cs,h _ _ e⟩
theorem bq {ι:bg} {n:Nat} {en:Env} {a:Go.Act} (hE:iD ι n en a.tmps) (hG:GI ι) (x:Operand) (hx:aG n x=true):VR ι ((ev x).f en) (a.eval x):=by
 cases x with
 |tmp t=>exact hE.at_ t (by have:=hx;simp[aG,Nat.blt]at this;omega)
 |const v=>exact WK ι v
 |global g=>obtain⟨cs,h⟩:=hG g (by have:=hx;simp[aG,Nat.blt]at this;omega);exact⟨_,h,rfl⟩
 |func f=>exact .inl ⟨#[],#[],rfl,rfl,rfl⟩
theorem wJ {ι:bg} {n:Nat} {en:Env} {a:Go.Act} (hE:iD ι n en a.tmps) (hG:GI ι):∀(l:List Operand),l.all (aG n)=true→iC ι ((opsL l).f en) (l.map a.eval)
 |[],_=>rfl
 |x::r,h=>by simp only[wC,aP]at h;exact⟨_,_,rfl,bq hE hG x h.1,wJ hE hG r h.2⟩
theorem zu {w:World} {b:Nat} {arr:Array Value} {el:TypeId} {fr:Nat×Nat} (h:w.heap[b]? =some (.cells arr el fr)) (off:Nat):w.cell? ⟨b,off,none⟩=arr[off]? :=by simp[World.cell?,h]
theorem addr_add (b off n:Nat):(⟨b,off,none⟩:Addr).add n=⟨b,off+n,none⟩:=by
 unfold Addr.add;split;·rename_i h;subst h;rfl
 ·rfl
theorem C8 {P:Program} {w:World} {b:Nat} {arr:Array Value} {el:TypeId} {fr:Nat×Nat} (h:w.heap[b]? =some (.cells arr el fr)) {off:Nat} (hoff:off<arr.size):
 (load ⟨b,off,none⟩).run P w= .ok (arr.getD off undef) w:=by
 rw[run_load,zu h,nA hoff];simp[Array.getD,hoff]
theorem fO {P:Program} {w:World} {b:Nat} {arr:Array Value} {el:TypeId} {fr:Nat×Nat} (h:w.heap[b]? =some (.cells arr el fr)) {off n:Nat} (hoff:off+n≤arr.size):
 (loadCells ⟨b,off,none⟩ n).run P w= .ok (((List.range n).map fun j=>arr.getD (off+j) undef).toArray) w:=by
 refine run_loadCells w _ n (fun j=>arr.getD (off+j) undef) fun j hj=> ?_;rw[addr_add,zu h,nA (by omega)];simp[Array.getD,show off+j<arr.size by omega]
def p8 (arr:Array Value) (o:Nat):List Value→Array Value
 |[]=>arr
 |v::r=>p8 (arr.setIfInBounds o v) (o+1) r
theorem oF (o:Nat):∀(l:List Value) (arr:Array Value),(p8 arr o l).size=arr.size:=by
 intro l;induction l generalizing o with
 |nil=>intro arr;rfl
 |cons v r ih=>intro arr;simp[p8,ih]
theorem qZ (o i:Nat):∀(l:List Value) (arr:Array Value),i<arr.size→(p8 arr o l).getD i undef=if o≤i∧i<o+l.length then l.getD (i-o) undef else arr.getD i undef:=by
 intro l;induction l generalizing o with
 |nil=>intro arr _;rw[aj (by simp)];rfl
 |cons v r ih=>
  intro arr hi;rw[p8,ih (o+1) _ (by simpa using hi)];by_cases h1:o=i;·subst h1;rw[aj (by omega),ak (by simp)];simp[Array.getD,hi]
  ·by_cases h2:o+1≤i∧i<o+1+r.length
   ·rw[ak h2,ak (by simp;omega)];obtain⟨k,rfl⟩:∃k,i=o+1+k:=⟨i-(o+1),by omega⟩
    rw[show o+1+k-(o+1)=k by omega,show o+1+k-o=k+1 by omega];simp
   ·rw[aj h2,aj (by simp;omega)];rw[iL,kr h1,iL]
def World.putCells (w:World) (b:Nat) (arr:Array Value) (el:TypeId) (fr:Nat×Nat):World:={w with heap:=w.heap.setIfInBounds b (.cells arr el fr)}
theorem Pf {w:World} {b:Nat} {arr:Array Value} {el:TypeId} {fr:Nat×Nat} (h:w.heap[b]? =some (.cells arr el fr)) (off:Nat) (v:Value):
 w.setCell ⟨b,off,none⟩ v=World.putCells w b (arr.setIfInBounds off v) el fr:=by
 unfold World.setCell World.putCells;congr 1;apply Array.ext_getElem?;intro i;have hlt:b<w.heap.size:=(dH.1 h).1;by_cases hi:b=i;·subst hi;rw[wE,ak rfl,h];simp[hlt]
 ·rw[kr hi,wE,aj hi]
theorem gM {w:World} {b:Nat} {arr:Array Value} {el:TypeId} {fr:Nat×Nat} (hb:b<w.heap.size):(World.putCells w b arr el fr).heap[b]? =some (.cells arr el fr):=by simp[World.putCells,hb]
theorem JJ {w:World} {b:Nat} {arr arr':Array Value} {el jv:TypeId} {fr fr':Nat×Nat}:World.putCells (World.putCells w b arr el fr) b arr' jv fr'=World.putCells w b arr' jv fr':=by simp[World.putCells]
theorem yg {w:World} {b:Nat} {arr:Array Value} {el:TypeId} {fr:Nat×Nat} (h:w.heap[b]? =some (.cells arr el fr)):World.putCells w b arr el fr=w:=by
 have hlt:b<w.heap.size:=(dH.1 h).1;have:w.heap.setIfInBounds b (.cells arr el fr)=w.heap:=by
  apply Array.ext_getElem?;intro i;by_cases hi:b=i;·subst hi;rw[h];simp[hlt]
  ·rw[kr hi]
 unfold World.putCells;rw[this]
end Go.Proofs.YtocaiijbhepnnaaGreatDoor.Am
