/- The abstract machine, fourth part: regions, code, calls. -/
import Derived.Test.YtocaiijbhepnnaaGreatDoorAm3
import Derived.KernelRfl
import Derived.Laws.Cells
namespace Go.Proofs.YtocaiijbhepnnaaGreatDoor.Am
noncomputable section
inductive Df where
 |call (f:Nat) (args:AV)
 |coll (b:Nat)
inductive XR where
 |fail
 |norm (en:Env) (h:H) (df:List Df)
 |ret (en:Env) (h:H) (df:List Df)
 |ext (i:Nat) (en:Env) (h:H) (df:List Df)
 |got (l:Nat) (en:Env) (h:H) (df:List Df)
structure Cx where
 call:Nat->AV->H->bB
 wE:Nat->AV->H->bB
 fuel:Nat
 rd:Option Nat
 pU:Nat->Str->Option Nat
structure K where
 k:Cx->Env->H->List Df->XR
def aaY (a:AV):Bool:=
 match a with
 | .nil=>true
 | .cons _ _=>true
 |_=>false
def apply(cx:Cx) (f args:AV) (h:H):bB:=
 match f with
 | .fn f a c=>(match a with
   | .sH t x=>(match c with
     | .str s=>(match cx.pU t s with
       |some f'=>cx.call f' (.cons x args) h
       |none=> .fail)
     |_=> .fail)
   | .nil=>cx.call f (kT args c) h
   | .cons x r=>cx.call f (.cons x (kT r (kT args c))) h
   |_=> .fail)
 | .wE l=>cx.wE l args h
 |_=> .fail
def onR (k:AV->H->XR) (r:bB):XR:=bB.rec (motive:=λ_=>XR) .fail k r
def abd (p:PS) (a:Act) (ih:K):K:=⟨λcx en h df=>onR (λv h'=>ih.k cx (p.f v en) h' df) (a.f en h)⟩
def abe (a:Act) (ih:K):K:=⟨λcx en h df=>onR (λ_ h'=>ih.k cx en h' df) (a.f en h)⟩
def ad7 (p:PS) (f as:EV) (ih:K):K:=⟨λcx en h df=>onR (λv h'=>ih.k cx (p.f v en) h' df) (apply cx (f.f en) (as.f en) h)⟩
def abf (p:PS) (f as:EV) (ih:K):K:=⟨λcx en h df=>
 match cx.rd,f.f en with
 |none, .fn g a c=>(match aaY a with
  |false=> .fail
  |true=>ih.k cx (p.f (.fT .nil) en) h (.call g (kT a (kT (as.f en) c))::df))
 |_,_=> .fail⟩
def ahB (p:PS) (ih:K):K:=⟨λcx en h df=>
 match cx.rd with
 |none=>ih.k cx (p.f .qc en) h df
 |some _=> .fail⟩
def J2 (w:Bool) (v:AV):OB:=
 match v with
 | .bool b=>Bool.rec .f .t (Fh b w)
 | .fT _=> .f
 |_=> .none
def abg (gp:EV) (w:Bool) (p:PS) (body:K->K) (ih:K):K:=⟨λcx en h df=>
 OB.rec (motive:=λ_=>XR) .fail (ih.k cx (p.f (.fT .nil) en) h df) ((body ih).k cx en h df) (J2 w (gp.f en))⟩
def failK:K:=⟨λ_ _ _ _=> .fail⟩
def pN:PS:=⟨λ_ e=>e⟩
def pO (d:Option Tmp):PS:=Option.rec (motive:=λ_=>PS) pN pT d
inductive OpK where
 |plain (a:Act)
 |call (f:EV) (args:List Operand)
 |defer (f:Operand) (args:List Operand)
 |recover
def TM (x:AV) (s:Str):AV:=
 match x with
 | .sH t v=> .fn (nat_lit 0) (.sH t v) (.str s)
 |_=> .bad
def adC (r:Operand) (s:Str):EV:=⟨λen=>TM ((ev r).f en) s⟩
def nX (g:G) (o:Op):OpK:=
 match o with
 | .call c=>match c.callee with
   | .value f=> .call (ev f) c.args.toList
   | .invoke r nm=> .call (adC r (Str.of nm.toUTF8)) c.args.toList
   | .builtin .recover=> .recover
   |_=> .plain (Fx g (.call c))
 | .defer c=>match c.callee with
   | .value f=> .defer f c.args.toList
   |_=> .plain failA
 |o=> .plain (Fx g o)
def qp (d:Option Tmp) (k:OpK):K->K:=
 match k with
 | .plain a=>(match d with
   |some t=>abd (pT t) a
   |none=>abe a)
 | .call f as=>ad7 (pO d) f (opsL as)
 | .defer f as=>abf (pO d) (ev f) (opsL as)
 | .recover=>ahB (pO d)
def yL (ops:List Oper) (j:Nat):Option Tmp:=
 match ops[j]? with
 |some o=>o.dst
 |none=>none
def ME (g:G) (ops:List Oper) (o:Oper):K->K:=
 match o.guard with
 |none=>qp o.dst (nX g o.op)
 |some (j,w)=>(match yL ops j with
  |some t=>abg (gT t) w (pO o.dst) (qp o.dst (nX g o.op))
  |none=>λ_=>failK)
def FQ:K:=⟨λ_=> .norm⟩
def adD (g:G) (ops:List Oper):List Oper->K:=List.rec (motive:=λ_=>K) FQ (λo _ ih=>ME g ops o ih)
def aM (v:AV):List Nat:=
 match v with
 | .ptr b _=>[b]
 | .slice b _ _ _ _=>[b]
 | .map b=>[b]
 |_=>[]
def blks (l:List Operand) (en:Env):List Nat:=List.rec (motive:=λ_=>List Nat) [] (λo _ ih=>List.append (aM ((ev o).f en)) ih) l
def sJ (o:Op):Option (Env->List Nat):=
 match o with
 | .load _ a=>some λen=>aM ((ev a).f en)
 | .store _ a _=>some λen=>aM ((ev a).f en)
 | .lookup _ m _ _=>some λen=>aM ((ev m).f en)
 | .mapUpdate _ m _ _=>some λen=>aM ((ev m).f en)
 | .insert _ m _ _=>some λen=>aM ((ev m).f en)
 | .mapEntry _ m _=>some λen=>aM ((ev m).f en)
 | .entryStore _ m _ _=>some λen=>aM ((ev m).f en)
 | .next i _=>some λen=>aM ((ev i).f en)
 | .convert _ _ x=>some λen=>aM ((ev x).f en)
 | .slice _ x _ _ _=>some λen=>aM ((ev x).f en)
 | .call c=>match c.callee with
   | .builtin _=>some λen=>blks c.args.toList en
   |_=>none
 | .defer _=>none
 |_=>some λ_=>[]
structure DO where
 step:K->K
 acc:Option (Env->List Nat)
 gd:Option (EV×Bool)
 p:PS
 dn:Nat
 rs:List Nat
 es:List Nat
 ok:Bool
structure Rc where
 i:Nat
 call:Bool
 acc:List Nat
 wrt:List Nat
 lo:Nat
 hi:Nat
def yM (x:Nat):List Nat->Bool:=List.rec (motive:=λ_=>Bool) false (λy _ ih=>Bool.rec ih true (Nat.beq x y))
def MO (a b:List Nat):Bool:=List.rec (motive:=λ_=>Bool) true (λx _ ih=>Bool.rec ih false (yM x b)) a
def xg (lo hi:Nat) (a:List Nat):Bool:=List.rec (motive:=λ_=>Bool) true (λx _ ih=>Bool.rec ih (Bool.rec false ih (Nat.ble hi x)) (Nat.ble lo x)) a
def DY (a:List Nat):Bool:=List.rec (motive:=λ_=>Bool) true (λ_ _ _=>false) a
def compat (k i:Rc):Bool:=
 match k.call,i.call with
 |false,false=>aA (MO k.wrt i.acc) (aA (MO i.wrt k.acc) (xg k.lo k.hi i.acc))
 |true,false=>aA (MO k.wrt i.acc) (aA (DY i.wrt) (xg k.lo k.hi i.acc))
 |false,true=>aA (DY k.wrt) (aA (MO i.wrt k.acc) (Nat.beq k.lo k.hi))
 |true,true=>false
def rE (pm:Nat) (i:Rc):List Rc->Bool:=List.rec (motive:=λ_=>Bool) true (λk _ ih=>Bool.rec false ih (Bool.rec (compat k i) true (Nat.testBit pm k.i)))
def below (lo:Nat):Nat->List Nat->List Nat:=
 Nat.rec (motive:=λ_=>List Nat->List Nat) (λ_=>[]) (λ_ ih l=>List.rec (motive:=λ_=>List Nat) [] (λx r _=>Bool.rec (ih r) (x::ih r) (Nat.ble (Nat.succ x) lo)) l)
def quiet (r:Rc):Bool:=aA (Bool.rec true false r.call) (aA (DY r.acc) (aA (DY r.wrt) (Nat.beq r.lo r.hi)))
def UF (o:DO) (i:Nat) (en:Env) (h h':H):Rc:=
 match o.acc with
 |some f=>⟨i,false,List.append (f en) (below h.next (Nat.sub h'.ln h.ln) h'.log),below h.next (Nat.sub h'.ln h.ln) h'.log,h.next,h'.next⟩
 |none=>⟨i,true,[],below h.next (Nat.sub h'.ln h.ln) h'.log,h.next,h'.next⟩
def doneD (o:DO) (i pm:Nat) (en:Env) (h:H) (rs:List Rc) (k:List Rc->Env->H->List Df->XR) (en':Env) (h':H) (jY:List Df):XR:=
 match rE pm (UF o i en h h') rs with
 |true=>k (match quiet (UF o i en h h')with|true=>rs|false=>UF o i en h h'::rs) en' h' jY
 |false=> .fail
def OY (cx:Cx) (o:DO) (i pm:Nat) (en:Env) (h:H) (df:List Df) (rs:List Rc) (k:List Rc->Env->H->List Df->XR):XR:=
 match(match o.gd with|none=>OB.t|some (f,w)=>J2 w (f.f en))with
 | .t=>(o.step ⟨λ_ en' h' jY=>doneD o i pm en h rs k en' h' jY⟩).k cx en h df
 | .f=>k rs (o.p.f (.fT .nil) en) h df
 | .none=> .fail
def fV:List Nat->Nat->Nat:=List.rec (motive:=λ_=>Nat->Nat) (λ_=>nat_lit 0) (λx _ ih i=>Bool.rec (ih (Nat.pred i)) x (Nat.beq i (nat_lit 0)))
def nL (ms:List Nat):List Nat->Nat:=List.rec (motive:=λ_=>Nat) (nat_lit 0) (λe _ ih=>Nat.lor (Nat.lor (Nat.pow (nat_lit 2) e) (fV ms e)) ih)
def masks (ms:List Nat):List DO->List Nat:=λl=>
 List.rec (motive:=λ_=>List Nat->List Nat) (λms=>ms) (λo _ ih ms=>sN (nL ms o.es) λm=>ih (List.append ms [m])) l ms
def tZ (a b:DO):Bool:=
 aA (Bool.rec (aA (Bool.rec true false (yM a.dn b.rs)) (Bool.rec true false (Nat.beq a.dn b.dn))) true (Nat.beq a.dn (nat_lit 0)))
  (Bool.rec (Bool.rec true false (yM b.dn a.rs)) true (Nat.beq b.dn (nat_lit 0)))
def nM (o:DO) (pm:Nat):List DO->Nat->Bool:=List.rec (motive:=λ_=>Nat->Bool) (λ_=>true)
 (λk _ ih i=>Bool.rec false (ih (Nat.succ i)) (Bool.rec (tZ k o) true (Nat.testBit pm i)))
def F3 (i:Nat):List Nat->Bool:=List.rec (motive:=λ_=>Bool) true (λe _ ih=>Bool.rec false ih (Nat.ble (Nat.succ e) i))
def okD (ms:List Nat):List DO->Nat->List DO->Bool:=
 List.rec (motive:=λ_=>Nat->List DO->Bool) (λ_ _=>true)
  (λo _ ih i ahead=>aA o.ok (aA (nM o (fV ms i) ahead (nat_lit 0)) (aA (F3 i o.es) (ih (Nat.succ i) (List.append ahead [o])))))
def WY (ms:List Nat) (cx:Cx):List DO->Nat->List Rc->Env->H->List Df->XR:=
 List.rec (motive:=λ_=>Nat->List Rc->Env->H->List Df->XR) (λ_ _ en h df=> .norm en h df)
  (λo _ ih i rs en h df=>OY cx o i (fV ms i) en h df rs (ih (Nat.succ i)))
def slot (o:Operand):List Nat:=
 match o with
 | .tmp t=>[Nat.succ t]
 |_=>[]
def slots (l:List Operand):List Nat:=List.rec (motive:=λ_=>List Nat) [] (λo _ ih=>List.append (slot o) ih) l
def sV (o:Oper):Nat:=
 match o.dst with
 |some d=>Nat.succ d
 |none=>nat_lit 0
def vH (ops:List Oper) (o:Oper):List Nat:=
 match o.guard with
 |some (j,_)=>match ops[j]? with
  |some x=>[sV x]
  |none=>[]
 |none=>[]
def lH (o:Oper):List Nat:=(o.after.toList.filter (Region.binds .any)).map (·.on)
def rG (k:OpK):Bool:=
 match k with
 | .plain _=>true
 | .call _ _=>true
 |_=>false
def j6 (g:G) (ops:List Oper) (o:Oper):DO:=
 {step:=qp o.dst (nX g o.op),acc:=sJ o.op
  gd:=match o.guard with|none=>none|some (j,w)=>some (match yL ops j with|some t=>gT t|none=>⟨λ_=> .bad⟩,w)
  p:=pO o.dst,dn:=sV o,rs:=List.append (vH ops o) (slots o.op.operands.toList),es:=lH o,ok:=rG (nX g o.op)}
def ad8 (ds:List DO):K:=
 match okD (masks [] ds) ds (nat_lit 0) []with
 |true=>⟨λcx en h df=>WY (masks [] ds) cx ds (nat_lit 0) [] en h df⟩
 |false=>failK
def Ci (g:G) (ops:List Oper) (draw:Bool):K:=
 match draw with
 |false=>adD g ops ops
 |true=>ad8 (ops.map (j6 g ops))
def XO (a b:K):K:=⟨λcx en h df=>XR.rec (motive:=λ_=>XR) .fail (b.k cx) .ret .ext .got (a.k cx en h df)⟩
def ZN (c:EV) (a b:K):K:=⟨λcx en h df=>OB.rec (motive:=λ_=>XR) .fail (b.k cx en h df) (a.k cx en h df) (toB (c.f en))⟩
def leave (i j:Nat) (en:Env) (h:H) (df:List Df):XR:=Bool.rec (.ext j en h df) (.norm en h df) (Nat.beq j i)
def TG (i:Nat) (a:K):K:=⟨λcx en h df=>XR.rec (motive:=λ_=>XR) .fail .norm .ret (leave i) .got (a.k cx en h df)⟩
def ZP (a:K):K:=⟨λcx=>Nat.rec (motive:=λ_=>Env->H->List Df->XR) (λ_ _ _=> .fail)
 (λ_ ih en h df=>XR.rec (motive:=λ_=>XR) .fail ih .ret .ext .got (a.k cx en h df)) cx.fuel⟩
def TK (a b:Nat->Option K) (kb:K):Nat->Option K:=λl=>match a l with
 |some r=>some (XO r kb)
 |none=>b l
def TI (a:K) (lk:Nat->Option K):K:=⟨λcx=>Nat.rec (motive:=λ_=>K->Env->H->List Df->XR) (λ_ _ _ _=> .fail)
 (λ_ ih k en h df=>XR.rec (motive:=λ_=>XR) .fail .norm .ret .ext
  (λl en' h' jY=>match lk l with
   |some r=>ih r en' h' jY
   |none=> .got l en' h' jY) (k.k cx en h df)) cx.fuel a⟩
def MH (c:Option Code) (en:Env) (h:H) (df:List Df):XR:=
 match c with
 |none=> .norm en h df
 |some .ret=> .ret en h df
 |some (.exit i)=> .ext i en h df
 |some (.goto l)=> .got l en h df
 |some _=> .fail
def Iq (f:EV) (ps:List Tmp) (assign body:Code):K:=⟨λcx en h0 df0=>
 let fin (l:Nat) (df:List Df) (h:H):XR:=match apply cx (f.f en) (.cons (.wE l) .nil) h with
  | .ok _ h'=>(match h'.get l with
    |some (.loop st pend fn env ps' as bo dd)=>(match st with
     | .busy=> .fail
     |_=>MH pend en (h'.set l (.loop .exhausted pend fn env ps' as bo dd)) df)
    |_=> .fail)
  | .fail=> .fail
 match cx.rd with
 |none=>(match Nat.ble (Nat.succ (Nat.succ h0.next)) (nat_lit 65536)with
  |true=>fin (Nat.succ h0.next) (.coll h0.next::df0) ((h0.new .vC).new (.loop .ready none (nat_lit 0) en ps assign body h0.next))
  |false=> .fail)
 |some l0=>(match h0.room,h0.get l0 with
  |true,some (.loop _ _ _ _ _ _ _ dd)=>fin h0.next df0 (h0.new (.loop .ready none (nat_lit 0) en ps assign body dd))
  |_,_=> .fail)⟩
structure CK where
 k:K
 lk:Nat->Option K
def BF:Nat->Option K:=λ_=>none
def WX (g:G):Code->CK:=Code.rec (motive:=λ_=>CK)
 ⟨FQ,BF⟩
 (λ_ ops draw=>⟨Ci g ops.toList draw,BF⟩)
 (λ_ _ a b=>⟨XO a.k b.k,TK a.lk b.lk b.k⟩)
 (λc _ _ a b=>⟨ZN (ev c) a.k b.k,BF⟩)
 (λi _ a=>⟨TG i a.k,BF⟩)
 (λ_ a=>⟨ZP a.k,BF⟩)
 (λf ps as bo _ _=>⟨Iq (ev f) ps.toList as bo,BF⟩)
 (λi=>⟨⟨λ_=> .ext i⟩,BF⟩)
 (λ_ a=>⟨TI a.k a.lk,BF⟩)
 (λl=>⟨FQ,λl'=>match Nat.beq l l' with|true=>some FQ|false=>none⟩)
 (λl=>⟨⟨λ_=> .got l⟩,BF⟩)
 ⟨⟨λ_=> .ret⟩,BF⟩
 (λ_=>⟨failK,BF⟩)
def FX:AV->Nat->Env->Env:=Dv (λ_ t=>t) (λv _ ih i t=>ih (Nat.succ i) ((pT i).f v t))
def DL (cx:Cx):List Df->H->Option H:=List.rec (motive:=λ_=>H->Option H) some
 (λd _ ih h=>match d with
  | .call f a=>(match cx.call f a h with
    | .ok _ h'=>ih h'
    | .fail=>none)
  | .coll b=>(match h.get b with
    |some .vC=>ih (h.set b .taken)
    |_=>none))
def J4 (g:G) (r:ResultVar) (en:Env) (h:H):AV:=
 match r with
 | .tmp t=>(gT t).f en
 | .cell a t=>match g.ty t with
   |some y=>(match(qd y.agg y.size).f ((gT a).f en) h with
    | .ok v _=>v
    | .fail=> .bad)
   |none=> .bad
def TP (g:G) (en:Env) (h:H):List ResultVar->AV:=List.rec (motive:=λ_=>AV) .nil (λr _ ih=> .cons (J4 g r en h) ih)
def j5 (g:G) (en:Env) (h:H):List ResultVar->Bool:=List.rec (motive:=λ_=>Bool) true (λr _ ih=>match r with
 | .tmp _=>ih
 | .cell a t=>match g.ty t with
   |some y=>(match(qd y.agg y.size).f ((gT a).f en) h with
    | .ok _ _=>ih
    | .fail=>false)
   |none=>false)
def FV (g:G) (rs:List ResultVar) (en:Env) (h:H):bB:=
 match rs with
 |[r]=>sQ (J4 g r en h) h
 |rs=>match j5 g en h rs with
  |true=> .ok (.fT (TP g en h rs)) h
  |false=> .fail
def enter (g:G) (cx:Cx) (fn:Fn) (args:AV) (h:H):bB:=
 let fin (en:Env) (h:H) (df:List Df):bB:=match DL cx df h with
  |some h'=>FV g fn.res en h'
  |none=> .fail
 match Nat.ble (llen args) fn.nt,(WX g fn.body).k.k cx (FX args (nat_lit 0) MN) h []with
 |true, .norm en h df=>fin en h df
 |true, .ret en h df=>fin en h df
 |_,_=> .fail
def adT (s:Str) (c:Nat):Nat->Nat->Nat:=λn i=>
 Nat.rec (motive:=λ_=>Nat->Nat->Nat) (λ_ a=>a) (λ_ ih i a=>sN (Bool.rec a (Nat.succ a) (Nat.beq (s.byte i) c)) λa'=>ih (Nat.succ i) a') n i (nat_lit 0)
def adU (s:Str) (c:Nat):Nat->Nat->Int:=λn i=>
 Nat.rec (motive:=λ_=>Nat->Int) (λ_=> .negSucc (nat_lit 0)) (λ_ ih i=>Bool.rec (ih (Nat.succ i)) (.ofNat i) (Nat.beq (s.byte i) c)) n i
def TU (kind:Nat) (args:AV) (h:H):bB:=
 match kind,args with
 |1, .cons (.str s) (.cons (.int .u8 (.ofNat c)) .nil)=>Bool.rec .fail (.ok (.int .i64 (.ofNat (adT s c s.len (nat_lit 0)))) h) (Nat.ble c (nat_lit 255))
 |2, .cons (.str s) (.cons (.int .u8 (.ofNat c)) .nil)=>Bool.rec .fail (frc (adU s c s.len (nat_lit 0)) λn=> .ok (.int .i64 n) h) (Nat.ble c (nat_lit 255))
 |3, .cons v .nil=> .ok v h
 |k, .cons (.int .i64 (.ofNat n)) .nil=>match Nat.ble (nat_lit 16) k,Nat.ble n fH,h.room with
  |true,true,true=> .ok (.slice h.next (nat_lit 0) n (nat_lit 1) false) (h.new (.cells (Nat.add (Nat.sub k (nat_lit 16)) (nat_lit 2000000)) true (nat_lit 0) (nat_lit 0) (Fa (nat_lit 0) .nil)))
  |_,_,_=> .fail
 |_,_=> .fail
structure Rn where
 call:Nat->AV->H->bB
 wE:Nat->AV->H->bB
def params (ps:List Tmp):AV->Env->Env:=List.rec (motive:=λ_=>AV->Env->Env) (λ_ t=>t) (λp _ ih a t=>ih (FE a (nat_lit 1)) ((pT p).f (Bw a (nat_lit 0)) t)) ps
def begun (g:G) (cx:Cx) (l:Nat) (args:AV) (h:H):bB:=
 match h.get l with
 |some (.loop _ _ _ env ps as bo _)=>match Nat.beq (llen args) ps.length with
  |true=>(match(WX g as).k.k {cx with rd:=some l} (params ps args env) h []with
   | .norm oJ h1 []=>(match h1.get l with
     |some (.loop .ready pend fn env' ps' as' Jv dd)=>
      let fin (jump:Option Code) (st:LoopState) (b:Bool) (h2:H):bB:=(match h2.get l with
       |some (.loop _ _ fn2 aa2 ps2 as2 bo2 dd2)=> .ok (.bool b) (h2.set l (.loop st jump fn2 aa2 ps2 as2 bo2 dd2))
       |_=> .fail)
      (match(WX g bo).k.k {cx with rd:=some l} oJ (h1.set l (.loop .busy pend fn env' ps' as' Jv dd)) []with
       | .norm _ h2 _=>fin none .ready true h2
       | .ret _ h2 _=>fin (some .ret) .done false h2
       | .ext i _ h2 _=>fin (some (.exit i)) .done false h2
       | .got l' _ h2 _=>fin (some (.goto l')) .done false h2
       | .fail=> .fail)
     |_=> .fail)
   |_=> .fail)
  |false=> .fail
 |_=> .fail
def run (g:G):Nat->Rn:=Nat.rec (motive:=λ_=>Rn) ⟨λ_ _ _=> .fail,λ_ _ _=> .fail⟩
 (λn ih=>⟨λf args h=>(match g.iK f args h with
  |some r=>r
  |none=>(match g.fn f with
   |some fn=>enter g ⟨ih.call,ih.wE,n,none,g.pU⟩ fn args h
   |none=>TU (g.ext f) args h)),
  λl args h=>begun g ⟨ih.call,ih.wE,n,none,g.pU⟩ l args h⟩)
end
noncomputable section
def isAggD:TypeDesc->Bool
 | .struct _=>true
 | .array _ _=>true
 |_=>false
def ad9 (p:Program) (t:Nat):Option Ty:=
 match p.info? t,p.underlying t with
 |some i,some d=>match i.zero with
  |some z=>match Nat.beq (llen (tQ z.cells.toList)) i.size with
   |true=>some ⟨d,i.size,i.bytes,isAggD d,tQ z.cells.toList,ofV z⟩
   |false=>none
  |none=>none
 |_,_=>none
def fnOf (p:Program) (f:Nat):Option Fn:=
 match p.funcs[f]? with
 |some fn=>match fn.body with
  |some b=>some ⟨fn.ntmps,b,fn.results.toList⟩
  |none=>none
 |none=>none
def intTy (p:Program) (t:Nat):Bool:=
 match p.underlying t with
 |some (.int _)=>true
 |_=>false
def UG (p:Program) (t:Nat):Bool:=
 match p.underlying t with
 |some (.struct fs)=>(match fs.toList with
  |[f0,f1]=>aA (intTy p f0.type) (aA (intTy p f1.type) (aA (Nat.beq f0.offset (nat_lit 0)) (aA (Nat.beq f1.offset (nat_lit 1)) (aA (Bool.rec true false (f0.name== "_")) (aA (Bool.rec true false (f1.name== "_"))
    (aA (Bool.rec true false (p.stoodInHeld t)) (Bool.rec true false (p.eqGuardType p.depth t))))))))
  |_=>false)
 |_=>false
def zK (p:Program) (t:Nat) (s:Str):Option Nat:=
 match p.info? t,p.underlying t with
 |some i,some d=>(match i.methods.find? (λm=>(Str.of m.name.toUTF8).eq s)with
  |some m=>(match m.path.toList,m.func,d with
   |[],some (f,true), .pointer _=>some f
   |[],some (_,false), .pointer _=>none
   |[],some (f,false),_=>some f
   |_,_,_=>none)
  |none=>none)
 |_,_=>none
def dL (p:Program) (ext:Nat->Nat) (iK:Nat->AV->H->Option bB):G:=⟨ad9 p,fnOf p,ext,iK,UG p,zK p⟩
def gOf (p:Program) (ext:Nat->Nat):G:=dL p ext λ_ _ _=>none
end
structure Nm where
 B:Nat
 sh:Nat
 cs:Nat
abbrev aV:=Nat->Option Nm
def R (ι:aV):AV->(Value->Prop)×(List Value->Prop)
 | .bad=>(λ_=>True,λ_=>False)
 | .unk=>(λv=>v.oneCell'=true,λ_=>False)
 | .bool b=>(λv=>v= .bool b,λ_=>False)
 | .int k n=>(λv=>v= .int k n,λ_=>False)
 | .str s=>(λv=>∃b,v= .string b/\s=Str.of b,λ_=>False)
 | .ptr b off=>(λv=>∃m,ι b=some m/\v= .pointer (some ⟨m.B,m.sh+off,none⟩),λ_=>False)
 | .nG=>(λv=>v= .pointer none,λ_=>False)
 | .slice b off len es z=>(λv=>∃m y cap,ι b=some m/\v= .slice (some y) len cap/\len<=cap/\(z=true->cap=0)/\
  (cap=0\/(y=⟨m.B,m.sh+off,none⟩/\m.sh+off+cap*es<=m.cs)),λ_=>False)
 | .jm=>(λv=>v= .slice none 0 0,λ_=>False)
 | .map b=>(λv=>∃m,ι b=some m/\v= .map (some m.B),λ_=>False)
 | .qL=>(λv=>v= .map none,λ_=>False)
 | .fn f a c=>(λv=>(∃xs ys:Array Value,v= .func (.func f) xs ys/\(R ι a).2 xs.toList/\(R ι c).2 ys.toList)\/(∃(y:Value) (nm:String),v= .func (.method nm) #[y] #[]/\(R ι a).1 y/\(R ι c).1 (.string nm.toUTF8)),λ_=>False)
 | .wE l=>(λv=>∃m,ι l=some m/\v= .func (.yield m.B) #[] #[],λ_=>False)
 | .qM=>(λv=>v= .nilFunc,λ_=>False)
 | .sH t x=>(λv=>∃y,v= .iface t y/\(R ι x).1 y,λ_=>False)
 | .qc=>(λv=>v= .nilIface,λ_=>False)
 | .agg cs=>(λv=>∃xs:Array Value,v= .agg xs/\(R ι cs).2 xs.toList,λ_=>False)
 | .fT vs=>(λv=>∃xs:Array Value,v= .tuple xs/\(R ι vs).2 xs.toList,λ_=>False)
 | .nil=>(λ_=>False,λl=>l=[])
 | .cons h t=>(λ_=>False,λl=>∃x xs,l=x::xs/\(R ι h).1 x/\(R ι t).2 xs)
def VR (ι:aV) (a:AV) (v:Value):Prop:=(R ι a).1 v
def fQ (ι:aV) (a:AV) (l:List Value):Prop:=(R ι a).2 l
def aV.le (ι ι':aV):Prop:=∀b m,ι b=some m->ι' b=some m
theorem aV.le_refl (ι:aV):ι.le ι:=λ_ _ h=>h
theorem aV.le_trans {ι ι' ι'':aV} (h:ι.le ι') (k:ι'.le ι''):ι.le ι'':=λb m e=>k b m (h b m e)
theorem UH {ι ι':aV} (hle:ι.le ι') (a:AV):(∀v,(R ι a).1 v->(R ι' a).1 v)/\(∀l,(R ι a).2 l->(R ι' a).2 l):=by
 induction a with
 |bad=>exact⟨λ_ _=>trivial,λ_ h=>h⟩
 |unk=>exact⟨λ_ h=>h,λ_ h=>h⟩
 |bool b=>exact⟨λ_ h=>h,λ_ h=>h⟩
 |int k n=>exact⟨λ_ h=>h,λ_ h=>h⟩
 |str s=>exact⟨λ_ h=>h,λ_ h=>h⟩
 |ptr b off=>exact⟨λ_ ⟨m,h,e⟩=>⟨m,hle _ _ h,e⟩,λ_ h=>h⟩
 |nG=>exact⟨λ_ h=>h,λ_ h=>h⟩
 |slice b off len es z=>exact⟨λ_ ⟨m,y,cap,h,r⟩=>⟨m,y,cap,hle _ _ h,r⟩,λ_ h=>h⟩
 |jm=>exact⟨λ_ h=>h,λ_ h=>h⟩
 |map b=>exact⟨λ_ ⟨m,h,e⟩=>⟨m,hle _ _ h,e⟩,λ_ h=>h⟩
 |qL=>exact⟨λ_ h=>h,λ_ h=>h⟩
 |fn f a c iha ihc=>exact⟨λ_ hv=>hv.elim (λ⟨xs,ys,e,h,k⟩=> .inl ⟨xs,ys,e,iha.2 _ h,ihc.2 _ k⟩) (λ⟨y,nm,e,h,k⟩=> .inr ⟨y,nm,e,iha.1 _ h,ihc.1 _ k⟩),λ_ h=>h⟩
 |wE l=>exact⟨λ_ ⟨m,h,e⟩=>⟨m,hle _ _ h,e⟩,λ_ h=>h⟩
 |qM=>exact⟨λ_ h=>h,λ_ h=>h⟩
 |sH t x ih=>exact⟨λ_ ⟨y,e,h⟩=>⟨y,e,ih.1 _ h⟩,λ_ h=>h⟩
 |qc=>exact⟨λ_ h=>h,λ_ h=>h⟩
 |agg cs ih=>exact⟨λ_ ⟨xs,e,h⟩=>⟨xs,e,ih.2 _ h⟩,λ_ h=>h⟩
 |fT cs ih=>exact⟨λ_ ⟨xs,e,h⟩=>⟨xs,e,ih.2 _ h⟩,λ_ h=>h⟩
 |nil=>exact⟨λ_ h=>h,λ_ h=>h⟩
 |cons h t ihh iht=>exact⟨λ_ h=>h,λ_ ⟨x,xs,e,hx,hxs⟩=>⟨x,xs,e,ihh.1 _ hx,iht.2 _ hxs⟩⟩
theorem VR.mono {ι ι':aV} (hle:ι.le ι') {a:AV} {v:Value} (h:VR ι a v):VR ι' a v:=(UH hle a).1 v h
theorem fQ.mono {ι ι':aV} (hle:ι.le ι') {a:AV} {l:List Value} (h:fQ ι a l):fQ ι' a l:=(UH hle a).2 l h
structure fU (ι:aV) (n:Nat) (en:Env) (tmps:Array Value):Prop where
 size:tmps.size=n
 most:n<=256
 at_:∀i,i<n->VR ι ((gT i).f en) (tmps.getD i undef)
 rest:∀i,n<=i->i<256->(gT i).f en= .bad
theorem fU.mono {ι ι':aV} (hle:ι.le ι') {n:Nat} {en:Env} {tmps:Array Value} (h:fU ι n en tmps):fU ι' n en tmps:=
 ⟨h.size,h.most,λi hi=>(h.at_ i hi).mono hle,h.rest⟩
def Tx (ι:aV):List Df->List Deferred->Prop
 |[],ds=>ds=[]
 | .call f args::r,ds=>∃(zY as:Array Value) (ds':List Deferred),ds={target:= .fn (.func f) zY,args:=as}::ds'/\fQ ι args (as.toList++zY.toList)/\Tx ι r ds'
 | .coll b::r,ds=>∃m ds',ι b=some m/\ds={target:= .collected m.B,args:=#[]}::ds'/\Tx ι r ds'
theorem Tx.mono {ι ι':aV} (hle:ι.le ι'):∀{l:List Df} {ds:List Deferred},Tx ι l ds->Tx ι' l ds
 |[],_,h=>h
 | .call _ _::_,_,⟨c,as,ds',e,h,k⟩=>⟨c,as,ds',e,h.mono hle,Tx.mono hle k⟩
 | .coll _::_,_,⟨m,ds',h,e,k⟩=>⟨m,ds',hle _ _ h,e,Tx.mono hle k⟩
def aC (n:Nat):Operand->Bool
 | .tmp t=>Nat.blt t n
 | .global g=>Nat.blt g 64
 |_=>true
def fK (n:Nat) (ops:List Oper) (o:Oper):Bool:=
 (match o.dst with|some d=>Nat.blt d n|none=>true)&&o.op.operands.toList.all (aC n)&&
 (match o.guard with|some (j,_)=>(match ops[j]? with|some x=>(match x.dst with|some d=>Nat.blt d n|none=>false)|none=>false)|none=>true)
def codeOk (n:Nat):Code->Bool
 | .skip| .exit _| .label _| .goto _| .ret| .refuse _=>true
 | .region _ ops _=>ops.toList.all (fK n ops.toList)
 | .seq a b=>codeOk n a&&codeOk n b
 | .cond c a b=>aC n c&&codeOk n a&&codeOk n b
 | .block _ c| .loop c| .scope c=>codeOk n c
 | .rangeFunc f ps a c=>aC n f&&ps.toList.all (Nat.blt · n)&&codeOk n a&&codeOk n c
def bC:List MapEntry->Value->Option MapEntry->Prop
 |[],_,o=>o=none
 |x::r,k,o=>(x.key=k/\o=some x)\/(x.key≠k/\bC r k o)
def LK (kd:IntKind) (es:Array MapEntry) (c lk:Nat):Prop:=
 (∀e∈es.toList,e.born<c)/\∀i:Nat,lk=i+1->∃r e,es.toList=r++[e]/\e.key= .int kd i/\bC r (.int kd i) none/\e.born+1=c/\∀x∈r,x.born+1<c
def BR (ι:aV) (blk:wF) (o:Obj) (m:Nm):Prop:=
 match blk with
 | .cells el ro n d t=>∃arr iV lo hi,o= .cells arr iV (lo,hi)/\arr.size=m.cs/\m.sh+n<=m.cs/\n<=4^d/\
  (∀i,i<n->VR ι (E.get d (path d i) t) (arr.getD (m.sh+i) undef))/\((ro=false->iV=el/\(lo=hi\/m.cs<=lo))/\(12<=d->m.sh=0)/\(ro=true->2000000<=el->iV=el-2000000/\(lo=hi\/hi<=m.sh+n)))
 | .zU kd n c t lk=>∃es,o= .map es c/\es.size=n/\m.sh=0/\((∀e∈es.toList,∃i:Nat,i<=FR/\e.key= .int kd (i:Int))/\LK kd es c lk)/\
  (∀i,i<=FR->match E.get 11 (path 11 i) t with
   |none=>bC es.toList (.int kd i) none
   |some v=>∃e,bC es.toList (.int kd i) (some e)/\VR ι v e.val)
 | .smap n c l=>∃es,o= .map es c/\es.size=n/\m.sh=0/\(∀e∈es.toList,∃s,e.key= .string s)/\
  (∀s,match nH (Str.of s) l with
   |none=>bC es.toList (.string s) none
   |some v=>∃e,bC es.toList (.string s) (some e)/\VR ι v e.val)
 | .iter s pos=>m.sh=0/\∃b,o= .stringIter b pos/\s=Str.of b
 | .loop st pend _ en ps as bo vC=>∃(r:Loop) (n:Nat) (md:Nm),o= .loop r/\r.state=st/\r.pending=pend/\fU ι n en r.tmps/\r.params.toList=ps/\r.assign=as/\r.body=bo/\
  ι vC=some md/\r.defers=md.B/\codeOk n as=true/\codeOk n bo=true/\ps.all (Nat.blt · n)=true
 | .vC=>o= .deferred (some [])
 | .taken=>o= .deferred none
theorem BR.mono {ι ι':aV} (hle:ι.le ι') {blk:wF} {o:Obj} {m:Nm} (h:BR ι blk o m):BR ι' blk o m:=by
 cases blk with
 |cells el ro n d t=>obtain⟨arr,iV,lo,hi,e,h1,h2,h3,h4,h5⟩:=h;exact⟨arr,iV,lo,hi,e,h1,h2,h3,λi hi=>(h4 i hi).mono hle,h5⟩
 |zU kd n c t lk=>
  obtain⟨es,e,h1,h0,h2,h3⟩:=h;refine⟨es,e,h1,h0,h2,λi hi=> ?_⟩;have:=h3 i hi;split at this;·simp[*]
  ·rename_i v hv;obtain⟨e,he,hv'⟩:=this;exact⟨e,he,hv'.mono hle⟩
 |smap n c l=>
  obtain⟨es,e,h1,h0,h2,h3⟩:=h;refine⟨es,e,h1,h0,h2,λs=> ?_⟩;have:=h3 s;split at this;·simp[*]
  ·rename_i v hv;obtain⟨e,he,hv'⟩:=this;exact⟨e,he,hv'.mono hle⟩
 |iter s pos=>exact h
 |loop st pend fn en ps as bo vC=>obtain⟨r,n,md,h1,h2,h3,h4,h5,h6,h7,h8,h9⟩:=h;exact⟨r,n,md,h1,h2,h3,h4.mono hle,h5,h6,h7,hle _ _ h8,h9⟩
 |vC=>exact h
 |taken=>exact h
structure WR (ι:aV) (h:H) (w:World) (D:Nat->Prop:=λ_=>True):Prop where
 most:h.next<=65536
 fresh:∀b,h.next<=b->ι b=none
 blk:∀b x,D b->b<h.next->h.get b=some x->∃m o,ι b=some m/\w.heap[m.B]? =some o/\BR ι x o m
 inj:∀b b' x x' m m',D b->D b'->b<h.next->b'<h.next->h.get b=some x->h.get b'=some x'->ι b=some m->ι b'=some m'->m.B=m'.B->b=b'
structure Ext (ι:aV) (h:H) (w:World) (ι':aV) (h':H) (w':World) (W:List Nat):Prop where
 next:h.next<=h'.next
 Ce:∀b,b<h.next->ι' b=ι b
 log:h'.log=W++h.log
 ln:h'.ln=h.ln+W.length
 kept:∀b,b<h.next->b∉W->h'.get b=h.get b
 live:∀b,b∈W->b<h.next->∃x,h.get b=some x
 size:w.heap.size<=w'.heap.size
 heap:∀k,k<w.heap.size->(∀b∈W,∀m,ι b=some m->m.B≠k)->w'.heap[k]? =w.heap[k]?
 new:∀b m,h.next<=b->ι' b=some m->w.heap.size<=m.B\/∃b0∈W,∃m0,ι b0=some m0/\m0.B=m.B
 os:w'.os=w.os
 tape:w'.tape=w.tape
 out:w'.output=w.output
theorem Ext.refl (ι:aV) (h:H) (w:World) (hf:∀b,h.next<=b->ι b=none):Ext ι h w ι h w []:=
 ⟨ay _,λ_ _=>rfl,rfl,rfl,λ_ _ _=>rfl,λ_ hb=>(by cases hb),ay _,λ_ _ _=>rfl,λb m hb e=>(by rw[hf b hb]at e;cases e),rfl,rfl,rfl⟩
theorem Ext.le {ι ι':aV} {h h':H} {w w':World} {W:List Nat} (e:Ext ι h w ι' h' w' W) (hf:∀b,h.next<=b->ι b=none):ι.le ι':=by
 intro b m hb;rcases aF b h.next with hlt|hge;·rw[e.Ce b hlt];exact hb
 ·rw[hf b hge]at hb;cases hb
theorem Ext.trans {ι ι1 ι2:aV} {h h1 h2:H} {w w1 w2:World} {W1 W2:List Nat}
 (e:Ext ι h w ι1 h1 w1 W1) (k:Ext ι1 h1 w1 ι2 h2 w2 W2):Ext ι h w ι2 h2 w2 (W2++W1)where
 next:=bF e.next k.next
 Ce b hb:=by rw[k.Ce b (bJ hb e.next),e.Ce b hb]
 log:=by rw[k.log,e.log,iL]
 ln:=by rw[k.ln,e.ln,bV];omega
 kept b hb hn:=by rw[k.kept b (bJ hb e.next) (λhm=>hn (iF _ hm)),e.kept b hb (λhm=>hn (iM _ hm))]
 live b hb hlt:=by
  rcases iE.1 hb with h2|h1
  ·by_cases hm:b∈W1
   ·exact e.live b hm hlt
   ·obtain⟨x,hx⟩:=k.live b h2 (bJ hlt e.next);exact⟨x,by rw[<-e.kept b hlt hm];exact hx⟩
  ·exact e.live b h1 hlt
 size:=bF e.size k.size
 heap i hi hn:=by
  rw[k.heap i (bJ hi e.size) ?_,e.heap i hi (λb hb m hm=>hn b (iM _ hb) m hm)];intro b hb m hm hB;rcases aF b h.next with hlt|hge;·rw[e.Ce b hlt]at hm;exact hn b (iF _ hb) m hm hB
  ·rcases e.new b m hge hm with h0|⟨b0,hb0,m0,hm0,hB0⟩
   ·omega
   ·exact hn b0 (iM _ hb0) m0 hm0 (hB0.trans hB)
 new b m hb hm:=by
  rcases aF b h1.next with hlt|hge
  ·rw[k.Ce b hlt]at hm;rcases e.new b m hb hm with h0|⟨b0,hb0,r⟩
   ·exact .inl h0
   ·exact .inr ⟨b0,iM _ hb0,r⟩
  ·rcases k.new b m hge hm with h0|⟨b0,hb0,m0,hm0,hB0⟩
   ·exact .inl (bF e.size h0)
   ·rcases aF b0 h.next with X9|ahC
    ·rw[e.Ce b0 X9]at hm0;exact .inr ⟨b0,iF _ hb0,m0,hm0,hB0⟩
    ·rcases e.new b0 m0 ahC hm0 with h0|⟨b1,hb1,m1,hm1,hB1⟩
     ·exact .inl (by omega)
     ·exact .inr ⟨b1,iM _ hb1,m1,hm1,hB1.trans hB0⟩
 os:=k.os.trans e.os
 tape:=k.tape.trans e.tape
 out:=k.out.trans e.out
theorem abh (e:Env):(List.range 256).map (λi=>(gT i).f e)=(List.range 256).map (λi=>E.get 4 (path 4 i) e):=by kernel_rfl
theorem abj (v:AV) (e:Env):(List.range 256).map (λi=>(pT i).f v e)=(List.range 256).map (λi=>E.put v 4 (path 4 i) e):=by kernel_rfl
theorem Pg {i:Nat} (hi:i<256) (e:Env):(gT i).f e=E.get 4 (path 4 i) e:=by have:=fJ (λl=>l[i]?) (abh e);simpa[List.getElem?_map,List.getElem?_range hi]using this
theorem ZW {i:Nat} (hi:i<256) (v:AV) (e:Env):(pT i).f v e=E.put v 4 (path 4 i) e:=by have:=fJ (λl=>l[i]?) (abj v e);simpa[List.getElem?_map,List.getElem?_range hi]using this
theorem rD {i:Nat} (hi:i<256) (v:AV) (e:Env):(gT i).f ((pT i).f v e)=v:=by rw[Pg hi,ZW hi,E.cO]
theorem tT {i j:Nat} (hi:i<256) (hj:j<256) (h:i≠j) (v:AV) (e:Env):(gT j).f ((pT i).f v e)=(gT j).f e:=by rw[Pg hj,ZW hi,E.eX v 4 i j hi hj h,Pg hj]
theorem Iz {i:Nat} (hi:i<256):(gT i).f MN= .bad:=by rw[Pg hi];exact E.vg _ _ _
theorem fU.put {ι:aV} {n:Nat} {en:Env} {tmps:Array Value} (h:fU ι n en tmps) {d:Nat} (hd:d<n) {v:AV} {x:Value} (hv:VR ι v x):
 fU ι n ((pT d).f v en) (tmps.setIfInBounds d x):=by
 refine⟨by simpa using h.size,h.most,λi hi=> ?_,λi h1 h2=>by rw[tT (bJ hd h.most) h2 (by omega)];exact h.rest i h1 h2⟩;by_cases e:d=i
 ·subst e;rw[rD (bJ hd h.most)];have:d<tmps.size:=by rw[h.size];exact hd
  simpa[Array.getD_eq_getD_getElem?,this]using hv
 ·rw[tT (bJ hd h.most) (bJ hi h.most) e];have:=h.at_ i hi;rw[gJ]at this⊢;rwa [jF e]
theorem H.Cc {h:H} {x:wF} {b:Nat} (hn:h.next<65536) (hb:b<65536):(h.new x).get b=if b=h.next then some x else h.get b:=by
 unfold H.get H.new;split;·rename_i e;subst e;exact E.cO _ _ _ _
 ·rename_i e;exact E.eX _ 8 _ _ hn hb (λe'=>e e'.symm) _
theorem H.Ph {h:H} {x:wF} {a b:Nat} (ha:a<65536) (hb:b<65536):(h.set a x).get b=if b=a then some x else h.get b:=by
 unfold H.get H.set;split;·rename_i e;subst e;exact E.cO _ _ _ _
 ·rename_i e;exact E.eX _ 8 _ _ ha hb (λe'=>e e'.symm) _
theorem H.Tj {h:H} {a b:Nat} (ha:a<65536) (hb:b<65536):(h.kill a).get b=if b=a then none else h.get b:=by
 unfold H.get H.kill;split;·rename_i e;subst e;exact E.cO _ _ _ _
 ·rename_i e;exact E.eX _ 8 _ _ ha hb (λe'=>e e'.symm) _
theorem H.jX {h:H}:h.room=true↔h.next<65536:=by unfold H.room;rw[aD];exact Iff.rfl
structure Loc (ι:aV) (h:H) (w:World) (ι':aV) (h':H) (w':World) (W:List Nat):Prop extends Ext ι h w ι' h' w' W where
 most:h'.next<=65536
 fresh:∀b,h'.next<=b->ι' b=none
 blk:∀b x,(b∈W\/h.next<=b)->b<h'.next->h'.get b=some x->∃m o,ι' b=some m/\w'.heap[m.B]? =some o/\BR ι' x o m
 inj1:∀b x m,h.next<=b->b<h'.next->h'.get b=some x->ι' b=some m->w.heap.size<=m.B\/∃b0∈W,∃m0,ι b0=some m0/\m0.B=m.B/\h'.get b0=none
 inj2:∀b b' x x' m m',h.next<=b->h.next<=b'->b<h'.next->b'<h'.next->h'.get b=some x->h'.get b'=some x'->ι' b=some m->ι' b'=some m'->m.B=m'.B->b=b'
theorem Loc.wr {ι ι':aV} {h h':H} {w w':World} {W:List Nat} (e:Loc ι h w ι' h' w' W) (k:WR ι h w):WR ι' h' w' where
 most:=e.most
 fresh:=e.fresh
 blk b x _ hbn hx:=by
  by_cases hb:b∈W\/h.next<=b;·exact e.blk b x hb hbn hx
  ·have hbW:b∉W:=λc=>hb (.inl c);have hlt:b<h.next:=by omega
   rw[e.kept b hlt hbW]at hx;obtain⟨m,o,h1,h2,h3⟩:=k.blk b x trivial hlt hx;have hsz:m.B<w.heap.size:=(dM.1 h2).1;refine⟨m,o,by rw[e.Ce b hlt];exact h1,?_,h3.mono (e.toExt.le k.fresh)⟩;rw[e.heap m.B hsz,h2];intro b1 hb1 m1 hm1 hB;have hlt1:b1<h.next:=by
    rcases aF b1 h.next with c|c;·exact c
    ·rw[k.fresh b1 c]at hm1;cases hm1
   obtain⟨x1,hx1⟩:=e.live b1 hb1 hlt1;have:=k.inj b1 b x1 x m1 m trivial trivial hlt1 hlt hx1 hx hm1 h1 hB;exact hbW (this▸hb1)
 inj b b' x x' m m' _ _ hbn Kw hx hx' hm hm' hB:=by
  have old:∀b x m,b<h.next->h'.get b=some x->ι' b=some m->(∃y,h.get b=some y)/\ι b=some m:=λb x m hlt hx hm=>by
   refine⟨?_,by rw[<-e.Ce b hlt];exact hm⟩;by_cases hbW:b∈W;·exact e.live b hbW hlt
   ·exact⟨x,by rw[<-e.kept b hlt hbW];exact hx⟩
  have sz:∀b y m,b<h.next->h.get b=some y->ι b=some m->m.B<w.heap.size:=λb y m hlt hy hm=>by obtain⟨m1,o,h1,h2,_⟩:=k.blk b y trivial hlt hy;rw[hm]at h1;cases h1;exact(dM.1 h2).1
  have mix:∀b b' x x' m m',b<h.next->h.next<=b'->b'<h'.next->h'.get b=some x->h'.get b'=some x'->ι' b=some m->ι' b'=some m'->m.B≠m'.B:=λb b' x x' m m' hlt hge Kw hx hx' hm hm' hB=>by
   obtain⟨⟨y,hy⟩,hm0⟩:=old b x m hlt hx hm;have h1:=sz b y m hlt hy hm0;rcases e.inj1 b' x' m' hge Kw hx' hm' with h2|⟨b0,hb0,m0,Ae,hB0,Uj⟩
   ·omega
   ·have X9:b0<h.next:=by
     rcases aF b0 h.next with c|c;·exact c
     ·rw[k.fresh b0 c]at Ae;cases Ae
    obtain⟨y0,hy0⟩:=e.live b0 hb0 X9;have:=k.inj b b0 y y0 m m0 trivial trivial hlt X9 hy hy0 hm0 Ae (hB.trans hB0.symm);subst this;rw[Uj]at hx;cases hx
  rcases aF b h.next with hlt|hge<;>rcases aF b' h.next with hlt'|hge';·obtain⟨⟨y,hy⟩,hm0⟩:=old b x m hlt hx hm;obtain⟨⟨y',hy'⟩,Ae⟩:=old b' x' m' hlt' hx' hm';exact k.inj b b' y y' m m' trivial trivial hlt hlt' hy hy' hm0 Ae hB
  ·exact absurd hB (mix b b' x x' m m' hlt hge' Kw hx hx' hm hm')
  ·exact absurd hB.symm (mix b' b x' x m' m hlt' hge hbn hx' hx hm' hm)
  ·exact e.inj2 b b' x x' m m' hge hge' hbn Kw hx hx' hm hm' hB
theorem Loc.refl {ι:aV} {h:H} {w:World} {D:Nat->Prop} (k:WR ι h w D):Loc ι h w ι h w []where
 toExt:=Ext.refl ι h w k.fresh
 most:=k.most
 fresh:=k.fresh
 blk b x hb hbn _:=by
  rcases hb with hb|hb;·cases hb
  ·omega
 inj1 b x m hb hbn:=by omega
 inj2 b b' x x' m m' hb _ hbn:=by omega
def World.bQ (w:World) (n:Nat):World:={w with drawn:=n}
theorem Loc.draw {ι:aV} {h:H} {w:World} {D:Nat->Prop} (k:WR ι h w D) (n:Nat):Loc ι h w ι h (World.bQ w n) []where
 toExt:={Ext.refl ι h w k.fresh with heap:=λ_ _ _=>rfl,size:=ay _,new:=λb m hb e=>(by rw[k.fresh b hb]at e;cases e),os:=rfl,tape:=rfl,out:=rfl}
 most:=k.most
 fresh:=k.fresh
 blk b x hb hbn _:=by
  rcases hb with hb|hb;·cases hb
  ·omega
 inj1 b x m hb hbn:=by omega
 inj2 b b' x x' m m' hb _ hbn:=by omega
def aV.add (ι:aV) (b:Nat) (m:Nm):aV:=λx=>if x=b then some m else ι x
theorem aV.add_same (ι:aV) (b:Nat) (m:Nm):ι.add b m b=some m:=by simp[aV.add]
theorem aV.tL (ι:aV) {b x:Nat} (m:Nm) (h:x≠b):ι.add b m x=ι x:=by simp[aV.add,h]
theorem aV.sZ {ι:aV} {b:Nat} (m:Nm) (h:ι b=none):ι.le (ι.add b m):=λx y e=>by
 by_cases hx:x=b;·subst hx;rw[h]at e;cases e
 ·rw[aV.tL ι m hx];exact e
theorem Loc.yh {ι:aV} {h:H} {w w':World} {D:Nat->Prop} (k:WR ι h w D) (hr:h.next<65536) (x:wF) (m:Nm) (o:Obj)
 (hsz:w.heap.size<=w'.heap.size) (hold:∀i,i<w.heap.size->w'.heap[i]? =w.heap[i]?) (hB:w.heap.size<=m.B) (ho:w'.heap[m.B]? =some o)
 (hbr:BR (ι.add h.next m) x o m) (hos:w'.os=w.os) (JU:w'.tape=w.tape) (hout:w'.output=w.output):
 Loc ι h w (ι.add h.next m) (h.new x) w' []where
 next:=Nat.le_succ _
 Ce b hb:=aV.tL ι m (by omega)
 log:=rfl
 ln:=rfl
 kept b hb _:=by rw[H.Cc hr (by omega),aj (by omega)]
 live b hb:=by cases hb
 size:=hsz
 heap i hi _:=hold i hi
 new b m' hb e:=by
  by_cases hx:b=h.next;·subst hx;rw[aV.add_same]at e;cases e;exact .inl hB
  ·rw[aV.tL ι m hx,k.fresh b hb]at e;cases e
 os:=hos
 tape:=JU
 out:=hout
 most:=hr
 fresh b hb:=by have hb':h.next+1<=b:=hb;rw[aV.tL ι m (by omega)];exact k.fresh b (by omega)
 blk b y hb hbn hy:=by
  rcases hb with hb|hb;·cases hb
  ·have Kw:b<h.next+1:=hbn;obtain rfl:b=h.next:=by omega
   rw[H.Cc hr hr,au rfl]at hy;cases hy;exact⟨m,o,aV.add_same _ _ _,ho,hbr⟩
 inj1 b y m' hb hbn _ hm:=by
  have Kw:b<h.next+1:=hbn;obtain rfl:b=h.next:=by omega
  rw[aV.add_same]at hm;cases hm;exact .inl hB
 inj2 b b' y y' m1 m2 hb hb' hbn Kw _ _ _ _ _:=by have h1:b<h.next+1:=hbn;have h2:b'<h.next+1:=Kw;omega
theorem Loc.mkSet {ι:aV} {h:H} {w w':World} {D:Nat->Prop} (k:WR ι h w D) {b:Nat} {x0 x:wF} (hb:b<h.next) (hx0:h.get b=some x0) (m:Nm) (hm:ι b=some m) (o:Obj)
 (hsz:w.heap.size<=w'.heap.size) (hold:∀i,i<w.heap.size->i≠m.B->w'.heap[i]? =w.heap[i]?) (ho:w'.heap[m.B]? =some o)
 (hbr:BR ι x o m) (hos:w'.os=w.os) (JU:w'.tape=w.tape) (hout:w'.output=w.output):
 Loc ι h w ι (h.set b x) w' [b]where
 next:=ay _
 Ce _ _:=rfl
 log:=rfl
 ln:=rfl
 kept c hc hn:=by
  have:c≠b:=by simpa using hn
  rw[H.Ph (by have:=k.most;omega) (by have:=k.most;omega),aj this]
 live c hc _:=by
  obtain rfl:c=b:=by simpa using hc
  exact⟨x0,hx0⟩
 size:=hsz
 heap i hi hn:=hold i hi (λe=>hn b (by simp) m hm e.symm)
 new c m' hc e:=by rw[k.fresh c hc]at e;cases e
 os:=hos
 tape:=JU
 out:=hout
 most:=k.most
 fresh:=k.fresh
 blk c y hc hcn hy:=by
  rcases hc with hc|hc
  ·obtain rfl:c=b:=by simpa using hc
   rw[H.Ph (by have:=k.most;omega) (by have:=k.most;omega),au rfl]at hy;cases hy;exact⟨m,o,hm,ho,hbr⟩
  ·have:c<h.next:=hcn;omega
 inj1 c y m' hc hcn:=by have:c<h.next:=hcn;omega
 inj2 c c' y y' m1 m2 hc _ hcn:=by have:c<h.next:=hcn;omega
def Eq2 (P:Program) (t:TypeId):Prop:=∃f0 f1 k0 k1,P.underlying t=some (.struct #[f0,f1])/\P.underlying f0.type=some (.int k0)/\P.underlying f1.type=some (.int k1)/\
 f0.offset=0/\f1.offset=1/\f0.name≠ "_" /\f1.name≠ "_" /\P.stoodInHeld t=false/\P.eqGuardType P.depth t=false
theorem ak {a b:Bool} (h:aA a b=true):a=true/\b=true:=by cases a<;>first|(cases h;done)|exact⟨rfl,h⟩
theorem vN {b:Bool} (h:(Bool.rec true false b:Bool)=true):b=false:=by cases b<;>first|rfl|cases h
theorem Ky {P:Program} {t:TypeId} (h:intTy P t=true):∃k,P.underlying t=some (.int k):=by
 unfold intTy at h;split at h;·rename_i k hk;exact⟨k,hk⟩
 ·cases h
theorem UJ {P:Program} {t:TypeId} (h:UG P t=true):Eq2 P t:=by
 unfold UG at h;split at h
 ·rename_i fs hd;split at h
  ·rename_i f0 f1 hl;obtain rfl:fs=#[f0,f1]:=by cases fs;simp only at hl;rw[hl]
   obtain⟨h0,h⟩:=ak h;obtain⟨h1,h⟩:=ak h;obtain⟨h2,h⟩:=ak h;obtain⟨h3,h⟩:=ak h;obtain⟨h4,h⟩:=ak h;obtain⟨h5,h⟩:=ak h;obtain⟨h6,h7⟩:=ak h;obtain⟨k0,h0⟩:=Ky h0;obtain⟨k1,h1⟩:=Ky h1;exact⟨f0,f1,k0,k1,hd,h0,h1,aI h2,aI h3,(λc=>by have q:=vN h4;rw[c]at q;cases q),(λc=>by have q:=vN h5;rw[c]at q;cases q),vN h6,vN h7⟩
  ·cases h
 ·cases h
structure jP (P:Program) (g:G):Prop where
 ty:∀t y,g.ty t=some y->P.underlying t=some y.desc/\y.agg=isAggD y.desc/\
  ∃i z,P.info? t=some i/\i.size=y.size/\i.bytes=y.bytes/\i.zero=some z/\y.zero=tQ z.cells.toList/\z.cells.size=y.size/\y.zv=ofV z
 fn:∀f x,g.fn f=some x->∃fn,P.funcs[f]? =some fn/\fn.body=some x.body/\fn.ntmps=x.nt/\fn.results.toList=x.res
 eq2:∀t,g.eq2 t=true->Eq2 P t
 pU:∀t s f,g.pU t s=some f->zK P t s=some f
theorem Gb:∀l:List Value,llen (tQ l)=l.length
 |[]=>rfl
 |_::r=>fJ Nat.succ (Gb r)
theorem mR (P:Program) (ext:Nat->Nat) (iK:Nat->AV->H->Option bB):jP P (dL P ext iK)where
 ty t y h:=by
  simp only[dL,ad9]at h;split at h
  ·rename_i i d hi hd;split at h
   ·rename_i z hz;split at h
    ·rename_i hn;have hn:=aI hn;rw[Gb]at hn;cases h;exact⟨hd,rfl,i,z,hi,rfl,rfl,hz,rfl,by simpa using hn,rfl⟩
    ·cases h
   ·cases h
  ·cases h
 fn f x h:=by
  simp only[dL,fnOf]at h;split at h
  ·rename_i fn hf;split at h
   ·rename_i b hb;cases h;exact⟨fn,hf,hb,rfl,rfl⟩
   ·cases h
  ·cases h
 eq2 t h:=UJ h
 pU _ _ _ h:=h
theorem ahD (P:Program) (ext:Nat->Nat):jP P (gOf P ext):=mR P ext _
section
variable {P:Program}
theorem aB {t:TypeId} {d:TypeDesc} (h:P.underlying t=some d) (w:World):(underlying t).run P w= .ok d w:=by simp[underlying,h]
theorem qV {t:TypeId} {i:TypeInfo} (h:P.info? t=some i) (w:World):(typeInfo t).run P w= .ok i w:=by simp[typeInfo,h]
theorem dz {t:TypeId} {i:TypeInfo} (h:P.info? t=some i) (w:World):(sizeOf t).run P w= .ok i.size w:=by simp[sizeOf,qV h]
theorem zN {t:TypeId} {d:TypeDesc} (h:P.underlying t=some d) (w:World):(isAgg t).run P w= .ok (isAggD d) w:=by simp only[isAgg,Sem.run_bind,aB h,Result.andThen_ok];cases d<;>rfl
theorem lq {t:TypeId} {i:TypeInfo} {z:Value} (h:P.info? t=some i) (hz:i.zero=some z) (w:World):(zeroValue t).run P w= .ok z w:=by simp[zeroValue,qV h,hz]
end
theorem Pj (ι:aV) (v:Value):VR ι (TL v) v:=by unfold TL;split<;>first|rfl|exact⟨_,rfl,rfl⟩|exact trivial
theorem mK (ι:aV):∀l:List Value,fQ ι (tQ l) l
 |[]=>rfl
 |v::r=>⟨v,r,rfl,Pj ι v,mK ι r⟩
theorem SX (ι:aV) (v:Value):VR ι (ofV v) v:=by
 unfold ofV;split;·exact⟨_,rfl,mK ι _⟩
 ·exact⟨_,rfl,mK ι _⟩
 ·exact Pj ι _
def GI (ι:aV):Prop:=∀g,g<64->∃cs,ι g=some ⟨g,0,cs⟩
theorem GI.mono {ι ι':aV} (h:ι.le ι') (k:GI ι):GI ι':=λg hg=>let⟨cs,e⟩:=k g hg;⟨cs,h _ _ e⟩
theorem aX {ι:aV} {n:Nat} {en:Env} {a:Go.Act} (hE:fU ι n en a.tmps) (hG:GI ι) (x:Operand) (hx:aC n x=true):VR ι ((ev x).f en) (a.eval x):=by
 cases x with
 |tmp t=>exact hE.at_ t (by have:=hx;simp[aC,Nat.blt]at this;omega)
 |const v=>exact SX ι v
 |global g=>obtain⟨cs,h⟩:=hG g (by have:=hx;simp[aC,Nat.blt]at this;omega);exact⟨_,h,rfl⟩
 |func f=>exact .inl ⟨#[],#[],rfl,rfl,rfl⟩
theorem vB {ι:aV} {n:Nat} {en:Env} {a:Go.Act} (hE:fU ι n en a.tmps) (hG:GI ι):∀(l:List Operand),l.all (aC n)=true->fQ ι ((opsL l).f en) (l.map a.eval)
 |[],_=>rfl
 |x::r,h=>by simp only[uX,aQ]at h;exact⟨_,_,rfl,aX hE hG x h.1,vB hE hG r h.2⟩
theorem xV {w:World} {b:Nat} {arr:Array Value} {el:TypeId} {fr:Nat×Nat} (h:w.heap[b]? =some (.cells arr el fr)) (off:Nat):w.cell? ⟨b,off,none⟩=arr[off]? :=by simp[World.cell?,h]
theorem addr_add (b off n:Nat):(⟨b,off,none⟩:Addr).add n=⟨b,off+n,none⟩:=by
 unfold Addr.add;split;·rename_i h;subst h;rfl
 ·rfl
theorem AX {P:Program} {w:World} {b:Nat} {arr:Array Value} {el:TypeId} {fr:Nat×Nat} (h:w.heap[b]? =some (.cells arr el fr)) {off:Nat} (hoff:off<arr.size):
 (load ⟨b,off,none⟩).run P w= .ok (arr.getD off undef) w:=by
 rw[run_load,xV h,l6 hoff];simp[Array.getD,hoff]
theorem eU {P:Program} {w:World} {b:Nat} {arr:Array Value} {el:TypeId} {fr:Nat×Nat} (h:w.heap[b]? =some (.cells arr el fr)) {off n:Nat} (hoff:off+n<=arr.size):
 (loadCells ⟨b,off,none⟩ n).run P w= .ok (((List.range n).map λj=>arr.getD (off+j) undef).toArray) w:=by
 refine run_loadCells w _ n (λj=>arr.getD (off+j) undef) λj hj=> ?_;rw[addr_add,xV h,l6 (by omega)];simp[Array.getD,show off+j<arr.size by omega]
def nY (arr:Array Value) (o:Nat):List Value->Array Value
 |[]=>arr
 |v::r=>nY (arr.setIfInBounds o v) (o+1) r
theorem ny (o:Nat):∀(l:List Value) (arr:Array Value),(nY arr o l).size=arr.size:=by
 intro l;induction l generalizing o with
 |nil=>intro arr;rfl
 |cons v r ih=>intro arr;simp[nY,ih]
theorem qg (o i:Nat):∀(l:List Value) (arr:Array Value),i<arr.size->(nY arr o l).getD i undef=if o<=i/\i<o+l.length then l.getD (i-o) undef else arr.getD i undef:=by
 intro l;induction l generalizing o with
 |nil=>intro arr _;rw[aj (by simp)];rfl
 |cons v r ih=>
  intro arr hi;rw[nY,ih (o+1) _ (by simpa using hi)];by_cases h1:o=i;·subst h1;rw[aj (by omega),au (by simp)];simp[Array.getD,hi]
  ·by_cases h2:o+1<=i/\i<o+1+r.length
   ·rw[au h2,au (by simp;omega)];obtain⟨k,rfl⟩:∃k,i=o+1+k:=⟨i-(o+1),by omega⟩
    rw[show o+1+k-(o+1)=k by omega,show o+1+k-o=k+1 by omega];simp
   ·rw[aj h2,aj (by simp;omega)];rw[gJ,jF h1,gJ]
def World.putCells (w:World) (b:Nat) (arr:Array Value) (el:TypeId) (fr:Nat×Nat):World:={w with heap:=w.heap.setIfInBounds b (.cells arr el fr)}
theorem Mc {w:World} {b:Nat} {arr:Array Value} {el:TypeId} {fr:Nat×Nat} (h:w.heap[b]? =some (.cells arr el fr)) (off:Nat) (v:Value):
 w.setCell ⟨b,off,none⟩ v=World.putCells w b (arr.setIfInBounds off v) el fr:=by
 unfold World.setCell World.putCells;congr 1;apply Array.ext_getElem?;intro i;have hlt:b<w.heap.size:=(dM.1 h).1;by_cases hi:b=i;·subst hi;rw[uZ,au rfl,h];simp[hlt]
 ·rw[jF hi,uZ,aj hi]
theorem fF {w:World} {b:Nat} {arr:Array Value} {el:TypeId} {fr:Nat×Nat} (hb:b<w.heap.size):(World.putCells w b arr el fr).heap[b]? =some (.cells arr el fr):=by simp[World.putCells,hb]
theorem G9 {w:World} {b:Nat} {arr arr':Array Value} {el iV:TypeId} {fr fr':Nat×Nat}:World.putCells (World.putCells w b arr el fr) b arr' iV fr'=World.putCells w b arr' iV fr':=by simp[World.putCells]
theorem wJ {w:World} {b:Nat} {arr:Array Value} {el:TypeId} {fr:Nat×Nat} (h:w.heap[b]? =some (.cells arr el fr)):World.putCells w b arr el fr=w:=by
 have hlt:b<w.heap.size:=(dM.1 h).1;have:w.heap.setIfInBounds b (.cells arr el fr)=w.heap:=by
  apply Array.ext_getElem?;intro i;by_cases hi:b=i;·subst hi;rw[h];simp[hlt]
  ·rw[jF hi]
 unfold World.putCells;rw[this]
