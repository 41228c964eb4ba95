/- The abstract machine, fourth part: regions, code, calls. -/
import Derived.Test.YtocaiijbhepnnaaGreatDoorAm3
import Derived.KernelRfl
import Derived.Laws.Cells
namespace Go.Proofs.YtocaiijbhepnnaaGreatDoor.Am
noncomputable section
inductive Df where
 |call (f:Nat) (args:AV)
 |coll (b:Nat)
inductive XR where
 |fail
 |norm (en:Env) (h:H) (df:List Df)
 |ret (en:Env) (h:H) (df:List Df)
 |ext (i:Nat) (en:Env) (h:H) (df:List Df)
 |got (l:Nat) (en:Env) (h:H) (df:List Df)
structure Cx where
 call:Nat->AV->H->bF
 wG:Nat->AV->H->bF
 fuel:Nat
 rd:Option Nat
 pU:Nat->Str->Option Nat
structure K where
 k:Cx->Env->H->List Df->XR
def abQ (a:AV):Bool:=
 match a with
 | .nil=>true
 | .cons _ _=>true
 |_=>false
def apply(cx:Cx) (f args:AV) (h:H):bF:=
 match f with
 | .fn f a c=>(match a with
   | .sG t x=>(match c with
     | .str s=>(match cx.pU t s with
       |some f'=>cx.call f' (.cons x args) h
       |none=> .fail)
     |_=> .fail)
   | .nil=>cx.call f (kZ args c) h
   | .cons x r=>cx.call f (.cons x (kZ r (kZ args c))) h
   |_=> .fail)
 | .wG l=>cx.wG l args h
 |_=> .fail
def onR (k:AV->H->XR) (r:bF):XR:=bF.rec (motive:=λ_=>XR) .fail k r
def ab3 (p:PS) (a:Act) (ih:K):K:=⟨λcx en h df=>onR (λv h'=>ih.k cx (p.f v en) h' df) (a.f en h)⟩
def ab4 (a:Act) (ih:K):K:=⟨λcx en h df=>onR (λ_ h'=>ih.k cx en h' df) (a.f en h)⟩
def ae2 (p:PS) (f as:EV) (ih:K):K:=⟨λcx en h df=>onR (λv h'=>ih.k cx (p.f v en) h' df) (apply cx (f.f en) (as.f en) h)⟩
def ab5 (p:PS) (f as:EV) (ih:K):K:=⟨λcx en h df=>
 match cx.rd,f.f en with
 |none, .fn g a c=>(match abQ a with
  |false=> .fail
  |true=>ih.k cx (p.f (.fV .nil) en) h (.call g (kZ a (kZ (as.f en) c))::df))
 |_,_=> .fail⟩
def ai8 (p:PS) (ih:K):K:=⟨λcx en h df=>
 match cx.rd with
 |none=>ih.k cx (p.f .qd en) h df
 |some _=> .fail⟩
def KM (w:Bool) (v:AV):OB:=
 match v with
 | .bool b=>Bool.rec .f .t (FU b w)
 | .fV _=> .f
 |_=> .none
def ab6 (gp:EV) (w:Bool) (p:PS) (body:K->K) (ih:K):K:=⟨λcx en h df=>
 OB.rec (motive:=λ_=>XR) .fail (ih.k cx (p.f (.fV .nil) en) h df) ((body ih).k cx en h df) (KM w (gp.f en))⟩
def failK:K:=⟨λ_ _ _ _=> .fail⟩
def pN:PS:=⟨λ_ e=>e⟩
def pO (d:Option Tmp):PS:=Option.rec (motive:=λ_=>PS) pN pT d
inductive OpK where
 |plain (a:Act)
 |call (f:EV) (args:List Operand)
 |defer (f:Operand) (args:List Operand)
 |recover
def UQ (x:AV) (s:Str):AV:=
 match x with
 | .sG t v=> .fn (nat_lit 0) (.sG t v) (.str s)
 |_=> .bad
def aeC (r:Operand) (s:Str):EV:=⟨λen=>UQ ((ev r).f en) s⟩
def oH (g:G) (o:Op):OpK:=
 match o with
 | .call c=>match c.callee with
   | .value f=> .call (ev f) c.args.toList
   | .invoke r nm=> .call (aeC r (Str.of nm.toUTF8)) c.args.toList
   | .builtin .recover=> .recover
   |_=> .plain (F4 g (.call c))
 | .defer c=>match c.callee with
   | .value f=> .defer f c.args.toList
   |_=> .plain failA
 |o=> .plain (F4 g o)
def qp (d:Option Tmp) (k:OpK):K->K:=
 match k with
 | .plain a=>(match d with
   |some t=>ab3 (pT t) a
   |none=>ab4 a)
 | .call f as=>ae2 (pO d) f (opsL as)
 | .defer f as=>ab5 (pO d) (ev f) (opsL as)
 | .recover=>ai8 (pO d)
def yN (ops:List Oper) (j:Nat):Option Tmp:=
 match ops[j]? with
 |some o=>o.dst
 |none=>none
def Nw (g:G) (ops:List Oper) (o:Oper):K->K:=
 match o.guard with
 |none=>qp o.dst (oH g o.op)
 |some (j,w)=>(match yN ops j with
  |some t=>ab6 (gT t) w (pO o.dst) (qp o.dst (oH g o.op))
  |none=>λ_=>failK)
def Gp:K:=⟨λ_=> .norm⟩
def aeD (g:G) (ops:List Oper):List Oper->K:=List.rec (motive:=λ_=>K) Gp (λo _ ih=>Nw g ops o ih)
def aS (v:AV):List Nat:=
 match v with
 | .ptr b _=>[b]
 | .slice b _ _ _ _=>[b]
 | .map b=>[b]
 |_=>[]
def blks (l:List Operand) (en:Env):List Nat:=List.rec (motive:=λ_=>List Nat) [] (λo _ ih=>List.append (aS ((ev o).f en)) ih) l
def sI (o:Op):Option (Env->List Nat):=
 match o with
 | .load _ a=>some λen=>aS ((ev a).f en)
 | .store _ a _=>some λen=>aS ((ev a).f en)
 | .lookup _ m _ _=>some λen=>aS ((ev m).f en)
 | .mapUpdate _ m _ _=>some λen=>aS ((ev m).f en)
 | .insert _ m _ _=>some λen=>aS ((ev m).f en)
 | .mapEntry _ m _=>some λen=>aS ((ev m).f en)
 | .entryStore _ m _ _=>some λen=>aS ((ev m).f en)
 | .next i _=>some λen=>aS ((ev i).f en)
 | .convert _ _ x=>some λen=>aS ((ev x).f en)
 | .slice _ x _ _ _=>some λen=>aS ((ev x).f en)
 | .call c=>match c.callee with
   | .builtin _=>some λen=>blks c.args.toList en
   |_=>none
 | .defer _=>none
 |_=>some λ_=>[]
structure DO where
 step:K->K
 acc:Option (Env->List Nat)
 gd:Option (EV×Bool)
 p:PS
 dn:Nat
 rs:List Nat
 es:List Nat
 ok:Bool
structure Rc where
 i:Nat
 call:Bool
 acc:List Nat
 wrt:List Nat
 lo:Nat
 hi:Nat
def yO (x:Nat):List Nat->Bool:=List.rec (motive:=λ_=>Bool) false (λy _ ih=>Bool.rec ih true (Nat.beq x y))
def NH (a b:List Nat):Bool:=List.rec (motive:=λ_=>Bool) true (λx _ ih=>Bool.rec ih false (yO x b)) a
def xq (lo hi:Nat) (a:List Nat):Bool:=List.rec (motive:=λ_=>Bool) true (λx _ ih=>Bool.rec ih (Bool.rec false ih (Nat.ble hi x)) (Nat.ble lo x)) a
def Ef (a:List Nat):Bool:=List.rec (motive:=λ_=>Bool) true (λ_ _ _=>false) a
def compat (k i:Rc):Bool:=
 match k.call,i.call with
 |false,false=>aA (NH k.wrt i.acc) (aA (NH i.wrt k.acc) (xq k.lo k.hi i.acc))
 |true,false=>aA (NH k.wrt i.acc) (aA (Ef i.wrt) (xq k.lo k.hi i.acc))
 |false,true=>aA (Ef k.wrt) (aA (NH i.wrt k.acc) (Nat.beq k.lo k.hi))
 |true,true=>false
def rE (pm:Nat) (i:Rc):List Rc->Bool:=List.rec (motive:=λ_=>Bool) true (λk _ ih=>Bool.rec false ih (Bool.rec (compat k i) true (Nat.testBit pm k.i)))
def below (lo:Nat):Nat->List Nat->List Nat:=
 Nat.rec (motive:=λ_=>List Nat->List Nat) (λ_=>[]) (λ_ ih l=>List.rec (motive:=λ_=>List Nat) [] (λx r _=>Bool.rec (ih r) (x::ih r) (Nat.ble (Nat.succ x) lo)) l)
def quiet (r:Rc):Bool:=aA (Bool.rec true false r.call) (aA (Ef r.acc) (aA (Ef r.wrt) (Nat.beq r.lo r.hi)))
def VA (o:DO) (i:Nat) (en:Env) (h h':H):Rc:=
 match o.acc with
 |some f=>⟨i,false,List.append (f en) (below h.next (Nat.sub h'.ln h.ln) h'.log),below h.next (Nat.sub h'.ln h.ln) h'.log,h.next,h'.next⟩
 |none=>⟨i,true,[],below h.next (Nat.sub h'.ln h.ln) h'.log,h.next,h'.next⟩
def doneD (o:DO) (i pm:Nat) (en:Env) (h:H) (rs:List Rc) (k:List Rc->Env->H->List Df->XR) (en':Env) (h':H) (j6:List Df):XR:=
 match rE pm (VA o i en h h') rs with
 |true=>k (match quiet (VA o i en h h')with|true=>rs|false=>VA o i en h h'::rs) en' h' j6
 |false=> .fail
def PI (cx:Cx) (o:DO) (i pm:Nat) (en:Env) (h:H) (df:List Df) (rs:List Rc) (k:List Rc->Env->H->List Df->XR):XR:=
 match(match o.gd with|none=>OB.t|some (f,w)=>KM w (f.f en))with
 | .t=>(o.step ⟨λ_ en' h' j6=>doneD o i pm en h rs k en' h' j6⟩).k cx en h df
 | .f=>k rs (o.p.f (.fV .nil) en) h df
 | .none=> .fail
def gI:List Nat->Nat->Nat:=List.rec (motive:=λ_=>Nat->Nat) (λ_=>nat_lit 0) (λx _ ih i=>Bool.rec (ih (Nat.pred i)) x (Nat.beq i (nat_lit 0)))
def nV (ms:List Nat):List Nat->Nat:=List.rec (motive:=λ_=>Nat) (nat_lit 0) (λe _ ih=>Nat.lor (Nat.lor (Nat.pow (nat_lit 2) e) (gI ms e)) ih)
def masks (ms:List Nat):List DO->List Nat:=λl=>
 List.rec (motive:=λ_=>List Nat->List Nat) (λms=>ms) (λo _ ih ms=>sN (nV ms o.es) λm=>ih (List.append ms [m])) l ms
def uf (a b:DO):Bool:=
 aA (Bool.rec (aA (Bool.rec true false (yO a.dn b.rs)) (Bool.rec true false (Nat.beq a.dn b.dn))) true (Nat.beq a.dn (nat_lit 0)))
  (Bool.rec (Bool.rec true false (yO b.dn a.rs)) true (Nat.beq b.dn (nat_lit 0)))
def nW (o:DO) (pm:Nat):List DO->Nat->Bool:=List.rec (motive:=λ_=>Nat->Bool) (λ_=>true)
 (λk _ ih i=>Bool.rec false (ih (Nat.succ i)) (Bool.rec (uf k o) true (Nat.testBit pm i)))
def Gz (i:Nat):List Nat->Bool:=List.rec (motive:=λ_=>Bool) true (λe _ ih=>Bool.rec false ih (Nat.ble (Nat.succ e) i))
def okD (ms:List Nat):List DO->Nat->List DO->Bool:=
 List.rec (motive:=λ_=>Nat->List DO->Bool) (λ_ _=>true)
  (λo _ ih i ahead=>aA o.ok (aA (nW o (gI ms i) ahead (nat_lit 0)) (aA (Gz i o.es) (ih (Nat.succ i) (List.append ahead [o])))))
def XM (ms:List Nat) (cx:Cx):List DO->Nat->List Rc->Env->H->List Df->XR:=
 List.rec (motive:=λ_=>Nat->List Rc->Env->H->List Df->XR) (λ_ _ en h df=> .norm en h df)
  (λo _ ih i rs en h df=>PI cx o i (gI ms i) en h df rs (ih (Nat.succ i)))
def slot (o:Operand):List Nat:=
 match o with
 | .tmp t=>[Nat.succ t]
 |_=>[]
def slots (l:List Operand):List Nat:=List.rec (motive:=λ_=>List Nat) [] (λo _ ih=>List.append (slot o) ih) l
def sZ (o:Oper):Nat:=
 match o.dst with
 |some d=>Nat.succ d
 |none=>nat_lit 0
def vD (ops:List Oper) (o:Oper):List Nat:=
 match o.guard with
 |some (j,_)=>match ops[j]? with
  |some x=>[sZ x]
  |none=>[]
 |none=>[]
def lW (o:Oper):List Nat:=(o.after.toList.filter (Region.binds .any)).map (·.on)
def rG (k:OpK):Bool:=
 match k with
 | .plain _=>true
 | .call _ _=>true
 |_=>false
def kr (g:G) (ops:List Oper) (o:Oper):DO:=
 {step:=qp o.dst (oH g o.op),acc:=sI o.op
  gd:=match o.guard with|none=>none|some (j,w)=>some (match yN ops j with|some t=>gT t|none=>⟨λ_=> .bad⟩,w)
  p:=pO o.dst,dn:=sZ o,rs:=List.append (vD ops o) (slots o.op.operands.toList),es:=lW o,ok:=rG (oH g o.op)}
def ae3 (ds:List DO):K:=
 match okD (masks [] ds) ds (nat_lit 0) []with
 |true=>⟨λcx en h df=>XM (masks [] ds) cx ds (nat_lit 0) [] en h df⟩
 |false=>failK
def CS (g:G) (ops:List Oper) (draw:Bool):K:=
 match draw with
 |false=>aeD g ops ops
 |true=>ae3 (ops.map (kr g ops))
def Yz (a b:K):K:=⟨λcx en h df=>XR.rec (motive:=λ_=>XR) .fail (b.k cx) .ret .ext .got (a.k cx en h df)⟩
def aaE (c:EV) (a b:K):K:=⟨λcx en h df=>OB.rec (motive:=λ_=>XR) .fail (b.k cx en h df) (a.k cx en h df) (toB (c.f en))⟩
def leave (i j:Nat) (en:Env) (h:H) (df:List Df):XR:=Bool.rec (.ext j en h df) (.norm en h df) (Nat.beq j i)
def UJ (i:Nat) (a:K):K:=⟨λcx en h df=>XR.rec (motive:=λ_=>XR) .fail .norm .ret (leave i) .got (a.k cx en h df)⟩
def aaG (a:K):K:=⟨λcx=>Nat.rec (motive:=λ_=>Env->H->List Df->XR) (λ_ _ _=> .fail)
 (λ_ ih en h df=>XR.rec (motive:=λ_=>XR) .fail ih .ret .ext .got (a.k cx en h df)) cx.fuel⟩
def UN (a b:Nat->Option K) (kb:K):Nat->Option K:=λl=>match a l with
 |some r=>some (Yz r kb)
 |none=>b l
def UL (a:K) (lk:Nat->Option K):K:=⟨λcx=>Nat.rec (motive:=λ_=>K->Env->H->List Df->XR) (λ_ _ _ _=> .fail)
 (λ_ ih k en h df=>XR.rec (motive:=λ_=>XR) .fail .norm .ret .ext
  (λl en' h' j6=>match lk l with
   |some r=>ih r en' h' j6
   |none=> .got l en' h' j6) (k.k cx en h df)) cx.fuel a⟩
def NA (c:Option Code) (en:Env) (h:H) (df:List Df):XR:=
 match c with
 |none=> .norm en h df
 |some .ret=> .ret en h df
 |some (.exit i)=> .ext i en h df
 |some (.goto l)=> .got l en h df
 |some _=> .fail
def Jh (f:EV) (ps:List Tmp) (assign body:Code):K:=⟨λcx en h0 df0=>
 let fin (l:Nat) (df:List Df) (h:H):XR:=match apply cx (f.f en) (.cons (.wG l) .nil) h with
  | .ok _ h'=>(match h'.get l with
    |some (.loop st pend fn env ps' as bo dd)=>(match st with
     | .busy=> .fail
     |_=>NA pend en (h'.set l (.loop .exhausted pend fn env ps' as bo dd)) df)
    |_=> .fail)
  | .fail=> .fail
 match cx.rd with
 |none=>(match Nat.ble (Nat.succ (Nat.succ h0.next)) (nat_lit 65536)with
  |true=>fin (Nat.succ h0.next) (.coll h0.next::df0) ((h0.new .uZ).new (.loop .ready none (nat_lit 0) en ps assign body h0.next))
  |false=> .fail)
 |some l0=>(match h0.room,h0.get l0 with
  |true,some (.loop _ _ _ _ _ _ _ dd)=>fin h0.next df0 (h0.new (.loop .ready none (nat_lit 0) en ps assign body dd))
  |_,_=> .fail)⟩
structure CK where
 k:K
 lk:Nat->Option K
def Ck:Nat->Option K:=λ_=>none
def XL (g:G):Code->CK:=Code.rec (motive:=λ_=>CK)
 ⟨Gp,Ck⟩
 (λ_ ops draw=>⟨CS g ops.toList draw,Ck⟩)
 (λ_ _ a b=>⟨Yz a.k b.k,UN a.lk b.lk b.k⟩)
 (λc _ _ a b=>⟨aaE (ev c) a.k b.k,Ck⟩)
 (λi _ a=>⟨UJ i a.k,Ck⟩)
 (λ_ a=>⟨aaG a.k,Ck⟩)
 (λf ps as bo _ _=>⟨Jh (ev f) ps.toList as bo,Ck⟩)
 (λi=>⟨⟨λ_=> .ext i⟩,Ck⟩)
 (λ_ a=>⟨UL a.k a.lk,Ck⟩)
 (λl=>⟨Gp,λl'=>match Nat.beq l l' with|true=>some Gp|false=>none⟩)
 (λl=>⟨⟨λ_=> .got l⟩,Ck⟩)
 ⟨⟨λ_=> .ret⟩,Ck⟩
 (λ_=>⟨failK,Ck⟩)
def Gw:AV->Nat->Env->Env:=DU (λ_ t=>t) (λv _ ih i t=>ih (Nat.succ i) ((pT i).f v t))
def D9 (cx:Cx):List Df->H->Option H:=List.rec (motive:=λ_=>H->Option H) some
 (λd _ ih h=>match d with
  | .call f a=>(match cx.call f a h with
    | .ok _ h'=>ih h'
    | .fail=>none)
  | .coll b=>(match h.get b with
    |some .uZ=>ih (h.set b .taken)
    |_=>none))
def KO (g:G) (r:ResultVar) (en:Env) (h:H):AV:=
 match r with
 | .tmp t=>(gT t).f en
 | .cell a t=>match g.ty t with
   |some y=>(match(qg y.agg y.size).f ((gT a).f en) h with
    | .ok v _=>v
    | .fail=> .bad)
   |none=> .bad
def UU (g:G) (en:Env) (h:H):List ResultVar->AV:=List.rec (motive:=λ_=>AV) .nil (λr _ ih=> .cons (KO g r en h) ih)
def ko (g:G) (en:Env) (h:H):List ResultVar->Bool:=List.rec (motive:=λ_=>Bool) true (λr _ ih=>match r with
 | .tmp _=>ih
 | .cell a t=>match g.ty t with
   |some y=>(match(qg y.agg y.size).f ((gT a).f en) h with
    | .ok _ _=>ih
    | .fail=>false)
   |none=>false)
def Gu (g:G) (rs:List ResultVar) (en:Env) (h:H):bF:=
 match rs with
 |[r]=>sU (KO g r en h) h
 |rs=>match ko g en h rs with
  |true=> .ok (.fV (UU g en h rs)) h
  |false=> .fail
def enter (g:G) (cx:Cx) (fn:Fn) (args:AV) (h:H):bF:=
 let fin (en:Env) (h:H) (df:List Df):bF:=match D9 cx df h with
  |some h'=>Gu g fn.res en h'
  |none=> .fail
 match Nat.ble (llen args) fn.nt,(XL g fn.body).k.k cx (Gw args (nat_lit 0) NG) h []with
 |true, .norm en h df=>fin en h df
 |true, .ret en h df=>fin en h df
 |_,_=> .fail
def aeT (s:Str) (c:Nat):Nat->Nat->Nat:=λn i=>
 Nat.rec (motive:=λ_=>Nat->Nat->Nat) (λ_ a=>a) (λ_ ih i a=>sN (Bool.rec a (Nat.succ a) (Nat.beq (s.byte i) c)) λa'=>ih (Nat.succ i) a') n i (nat_lit 0)
def aeU (s:Str) (c:Nat):Nat->Nat->Int:=λn i=>
 Nat.rec (motive:=λ_=>Nat->Int) (λ_=> .negSucc (nat_lit 0)) (λ_ ih i=>Bool.rec (ih (Nat.succ i)) (.ofNat i) (Nat.beq (s.byte i) c)) n i
def U0 (kind:Nat) (args:AV) (h:H):bF:=
 match kind,args with
 |1, .cons (.str s) (.cons (.int .u8 (.ofNat c)) .nil)=>Bool.rec .fail (.ok (.int .i64 (.ofNat (aeT s c s.len (nat_lit 0)))) h) (Nat.ble c (nat_lit 255))
 |2, .cons (.str s) (.cons (.int .u8 (.ofNat c)) .nil)=>Bool.rec .fail (frc (aeU s c s.len (nat_lit 0)) λn=> .ok (.int .i64 n) h) (Nat.ble c (nat_lit 255))
 |3, .cons v .nil=> .ok v h
 |k, .cons (.int .i64 (.ofNat n)) .nil=>match Nat.ble (nat_lit 16) k,Nat.ble n fM,h.room with
  |true,true,true=> .ok (.slice h.next (nat_lit 0) n (nat_lit 1) false) (h.new (.cells (Nat.add (Nat.sub k (nat_lit 16)) (nat_lit 2000000)) true (nat_lit 0) (nat_lit 0) (FN (nat_lit 0) .nil)))
  |_,_,_=> .fail
 |_,_=> .fail
structure Rn where
 call:Nat->AV->H->bF
 wG:Nat->AV->H->bF
def params (ps:List Tmp):AV->Env->Env:=List.rec (motive:=λ_=>AV->Env->Env) (λ_ t=>t) (λp _ ih a t=>ih (Gc a (nat_lit 1)) ((pT p).f (Ch a (nat_lit 0)) t)) ps
def begun (g:G) (cx:Cx) (l:Nat) (args:AV) (h:H):bF:=
 match h.get l with
 |some (.loop _ _ _ env ps as bo _)=>match Nat.beq (llen args) ps.length with
  |true=>(match(XL g as).k.k {cx with rd:=some l} (params ps args env) h []with
   | .norm oW h1 []=>(match h1.get l with
     |some (.loop .ready pend fn env' ps' as' Kg dd)=>
      let fin (jump:Option Code) (st:LoopState) (b:Bool) (h2:H):bF:=(match h2.get l with
       |some (.loop _ _ fn2 abU ps2 as2 bo2 dd2)=> .ok (.bool b) (h2.set l (.loop st jump fn2 abU ps2 as2 bo2 dd2))
       |_=> .fail)
      (match(XL g bo).k.k {cx with rd:=some l} oW (h1.set l (.loop .busy pend fn env' ps' as' Kg dd)) []with
       | .norm _ h2 _=>fin none .ready true h2
       | .ret _ h2 _=>fin (some .ret) .done false h2
       | .ext i _ h2 _=>fin (some (.exit i)) .done false h2
       | .got l' _ h2 _=>fin (some (.goto l')) .done false h2
       | .fail=> .fail)
     |_=> .fail)
   |_=> .fail)
  |false=> .fail
 |_=> .fail
def run (g:G):Nat->Rn:=Nat.rec (motive:=λ_=>Rn) ⟨λ_ _ _=> .fail,λ_ _ _=> .fail⟩
 (λn ih=>⟨λf args h=>(match g.iP f args h with
  |some r=>r
  |none=>(match g.fn f with
   |some fn=>enter g ⟨ih.call,ih.wG,n,none,g.pU⟩ fn args h
   |none=>U0 (g.ext f) args h)),
  λl args h=>begun g ⟨ih.call,ih.wG,n,none,g.pU⟩ l args h⟩)
end
noncomputable section
def isAggD:TypeDesc->Bool
 | .struct _=>true
 | .array _ _=>true
 |_=>false
def ae4 (p:Program) (t:Nat):Option Ty:=
 match p.info? t,p.underlying t with
 |some i,some d=>match i.zero with
  |some z=>match Nat.beq (llen (tT z.cells.toList)) i.size with
   |true=>some ⟨d,i.size,i.bytes,isAggD d,tT z.cells.toList,ofV z⟩
   |false=>none
  |none=>none
 |_,_=>none
def fnOf (p:Program) (f:Nat):Option Fn:=
 match p.funcs[f]? with
 |some fn=>match fn.body with
  |some b=>some ⟨fn.ntmps,b,fn.results.toList⟩
  |none=>none
 |none=>none
def intTy (p:Program) (t:Nat):Bool:=
 match p.underlying t with
 |some (.int _)=>true
 |_=>false
def VB (p:Program) (t:Nat):Bool:=
 match p.underlying t with
 |some (.struct fs)=>(match fs.toList with
  |[f0,f1]=>aA (intTy p f0.type) (aA (intTy p f1.type) (aA (Nat.beq f0.offset (nat_lit 0)) (aA (Nat.beq f1.offset (nat_lit 1)) (aA (Bool.rec true false (f0.name== "_")) (aA (Bool.rec true false (f1.name== "_"))
    (aA (Bool.rec true false (p.stoodInHeld t)) (Bool.rec true false (p.eqGuardType p.depth t))))))))
  |_=>false)
 |_=>false
def zX (p:Program) (t:Nat) (s:Str):Option Nat:=
 match p.info? t,p.underlying t with
 |some i,some d=>(match i.methods.find? (λm=>(Str.of m.name.toUTF8).eq s)with
  |some m=>(match m.path.toList,m.func,d with
   |[],some (f,true), .pointer _=>some f
   |[],some (_,false), .pointer _=>none
   |[],some (f,false),_=>some f
   |_,_,_=>none)
  |none=>none)
 |_,_=>none
def bY (p:Program) (ext:Nat->Nat) (iP:Nat->AV->H->Option bF):G:=⟨ae4 p,fnOf p,ext,iP,VB p,zX p⟩
def gOf (p:Program) (ext:Nat->Nat):G:=bY p ext λ_ _ _=>none
end
structure Nm where
 B:Nat
 sh:Nat
 cs:Nat
abbrev aX:=Nat->Option Nm
def R (ι:aX):AV->(Value->Prop)×(List Value->Prop)
 | .bad=>(λ_=>True,λ_=>False)
 | .unk=>(λv=>v.oneCell'=true,λ_=>False)
 | .bool b=>(λv=>v= .bool b,λ_=>False)
 | .int k n=>(λv=>v= .int k n,λ_=>False)
 | .str s=>(λv=>∃b,v= .string b/\s=Str.of b,λ_=>False)
 | .ptr b off=>(λv=>∃m,ι b=some m/\v= .pointer (some ⟨m.B,m.sh+off,none⟩),λ_=>False)
 | .nK=>(λv=>v= .pointer none,λ_=>False)
 | .slice b off len es z=>(λv=>∃m y cap,ι b=some m/\v= .slice (some y) len cap/\len<=cap/\(z=true->cap=0)/\
  (cap=0\/(y=⟨m.B,m.sh+off,none⟩/\m.sh+off+cap*es<=m.cs)),λ_=>False)
 | .jq=>(λv=>v= .slice none 0 0,λ_=>False)
 | .map b=>(λv=>∃m,ι b=some m/\v= .map (some m.B),λ_=>False)
 | .qN=>(λv=>v= .map none,λ_=>False)
 | .fn f a c=>(λv=>(∃xs ys:Array Value,v= .func (.func f) xs ys/\(R ι a).2 xs.toList/\(R ι c).2 ys.toList)\/(∃(y:Value) (nm:String),v= .func (.method nm) #[y] #[]/\(R ι a).1 y/\(R ι c).1 (.string nm.toUTF8)),λ_=>False)
 | .wG l=>(λv=>∃m,ι l=some m/\v= .func (.yield m.B) #[] #[],λ_=>False)
 | .qO=>(λv=>v= .nilFunc,λ_=>False)
 | .sG t x=>(λv=>∃y,v= .iface t y/\(R ι x).1 y,λ_=>False)
 | .qd=>(λv=>v= .nilIface,λ_=>False)
 | .agg cs=>(λv=>∃xs:Array Value,v= .agg xs/\(R ι cs).2 xs.toList,λ_=>False)
 | .fV vs=>(λv=>∃xs:Array Value,v= .tuple xs/\(R ι vs).2 xs.toList,λ_=>False)
 | .nil=>(λ_=>False,λl=>l=[])
 | .cons h t=>(λ_=>False,λl=>∃x xs,l=x::xs/\(R ι h).1 x/\(R ι t).2 xs)
def VR (ι:aX) (a:AV) (v:Value):Prop:=(R ι a).1 v
def gG (ι:aX) (a:AV) (l:List Value):Prop:=(R ι a).2 l
def aX.le (ι ι':aX):Prop:=∀b m,ι b=some m->ι' b=some m
theorem aX.le_refl (ι:aX):ι.le ι:=λ_ _ h=>h
theorem aX.le_trans {ι ι' ι'':aX} (h:ι.le ι') (k:ι'.le ι''):ι.le ι'':=λb m e=>k b m (h b m e)
theorem VD {ι ι':aX} (hle:ι.le ι') (a:AV):(∀v,(R ι a).1 v->(R ι' a).1 v)/\(∀l,(R ι a).2 l->(R ι' a).2 l):=by
 induction a with
 |bad=>exact⟨λ_ _=>trivial,λ_ h=>h⟩
 |unk=>exact⟨λ_ h=>h,λ_ h=>h⟩
 |bool b=>exact⟨λ_ h=>h,λ_ h=>h⟩
 |int k n=>exact⟨λ_ h=>h,λ_ h=>h⟩
 |str s=>exact⟨λ_ h=>h,λ_ h=>h⟩
 |ptr b off=>exact⟨λ_ ⟨m,h,e⟩=>⟨m,hle _ _ h,e⟩,λ_ h=>h⟩
 |nK=>exact⟨λ_ h=>h,λ_ h=>h⟩
 |slice b off len es z=>exact⟨λ_ ⟨m,y,cap,h,r⟩=>⟨m,y,cap,hle _ _ h,r⟩,λ_ h=>h⟩
 |jq=>exact⟨λ_ h=>h,λ_ h=>h⟩
 |map b=>exact⟨λ_ ⟨m,h,e⟩=>⟨m,hle _ _ h,e⟩,λ_ h=>h⟩
 |qN=>exact⟨λ_ h=>h,λ_ h=>h⟩
 |fn f a c iha ihc=>exact⟨λ_ hv=>hv.elim (λ⟨xs,ys,e,h,k⟩=> .inl ⟨xs,ys,e,iha.2 _ h,ihc.2 _ k⟩) (λ⟨y,nm,e,h,k⟩=> .inr ⟨y,nm,e,iha.1 _ h,ihc.1 _ k⟩),λ_ h=>h⟩
 |wG l=>exact⟨λ_ ⟨m,h,e⟩=>⟨m,hle _ _ h,e⟩,λ_ h=>h⟩
 |qO=>exact⟨λ_ h=>h,λ_ h=>h⟩
 |sG t x ih=>exact⟨λ_ ⟨y,e,h⟩=>⟨y,e,ih.1 _ h⟩,λ_ h=>h⟩
 |qd=>exact⟨λ_ h=>h,λ_ h=>h⟩
 |agg cs ih=>exact⟨λ_ ⟨xs,e,h⟩=>⟨xs,e,ih.2 _ h⟩,λ_ h=>h⟩
 |fV cs ih=>exact⟨λ_ ⟨xs,e,h⟩=>⟨xs,e,ih.2 _ h⟩,λ_ h=>h⟩
 |nil=>exact⟨λ_ h=>h,λ_ h=>h⟩
 |cons h t ihh iht=>exact⟨λ_ h=>h,λ_ ⟨x,xs,e,hx,hxs⟩=>⟨x,xs,e,ihh.1 _ hx,iht.2 _ hxs⟩⟩
theorem VR.mono {ι ι':aX} (hle:ι.le ι') {a:AV} {v:Value} (h:VR ι a v):VR ι' a v:=(VD hle a).1 v h
theorem gG.mono {ι ι':aX} (hle:ι.le ι') {a:AV} {l:List Value} (h:gG ι a l):gG ι' a l:=(VD hle a).2 l h
structure gH (ι:aX) (n:Nat) (en:Env) (tmps:Array Value):Prop where
 size:tmps.size=n
 most:n<=256
 at_:∀i,i<n->VR ι ((gT i).f en) (tmps.getD i undef)
 rest:∀i,n<=i->i<256->(gT i).f en= .bad
theorem gH.mono {ι ι':aX} (hle:ι.le ι') {n:Nat} {en:Env} {tmps:Array Value} (h:gH ι n en tmps):gH ι' n en tmps:=
 ⟨h.size,h.most,λi hi=>(h.at_ i hi).mono hle,h.rest⟩
def UD (ι:aX):List Df->List Deferred->Prop
 |[],ds=>ds=[]
 | .call f args::r,ds=>∃(Ak as:Array Value) (ds':List Deferred),ds={target:= .fn (.func f) Ak,args:=as}::ds'/\gG ι args (as.toList++Ak.toList)/\UD ι r ds'
 | .coll b::r,ds=>∃m ds',ι b=some m/\ds={target:= .collected m.B,args:=#[]}::ds'/\UD ι r ds'
theorem UD.mono {ι ι':aX} (hle:ι.le ι'):∀{l:List Df} {ds:List Deferred},UD ι l ds->UD ι' l ds
 |[],_,h=>h
 | .call _ _::_,_,⟨c,as,ds',e,h,k⟩=>⟨c,as,ds',e,h.mono hle,UD.mono hle k⟩
 | .coll _::_,_,⟨m,ds',h,e,k⟩=>⟨m,ds',hle _ _ h,e,UD.mono hle k⟩
def aF (n:Nat):Operand->Bool
 | .tmp t=>Nat.blt t n
 | .global g=>Nat.blt g 64
 |_=>true
def gu (n:Nat) (ops:List Oper) (o:Oper):Bool:=
 (match o.dst with|some d=>Nat.blt d n|none=>true)&&o.op.operands.toList.all (aF n)&&
 (match o.guard with|some (j,_)=>(match ops[j]? with|some x=>(match x.dst with|some d=>Nat.blt d n|none=>false)|none=>false)|none=>true)
def codeOk (n:Nat):Code->Bool
 | .skip| .exit _| .label _| .goto _| .ret| .refuse _=>true
 | .region _ ops _=>ops.toList.all (gu n ops.toList)
 | .seq a b=>codeOk n a&&codeOk n b
 | .cond c a b=>aF n c&&codeOk n a&&codeOk n b
 | .block _ c| .loop c| .scope c=>codeOk n c
 | .rangeFunc f ps a c=>aF n f&&ps.toList.all (Nat.blt · n)&&codeOk n a&&codeOk n c
def bI:List MapEntry->Value->Option MapEntry->Prop
 |[],_,o=>o=none
 |x::r,k,o=>(x.key=k/\o=some x)\/(x.key≠k/\bI r k o)
def LK (kd:IntKind) (es:Array MapEntry) (c lk:Nat):Prop:=
 (∀e∈es.toList,e.born<c)/\∀i:Nat,lk=i+1->∃r e,es.toList=r++[e]/\e.key= .int kd i/\bI r (.int kd i) none/\e.born+1=c/\∀x∈r,x.born+1<c
def BR (ι:aX) (blk:wH) (o:Obj) (m:Nm):Prop:=
 match blk with
 | .cells el ro n d t=>∃arr iY lo hi,o= .cells arr iY (lo,hi)/\arr.size=m.cs/\m.sh+n<=m.cs/\n<=4^d/\
  (∀i,i<n->VR ι (E.get d (path d i) t) (arr.getD (m.sh+i) undef))/\((ro=false->iY=el/\(lo=hi\/m.cs<=lo))/\(12<=d->m.sh=0)/\(ro=true->2000000<=el->iY=el-2000000/\(lo=hi\/hi<=m.sh+n)))
 | .Ag kd n c t lk=>∃es,o= .map es c/\es.size=n/\m.sh=0/\((∀e∈es.toList,∃i:Nat,i<=Gq/\e.key= .int kd (i:Int))/\LK kd es c lk)/\
  (∀i,i<=Gq->match E.get 11 (path 11 i) t with
   |none=>bI es.toList (.int kd i) none
   |some v=>∃e,bI es.toList (.int kd i) (some e)/\VR ι v e.val)
 | .smap n c l=>∃es,o= .map es c/\es.size=n/\m.sh=0/\(∀e∈es.toList,∃s,e.key= .string s)/\
  (∀s,match nM (Str.of s) l with
   |none=>bI es.toList (.string s) none
   |some v=>∃e,bI es.toList (.string s) (some e)/\VR ι v e.val)
 | .iter s pos=>m.sh=0/\∃b,o= .stringIter b pos/\s=Str.of b
 | .loop st pend _ en ps as bo uZ=>∃(r:Loop) (n:Nat) (md:Nm),o= .loop r/\r.state=st/\r.pending=pend/\gH ι n en r.tmps/\r.params.toList=ps/\r.assign=as/\r.body=bo/\
  ι uZ=some md/\r.defers=md.B/\codeOk n as=true/\codeOk n bo=true/\ps.all (Nat.blt · n)=true
 | .uZ=>o= .deferred (some [])
 | .taken=>o= .deferred none
theorem BR.mono {ι ι':aX} (hle:ι.le ι') {blk:wH} {o:Obj} {m:Nm} (h:BR ι blk o m):BR ι' blk o m:=by
 cases blk with
 |cells el ro n d t=>obtain⟨arr,iY,lo,hi,e,h1,h2,h3,h4,h5⟩:=h;exact⟨arr,iY,lo,hi,e,h1,h2,h3,λi hi=>(h4 i hi).mono hle,h5⟩
 |Ag kd n c t lk=>
  obtain⟨es,e,h1,h0,h2,h3⟩:=h;refine⟨es,e,h1,h0,h2,λi hi=> ?_⟩;have:=h3 i hi;split at this;·simp[*]
  ·rename_i v hv;obtain⟨e,he,hv'⟩:=this;exact⟨e,he,hv'.mono hle⟩
 |smap n c l=>
  obtain⟨es,e,h1,h0,h2,h3⟩:=h;refine⟨es,e,h1,h0,h2,λs=> ?_⟩;have:=h3 s;split at this;·simp[*]
  ·rename_i v hv;obtain⟨e,he,hv'⟩:=this;exact⟨e,he,hv'.mono hle⟩
 |iter s pos=>exact h
 |loop st pend fn en ps as bo uZ=>obtain⟨r,n,md,h1,h2,h3,h4,h5,h6,h7,h8,h9⟩:=h;exact⟨r,n,md,h1,h2,h3,h4.mono hle,h5,h6,h7,hle _ _ h8,h9⟩
 |uZ=>exact h
 |taken=>exact h
structure WR (ι:aX) (h:H) (w:World) (D:Nat->Prop:=λ_=>True):Prop where
 most:h.next<=65536
 fresh:∀b,h.next<=b->ι b=none
 blk:∀b x,D b->b<h.next->h.get b=some x->∃m o,ι b=some m/\w.heap[m.B]? =some o/\BR ι x o m
 inj:∀b b' x x' m m',D b->D b'->b<h.next->b'<h.next->h.get b=some x->h.get b'=some x'->ι b=some m->ι b'=some m'->m.B=m'.B->b=b'
structure Ext (ι:aX) (h:H) (w:World) (ι':aX) (h':H) (w':World) (W:List Nat):Prop where
 next:h.next<=h'.next
 CP:∀b,b<h.next->ι' b=ι b
 log:h'.log=W++h.log
 ln:h'.ln=h.ln+W.length
 kept:∀b,b<h.next->b∉W->h'.get b=h.get b
 live:∀b,b∈W->b<h.next->∃x,h.get b=some x
 size:w.heap.size<=w'.heap.size
 heap:∀k,k<w.heap.size->(∀b∈W,∀m,ι b=some m->m.B≠k)->w'.heap[k]? =w.heap[k]?
 new:∀b m,h.next<=b->ι' b=some m->w.heap.size<=m.B\/∃b0∈W,∃m0,ι b0=some m0/\m0.B=m.B
 os:w'.os=w.os
 tape:w'.tape=w.tape
 out:w'.output=w.output
theorem Ext.refl (ι:aX) (h:H) (w:World) (hf:∀b,h.next<=b->ι b=none):Ext ι h w ι h w []:=
 ⟨ay _,λ_ _=>rfl,rfl,rfl,λ_ _ _=>rfl,λ_ hb=>(by cases hb),ay _,λ_ _ _=>rfl,λb m hb e=>(by rw[hf b hb]at e;cases e),rfl,rfl,rfl⟩
theorem Ext.le {ι ι':aX} {h h':H} {w w':World} {W:List Nat} (e:Ext ι h w ι' h' w' W) (hf:∀b,h.next<=b->ι b=none):ι.le ι':=by
 intro b m hb;rcases aN b h.next with hlt|hge;·rw[e.CP b hlt];exact hb
 ·rw[hf b hge]at hb;cases hb
theorem Ext.trans {ι ι1 ι2:aX} {h h1 h2:H} {w w1 w2:World} {W1 W2:List Nat}
 (e:Ext ι h w ι1 h1 w1 W1) (k:Ext ι1 h1 w1 ι2 h2 w2 W2):Ext ι h w ι2 h2 w2 (W2++W1)where
 next:=bn e.next k.next
 CP b hb:=by rw[k.CP b (bC hb e.next),e.CP b hb]
 log:=by rw[k.log,e.log,iJ]
 ln:=by rw[k.ln,e.ln,bT];omega
 kept b hb hn:=by rw[k.kept b (bC hb e.next) (λhm=>hn (fG _ hm)),e.kept b hb (λhm=>hn (gq _ hm))]
 live b hb hlt:=by
  rcases fZ.1 hb with h2|h1
  ·by_cases hm:b∈W1
   ·exact e.live b hm hlt
   ·obtain⟨x,hx⟩:=k.live b h2 (bC hlt e.next);exact⟨x,by rw[<-e.kept b hlt hm];exact hx⟩
  ·exact e.live b h1 hlt
 size:=bn e.size k.size
 heap i hi hn:=by
  rw[k.heap i (bC hi e.size) ?_,e.heap i hi (λb hb m hm=>hn b (gq _ hb) m hm)];intro b hb m hm hB;rcases aN b h.next with hlt|hge;·rw[e.CP b hlt]at hm;exact hn b (fG _ hb) m hm hB
  ·rcases e.new b m hge hm with h0|⟨b0,hb0,m0,hm0,hB0⟩
   ·omega
   ·exact hn b0 (gq _ hb0) m0 hm0 (hB0.trans hB)
 new b m hb hm:=by
  rcases aN b h1.next with hlt|hge
  ·rw[k.CP b hlt]at hm;rcases e.new b m hb hm with h0|⟨b0,hb0,r⟩
   ·exact .inl h0
   ·exact .inr ⟨b0,gq _ hb0,r⟩
  ·rcases k.new b m hge hm with h0|⟨b0,hb0,m0,hm0,hB0⟩
   ·exact .inl (bn e.size h0)
   ·rcases aN b0 h.next with YQ|ai9
    ·rw[e.CP b0 YQ]at hm0;exact .inr ⟨b0,fG _ hb0,m0,hm0,hB0⟩
    ·rcases e.new b0 m0 ai9 hm0 with h0|⟨b1,hb1,m1,hm1,hB1⟩
     ·exact .inl (by omega)
     ·exact .inr ⟨b1,gq _ hb1,m1,hm1,hB1.trans hB0⟩
 os:=k.os.trans e.os
 tape:=k.tape.trans e.tape
 out:=k.out.trans e.out
theorem ab7 (e:Env):(List.range 256).map (λi=>(gT i).f e)=(List.range 256).map (λi=>E.get 4 (path 4 i) e):=by kernel_rfl
theorem ab8 (v:AV) (e:Env):(List.range 256).map (λi=>(pT i).f v e)=(List.range 256).map (λi=>E.put v 4 (path 4 i) e):=by kernel_rfl
theorem Qa {i:Nat} (hi:i<256) (e:Env):(gT i).f e=E.get 4 (path 4 i) e:=by have:=dX (λl=>l[i]?) (ab7 e);simpa[List.getElem?_map,List.getElem?_range hi]using this
theorem aaN {i:Nat} (hi:i<256) (v:AV) (e:Env):(pT i).f v e=E.put v 4 (path 4 i) e:=by have:=dX (λl=>l[i]?) (ab8 v e);simpa[List.getElem?_map,List.getElem?_range hi]using this
theorem rD {i:Nat} (hi:i<256) (v:AV) (e:Env):(gT i).f ((pT i).f v e)=v:=by rw[Qa hi,aaN hi,E.dD]
theorem tV {i j:Nat} (hi:i<256) (hj:j<256) (h:i≠j) (v:AV) (e:Env):(gT j).f ((pT i).f v e)=(gT j).f e:=by rw[Qa hj,aaN hi,E.fu v 4 i j hi hj h,Qa hj]
theorem Jm {i:Nat} (hi:i<256):(gT i).f NG= .bad:=by rw[Qa hi];exact E.uV _ _ _
theorem gH.put {ι:aX} {n:Nat} {en:Env} {tmps:Array Value} (h:gH ι n en tmps) {d:Nat} (hd:d<n) {v:AV} {x:Value} (hv:VR ι v x):
 gH ι n ((pT d).f v en) (tmps.setIfInBounds d x):=by
 refine⟨by simpa using h.size,h.most,λi hi=> ?_,λi h1 h2=>by rw[tV (bC hd h.most) h2 (by omega)];exact h.rest i h1 h2⟩;by_cases e:d=i
 ·subst e;rw[rD (bC hd h.most)];have:d<tmps.size:=by rw[h.size];exact hd
  simpa[Array.getD_eq_getD_getElem?,this]using hv
 ·rw[tV (bC hd h.most) (bC hi h.most) e];have:=h.at_ i hi;rw[gV]at this⊢;rwa [jH e]
theorem H.CO {h:H} {x:wH} {b:Nat} (hn:h.next<65536) (hb:b<65536):(h.new x).get b=if b=h.next then some x else h.get b:=by
 unfold H.get H.new;split;·rename_i e;subst e;exact E.dD _ _ _ _
 ·rename_i e;exact E.fu _ 8 _ _ hn hb (λe'=>e e'.symm) _
theorem H.Qb {h:H} {x:wH} {a b:Nat} (ha:a<65536) (hb:b<65536):(h.set a x).get b=if b=a then some x else h.get b:=by
 unfold H.get H.set;split;·rename_i e;subst e;exact E.dD _ _ _ _
 ·rename_i e;exact E.fu _ 8 _ _ ha hb (λe'=>e e'.symm) _
theorem H.Ut {h:H} {a b:Nat} (ha:a<65536) (hb:b<65536):(h.kill a).get b=if b=a then none else h.get b:=by
 unfold H.get H.kill;split;·rename_i e;subst e;exact E.dD _ _ _ _
 ·rename_i e;exact E.fu _ 8 _ _ ha hb (λe'=>e e'.symm) _
theorem H.jZ {h:H}:h.room=true↔h.next<65536:=by unfold H.room;rw[aH];exact Iff.rfl
structure Loc (ι:aX) (h:H) (w:World) (ι':aX) (h':H) (w':World) (W:List Nat):Prop extends Ext ι h w ι' h' w' W where
 most:h'.next<=65536
 fresh:∀b,h'.next<=b->ι' b=none
 blk:∀b x,(b∈W\/h.next<=b)->b<h'.next->h'.get b=some x->∃m o,ι' b=some m/\w'.heap[m.B]? =some o/\BR ι' x o m
 inj1:∀b x m,h.next<=b->b<h'.next->h'.get b=some x->ι' b=some m->w.heap.size<=m.B\/∃b0∈W,∃m0,ι b0=some m0/\m0.B=m.B/\h'.get b0=none
 inj2:∀b b' x x' m m',h.next<=b->h.next<=b'->b<h'.next->b'<h'.next->h'.get b=some x->h'.get b'=some x'->ι' b=some m->ι' b'=some m'->m.B=m'.B->b=b'
theorem Loc.wr {ι ι':aX} {h h':H} {w w':World} {W:List Nat} (e:Loc ι h w ι' h' w' W) (k:WR ι h w):WR ι' h' w' where
 most:=e.most
 fresh:=e.fresh
 blk b x _ hbn hx:=by
  by_cases hb:b∈W\/h.next<=b;·exact e.blk b x hb hbn hx
  ·have hbW:b∉W:=λc=>hb (.inl c);have hlt:b<h.next:=by omega
   rw[e.kept b hlt hbW]at hx;obtain⟨m,o,h1,h2,h3⟩:=k.blk b x trivial hlt hx;have hsz:m.B<w.heap.size:=(dQ.1 h2).1;refine⟨m,o,by rw[e.CP b hlt];exact h1,?_,h3.mono (e.toExt.le k.fresh)⟩;rw[e.heap m.B hsz,h2];intro b1 hb1 m1 hm1 hB;have hlt1:b1<h.next:=by
    rcases aN b1 h.next with c|c;·exact c
    ·rw[k.fresh b1 c]at hm1;cases hm1
   obtain⟨x1,hx1⟩:=e.live b1 hb1 hlt1;have:=k.inj b1 b x1 x m1 m trivial trivial hlt1 hlt hx1 hx hm1 h1 hB;exact hbW (this▸hb1)
 inj b b' x x' m m' _ _ hbn Lg hx hx' hm hm' hB:=by
  have old:∀b x m,b<h.next->h'.get b=some x->ι' b=some m->(∃y,h.get b=some y)/\ι b=some m:=λb x m hlt hx hm=>by
   refine⟨?_,by rw[<-e.CP b hlt];exact hm⟩;by_cases hbW:b∈W;·exact e.live b hbW hlt
   ·exact⟨x,by rw[<-e.kept b hlt hbW];exact hx⟩
  have sz:∀b y m,b<h.next->h.get b=some y->ι b=some m->m.B<w.heap.size:=λb y m hlt hy hm=>by obtain⟨m1,o,h1,h2,_⟩:=k.blk b y trivial hlt hy;rw[hm]at h1;cases h1;exact(dQ.1 h2).1
  have mix:∀b b' x x' m m',b<h.next->h.next<=b'->b'<h'.next->h'.get b=some x->h'.get b'=some x'->ι' b=some m->ι' b'=some m'->m.B≠m'.B:=λb b' x x' m m' hlt hge Lg hx hx' hm hm' hB=>by
   obtain⟨⟨y,hy⟩,hm0⟩:=old b x m hlt hx hm;have h1:=sz b y m hlt hy hm0;rcases e.inj1 b' x' m' hge Lg hx' hm' with h2|⟨b0,hb0,m0,Av,hB0,Vg⟩
   ·omega
   ·have YQ:b0<h.next:=by
     rcases aN b0 h.next with c|c;·exact c
     ·rw[k.fresh b0 c]at Av;cases Av
    obtain⟨y0,hy0⟩:=e.live b0 hb0 YQ;have:=k.inj b b0 y y0 m m0 trivial trivial hlt YQ hy hy0 hm0 Av (hB.trans hB0.symm);subst this;rw[Vg]at hx;cases hx
  rcases aN b h.next with hlt|hge<;>rcases aN b' h.next with hlt'|hge';·obtain⟨⟨y,hy⟩,hm0⟩:=old b x m hlt hx hm;obtain⟨⟨y',hy'⟩,Av⟩:=old b' x' m' hlt' hx' hm';exact k.inj b b' y y' m m' trivial trivial hlt hlt' hy hy' hm0 Av hB
  ·exact absurd hB (mix b b' x x' m m' hlt hge' Lg hx hx' hm hm')
  ·exact absurd hB.symm (mix b' b x' x m' m hlt' hge hbn hx' hx hm' hm)
  ·exact e.inj2 b b' x x' m m' hge hge' hbn Lg hx hx' hm hm' hB
theorem Loc.refl {ι:aX} {h:H} {w:World} {D:Nat->Prop} (k:WR ι h w D):Loc ι h w ι h w []where
 toExt:=Ext.refl ι h w k.fresh
 most:=k.most
 fresh:=k.fresh
 blk b x hb hbn _:=by
  rcases hb with hb|hb;·cases hb
  ·omega
 inj1 b x m hb hbn:=by omega
 inj2 b b' x x' m m' hb _ hbn:=by omega
def World.bR (w:World) (n:Nat):World:={w with drawn:=n}
theorem Loc.draw {ι:aX} {h:H} {w:World} {D:Nat->Prop} (k:WR ι h w D) (n:Nat):Loc ι h w ι h (World.bR w n) []where
 toExt:={Ext.refl ι h w k.fresh with heap:=λ_ _ _=>rfl,size:=ay _,new:=λb m hb e=>(by rw[k.fresh b hb]at e;cases e),os:=rfl,tape:=rfl,out:=rfl}
 most:=k.most
 fresh:=k.fresh
 blk b x hb hbn _:=by
  rcases hb with hb|hb;·cases hb
  ·omega
 inj1 b x m hb hbn:=by omega
 inj2 b b' x x' m m' hb _ hbn:=by omega
def aX.add (ι:aX) (b:Nat) (m:Nm):aX:=λx=>if x=b then some m else ι x
theorem aX.add_same (ι:aX) (b:Nat) (m:Nm):ι.add b m b=some m:=by simp[aX.add]
theorem aX.tO (ι:aX) {b x:Nat} (m:Nm) (h:x≠b):ι.add b m x=ι x:=by simp[aX.add,h]
theorem aX.tu {ι:aX} {b:Nat} (m:Nm) (h:ι b=none):ι.le (ι.add b m):=λx y e=>by
 by_cases hx:x=b;·subst hx;rw[h]at e;cases e
 ·rw[aX.tO ι m hx];exact e
theorem Loc.yB {ι:aX} {h:H} {w w':World} {D:Nat->Prop} (k:WR ι h w D) (hr:h.next<65536) (x:wH) (m:Nm) (o:Obj)
 (hsz:w.heap.size<=w'.heap.size) (hold:∀i,i<w.heap.size->w'.heap[i]? =w.heap[i]?) (hB:w.heap.size<=m.B) (ho:w'.heap[m.B]? =some o)
 (hbr:BR (ι.add h.next m) x o m) (hos:w'.os=w.os) (KF:w'.tape=w.tape) (hout:w'.output=w.output):
 Loc ι h w (ι.add h.next m) (h.new x) w' []where
 next:=lV _
 CP b hb:=aX.tO ι m (by omega)
 log:=rfl
 ln:=rfl
 kept b hb _:=by rw[H.CO hr (by omega),ak (by omega)]
 live b hb:=by cases hb
 size:=hsz
 heap i hi _:=hold i hi
 new b m' hb e:=by
  by_cases hx:b=h.next;·subst hx;rw[aX.add_same]at e;cases e;exact .inl hB
  ·rw[aX.tO ι m hx,k.fresh b hb]at e;cases e
 os:=hos
 tape:=KF
 out:=hout
 most:=hr
 fresh b hb:=by have hb':h.next+1<=b:=hb;rw[aX.tO ι m (by omega)];exact k.fresh b (by omega)
 blk b y hb hbn hy:=by
  rcases hb with hb|hb;·cases hb
  ·have Lg:b<h.next+1:=hbn;obtain rfl:b=h.next:=by omega
   rw[H.CO hr hr,au rfl]at hy;cases hy;exact⟨m,o,aX.add_same _ _ _,ho,hbr⟩
 inj1 b y m' hb hbn _ hm:=by
  have Lg:b<h.next+1:=hbn;obtain rfl:b=h.next:=by omega
  rw[aX.add_same]at hm;cases hm;exact .inl hB
 inj2 b b' y y' m1 m2 hb hb' hbn Lg _ _ _ _ _:=by have h1:b<h.next+1:=hbn;have h2:b'<h.next+1:=Lg;omega
theorem Loc.mkSet {ι:aX} {h:H} {w w':World} {D:Nat->Prop} (k:WR ι h w D) {b:Nat} {x0 x:wH} (hb:b<h.next) (hx0:h.get b=some x0) (m:Nm) (hm:ι b=some m) (o:Obj)
 (hsz:w.heap.size<=w'.heap.size) (hold:∀i,i<w.heap.size->i≠m.B->w'.heap[i]? =w.heap[i]?) (ho:w'.heap[m.B]? =some o)
 (hbr:BR ι x o m) (hos:w'.os=w.os) (KF:w'.tape=w.tape) (hout:w'.output=w.output):
 Loc ι h w ι (h.set b x) w' [b]where
 next:=ay _
 CP _ _:=rfl
 log:=rfl
 ln:=rfl
 kept c hc hn:=by
  have:c≠b:=by simpa using hn
  rw[H.Qb (by have:=k.most;omega) (by have:=k.most;omega),ak this]
 live c hc _:=by
  obtain rfl:c=b:=by simpa using hc
  exact⟨x0,hx0⟩
 size:=hsz
 heap i hi hn:=hold i hi (λe=>hn b (by simp) m hm e.symm)
 new c m' hc e:=by rw[k.fresh c hc]at e;cases e
 os:=hos
 tape:=KF
 out:=hout
 most:=k.most
 fresh:=k.fresh
 blk c y hc hcn hy:=by
  rcases hc with hc|hc
  ·obtain rfl:c=b:=by simpa using hc
   rw[H.Qb (by have:=k.most;omega) (by have:=k.most;omega),au rfl]at hy;cases hy;exact⟨m,o,hm,ho,hbr⟩
  ·have:c<h.next:=hcn;omega
 inj1 c y m' hc hcn:=by have:c<h.next:=hcn;omega
 inj2 c c' y y' m1 m2 hc _ hcn:=by have:c<h.next:=hcn;omega
def Eq2 (P:Program) (t:TypeId):Prop:=∃f0 f1 k0 k1,P.underlying t=some (.struct #[f0,f1])/\P.underlying f0.type=some (.int k0)/\P.underlying f1.type=some (.int k1)/\
 f0.offset=0/\f1.offset=1/\f0.name≠ "_" /\f1.name≠ "_" /\P.stoodInHeld t=false/\P.eqGuardType P.depth t=false
theorem aj {a b:Bool} (h:aA a b=true):a=true/\b=true:=by cases a<;>first|(cases h;done)|exact⟨rfl,h⟩
theorem vM {b:Bool} (h:(Bool.rec true false b:Bool)=true):b=false:=by cases b<;>first|rfl|cases h
theorem Lh {P:Program} {t:TypeId} (h:intTy P t=true):∃k,P.underlying t=some (.int k):=by
 unfold intTy at h;split at h;·rename_i k hk;exact⟨k,hk⟩
 ·cases h
theorem VE {P:Program} {t:TypeId} (h:VB P t=true):Eq2 P t:=by
 unfold VB at h;split at h
 ·rename_i fs hd;split at h
  ·rename_i f0 f1 hl;obtain rfl:fs=#[f0,f1]:=by cases fs;simp only at hl;rw[hl]
   obtain⟨h0,h⟩:=aj h;obtain⟨h1,h⟩:=aj h;obtain⟨h2,h⟩:=aj h;obtain⟨h3,h⟩:=aj h;obtain⟨h4,h⟩:=aj h;obtain⟨h5,h⟩:=aj h;obtain⟨h6,h7⟩:=aj h;obtain⟨k0,h0⟩:=Lh h0;obtain⟨k1,h1⟩:=Lh h1;exact⟨f0,f1,k0,k1,hd,h0,h1,aR h2,aR h3,(λc=>by have q:=vM h4;rw[c]at q;cases q),(λc=>by have q:=vM h5;rw[c]at q;cases q),vM h6,vM h7⟩
  ·cases h
 ·cases h
structure jT (P:Program) (g:G):Prop where
 ty:∀t y,g.ty t=some y->P.underlying t=some y.desc/\y.agg=isAggD y.desc/\
  ∃i z,P.info? t=some i/\i.size=y.size/\i.bytes=y.bytes/\i.zero=some z/\y.zero=tT z.cells.toList/\z.cells.size=y.size/\y.zv=ofV z
 fn:∀f x,g.fn f=some x->∃fn,P.funcs[f]? =some fn/\fn.body=some x.body/\fn.ntmps=x.nt/\fn.results.toList=x.res
 eq2:∀t,g.eq2 t=true->Eq2 P t
 pU:∀t s f,g.pU t s=some f->zX P t s=some f
theorem GR:∀l:List Value,llen (tT l)=l.length
 |[]=>rfl
 |_::r=>dX Nat.succ (GR r)
theorem nu (P:Program) (ext:Nat->Nat) (iP:Nat->AV->H->Option bF):jT P (bY P ext iP)where
 ty t y h:=by
  simp only[bY,ae4]at h;split at h
  ·rename_i i d hi hd;split at h
   ·rename_i z hz;split at h
    ·rename_i hn;have hn:=aR hn;rw[GR]at hn;cases h;exact⟨hd,rfl,i,z,hi,rfl,rfl,hz,rfl,by simpa using hn,rfl⟩
    ·cases h
   ·cases h
  ·cases h
 fn f x h:=by
  simp only[bY,fnOf]at h;split at h
  ·rename_i fn hf;split at h
   ·rename_i b hb;cases h;exact⟨fn,hf,hb,rfl,rfl⟩
   ·cases h
  ·cases h
 eq2 t h:=VE h
 pU _ _ _ h:=h
theorem aja (P:Program) (ext:Nat->Nat):jT P (gOf P ext):=nu P ext _
section
variable {P:Program}
theorem aC {t:TypeId} {d:TypeDesc} (h:P.underlying t=some d) (w:World):(underlying t).run P w= .ok d w:=by simp[underlying,h]
theorem qY {t:TypeId} {i:TypeInfo} (h:P.info? t=some i) (w:World):(typeInfo t).run P w= .ok i w:=by simp[typeInfo,h]
theorem dL {t:TypeId} {i:TypeInfo} (h:P.info? t=some i) (w:World):(sizeOf t).run P w= .ok i.size w:=by simp[sizeOf,qY h]
theorem Aa {t:TypeId} {d:TypeDesc} (h:P.underlying t=some d) (w:World):(isAgg t).run P w= .ok (isAggD d) w:=by simp only[isAgg,Sem.run_bind,aC h,Result.andThen_ok];cases d<;>rfl
theorem lF {t:TypeId} {i:TypeInfo} {z:Value} (h:P.info? t=some i) (hz:i.zero=some z) (w:World):(zeroValue t).run P w= .ok z w:=by simp[zeroValue,qY h,hz]
end
theorem Qc (ι:aX) (v:Value):VR ι (UO v) v:=by unfold UO;split<;>first|rfl|exact⟨_,rfl,rfl⟩|exact trivial
theorem mV (ι:aX):∀l:List Value,gG ι (tT l) l
 |[]=>rfl
 |v::r=>⟨v,r,rfl,Qc ι v,mV ι r⟩
theorem Uj (ι:aX) (v:Value):VR ι (ofV v) v:=by
 unfold ofV;split;·exact⟨_,rfl,mV ι _⟩
 ·exact⟨_,rfl,mV ι _⟩
 ·exact Qc ι _
def GI (ι:aX):Prop:=∀g,g<64->∃cs,ι g=some ⟨g,0,cs⟩
theorem GI.mono {ι ι':aX} (h:ι.le ι') (k:GI ι):GI ι':=λg hg=>let⟨cs,e⟩:=k g hg;⟨cs,h _ _ e⟩
theorem aY {ι:aX} {n:Nat} {en:Env} {a:Go.Act} (hE:gH ι n en a.tmps) (hG:GI ι) (x:Operand) (hx:aF n x=true):VR ι ((ev x).f en) (a.eval x):=by
 cases x with
 |tmp t=>exact hE.at_ t (by have:=hx;simp[aF,Nat.blt]at this;omega)
 |const v=>exact Uj ι v
 |global g=>obtain⟨cs,h⟩:=hG g (by have:=hx;simp[aF,Nat.blt]at this;omega);exact⟨_,h,rfl⟩
 |func f=>exact .inl ⟨#[],#[],rfl,rfl,rfl⟩
theorem uY {ι:aX} {n:Nat} {en:Env} {a:Go.Act} (hE:gH ι n en a.tmps) (hG:GI ι):∀(l:List Operand),l.all (aF n)=true->gG ι ((opsL l).f en) (l.map a.eval)
 |[],_=>rfl
 |x::r,h=>by simp only[uS,aP]at h;exact⟨_,_,rfl,aY hE hG x h.1,uY hE hG r h.2⟩
theorem xZ {w:World} {b:Nat} {arr:Array Value} {el:TypeId} {fr:Nat×Nat} (h:w.heap[b]? =some (.cells arr el fr)) (off:Nat):w.cell? ⟨b,off,none⟩=arr[off]? :=by simp[World.cell?,h]
theorem addr_add (b off n:Nat):(⟨b,off,none⟩:Addr).add n=⟨b,off+n,none⟩:=by
 unfold Addr.add;split;·rename_i h;subst h;rfl
 ·rfl
theorem Br {P:Program} {w:World} {b:Nat} {arr:Array Value} {el:TypeId} {fr:Nat×Nat} (h:w.heap[b]? =some (.cells arr el fr)) {off:Nat} (hoff:off<arr.size):
 (load ⟨b,off,none⟩).run P w= .ok (arr.getD off undef) w:=by
 rw[run_load,xZ h,mD hoff];simp[Array.getD,hoff]
theorem fq {P:Program} {w:World} {b:Nat} {arr:Array Value} {el:TypeId} {fr:Nat×Nat} (h:w.heap[b]? =some (.cells arr el fr)) {off n:Nat} (hoff:off+n<=arr.size):
 (loadCells ⟨b,off,none⟩ n).run P w= .ok (((List.range n).map λj=>arr.getD (off+j) undef).toArray) w:=by
 refine run_loadCells w _ n (λj=>arr.getD (off+j) undef) λj hj=> ?_;rw[addr_add,xZ h,mD (by omega)];simp[Array.getD,show off+j<arr.size by omega]
def oJ (arr:Array Value) (o:Nat):List Value->Array Value
 |[]=>arr
 |v::r=>oJ (arr.setIfInBounds o v) (o+1) r
theorem nE (o:Nat):∀(l:List Value) (arr:Array Value),(oJ arr o l).size=arr.size:=by
 intro l;induction l generalizing o with
 |nil=>intro arr;rfl
 |cons v r ih=>intro arr;simp[oJ,ih]
theorem qh (o i:Nat):∀(l:List Value) (arr:Array Value),i<arr.size->(oJ arr o l).getD i undef=if o<=i/\i<o+l.length then l.getD (i-o) undef else arr.getD i undef:=by
 intro l;induction l generalizing o with
 |nil=>intro arr _;rw[ak (by simp)];rfl
 |cons v r ih=>
  intro arr hi;rw[oJ,ih (o+1) _ (by simpa using hi)];by_cases h1:o=i;·subst h1;rw[ak (by omega),au (by simp)];simp[Array.getD,hi]
  ·by_cases h2:o+1<=i/\i<o+1+r.length
   ·rw[au h2,au (by simp;omega)];obtain⟨k,rfl⟩:∃k,i=o+1+k:=⟨i-(o+1),by omega⟩
    rw[show o+1+k-(o+1)=k by omega,show o+1+k-o=k+1 by omega];simp
   ·rw[ak h2,ak (by simp;omega)];rw[gV,jH h1,gV]
def World.putCells (w:World) (b:Nat) (arr:Array Value) (el:TypeId) (fr:Nat×Nat):World:={w with heap:=w.heap.setIfInBounds b (.cells arr el fr)}
theorem Na {w:World} {b:Nat} {arr:Array Value} {el:TypeId} {fr:Nat×Nat} (h:w.heap[b]? =some (.cells arr el fr)) (off:Nat) (v:Value):
 w.setCell ⟨b,off,none⟩ v=World.putCells w b (arr.setIfInBounds off v) el fr:=by
 unfold World.setCell World.putCells;congr 1;apply Array.ext_getElem?;intro i;have hlt:b<w.heap.size:=(dQ.1 h).1;by_cases hi:b=i;·subst hi;rw[uU,au rfl,h];simp[hlt]
 ·rw[jH hi,uU,ak hi]
theorem fJ {w:World} {b:Nat} {arr:Array Value} {el:TypeId} {fr:Nat×Nat} (hb:b<w.heap.size):(World.putCells w b arr el fr).heap[b]? =some (.cells arr el fr):=by simp[World.putCells,hb]
theorem Iq {w:World} {b:Nat} {arr arr':Array Value} {el iY:TypeId} {fr fr':Nat×Nat}:World.putCells (World.putCells w b arr el fr) b arr' iY fr'=World.putCells w b arr' iY fr':=by simp[World.putCells]
theorem wK {w:World} {b:Nat} {arr:Array Value} {el:TypeId} {fr:Nat×Nat} (h:w.heap[b]? =some (.cells arr el fr)):World.putCells w b arr el fr=w:=by
 have hlt:b<w.heap.size:=(dQ.1 h).1;have:w.heap.setIfInBounds b (.cells arr el fr)=w.heap:=by
  apply Array.ext_getElem?;intro i;by_cases hi:b=i;·subst hi;rw[h];simp[hlt]
  ·rw[jH hi]
 unfold World.putCells;rw[this]
