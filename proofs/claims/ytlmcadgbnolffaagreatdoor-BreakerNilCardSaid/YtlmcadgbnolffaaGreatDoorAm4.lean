/- The abstract machine, fourth part: regions, code, calls. -/
import Derived.Test.YtlmcadgbnolffaaGreatDoorAm3
namespace Go.Proofs.YtlmcadgbnolffaaGreatDoor.Am
noncomputable section

inductive Df where
  | call (f : Nat) (args : AV)
  | coll (b : Nat)
/-- how a piece of code ends -/
inductive XR where
  | fail
  | norm (en : Env) (h : H) (df : List Df)
  | ret (en : Env) (h : H) (df : List Df)
  | ext (i : Nat) (en : Env) (h : H) (df : List Df)
  | got (l : Nat) (en : Env) (h : H) (df : List Df)
structure Cx where
  call : Nat → AV → H → Res
  yld : Nat → AV → H → Res
  fuel : Nat
  rd : Option Nat
structure K where
  k : Cx → Env → H → List Df → XR

/-- a function value called -/
def apply (cx : Cx) (f args : AV) (h : H) : Res :=
  match f with
  | .fn f a c => cx.call f (lapp a (lapp args c)) h
  | .yld l => cx.yld l args h
  | _ => .fail

/-! ### one operation, then the rest -/
def onR (k : AV → H → XR) (r : Res) : XR := Res.rec (motive := fun _ => XR) .fail k r
def plainD (p : PS) (a : Act) (ih : K) : K := ⟨fun cx en h df => onR (fun v h' => ih.k cx (p.f v en) h' df) (a.f en h)⟩
def plainN (a : Act) (ih : K) : K := ⟨fun cx en h df => onR (fun _ h' => ih.k cx en h' df) (a.f en h)⟩
def callD (p : PS) (f as : EV) (ih : K) : K := ⟨fun cx en h df => onR (fun v h' => ih.k cx (p.f v en) h' df) (apply cx (f.f en) (as.f en) h)⟩
def deferD (p : PS) (f as : EV) (ih : K) : K := ⟨fun cx en h df =>
  match cx.rd, f.f en with
  | none, .fn g a c => ih.k cx (p.f (.tup .nil) en) h (.call g (lapp a (lapp (as.f en) c)) :: df)
  | _, _ => .fail⟩
def recD (p : PS) (ih : K) : K := ⟨fun cx en h df =>
  match cx.rd with
  | none => ih.k cx (p.f .nili en) h df
  | some _ => .fail⟩
/-- what a guard says -/
def gsel (w : Bool) (v : AV) : OB :=
  match v with
  | .bool b => Bool.rec .f .t (beqB b w)
  | .tup _ => .f
  | _ => .none
def guardD (gp : EV) (w : Bool) (p : PS) (body : K → K) (ih : K) : K := ⟨fun cx en h df =>
  OB.rec (motive := fun _ => XR) .fail (ih.k cx (p.f (.tup .nil) en) h df) ((body ih).k cx en h df) (gsel w (gp.f en))⟩
def failK : K := ⟨fun _ _ _ _ => .fail⟩
def pN : PS := ⟨fun _ e => e⟩
def pO (d : Option Tmp) : PS := Option.rec (motive := fun _ => PS) pN pT d
inductive OpK where
  | plain (a : Act)
  | call (f : Operand) (args : List Operand)
  | defer (f : Operand) (args : List Operand)
  | recover
def opK (g : G) (o : Op) : OpK :=
  match o with
  | .call c => match c.callee with
    | .value f => .call f c.args.toList
    | .builtin .recover => .recover
    | _ => .plain (aop g (.call c))
  | .defer c => match c.callee with
    | .value f => .defer f c.args.toList
    | _ => .plain failA
  | o => .plain (aop g o)
def bodyK (d : Option Tmp) (k : OpK) : K → K :=
  match k with
  | .plain a => (match d with
    | some t => plainD (pT t) a
    | none => plainN a)
  | .call f as => callD (pO d) (ev f) (opsL as)
  | .defer f as => deferD (pO d) (ev f) (opsL as)
  | .recover => recD (pO d)
def dstAt (ops : List Oper) (j : Nat) : Option Tmp :=
  match ops[j]? with
  | some o => o.dst
  | none => none
def opStep (g : G) (ops : List Oper) (o : Oper) : K → K :=
  match o.guard with
  | none => bodyK o.dst (opK g o.op)
  | some (j, w) => (match dstAt ops j with
    | some t => guardD (gT t) w (pO o.dst) (bodyK o.dst (opK g o.op))
    | none => fun _ => failK)
def kNorm : K := ⟨fun _ => .norm⟩
def kOps (g : G) (ops : List Oper) : List Oper → K := List.rec (motive := fun _ => K) kNorm (fun o _ ih => opStep g ops o ih)

/-! ### a region that draws its order -/
def blkOf (v : AV) : List Nat :=
  match v with
  | .ptr b _ => [b]
  | .slice b _ _ _ _ => [b]
  | .map b => [b]
  | _ => []
def blks (l : List Operand) (en : Env) : List Nat := List.rec (motive := fun _ => List Nat) [] (fun o _ ih => List.append (blkOf ((ev o).f en)) ih) l
/-- the blocks that an operation looks at (none: a call) -/
def accOf (o : Op) : Option (Env → List Nat) :=
  match o with
  | .load _ a => some fun en => blkOf ((ev a).f en)
  | .store _ a _ => some fun en => blkOf ((ev a).f en)
  | .lookup _ m _ _ => some fun en => blkOf ((ev m).f en)
  | .mapUpdate _ m _ _ => some fun en => blkOf ((ev m).f en)
  | .insert _ m _ _ => some fun en => blkOf ((ev m).f en)
  | .next i _ => some fun en => blkOf ((ev i).f en)
  | .convert _ _ x => some fun en => blkOf ((ev x).f en)
  | .slice _ x _ _ _ => some fun en => blkOf ((ev x).f en)
  | .call c => match c.callee with
    | .builtin _ => some fun en => blks c.args.toList en
    | _ => none
  | .defer _ => none
  | _ => some fun _ => []
structure DO where
  step : K → K
  acc : Option (Env → List Nat)
  gd : Option (EV × Bool)
  p : PS
  dn : Nat
  rs : List Nat
  es : List Nat
  ok : Bool
/-- what was done by one of a drawn region's operations -/
structure Rc where
  i : Nat
  call : Bool
  acc : List Nat
  wrt : List Nat
  lo : Nat
  hi : Nat
def memN (x : Nat) : List Nat → Bool := List.rec (motive := fun _ => Bool) false (fun y _ ih => Bool.rec ih true (Nat.beq x y))
def disj (a b : List Nat) : Bool := List.rec (motive := fun _ => Bool) true (fun x _ ih => Bool.rec ih false (memN x b)) a
def noneIn (lo hi : Nat) (a : List Nat) : Bool := List.rec (motive := fun _ => Bool) true (fun x _ ih => Bool.rec ih (Bool.rec false ih (Nat.ble hi x)) (Nat.ble lo x)) a
def isNilL (a : List Nat) : Bool := List.rec (motive := fun _ => Bool) true (fun _ _ _ => false) a
/-- k has been done ahead in the text, i is done now, neither waits for the other -/
def compat (k i : Rc) : Bool :=
  match k.call, i.call with
  | false, false => and2 (disj k.wrt i.acc) (and2 (disj i.wrt k.acc) (noneIn k.lo k.hi i.acc))
  | true, false => and2 (disj k.wrt i.acc) (and2 (isNilL i.wrt) (noneIn k.lo k.hi i.acc))
  | false, true => and2 (isNilL k.wrt) (and2 (disj i.wrt k.acc) (Nat.beq k.lo k.hi))
  | true, true => false
def compats (pm : Nat) (i : Rc) : List Rc → Bool := List.rec (motive := fun _ => Bool) true (fun k _ ih => Bool.rec false ih (Bool.rec (compat k i) true (Nat.testBit pm k.i)))
def below (lo : Nat) : Nat → List Nat → List Nat :=
  Nat.rec (motive := fun _ => List Nat → List Nat) (fun _ => []) (fun _ ih l => List.rec (motive := fun _ => List Nat) [] (fun x r _ => Bool.rec (ih r) (x :: ih r) (Nat.ble (Nat.succ x) lo)) l)
def quiet (r : Rc) : Bool := and2 (Bool.rec true false r.call) (and2 (isNilL r.acc) (and2 (isNilL r.wrt) (Nat.beq r.lo r.hi)))
/-- one of them -/
def recOf (o : DO) (i : Nat) (en : Env) (h h' : H) : Rc :=
  match o.acc with
  | some f => ⟨i, false, List.append (f en) (below h.next (Nat.sub h'.ln h.ln) h'.log), below h.next (Nat.sub h'.ln h.ln) h'.log, h.next, h'.next⟩
  | none => ⟨i, true, [], below h.next (Nat.sub h'.ln h.ln) h'.log, h.next, h'.next⟩
def doneD (o : DO) (i pm : Nat) (en : Env) (h : H) (rs : List Rc) (k : List Rc → Env → H → List Df → XR) (en' : Env) (h' : H) (df' : List Df) : XR :=
  match compats pm (recOf o i en h h') rs with
  | true => k (match quiet (recOf o i en h h') with | true => rs | false => recOf o i en h h' :: rs) en' h' df'
  | false => .fail
def stepD (cx : Cx) (o : DO) (i pm : Nat) (en : Env) (h : H) (df : List Df) (rs : List Rc) (k : List Rc → Env → H → List Df → XR) : XR :=
  match (match o.gd with | none => OB.t | some (f, w) => gsel w (f.f en)) with
  | .t => (o.step ⟨fun _ en' h' df' => doneD o i pm en h rs k en' h' df'⟩).k cx en h df
  | .f => k rs (o.p.f (.tup .nil) en) h df
  | .none => .fail
def nthN : List Nat → Nat → Nat := List.rec (motive := fun _ => Nat → Nat) (fun _ => nat_lit 0) (fun x _ ih i => Bool.rec (ih (Nat.pred i)) x (Nat.beq i (nat_lit 0)))
def orMask (ms : List Nat) : List Nat → Nat := List.rec (motive := fun _ => Nat) (nat_lit 0) (fun e _ ih => Nat.lor (Nat.lor (Nat.pow (nat_lit 2) e) (nthN ms e)) ih)
/-- whom each waits for, at last -/
def masks (ms : List Nat) : List DO → List Nat := fun l =>
  List.rec (motive := fun _ => List Nat → List Nat) (fun ms => ms) (fun o _ ih ms => sN (orMask ms o.es) fun m => ih (List.append ms [m])) l ms
def apartD (a b : DO) : Bool :=
  and2 (Bool.rec (and2 (Bool.rec true false (memN a.dn b.rs)) (Bool.rec true false (Nat.beq a.dn b.dn))) true (Nat.beq a.dn (nat_lit 0)))
    (Bool.rec (Bool.rec true false (memN b.dn a.rs)) true (Nat.beq b.dn (nat_lit 0)))
/-- each of those ahead waits, or is apart -/
def apartAll (o : DO) (pm : Nat) : List DO → Nat → Bool := List.rec (motive := fun _ => Nat → Bool) (fun _ => true)
  (fun k _ ih i => Bool.rec false (ih (Nat.succ i)) (Bool.rec (apartD k o) true (Nat.testBit pm i)))
def allLt (i : Nat) : List Nat → Bool := List.rec (motive := fun _ => Bool) true (fun e _ ih => Bool.rec false ih (Nat.ble (Nat.succ e) i))
def okD (ms : List Nat) : List DO → Nat → List DO → Bool :=
  List.rec (motive := fun _ => Nat → List DO → Bool) (fun _ _ => true)
    (fun o _ ih i ahead => and2 o.ok (and2 (apartAll o (nthN ms i) ahead (nat_lit 0)) (and2 (allLt i o.es) (ih (Nat.succ i) (List.append ahead [o])))))
def kDr (ms : List Nat) (cx : Cx) : List DO → Nat → List Rc → Env → H → List Df → XR :=
  List.rec (motive := fun _ => Nat → List Rc → Env → H → List Df → XR) (fun _ _ en h df => .norm en h df)
    (fun o _ ih i rs en h df => stepD cx o i (nthN ms i) en h df rs (ih (Nat.succ i)))
def slot (o : Operand) : List Nat :=
  match o with
  | .tmp t => [Nat.succ t]
  | _ => []
def slots (l : List Operand) : List Nat := List.rec (motive := fun _ => List Nat) [] (fun o _ ih => List.append (slot o) ih) l
def dnOf (o : Oper) : Nat :=
  match o.dst with
  | some d => Nat.succ d
  | none => nat_lit 0
def guardSlot (ops : List Oper) (o : Oper) : List Nat :=
  match o.guard with
  | some (j, _) => match ops[j]? with
    | some x => [dnOf x]
    | none => []
  | none => []
def edgesOf (o : Oper) : List Nat := (o.after.toList.filter (Region.binds .any)).map (·.on)
def drawnOk (k : OpK) : Bool :=
  match k with
  | .plain _ => true
  | .call _ _ => true
  | _ => false
def mkDO (g : G) (ops : List Oper) (o : Oper) : DO :=
  { step := bodyK o.dst (opK g o.op), acc := accOf o.op
    gd := match o.guard with | none => none | some (j, w) => some (match dstAt ops j with | some t => gT t | none => ⟨fun _ => .bad⟩, w)
    p := pO o.dst, dn := dnOf o, rs := List.append (guardSlot ops o) (slots o.op.operands.toList), es := edgesOf o, ok := drawnOk (opK g o.op) }
def kDraw (ds : List DO) : K :=
  match okD (masks [] ds) ds (nat_lit 0) [] with
  | true => ⟨fun cx en h df => kDr (masks [] ds) cx ds (nat_lit 0) [] en h df⟩
  | false => failK
def kRegion (g : G) (ops : List Oper) (draw : Bool) : K :=
  match draw with
  | false => kOps g ops ops
  | true => kDraw (ops.map (mkDO g ops))

/-! ### code -/
def kSeq (a b : K) : K := ⟨fun cx en h df => XR.rec (motive := fun _ => XR) .fail (b.k cx) .ret .ext .got (a.k cx en h df)⟩
def kCond (c : EV) (a b : K) : K := ⟨fun cx en h df => OB.rec (motive := fun _ => XR) .fail (b.k cx en h df) (a.k cx en h df) (toB (c.f en))⟩
def leave (i j : Nat) (en : Env) (h : H) (df : List Df) : XR := Bool.rec (.ext j en h df) (.norm en h df) (Nat.beq j i)
def kBlock (i : Nat) (a : K) : K := ⟨fun cx en h df => XR.rec (motive := fun _ => XR) .fail .norm .ret (leave i) .got (a.k cx en h df)⟩
def kLoop (a : K) : K := ⟨fun cx => Nat.rec (motive := fun _ => Env → H → List Df → XR) (fun _ _ _ => .fail)
  (fun _ ih en h df => XR.rec (motive := fun _ => XR) .fail ih .ret .ext .got (a.k cx en h df)) cx.fuel⟩
def lkSeq (a b : Nat → Option K) (kb : K) : Nat → Option K := fun l => match a l with
  | some r => some (kSeq r kb)
  | none => b l
def kScope (a : K) (lk : Nat → Option K) : K := ⟨fun cx => Nat.rec (motive := fun _ => K → Env → H → List Df → XR) (fun _ _ _ _ => .fail)
  (fun _ ih k en h df => XR.rec (motive := fun _ => XR) .fail .norm .ret .ext
    (fun l en' h' df' => match lk l with
      | some r => ih r en' h' df'
      | none => .got l en' h' df') (k.k cx en h df)) cx.fuel a⟩
def jumpOf (c : Option Code) (en : Env) (h : H) (df : List Df) : XR :=
  match c with
  | none => .norm en h df
  | some .ret => .ret en h df
  | some (.exit i) => .ext i en h df
  | some (.goto l) => .got l en h df
  | some _ => .fail
def kRange (f : EV) (ps : List Tmp) (assign body : Code) : K := ⟨fun cx en h0 df0 =>
  let fin (l : Nat) (df : List Df) (h : H) : XR := match apply cx (f.f en) (.cons (.yld l) .nil) h with
    | .ok _ h' => (match h'.get l with
      | some (.loop st pend fn env ps' as bo dd) => (match st with
        | .busy => .fail
        | _ => jumpOf pend en (h'.set l (.loop .exhausted pend fn env ps' as bo dd)) df)
      | _ => .fail)
    | .fail => .fail
  match cx.rd with
  | none => (match Nat.ble (Nat.succ (Nat.succ h0.next)) (nat_lit 65536) with
    | true => fin (Nat.succ h0.next) (.coll h0.next :: df0) ((h0.new .dfr).new (.loop .ready none (nat_lit 0) en ps assign body h0.next))
    | false => .fail)
  | some l0 => (match h0.room, h0.get l0 with
    | true, some (.loop _ _ _ _ _ _ _ dd) => fin h0.next df0 (h0.new (.loop .ready none (nat_lit 0) en ps assign body dd))
    | _, _ => .fail)⟩
structure CK where
  k : K
  lk : Nat → Option K
def noLk : Nat → Option K := fun _ => none
def exC (g : G) : Code → CK := Code.rec (motive := fun _ => CK)
  ⟨kNorm, noLk⟩
  (fun _ ops draw => ⟨kRegion g ops.toList draw, noLk⟩)
  (fun _ _ a b => ⟨kSeq a.k b.k, lkSeq a.lk b.lk b.k⟩)
  (fun c _ _ a b => ⟨kCond (ev c) a.k b.k, noLk⟩)
  (fun i _ a => ⟨kBlock i a.k, noLk⟩)
  (fun _ a => ⟨kLoop a.k, noLk⟩)
  (fun f ps as bo _ _ => ⟨kRange (ev f) ps.toList as bo, noLk⟩)
  (fun i => ⟨⟨fun _ => .ext i⟩, noLk⟩)
  (fun _ a => ⟨kScope a.k a.lk, noLk⟩)
  (fun l => ⟨kNorm, fun l' => match Nat.beq l l' with | true => some kNorm | false => none⟩)
  (fun l => ⟨⟨fun _ => .got l⟩, noLk⟩)
  ⟨⟨fun _ => .ret⟩, noLk⟩
  (fun _ => ⟨failK, noLk⟩)

/-! ### calls -/
def args0 : AV → Nat → Env → Env := lrec (fun _ t => t) (fun v _ ih i t => ih (Nat.succ i) ((pT i).f v t))
def runDf (cx : Cx) : List Df → H → Option H := List.rec (motive := fun _ => H → Option H) some
  (fun d _ ih h => match d with
    | .call f a => (match cx.call f a h with
      | .ok _ h' => ih h'
      | .fail => none)
    | .coll b => (match h.get b with
      | some .dfr => ih (h.set b .taken)
      | _ => none))
def resV (g : G) (r : ResultVar) (en : Env) (h : H) : AV :=
  match r with
  | .tmp t => (gT t).f en
  | .cell a t => match g.ty t with
    | some y => (match (loadA y.agg y.size).f ((gT a).f en) h with
      | .ok v _ => v
      | .fail => .bad)
    | none => .bad
def resVs (g : G) (en : Env) (h : H) : List ResultVar → AV := List.rec (motive := fun _ => AV) .nil (fun r _ ih => .cons (resV g r en h) ih)
def cellsOk (g : G) (en : Env) (h : H) : List ResultVar → Bool := List.rec (motive := fun _ => Bool) true (fun r _ ih => match r with
  | .tmp _ => ih
  | .cell a t => match g.ty t with
    | some y => (match (loadA y.agg y.size).f ((gT a).f en) h with
      | .ok _ _ => ih
      | .fail => false)
    | none => false)
def outOf (g : G) (rs : List ResultVar) (en : Env) (h : H) : Res :=
  match rs with
  | [r] => chk (resV g r en h) h
  | rs => match cellsOk g en h rs with
    | true => .ok (.tup (resVs g en h rs)) h
    | false => .fail
def enter (g : G) (cx : Cx) (fn : Fn) (args : AV) (h : H) : Res :=
  let fin (en : Env) (h : H) (df : List Df) : Res := match runDf cx df h with
    | some h' => outOf g fn.res en h'
    | none => .fail
  match Nat.ble (llen args) fn.nt, (exC g fn.body).k.k cx (args0 args (nat_lit 0) env0) h [] with
  | true, .norm en h df => fin en h df
  | true, .ret en h df => fin en h df
  | _, _ => .fail
def cntB (s : Str) (c : Nat) : Nat → Nat → Nat := fun n i =>
  Nat.rec (motive := fun _ => Nat → Nat → Nat) (fun _ a => a) (fun _ ih i a => sN (Bool.rec a (Nat.succ a) (Nat.beq (s.byte i) c)) fun a' => ih (Nat.succ i) a') n i (nat_lit 0)
def idxB (s : Str) (c : Nat) : Nat → Nat → Int := fun n i =>
  Nat.rec (motive := fun _ => Nat → Int) (fun _ => .negSucc (nat_lit 0)) (fun _ ih i => Bool.rec (ih (Nat.succ i)) (.ofNat i) (Nat.beq (s.byte i) c)) n i
def extA (kind : Nat) (args : AV) (h : H) : Res :=
  match kind, args with
  | 1, .cons (.str s) (.cons (.int .u8 (.ofNat c)) .nil) => Bool.rec .fail (.ok (.int .i64 (.ofNat (cntB s c s.len (nat_lit 0)))) h) (Nat.ble c (nat_lit 255))
  | 2, .cons (.str s) (.cons (.int .u8 (.ofNat c)) .nil) => Bool.rec .fail (frc (idxB s c s.len (nat_lit 0)) fun n => .ok (.int .i64 n) h) (Nat.ble c (nat_lit 255))
  | _, _ => .fail
structure Rn where
  call : Nat → AV → H → Res
  yld : Nat → AV → H → Res
def params (ps : List Tmp) : AV → Env → Env := List.rec (motive := fun _ => AV → Env → Env) (fun _ t => t) (fun p _ ih a t => ih (ldrop a (nat_lit 1)) ((pT p).f (lnth a (nat_lit 0)) t)) ps
def begun (g : G) (cx : Cx) (l : Nat) (args : AV) (h : H) : Res :=
  match h.get l with
  | some (.loop _ _ _ env ps as bo _) => match Nat.beq (llen args) ps.length with
    | true => (match (exC g as).k.k { cx with rd := some l } (params ps args env) h [] with
      | .norm en1 h1 [] => (match h1.get l with
        | some (.loop .ready pend fn env' ps' as' bo' dd) =>
          let fin (jump : Option Code) (st : LoopState) (b : Bool) (h2 : H) : Res := (match h2.get l with
            | some (.loop _ _ fn2 env2 ps2 as2 bo2 dd2) => .ok (.bool b) (h2.set l (.loop st jump fn2 env2 ps2 as2 bo2 dd2))
            | _ => .fail)
          (match (exC g bo).k.k { cx with rd := some l } en1 (h1.set l (.loop .busy pend fn env' ps' as' bo' dd)) [] with
            | .norm _ h2 _ => fin none .ready true h2
            | .ret _ h2 _ => fin (some .ret) .done false h2
            | .ext i _ h2 _ => fin (some (.exit i)) .done false h2
            | .got l' _ h2 _ => fin (some (.goto l')) .done false h2
            | .fail => .fail)
        | _ => .fail)
      | _ => .fail)
    | false => .fail
  | _ => .fail
def run (g : G) : Nat → Rn := Nat.rec (motive := fun _ => Rn) ⟨fun _ _ _ => .fail, fun _ _ _ => .fail⟩
  (fun n ih => ⟨fun f args h => (match g.fn f with
      | some fn => enter g ⟨ih.call, ih.yld, n, none⟩ fn args h
      | none => extA (g.ext f) args h),
    fun l args h => begun g ⟨ih.call, ih.yld, n, none⟩ l args h⟩)

end
end Go.Proofs.YtlmcadgbnolffaaGreatDoor.Am
