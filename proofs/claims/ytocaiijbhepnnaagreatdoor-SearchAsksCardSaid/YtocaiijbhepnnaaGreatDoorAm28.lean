/- The machine's soundness: every operation that calls nothing, put together. -/
import Derived.Test.YtocaiijbhepnnaaGreatDoorAm25
import Derived.Scope
namespace Go.Proofs.YtocaiijbhepnnaaGreatDoor.Am
def oOk (n:Nat):Option Operand→Bool
 |some o=>aF n o
 |none=>true
section
variable {P:Program} {g:G} {ι:bA} {h h':H} {w:World} {D:Nat→Prop}
section
variable {n:Nat} {en:Env} {a:Go.Act}
theorem aek (hE:iE ι n en a.tmps) (hG:GI ι) (hg:kP P g) (k:WR ι h w D) (o:Oper) (ho:(o.op.operands.toList.all (aF n))=true) {f:Env→List Nat} (hacc:um o.op=some f) (hD:∀b∈f en,D b) {v:AV}
 (e:(Hw g o.op).f en h= .ok v h'):Hu P ι h w (execOp a.eval o) v h':=by
 cases hop:o.op with
 |move x=>
  rw[hop]at e ho;have e:JB ((ev x).f en) h= .ok v h':=e;have hx:aF n x=true:=by simpa[Op.operands]using ho
  have hs:execOp a.eval o=pure (.value (a.eval x)):=by unfold execOp;rw[hop]
  rw[hs];obtain⟨rfl,rfl⟩:=QU e;exact aO.toN (s:=pure (a.eval x)) (aO.ret k rfl (bE hE hG x hx))
 |assign x=>
  rw[hop]at e ho;have e:JB ((ev x).f en) h= .ok v h':=e;have hx:aF n x=true:=by simpa[Op.operands]using ho
  have hs:execOp a.eval o=pure (.value (a.eval x)):=by unfold execOp;rw[hop]
  rw[hs];obtain⟨rfl,rfl⟩:=QU e;exact aO.toN (s:=pure (a.eval x)) (aO.ret k rfl (bE hE hG x hx))
 |pick c x y=>
  rw[hop]at e ho;have e:OB.rec (motive:=fun _=>bJ) .fail (uE ((ev y).f en) h) (uE ((ev x).f en) h) (toB ((ev c).f en))= .ok v h':=e;have hx:aF n c=true∧aF n x=true∧aF n y=true:=by simpa[Op.operands]using ho
  have hs:execOp a.eval o=(do pure (.value (if←asBool (a.eval c)then a.eval x else a.eval y)):Sem Next):=by unfold execOp;rw[hop]
  have hc:=bE hE hG c hx.1;rw[hs];cases hb:toB ((ev c).f en)with
  |none=>rw[hb]at e;cases e
  |f=>rw[hb]at e;rw[toB_f hb]at hc;have hc:a.eval c= .bool false:=hc;rw[hc];exact aO.toN (s:=pure (a.eval y)) (aO.uE k e rfl (bE hE hG y hx.2.2))
  |t=>rw[hb]at e;rw[toB_t hb]at hc;have hc:a.eval c= .bool true:=hc;rw[hc];exact aO.toN (s:=pure (a.eval x)) (aO.uE k e rfl (bE hE hG x hx.2.1))
 |alloc t=>
  rw[hop]at e ho;obtain⟨y,ht,e⟩:=jh e;have hs:execOp a.eval o=(do pure (.value (←Instr.alloc t true (.tuple #[]))):Sem Next):=by unfold execOp;rw[hop]
  rw[hs];split at e;·exact aO.toN (TI hg k ht e)
  ·exact aO.toN (Wh hg k ht e)
 |box t x=>
  rw[hop]at e ho;have hx:aF n x=true:=by simpa[Op.operands]using ho
  have hs:execOp a.eval o=(do pure (.value (←Instr.box t (a.eval x))):Sem Next):=by unfold execOp;rw[hop]
  rw[hs];exact aO.toN (ad9 k (bE hE hG x hx) e)
 |build t ps=>
  rw[hop]at e ho;obtain⟨y,ht,e⟩:=jh e;obtain⟨hpl,e⟩:=Rh e;have hp:(ps.toList.all fun p=>aF n p.2)=true:=by simpa[Op.operands]using ho
  have hs:execOp a.eval o=(do pure (.value (←Instr.build t (ps.map fun(i,x)=>(i,a.eval x)))):Sem Next):=by unfold execOp;rw[hop]
  rw[hs];exact aO.toN (Wm hg k hE hG ht hp hpl e)
 |buildSlice t m ps=>
  rw[hop]at e ho;obtain⟨y,el,ye,arr,ht,he,hd,e⟩:=BJ e;have hp:(ps.toList.all fun p=>aF n p.2)=true:=by simpa[Op.operands]using ho
  have hs:execOp a.eval o=(do pure (.value (←Instr.buildSlice t m (ps.map fun(i,x)=>(i,a.eval x)))):Sem Next):=by unfold execOp;rw[hop]
  rw[hs];rcases hd with⟨hd,rfl⟩|⟨m',hd,rfl⟩
  ·exact aO.toN (Ho hE hG hg k ht hd he hp e)
  ·cases e
 |load t x=>
  rw[hop]at e ho hacc;cases hacc;obtain⟨y,ht,e⟩:=jh e;have hx:aF n x=true:=by simpa[Op.operands]using ho
  have hs:execOp a.eval o=(do pure (.value (←Instr.loadAt t (a.eval x))):Sem Next):=by unfold execOp;rw[hop]
  rw[hs];exact aO.toN (aav hg k ht (bE hE hG x hx) hD e)
 |store t x y=>
  rw[hop]at e ho hacc;cases hacc;obtain⟨yt,ht,e⟩:=jh e;have hx:aF n x=true∧aF n y=true:=by simpa[Op.operands]using ho
  have hs:execOp a.eval o=(do Instr.storeAt t (a.eval x) (a.eval y);pure .skip:Sem Next):=by unfold execOp;rw[hop]
  rw[hs];exact EO.toN (V7 hg k ht (bE hE hG x hx.1) (bE hE hG y hx.2) hD e)
 |nilCheck x=>
  rw[hop]at e ho;have e:uE (oz g ((ev x).f en)) h= .ok v h':=e;have hx:aF n x=true:=by simpa[Op.operands]using ho
  obtain⟨h1,h2,rfl⟩:=LQ (P:=P) k hg (bE hE hG x hx) e o a.eval x hop rfl;exact⟨ι,w,[],_,h1, .inl ⟨_,rfl,h2⟩,Loc.refl k⟩
 |binOp op t x y ty=>
  rw[hop]at e ho;have e:uE ((V3 op (Bool.rec (isC y) true (isC x)) (eqK g t)).f ((ev x).f en) ((ev y).f en)) h= .ok v h':=e;have hx:aF n x=true∧aF n y=true:=by simpa[Op.operands]using ho
  have hs:execOp a.eval o=(do pure (.value (←(do eqGuard op t x y (a.eval x) (a.eval y);binOp op t (a.eval x) (a.eval y):Sem Value))):Sem Next):=by unfold execOp;rw[hop]
  rw[hs];obtain⟨e1,rfl,hv⟩:=qD e;subst e1;obtain⟨v',h1,h2⟩:=aat (P:=P) hg (bE hE hG x hx.1) (bE hE hG y hx.2) rfl hv w;exact aO.toN (aO.ret k h1 h2)
 |unOp op t x=>
  rw[hop]at e ho;have e:uE ((uop op).f ((ev x).f en)) h= .ok v h':=e;have hx:aF n x=true:=by simpa[Op.operands]using ho
  have hs:execOp a.eval o=(do pure (.value (←Op.unary op (a.eval x))):Sem Next):=by unfold execOp;rw[hop]
  rw[hs];obtain⟨e1,rfl,hv⟩:=qD e;subst e1;obtain⟨v',h1,h2⟩:=uop_ok (P:=P) (bE hE hG x hx) rfl hv;exact aO.toN (aO.ret k (h1 w) h2)
 |convert s d x=>
  rw[hop]at e ho hacc;cases hacc;obtain⟨ys,hs',e⟩:=jh e;obtain⟨yd,hd',e⟩:=jh e;have hx:aF n x=true:=by simpa[Op.operands]using ho
  have hs:execOp a.eval o=(do pure (.value (←convert s d (a.eval x))):Sem Next):=by unfold execOp;rw[hop]
  rw[hs];exact aO.toN (aaG hg k hs' hd' (bE hE hG x hx) hD e)
 |makeInterface t x=>
  rw[hop]at e ho;obtain⟨y,ht,e⟩:=jh e;have hx:aF n x=true:=by simpa[Op.operands]using ho
  have hs:execOp a.eval o=(do pure (.value (←Instr.makeInterface t (a.eval x))):Sem Next):=by unfold execOp;rw[hop]
  rw[hs];have hi:(∀ms,y.desc≠.interface ms)∧v= .uh t ((ev x).f en)∧h'=h:=by
   split at e;·cases e
   ·rename_i hne;refine⟨fun ms hms=>hne ms hms,?_⟩;dsimp only at e;split at e
    ·cases e
    ·cases e;exact⟨rfl,rfl⟩
  obtain⟨h1,rfl,rfl⟩:=hi;exact aO.toN (JU k hg ht h1 (bE hE hG x hx))
 |makeFunc fn fs cs=>
  rw[hop]at e ho;have hs:execOp a.eval o=(do pure (.value (←Instr.makeFunc fn (fs.map a.eval) (cs.map a.eval))):Sem Next):=by unfold execOp;rw[hop]
  rw[hs];cases fn with
  |func f0=>
   cases e;have hx:fs.toList.all (aF n)=true∧cs.toList.all (aF n)=true:=by have:(fs++cs).toList.all (aF n)=true:=ho;rw[qG,zI,aJ]at this;exact this
   exact aO.toN (LD k (by rw[nM];exact wG hE hG _ hx.1) (by rw[nM];exact wG hE hG _ hx.2))
  |method nm=>
   obtain⟨fs⟩:=fs;obtain⟨cs⟩:=cs;rcases fs with _|⟨o1,_|⟨o2,fs⟩⟩
   ·cases e
   ·rcases cs with _|⟨o3,cs⟩
    ·have hx:aF n o1=true:=by have:(#[o1]++#[]:Array Operand).toList.all (aF n)=true:=ho;simpa using this
     have hv:=bE hE hG o1 hx;have e:(match(ev o1).f en with
      | .uh t x=>bJ.ok (.fn (nat_lit 0) (.uh t x) (.str (Str.of nm.toUTF8))) h
      |_=> .fail)= .ok v h':=e
     generalize(ev o1).f en=xa at e hv;cases xa<;>first|(cases e;done)|skip
     cases e;have h2:=aO.toN (Hq (P:=P) (nm:=nm) k hv);simpa using h2
    ·cases e
   ·cases e
  |_=>cases e
 |makeMap t r=>
  rw[hop]at e ho;have hs:execOp a.eval o=(do pure (.value (←Instr.makeMap t (r.map a.eval))):Sem Next):=by unfold execOp;rw[hop]
  rw[hs];cases r with
  |none=>exact aO.toN (CP k hg e _ (by simp))
  |some x=>
   have hx:aF n x=true:=by simpa[Op.operands]using ho
   have hv:=bE hE hG x hx;have e:(match(ev x).f en with
    | .int _ _=>qW (fq g t) h
    |_=> .fail)= .ok v h':=e
   have hi:(∃kd m,a.eval x= .int kd m)∧qW (fq g t) h= .ok v h':=by generalize(ev x).f en=xa at e hv;cases xa<;>first|(cases e;done)|exact⟨⟨_,_,hv⟩,e⟩
   exact aO.toN (CP k hg hi.2 _ (fun y hy=>by cases hy;exact hi.1))
 |makeSlice t l c=>
  rw[hop]at e ho;obtain⟨y,el,ye,arr,ht,he,hd,e⟩:=BJ e;have hx:aF n l=true∧aF n c=true:=by simpa[Op.operands]using ho
  have hs:execOp a.eval o=(do pure (.value (←Instr.makeSlice t (a.eval l) (a.eval c))):Sem Next):=by unfold execOp;rw[hop]
  rw[hs];rcases hd with⟨hd,rfl⟩|⟨m',hd,rfl⟩
  ·exact aO.toN (JM hg k ht hd he (bE hE hG l hx.1) (bE hE hG c hx.2) e)
  ·cases e
 |slice t x lo hi mx=>
  rw[hop]at e ho hacc;cases hacc;have hs:execOp a.eval o=(do pure (.value (←Instr.sliceAt t (a.eval x) (lo.map a.eval) (hi.map a.eval) (mx.map a.eval))):Sem Next):=by unfold execOp;rw[hop]
  rw[hs];have hx:aF n x=true∧oOk n lo=true∧oOk n hi=true∧oOk n mx=true:=by cases lo<;>cases hi<;>cases mx<;>simpa[Op.operands,oOk]using ho
  unfold Hw at e;dsimp only at e;split at e;·rename_i el _ _ _ _ _ ht;obtain⟨ye,he,e⟩:=jh e;obtain⟨hmh,e⟩:=Rh e;exact aO.toN (Wp hE hG hg k ht rfl he hx.1 hx.2.1 hx.2.2.1 hx.2.2.2 hmh e)
  ·rename_i ht;split at e
   ·exact aO.toN (Lu hE hG hg k ht rfl hx.1 hx.2.1 hx.2.2.1 e)
   ·cases e
  ·rename_i m el _ _ _ _ _ ht;obtain⟨ye,he,e⟩:=jh e;exact aO.toN (Lx hE hG hg k ht rfl he hx.1 hx.2.1 hx.2.2.1 hD e)
  ·cases e
 |fieldAddr s x f0=>
  rw[hop]at e ho;obtain⟨y,fs,fd,yf,hy,hd,hf,he,e⟩:=fieldT_inv e;have hx:aF n x=true:=by simpa[Op.operands]using ho
  have hs:execOp a.eval o=(do pure (.value (←Instr.fieldAt s (a.eval x) f0)):Sem Next):=by unfold execOp;rw[hop]
  rw[hs];split at e;·rename_i hz;exact aO.toN (fieldAddr_ok hg k hy hd hf he (by rw[hz];simp) (bE hE hG x hx) e)
  ·cases e
 |field s x f0=>
  rw[hop]at e ho;obtain⟨y,fs,fd,yf,hy,hd,hf,he,e⟩:=fieldT_inv e;have hx:aF n x=true:=by simpa[Op.operands]using ho
  have hs:execOp a.eval o=(do pure (.value (←Instr.field s (a.eval x) f0)):Sem Next):=by unfold execOp;rw[hop]
  rw[hs];have hv:=bE hE hG x hx;dsimp only at e;split at e;·rename_i cs hcs;rw[hcs]at hv;exact aO.toN (fields_ok hg k hy hd hf he hv e)
  ·cases e
 |indexAddr t x i=>
  rw[hop]at e ho;obtain⟨y,el,ye,arr,ht,he,hd,e⟩:=BJ e;have hx:aF n x=true∧aF n i=true:=by simpa[Op.operands]using ho
  have hs:execOp a.eval o=(do pure (.value (←Instr.indexAt t (a.eval x) (a.eval i))):Sem Next):=by unfold execOp;rw[hop]
  rw[hs];rcases hd with⟨hd,rfl⟩|⟨m',hd,rfl⟩
  ·exact aO.toN (aax hg k ht hd he (bE hE hG x hx.1) (bE hE hG i hx.2) e)
  ·exact aO.toN (aay hg k ht hd he (bE hE hG x hx.1) (bE hE hG i hx.2) e)
 |index t x i=>
  rw[hop]at e ho;have hx:aF n x=true∧aF n i=true:=by simpa[Op.operands]using ho
  have hs:execOp a.eval o=(do pure (.value (←Instr.index t (a.eval x) (a.eval i))):Sem Next):=by unfold execOp;rw[hop]
  rw[hs];unfold Hw at e;dsimp only at e;split at e;·rename_i ht;exact aO.toN (TJ hg k ht rfl (bE hE hG x hx.1) (bE hE hG i hx.2) e)
  ·rename_i m el _ _ _ _ _ ht;obtain⟨ye,he,e⟩:=jh e;exact aO.toN (TK hg k ht rfl he (bE hE hG x hx.1) (bE hE hG i hx.2) e)
  ·cases e
 |lookup t x i ok=>
  rw[hop]at e ho hacc;cases hacc;obtain⟨y,kt,et,ye,ht,hd,he,e⟩:=CS e;have hx:aF n x=true∧aF n i=true:=by simpa[Op.operands]using ho
  have hs:execOp a.eval o=(do pure (.value (←Instr.lookup t (a.eval x) (a.eval i) ok)):Sem Next):=by unfold execOp;rw[hop]
  rw[hs];exact aO.toN (TM hg k ht hd he (bE hE hG x hx.1) (bE hE hG i hx.2) hD e)
 |mapUpdate t m kk x=>
  rw[hop]at e ho hacc;cases hacc;have hx:aF n m=true∧aF n kk=true∧aF n x=true:=by simpa[Op.operands]using ho
  have hs:execOp a.eval o=(do Instr.mapUpdate t (a.eval m) (a.eval kk) (a.eval x);pure .skip:Sem Next):=by unfold execOp;rw[hop]
  rw[hs];have e:(match(ev x).f en with
   | .bad=>bJ.fail
   |v=>BG (fq g t) ((ev m).f en) ((ev kk).f en) v h)= .ok v h':=e
  split at e;·cases e
  ·exact EO.toN (LC hg k (bE hE hG m hx.1) (bE hE hG kk hx.2.1) (bE hE hG x hx.2.2) hD e)
 |insert t m kk x=>
  rw[hop]at e ho hacc;cases hacc;have hx:aF n m=true∧aF n kk=true∧aF n x=true:=by simpa[Op.operands]using ho
  have hs:execOp a.eval o=(do Instr.mapUpdate t (a.eval m) (a.eval kk) (a.eval x);pure .skip:Sem Next):=by unfold execOp;rw[hop]
  rw[hs];have e:(match(ev x).f en with
   | .bad=>bJ.fail
   |v=>BG (fq g t) ((ev m).f en) ((ev kk).f en) v h)= .ok v h':=e
  split at e;·cases e
  ·exact EO.toN (LC hg k (bE hE hG m hx.1) (bE hE hG kk hx.2.1) (bE hE hG x hx.2.2) hD e)
 |mapEntry t m kk=>
  rw[hop]at e ho hacc;cases hacc;obtain⟨y,kt,et,ye,ht,hd,he,e⟩:=CS e;have hx:aF n m=true∧aF n kk=true:=by simpa[Op.operands]using ho
  have hs:execOp a.eval o=(do pure (.value (←Instr.mapEntry t (a.eval m) (a.eval kk))):Sem Next):=by unfold execOp;rw[hop]
  rw[hs];exact aO.toN (TN hg k ht hd he (bE hE hG m hx.1) (bE hE hG kk hx.2) hD e)
 |entryStore t m s x=>
  rw[hop]at e ho hacc;cases hacc;have hx:aF n m=true∧aF n s=true∧aF n x=true:=by simpa[Op.operands]using ho
  have hs:execOp a.eval o=(do Instr.entryStore t (a.eval m) (a.eval s) (a.eval x);pure .skip:Sem Next):=by unfold execOp;rw[hop]
  rw[hs];have e:(match(ev x).f en with
   | .bad=>bJ.fail
   |v=>JR ((ev m).f en) ((ev s).f en) v h)= .ok v h':=e
  split at e;·cases e
  ·exact EO.toN (Ws k (bE hE hG m hx.1) (bE hE hG s hx.2.1) (bE hE hG x hx.2.2) hD e)
 |range t x=>
  rw[hop]at e ho;have hx:aF n x=true:=by simpa[Op.operands]using ho
  have hs:execOp a.eval o=(do pure (.value (←Instr.range t (a.eval x))):Sem Next):=by unfold execOp;rw[hop]
  rw[hs];unfold Hw at e;dsimp only at e;split at e;·rename_i ht;exact aO.toN (Wt k hg ht rfl (bE hE hG x hx) e)
  ·cases e
 |next it s=>
  rw[hop]at e ho hacc;cases hacc;have hx:aF n it=true:=by simpa[Op.operands]using ho
  have hs:execOp a.eval o=(do pure (.value (←Instr.next (a.eval it) s o.type)):Sem Next):=by unfold execOp;rw[hop]
  rw[hs];cases s;·cases e
  ·exact aO.toN (Ra k (bE hE hG it hx) hD o.type e)
 |extract x i=>
  rw[hop]at e ho;have hx:aF n x=true:=by simpa[Op.operands]using ho
  have hs:execOp a.eval o=(do pure (.value (←Instr.extract (a.eval x) i)):Sem Next):=by unfold execOp;rw[hop]
  rw[hs];exact aO.toN (O4 k (bE hE hG x hx) e)
 |call c=>
  rw[hop]at e ho hacc;have hs:execOp a.eval o=(do let d←resolve a.eval c o.type;invoke d.target d.args:Sem Next):=by unfold execOp;rw[hop]
  rw[hs];cases hc:c.callee with
  |builtin b=>
   have hacc:some (fun en=>blks c.args.toList en)=some f:=by rw[←hacc];unfold um;dsimp only;rw[hc]
   cases hacc;refine Pb hE hG hg k hc ?_ hD e;have ho:(c.operands).toList.all (aF n)=true:=ho;unfold Call.operands at ho;rw[hc]at ho;simpa using ho
  |_=>unfold Hw at e;dsimp only at e;rw[hc]at e;cases e
 |_=>rw[hop]at e;cases e
end
end
def St (b:Frame) (a:Go.Act) (todo:List Item):Frame:={b with tmps:=a.tmps,todo,defers:=a.defers,mode:= .run}
theorem J6 (b:Frame) (a:Go.Act) (todo:List Item):(St b a todo).eval=a.eval:=by funext x;cases x<;>rfl
section
variable {P:Program} {b:Frame} {a:Go.Act} {k:List Item} {cs:List Frame} {w:World}
theorem Rj:step P (lone (St b a (.code .skip::k)) cs w)= .next (lone (St b a k) cs w):=
 step_lone_go (by simp[stepG,stepG.exec,St])
theorem WG {l:Nat}:step P (lone (St b a (.code (.label l)::k)) cs w)= .next (lone (St b a k) cs w):=
 step_lone_go (by simp[stepG,stepG.exec,St])
theorem Pe {i:Nat}:step P (lone (St b a (.inBlock i::k)) cs w)= .next (lone (St b a k) cs w):=
 step_lone_go (by simp[stepG,stepG.exec,St])
theorem Pf {c:Code}:step P (lone (St b a (.inScope c::k)) cs w)= .next (lone (St b a k) cs w):=
 step_lone_go (by simp[stepG,stepG.exec,St])
theorem WH {x y:Code}:step P (lone (St b a (.code (.seq x y)::k)) cs w)= .next (lone (St b a (.code x:: .code y::k)) cs w):=
 step_lone_go (by simp[stepG,stepG.exec,St])
theorem Rk {c:Operand} {x y:Code} {t:Bool} (h:a.eval c= .bool t):
 step P (lone (St b a (.code (.cond c x y)::k)) cs w)= .next (lone (St b a (.code (if t then x else y)::k)) cs w):=
 step_lone_go (by
  have he:(St b a (.code (.cond c x y)::k)).eval c= .bool t:=by rw[J6];exact h
  simp only[St]at he;simp[stepG,stepG.exec,St,he])
theorem WI {i:Nat} {c:Code}:step P (lone (St b a (.code (.block i c)::k)) cs w)= .next (lone (St b a (.code c:: .inBlock i::k)) cs w):=
 step_lone_go (by simp[stepG,stepG.exec,St])
theorem aaL {c:Code}:step P (lone (St b a (.code (.loop c)::k)) cs w)= .next (lone (St b a (.code c:: .inLoop c::k)) cs w):=
 step_lone_go (by simp[stepG,stepG.exec,St])
theorem TU {c:Code}:step P (lone (St b a (.inLoop c::k)) cs w)= .next (lone (St b a (.code c:: .inLoop c::k)) cs w):=
 step_lone_go (by simp[stepG,stepG.exec,St])
theorem WJ {c:Code}:step P (lone (St b a (.code (.scope c)::k)) cs w)= .next (lone (St b a (.code c:: .inScope c::k)) cs w):=
 step_lone_go (by simp[stepG,stepG.exec,St])
theorem aaM {i:Nat} {k':List Item} (h:exitTo i k=some k'):step P (lone (St b a (.code (.exit i)::k)) cs w)= .next (lone (St b a k') cs w):=
 step_lone_go (by simp[stepG,stepG.exec,St,h])
theorem aaN {l:Nat} {k':List Item} (h:gotoIn l k=some k'):step P (lone (St b a (.code (.goto l)::k)) cs w)= .next (lone (St b a k') cs w):=
 step_lone_go (by simp[stepG,stepG.exec,St,h])
theorem TV {i:Nat} {ops:Array Oper}:
 step P (lone (St b a (.code (.region i ops false)::k)) cs w)= .next (lone (St b a (.inRegion ops (List.range ops.size)::k)) cs w):=
 step_lone_go (by simp[stepG,stepG.exec,St])
theorem Fj {i:Nat} {ops:Array Oper}:
 step P (lone (St b a (.code (.region i ops true)::k)) cs w)=
  .next (lone (St b a (.inRegion ops (Region.schedule (P.follows .mixedOrders) ops (w.tape w.drawn (.order b.fn i)))::k)) cs (World.bZ w (w.drawn+1))):=
 step_lone_go (by simp[stepG,stepG.exec,St,World.bZ,choose,Sem.run,Question.forced,Question.cut])
theorem xX {ops:Array Oper}:step P (lone (St b a (.inRegion ops []::k)) cs w)= .next (lone (St b a k) cs w):=
 step_lone_go (by simp[stepG,stepG.exec,St])
theorem qX {ops:Array Oper} {i:Nat} {rest:List Nat} (v:Value):
 (St b a (.inRegion ops (i::rest)::k)).finish v=St b (a.put ((ops[i]?).bind (·.dst)) v) (.inRegion ops rest::k):=by
 cases h:(ops[i]?).bind (·.dst)<;>simp[Frame.finish,St,Act.put,h]
theorem Fp {ops:Array Oper} {i:Nat} {rest:List Nat} (h:((ops[i]?).map (Region.wanted · (yielded ops a.tmps))).getD false=false):
 step P (lone (St b a (.inRegion ops (i::rest)::k)) cs w)= .next (lone (St b (a.put ((ops[i]?).bind (·.dst)) undef) (.inRegion ops rest::k)) cs w):=by
 rw[←qX];exact step_lone_go (by
  have h':=h;simp only[St]at*
  simp[stepG,stepG.exec,h'])
def Ed:Op→Bool
 | .defer _=>true
 |_=>false
theorem J7 {ops:Array Oper} {i:Nat} {rest:List Nat} {o:Oper} (ho:ops[i]? =some o) (hw:Region.wanted o (yielded ops a.tmps)=true) (hd:b.roundOf=none∨Ed o.op=false):
 stepG P true {frame:=St b a (.inRegion ops (i::rest)::k),callers:=cs,status:= .running,dying:=none} w=
  stepG.apply P true (St b a (.inRegion ops (i::rest)::k)) cs none (execOp a.eval o) w:=by
 have he:=J6 b a (.inRegion ops (i::rest)::k);simp only[St]at he;rcases hd with hd|hd;·rw[hd]at he;simp[stepG,stepG.exec,stepG.oper,Frame.oper?,St,ho,hw,he,hd]
 ·cases hr:b.roundOf with
  |none=>rw[hr]at he;simp[stepG,stepG.exec,stepG.oper,Frame.oper?,St,ho,hw,he,hr]
  |some l=>rw[hr]at he;obtain⟨dst,op,ty,pos,after,gd⟩:=o;cases op<;>first|(cases hd;done)|(simp[stepG,stepG.exec,stepG.oper,Frame.oper?,St,ho,hw,he,hr];done)
end
def Calm (kind:CallKind) (cs:List Frame):Prop:=kind= .normal∨(kind= .deferred∧∀c r,cs=c::r→c.mode= .returning)
structure Lv (P:Program) (fr:Frame) (f:FuncId) (kind:CallKind) (w:World) (v:Value):Prop where
 mode:fr.mode= .returning
 defers:fr.defers=[]
 kind:fr.kind=kind
 fn:fr.fn=f
 res:∃fn,P.funcs[f]? =some fn∧(results fn fr.tmps).run P w= .ok v w
def sO (P:Program) (f:FuncId) (vs:Array Value) (w:World) (R:Value→World→Prop):Prop:=
 ∀kind cs,Calm kind cs→∃fr v w',R v w'∧Steps P (lone (Frame.enter P f vs kind) cs w) (lone fr cs w')∧Lv P fr f kind w' v
def ael (P:Program) (l:Nat) (f:FuncId) (tmps:Array Value) (as bo:Code) (w:World) (R:Value→World→Prop):Prop:=
 ∀c cs,∃v w',R v w'∧Steps P (lone (Frame.round l f tmps as bo .normal) (c::cs) w) (lone (c.finish v) cs w')
def Ends (P:Program) (s:Sem Next) (w:World) (R:Value→World→Prop):Prop:=
 (∃v w',s.run P w= .ok (.value v) w'∧R v w')∨(∃f vs w1,s.run P w= .ok (.enter f vs) w1∧sO P f vs w1 R)∨
 (∃l f tmps as bo w1,s.run P w= .ok (.round l f tmps as bo) w1∧ael P l f tmps as bo w1 R)
section
variable {P:Program} {w:World} {R R':Value→World→Prop}
theorem Ends.congr {s s':Sem Next} (h:s'.run P w=s.run P w) (e:Ends P s w R):Ends P s' w R:=by unfold Ends;rw[h];exact e
theorem Ends.mono {s:Sem Next} (hR:∀v w,R v w→R' v w) (e:Ends P s w R):Ends P s w R':=by
 rcases e with⟨v,w',h,r⟩|⟨f,vs,w1,h,r⟩|⟨l,f,tmps,as,bo,w1,h,r⟩
 ·exact .inl ⟨v,w',h,hR _ _ r⟩
 ·exact .inr (.inl ⟨f,vs,w1,h,fun kind cs hc=>let⟨fr,v,w',q,s,t⟩:=r kind cs hc;⟨fr,v,w',hR _ _ q,s,t⟩⟩)
 ·exact .inr (.inr ⟨l,f,tmps,as,bo,w1,h,fun c cs=>let⟨v,w',q,s⟩:=r c cs;⟨v,w',hR _ _ q,s⟩⟩)
theorem Fq {P:Program} {fr c:Frame} {cs:List Frame} {w:World} {v:Value} {f:FuncId} (h:Lv P fr f .normal w v):
 step P (lone fr (c::cs) w)= .next (lone (c.finish v) cs w):=by
 obtain⟨hm,hd,hk,rfl,fn,hf,hr⟩:=h;exact step_lone_go (by simp[stepG,unwind,doReturn,hm,hd,hk,hf,hr])
theorem Rl {ops:Array Oper} {i:Nat} {rest:List Nat} {o:Oper} {b:Frame} {a:Go.Act} {k:List Item} {cs:List Frame} (ho:ops[i]? =some o) (hw:Region.wanted o (yielded ops a.tmps)=true)
 (hd:b.roundOf=none∨Ed o.op=false) (e:Ends P (execOp a.eval o) w R):
 ∃v w',R v w'∧Steps P (lone (St b a (.inRegion ops (i::rest)::k)) cs w) (lone (St b (a.put o.dst v) (.inRegion ops rest::k)) cs w'):=by
 have hg:=J7 (P:=P) (k:=k) (cs:=cs) (w:=w) (rest:=rest) ho hw hd;have hfin:∀v,(St b a (.inRegion ops (i::rest)::k)).finish v=St b (a.put o.dst v) (.inRegion ops rest::k):=by intro v;rw[qX,ho];rfl
 rcases e with⟨v,w',h,r⟩|⟨f,vs,w1,h,r⟩|⟨l,f,tmps,as,bo,w1,h,r⟩
 ·refine⟨v,w',r, .one (step_lone_go ?_)⟩;rw[hg,←hfin];simp[stepG.apply,h]
 ·obtain⟨fr,v,w',q,hs,hl⟩:=r .normal (St b a (.inRegion ops (i::rest)::k)::cs) (.inl rfl);have henter:step P (lone (St b a (.inRegion ops (i::rest)::k)) cs w)=
   .next (lone (Frame.enter P f vs .normal) (St b a (.inRegion ops (i::rest)::k)::cs) w1):=
   step_lone_go (by rw[hg];simp[stepG.apply,h,St])
  refine⟨v,w',q, .head henter (hs.trans (.one ?_))⟩;rw[←hfin];exact Fq hl
 ·obtain⟨v,w',q,hs⟩:=r (St b a (.inRegion ops (i::rest)::k)) cs;have henter:step P (lone (St b a (.inRegion ops (i::rest)::k)) cs w)=
   .next (lone (Frame.round l f tmps as bo .normal) (St b a (.inRegion ops (i::rest)::k)::cs) w1):=
   step_lone_go (by rw[hg];simp[stepG.apply,h,St])
  refine⟨v,w',q, .head henter ?_⟩;rw[←hfin];exact hs
theorem aaO {ops:Array Oper} {i:Nat} {rest:List Nat} {o:Oper} {b:Frame} {a:Go.Act} {k:List Item} {cs:List Frame} {w':World} (ho:ops[i]? =some o) (hw:Region.wanted o (yielded ops a.tmps)=true)
 (hd:b.roundOf=none∨Ed o.op=false) (h:(execOp a.eval o).run P w= .ok .skip w'):
 Steps P (lone (St b a (.inRegion ops (i::rest)::k)) cs w) (lone (St b (a.put o.dst undef) (.inRegion ops rest::k)) cs w'):=by
 have hg:=J7 (P:=P) (k:=k) (cs:=cs) (w:=w) (rest:=rest) ho hw hd;have hfin:∀v,(St b a (.inRegion ops (i::rest)::k)).finish v=St b (a.put o.dst v) (.inRegion ops rest::k):=by intro v;rw[qX,ho];rfl
 refine .one (step_lone_go ?_);rw[hg,←hfin];simp[stepG.apply,h]
theorem WK {ops:Array Oper} {i:Nat} {rest:List Nat} {o:Oper} {b:Frame} {a:Go.Act} {k:List Item} {cs:List Frame} {w':World} {d:Deferred} (ho:ops[i]? =some o) (hw:Region.wanted o (yielded ops a.tmps)=true)
 (hd:b.roundOf=none) (h:(execOp a.eval o).run P w= .ok (.defer d) w'):
 Steps P (lone (St b a (.inRegion ops (i::rest)::k)) cs w) (lone (St b (({a with defers:=d::a.defers}:Go.Act).put o.dst undef) (.inRegion ops rest::k)) cs w'):=by
 have hg:=J7 (P:=P) (k:=k) (cs:=cs) (w:=w) (rest:=rest) ho hw (.inl hd);have hfin:({St b a (.inRegion ops (i::rest)::k)with defers:=d::a.defers}:Frame).finish undef=
  St b (({a with defers:=d::a.defers}:Go.Act).put o.dst undef) (.inRegion ops rest::k):=by
  have:=qX (b:=b) (a:={a with defers:=d::a.defers}) (k:=k) (ops:=ops) (i:=i) (rest:=rest) undef;rw[ho]at this;exact this
 refine .one (step_lone_go ?_);rw[hg];simp only[stepG.apply,Sem.runT_eq,h,GStep.bare_after];exact eT (fun fr=>GStep.go {frame:=fr,callers:=cs,status:= .running,dying:=none} w') hfin
theorem Pg {fr:Frame} {cs:List Frame} (h:Calm fr.kind cs):tryRecover fr cs=none:=by
 unfold tryRecover;rcases h with h|⟨h,hc⟩
 ·rw[h]
 ·rw[h];cases cs with
  |nil=>rfl
  |cons c r=>simp only[hc c r rfl]
theorem Ph {ops:Array Oper} {i:Nat} {rest:List Nat} {o:Oper} {b:Frame} {a:Go.Act} {k:List Item} {cs:List Frame} {w':World} (ho:ops[i]? =some o) (hw:Region.wanted o (yielded ops a.tmps)=true)
 (hd:b.roundOf=none) (hc:Calm b.kind cs) (h:(execOp a.eval o).run P w= .ok .recover w'):
 Steps P (lone (St b a (.inRegion ops (i::rest)::k)) cs w) (lone (St b (a.put o.dst .nilIface) (.inRegion ops rest::k)) cs w'):=by
 have hg:=J7 (P:=P) (k:=k) (cs:=cs) (w:=w) (rest:=rest) ho hw (.inl hd);have hfin:∀v,(St b a (.inRegion ops (i::rest)::k)).finish v=St b (a.put o.dst v) (.inRegion ops rest::k):=by intro v;rw[qX,ho];rfl
 have hr:tryRecover (St b a (.inRegion ops (i::rest)::k)) cs=none:=Pg hc;have hro:(St b a (.inRegion ops (i::rest)::k)).roundOf=none:=hd;refine .one (step_lone_go ?_);rw[hg,←hfin];simp[stepG.apply,h,hro,hr]
end
def CR (ι:bA) (h:H) (w:World) (v:AV) (h':H):Value→World→Prop:=fun v' w'=>∃ι' W,VR ι' v v'∧WR ι' h' w'∧Ext ι h w ι' h' w' W
structure TW (P:Program) (cx:Cx):Prop where
 call:∀f args h v h',cx.call f args h= .ok v h'→∀ι w (vs:Array Value),WR ι h w→GI ι→iD ι args vs.toList→Ends P (callFunc f vs) w (CR ι h w v h')
 qH:∀t s f,cx.qH t s=some f→Bu P t s=some f
 xQ:∀l args h v h',cx.xQ l args h= .ok v h'→∀ι w (vs:Array Value) m,WR ι h w→GI ι→ι l=some m→iD ι args vs.toList→Ends P (Instr.yield m.B vs) w (CR ι h w v h')
def aaP (ι:bA) (rd:Option Nat) (b:Frame):Prop:=(rd=none∧b.roundOf=none)∨∃l m,rd=some l∧ι l=some m∧b.roundOf=some m.B
theorem aaP.mono {ι ι':bA} (h:ι.le ι') {rd:Option Nat} {b:Frame} (k:aaP ι rd b):aaP ι' rd b:=by
 rcases k with k|⟨l,m,h1,h2,h3⟩
 ·exact .inl k
 ·exact .inr ⟨l,m,h1,h _ _ h2,h3⟩
structure Pre (P:Program) (n:Nat) (cx:Cx) (ι:bA) (en:Env) (h:H) (df:List Df) (a:Go.Act) (w:World) (b:Frame) (cs:List Frame):Prop where
 cok:TW P cx
 env:iE ι n en a.tmps
 wH:WM ι df a.defers
 wr:WR ι h w
 gi:GI ι
 rd:aaP ι cx.rd b
 calm:Calm b.kind cs
structure SR (ι0:bA) (h0:H) (w0:World) (n:Nat) (ι:bA) (en:Env) (h:H) (df:List Df) (a:Go.Act) (w:World):Prop where
 env:iE ι n en a.tmps
 wH:WM ι df a.defers
 wr:WR ι h w
 ext:∃W,Ext ι0 h0 w0 ι h w W
section
variable {P:Program} {n:Nat} {cx:Cx} {ι ι0 ι1:bA} {en en0 qg:Env} {h h0 h1:H} {df df0 sP:List Df} {a a0 a1:Go.Act} {w w0 w1:World} {b:Frame} {cs:List Frame}
theorem SR.le (s:SR ι0 h0 w0 n ι en h df a w) (k:WR ι0 h0 w0):ι0.le ι:=let⟨_,e⟩:=s.ext;e.le k.fresh
theorem Pre.next (p:Pre P n cx ι0 en0 h0 df0 a0 w0 b cs) (s:SR ι0 h0 w0 n ι en h df a w):Pre P n cx ι en h df a w b cs:=
 ⟨p.cok,s.env,s.wH,s.wr,p.gi.mono (s.le p.wr),p.rd.mono (s.le p.wr),p.calm⟩
theorem Pre.here (p:Pre P n cx ι en h df a w b cs):SR ι h w n ι en h df a w:=⟨p.env,p.wH,p.wr,[],Ext.refl ι h w p.wr.fresh⟩
theorem SR.trans (s:SR ι0 h0 w0 n ι1 qg h1 sP a1 w1) (t:SR ι1 h1 w1 n ι en h df a w):SR ι0 h0 w0 n ι en h df a w:=by obtain⟨W,e⟩:=s.ext;obtain⟨W',e'⟩:=t.ext;exact⟨t.env,t.wH,t.wr,_,e.trans e'⟩
def Out (P:Program) (b:Frame) (n:Nat) (kk:List Item) (cs:List Frame) (ι:bA) (h:H) (w:World) (m:Machine):XR→Prop
 | .fail=>True
 | .norm en' h' lg=>∃ι' a' w',Steps P m (lone (St b a' kk) cs w')∧SR ι h w n ι' en' h' lg a' w'
 | .ret en' h' lg=>∃ι' a' w' todo,Steps P m (lone (St b a' (.code .ret::todo)) cs w')∧SR ι h w n ι' en' h' lg a' w'
 | .ext i en' h' lg=>∃ι' a' w' todo,exitTo i todo=exitTo i kk∧Steps P m (lone (St b a' (.code (.exit i)::todo)) cs w')∧SR ι h w n ι' en' h' lg a' w'
 | .got l en' h' lg=>∃ι' a' w' todo,gotoIn l todo=gotoIn l kk∧Steps P m (lone (St b a' (.code (.goto l)::todo)) cs w')∧SR ι h w n ι' en' h' lg a' w'
theorem Out.trans {kk:List Item} {m m1:Machine} {r:XR} (hs:Steps P m m1) (s:SR ι0 h0 w0 n ι1 qg h1 sP a1 w1) (o:Out P b n kk cs ι1 h1 w1 m1 r):Out P b n kk cs ι0 h0 w0 m r:=by
 cases r with
 |fail=>trivial
 |norm en' h' lg=>obtain⟨ι',a',w',q,t⟩:=o;exact⟨ι',a',w',hs.trans q,s.trans t⟩
 |ret en' h' lg=>obtain⟨ι',a',w',todo,q,t⟩:=o;exact⟨ι',a',w',todo,hs.trans q,s.trans t⟩
 |ext i en' h' lg=>obtain⟨ι',a',w',todo,e,q,t⟩:=o;exact⟨ι',a',w',todo,e,hs.trans q,s.trans t⟩
 |got l en' h' lg=>obtain⟨ι',a',w',todo,e,q,t⟩:=o;exact⟨ι',a',w',todo,e,hs.trans q,s.trans t⟩
theorem Out.steps {kk:List Item} {m m1:Machine} {r:XR} (hs:Steps P m m1) (o:Out P b n kk cs ι0 h0 w0 m1 r):Out P b n kk cs ι0 h0 w0 m r:=by
 cases r with
 |fail=>trivial
 |norm en' h' lg=>obtain⟨ι',a',w',q,t⟩:=o;exact⟨ι',a',w',hs.trans q,t⟩
 |ret en' h' lg=>obtain⟨ι',a',w',todo,q,t⟩:=o;exact⟨ι',a',w',todo,hs.trans q,t⟩
 |ext i en' h' lg=>obtain⟨ι',a',w',todo,e,q,t⟩:=o;exact⟨ι',a',w',todo,e,hs.trans q,t⟩
 |got l en' h' lg=>obtain⟨ι',a',w',todo,e,q,t⟩:=o;exact⟨ι',a',w',todo,e,hs.trans q,t⟩
theorem Out.pass {kk:List Item} {x:Item} (hx:x.plain=true) {m:Machine} {r:XR} (hr:∀en h df,r≠.norm en h df) (o:Out P b n (x::kk) cs ι0 h0 w0 m r):Out P b n kk cs ι0 h0 w0 m r:=by
 cases r with
 |fail=>trivial
 |norm en' h' lg=>exact absurd rfl (hr _ _ _)
 |ret en' h' lg=>exact o
 |ext i en' h' lg=>obtain⟨ι',a',w',todo,e,q,t⟩:=o;exact⟨ι',a',w',todo,(by rw[e];cases x<;>first|rfl|(cases hx;done)),q,t⟩
 |got l en' h' lg=>obtain⟨ι',a',w',todo,e,q,t⟩:=o;exact⟨ι',a',w',todo,(by rw[e];cases x<;>first|rfl|(cases hx;done)),q,t⟩
end
def uo (P:Program) (n:Nat) (k:K) (s:List Item→List Item):Prop:=
 ∀cx ι en h df a w b cs,Pre P n cx ι en h df a w b cs→∀kk,Out P b n kk cs ι h w (lone (St b a (s kk)) cs w) (k.k cx en h df)
def TY (P:Program) (n:Nat) (lk:Nat→Option K) (c:Code):Prop:=
 ∀l,match lk l,findLabel c l with
  |some r,some rest=>uo P n r (fun kk=> .code rest::kk)
  |none,none=>True
  |_,_=>False
section
variable {P:Program} {n:Nat}
theorem uo.pre {k:K} {s s':List Item→List Item} (hs:∀b a kk cs w,step P (lone (St b a (s' kk)) cs w)= .next (lone (St b a (s kk)) cs w)) (hk:uo P n k s):uo P n k s':=by intro cx ι en h df a w b cs p kk;exact Out.steps (.one (hs b a kk cs w)) (hk cx ι en h df a w b cs p kk)
theorem zJ:uo P n Il (fun kk=>kk):=fun _ ι _ _ _ a w _ _ p _=>⟨ι,a,w, .refl _ _,p.here⟩
theorem WO (s:List Item→List Item):uo P n failK s:=fun _ _ _ _ _ _ _ _ _ _ _=>trivial
theorem WQ (i:Nat):uo P n ⟨fun _=> .ext i⟩ (fun kk=> .code (.exit i)::kk):=fun _ ι _ _ _ a w _ _ p kk=>⟨ι,a,w,kk,rfl, .refl _ _,p.here⟩
theorem WS (l:Nat):uo P n ⟨fun _=> .got l⟩ (fun kk=> .code (.goto l)::kk):=fun _ ι _ _ _ a w _ _ p kk=>⟨ι,a,w,kk,rfl, .refl _ _,p.here⟩
theorem aaQ:uo P n ⟨fun _=> .ret⟩ (fun kk=> .code .ret::kk):=fun _ ι _ _ _ a w _ _ p kk=>⟨ι,a,w,kk, .refl _ _,p.here⟩
theorem Rm {ka kb:K} {sa:List Item→List Item} {y:Code} (ha:uo P n ka sa) (hb:uo P n kb (fun kk=> .code y::kk)):uo P n (aaR ka kb) (fun kk=>sa (.code y::kk)):=by
 intro cx ι en h df a w b cs p kk;have o:=ha cx ι en h df a w b cs p (.code y::kk);show Out P b n kk cs ι h w _ (XR.rec (motive:=fun _=>XR) .fail (kb.k cx) .ret .ext .got (ka.k cx en h df));generalize ka.k cx en h df=r at o;cases r with
 |fail=>trivial
 |norm qg h1 sP=>obtain⟨ι1,a1,w1,q,s⟩:=o;exact Out.trans q s (hb cx ι1 qg h1 sP a1 w1 b cs (p.next s) kk)
 |ret qg h1 sP=>exact Out.pass (x:= .code y) rfl (by simp) o
 |ext i qg h1 sP=>exact Out.pass (x:= .code y) rfl (by simp) o
 |got l qg h1 sP=>exact Out.pass (x:= .code y) rfl (by simp) o
theorem WT {c:Operand} (hc:aF n c=true) {ka kb:K} {x y:Code} (ha:uo P n ka (fun kk=> .code x::kk)) (hb:uo P n kb (fun kk=> .code y::kk)):
 uo P n (ac7 (ev c) ka kb) (fun kk=> .code (.cond c x y)::kk):=by
 intro cx ι en h df a w b cs p kk;have hv:=bE p.env p.gi c hc;show Out P b n kk cs ι h w _ (OB.rec (motive:=fun _=>XR) .fail (kb.k cx en h df) (ka.k cx en h df) (toB ((ev c).f en)));cases ht:toB ((ev c).f en)with
 |none=>trivial
 |f=>rw[toB_f ht]at hv;exact Out.steps (.one (Rk (t:=false) hv)) (hb cx ι en h df a w b cs p kk)
 |t=>rw[toB_t ht]at hv;exact Out.steps (.one (Rk (t:=true) hv)) (ha cx ι en h df a w b cs p kk)
theorem T9 {i:Nat} {ka:K} {x:Code} (ha:uo P n ka (fun kk=> .code x::kk)):uo P n (WU i ka) (fun kk=> .code (.block i x)::kk):=by
 intro cx ι en h df a w b cs p kk;have o:=ha cx ι en h df a w b cs p (.inBlock i::kk);refine Out.steps (.one WI) ?_;show Out P b n kk cs ι h w _ (XR.rec (motive:=fun _=>XR) .fail .norm .ret (leave i) .got (ka.k cx en h df));generalize ka.k cx en h df=r at o;cases r with
 |fail=>trivial
 |norm qg h1 sP=>obtain⟨ι1,a1,w1,q,s⟩:=o;exact⟨ι1,a1,w1,q.trans (.one Pe),s⟩
 |ret qg h1 sP=>exact o
 |ext j qg h1 sP=>
  obtain⟨ι1,a1,w1,todo,e,q,s⟩:=o;have e':exitTo j todo=if i==j then some kk else exitTo j kk:=by
   rw[e];have:exitTo j (.inBlock i::kk)=if i==j then some kk else exitTo j kk:=by simp only[exitTo]
   exact this
  show Out P b n kk cs ι h w _ (Bool.rec (.ext j qg h1 sP) (.norm qg h1 sP) (Nat.beq j i));cases hj:Nat.beq j i
  ·have hne:j≠i:=fun c=>by rw[c,su]at hj;cases hj
   rw[aj (by simp;exact fun c=>hne c.symm)]at e';exact⟨ι1,a1,w1,todo,e',q,s⟩
  ·obtain rfl:=aP hj;rw[ak (by simp)]at e';exact⟨ι1,a1,w1,q.trans (.one (aaM e')),s⟩
 |got l qg h1 sP=>obtain⟨ι1,a1,w1,todo,e,q,s⟩:=o;exact⟨ι1,a1,w1,todo,by rw[e];rfl,q,s⟩
noncomputable def ac8 (ka:K) (cx:Cx):Nat→Env→H→List Df→XR:=Nat.rec (motive:=fun _=>Env→H→List Df→XR) (fun _ _ _=> .fail)
 (fun _ ih en h df=>XR.rec (motive:=fun _=>XR) .fail ih .ret .ext .got (ka.k cx en h df))
theorem WV {ka:K} {x:Code} (ha:uo P n ka (fun kk=> .code x::kk)):uo P n (ac9 ka) (fun kk=> .code (.loop x)::kk):=by
 intro cx ι en h df a w b cs p kk;refine Out.steps (.one aaL) ?_;show Out P b n kk cs ι h w _ (ac8 ka cx cx.fuel en h df);generalize cx.fuel=N;induction N generalizing ι en h df a w with
 |zero=>trivial
 |succ N ih=>
  have o:=ha cx ι en h df a w b cs p (.inLoop x::kk);show Out P b n kk cs ι h w _ (XR.rec (motive:=fun _=>XR) .fail (ac8 ka cx N) .ret .ext .got (ka.k cx en h df));generalize ka.k cx en h df=r at o;cases r with
  |fail=>trivial
  |norm qg h1 sP=>obtain⟨ι1,a1,w1,q,s⟩:=o;exact Out.trans (q.trans (.one TU)) s (ih ι1 qg h1 sP a1 w1 (p.next s))
  |ret qg h1 sP=>exact Out.pass (x:= .inLoop x) rfl (by simp) o
  |ext i qg h1 sP=>exact Out.pass (x:= .inLoop x) rfl (by simp) o
  |got l qg h1 sP=>exact Out.pass (x:= .inLoop x) rfl (by simp) o
noncomputable def J8 (lk:Nat→Option K) (cx:Cx):Nat→K→Env→H→List Df→XR:=Nat.rec (motive:=fun _=>K→Env→H→List Df→XR) (fun _ _ _ _=> .fail)
 (fun _ ih k en h df=>XR.rec (motive:=fun _=>XR) .fail .norm .ret .ext
  (fun l en' h' lg=>match lk l with
   |some r=>ih r en' h' lg
   |none=> .got l en' h' lg) (k.k cx en h df))
theorem Ua {ka:K} {lk:Nat→Option K} {x:Code} (ha:uo P n ka (fun kk=> .code x::kk)) (hl:TY P n lk x):uo P n (WX ka lk) (fun kk=> .code (.scope x)::kk):=by
 intro cx ι en h df a w b cs p kk;refine Out.steps (.one WJ) ?_;show Out P b n kk cs ι h w _ (J8 lk cx cx.fuel ka en h df);generalize cx.fuel=N;generalize hc:x=y at ha;have ha':uo P n ka (fun kk=> .code y::kk):=ha;have goal:∀N (ka:K) (y:Code),uo P n ka (fun kk=> .code y::kk)→∀ι en h df a w,Pre P n cx ι en h df a w b cs→
  Out P b n kk cs ι h w (lone (St b a (.code y:: .inScope x::kk)) cs w) (J8 lk cx N ka en h df):=by
  intro N;induction N with
  |zero=>intros;trivial
  |succ N ih=>
   intro ka y ha ι en h df a w p;have o:=ha cx ι en h df a w b cs p (.inScope x::kk);show Out P b n kk cs ι h w _ (XR.rec (motive:=fun _=>XR) .fail .norm .ret .ext
    (fun l en' h' lg=>match lk l with
     |some r=>J8 lk cx N r en' h' lg
     |none=> .got l en' h' lg) (ka.k cx en h df))
   generalize ka.k cx en h df=r at o;cases r with
   |fail=>trivial
   |norm qg h1 sP=>obtain⟨ι1,a1,w1,q,s⟩:=o;exact⟨ι1,a1,w1,q.trans (.one Pf),s⟩
   |ret qg h1 sP=>exact o
   |ext i qg h1 sP=>obtain⟨ι1,a1,w1,todo,e,q,s⟩:=o;exact⟨ι1,a1,w1,todo,by rw[e];rfl,q,s⟩
   |got l qg h1 sP=>
    obtain⟨ι1,a1,w1,todo,e,q,s⟩:=o;have hll:=hl l;have e':gotoIn l todo=match findLabel x l with
     |some rest=>some (.code rest:: .inScope x::kk)
     |none=>gotoIn l kk:=by rw[e];rfl
    show Out P b n kk cs ι h w _ (match lk l with
     |some r=>J8 lk cx N r qg h1 sP
     |none=> .got l qg h1 sP)
    cases hk:lk l with
    |none=>
     rw[hk]at hll;cases hf:findLabel x l with
     |none=>rw[hf]at e';exact⟨ι1,a1,w1,todo,e',q,s⟩
     |some rest=>rw[hf]at hll;exact hll.elim
    |some r=>
     rw[hk]at hll;cases hf:findLabel x l with
     |none=>rw[hf]at hll;exact hll.elim
     |some rest=>rw[hf]at hll e';exact Out.trans (q.trans (.one (aaN e'))) s (ih r rest hll ι1 qg h1 sP a1 w1 (p.next s))
 subst hc;exact goal N ka x ha ι en h df a w p
theorem WY {a b:Nat→Option K} {kb:K} {x y:Code} (ha:TY P n a x) (hb:TY P n b y) (hk:uo P n kb (fun kk=> .code y::kk)):TY P n (WZ a b kb) (.seq x y):=by
 intro l;have h1:=ha l;have h2:=hb l;have e1:WZ a b kb l=match a l with|some r=>some (aaR r kb)|none=>b l:=rfl
 have e2:findLabel (.seq x y) l=match findLabel x l with|some rest=>some (.seq rest y)|none=>findLabel y l:=by rw[findLabel];cases findLabel x l<;>rfl
 rw[e1,e2];cases hal:a l with
 |none=>
  rw[hal]at h1;cases hf:findLabel x l with
  |none=>exact h2
  |some rest=>rw[hf]at h1;exact h1.elim
 |some r=>
  rw[hal]at h1;cases hf:findLabel x l with
  |none=>rw[hf]at h1;exact h1.elim
  |some rest=>rw[hf]at h1;exact uo.pre (s:=fun kk=> .code rest:: .code y::kk) (fun _ _ _ _ _=>WH) (Rm h1 hk)
theorem lq (c:Code) (h:∀l,findLabel c l=none):TY P n DJ c:=by intro l;rw[h l];exact trivial
end
end Go.Proofs.YtocaiijbhepnnaaGreatDoor.Am
