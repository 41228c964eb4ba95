/- The machine's soundness: every operation that calls nothing, put together. -/
import Derived.Test.YtocaiijbhepnnaaGreatDoorAm25
import Derived.Scope
namespace Go.Proofs.YtocaiijbhepnnaaGreatDoor.Am
def oOk (n:Nat):Option Operand->Bool
 |some o=>aC n o
 |none=>true
section
variable {P:Program} {g:G} {ι:aV} {h h':H} {w:World} {D:Nat->Prop}
section
variable {n:Nat} {en:Env} {a:Go.Act}
theorem aaU (hE:fU ι n en a.tmps) (hG:GI ι) (hg:jP P g) (k:WR ι h w D) (o:Oper) (ho:(o.op.operands.toList.all (aC n))=true) {f:Env->List Nat} (hacc:sJ o.op=some f) (hD:∀b∈f en,D b) {v:AV}
 (e:(Fx g o.op).f en h= .ok v h'):Fw P ι h w (execOp a.eval o) v h':=by
 cases hop:o.op with
 |move x=>
  rw[hop]at e ho;have e:He ((ev x).f en) h= .ok v h':=e;have hx:aC n x=true:=by simpa[Op.operands]using ho
  have hs:execOp a.eval o=pure (.value (a.eval x)):=by unfold execOp;rw[hop]
  rw[hs];obtain⟨rfl,rfl⟩:=Ol e;exact aH.toN (s:=pure (a.eval x)) (aH.ret k rfl (aX hE hG x hx))
 |assign x=>
  rw[hop]at e ho;have e:He ((ev x).f en) h= .ok v h':=e;have hx:aC n x=true:=by simpa[Op.operands]using ho
  have hs:execOp a.eval o=pure (.value (a.eval x)):=by unfold execOp;rw[hop]
  rw[hs];obtain⟨rfl,rfl⟩:=Ol e;exact aH.toN (s:=pure (a.eval x)) (aH.ret k rfl (aX hE hG x hx))
 |pick c x y=>
  rw[hop]at e ho;have e:OB.rec (motive:=λ_=>bB) .fail (sQ ((ev y).f en) h) (sQ ((ev x).f en) h) (toB ((ev c).f en))= .ok v h':=e;have hx:aC n c=true/\aC n x=true/\aC n y=true:=by simpa[Op.operands]using ho
  have hs:execOp a.eval o=(do pure (.value (if<-asBool (a.eval c)then a.eval x else a.eval y)):Sem Next):=by unfold execOp;rw[hop]
  have hc:=aX hE hG c hx.1;rw[hs];cases hb:toB ((ev c).f en)with
  |none=>rw[hb]at e;cases e
  |f=>rw[hb]at e;rw[toB_f hb]at hc;have hc:a.eval c= .bool false:=hc;rw[hc];exact aH.toN (s:=pure (a.eval y)) (aH.sQ k e rfl (aX hE hG y hx.2.2))
  |t=>rw[hb]at e;rw[toB_t hb]at hc;have hc:a.eval c= .bool true:=hc;rw[hc];exact aH.toN (s:=pure (a.eval x)) (aH.sQ k e rfl (aX hE hG x hx.2.1))
 |alloc t=>
  rw[hop]at e ho;obtain⟨y,ht,e⟩:=iI e;have hs:execOp a.eval o=(do pure (.value (<-Instr.alloc t true (.tuple #[]))):Sem Next):=by unfold execOp;rw[hop]
  rw[hs];split at e;·exact aH.toN (Ql hg k ht e)
  ·exact aH.toN (SH hg k ht e)
 |box t x=>
  rw[hop]at e ho;have hx:aC n x=true:=by simpa[Op.operands]using ho
  have hs:execOp a.eval o=(do pure (.value (<-Instr.box t (a.eval x))):Sem Next):=by unfold execOp;rw[hop]
  rw[hs];exact aH.toN (aaJ k (aX hE hG x hx) e)
 |build t ps=>
  rw[hop]at e ho;obtain⟨y,ht,e⟩:=iI e;obtain⟨hpl,e⟩:=OE e;have hp:(ps.toList.all λp=>aC n p.2)=true:=by simpa[Op.operands]using ho
  have hs:execOp a.eval o=(do pure (.value (<-Instr.build t (ps.map λ(i,x)=>(i,a.eval x)))):Sem Next):=by unfold execOp;rw[hop]
  rw[hs];exact aH.toN (SN hg k hE hG ht hp hpl e)
 |buildSlice t m ps=>
  rw[hop]at e ho;obtain⟨y,el,ye,arr,ht,he,hd,e⟩:=zX e;have hp:(ps.toList.all λp=>aC n p.2)=true:=by simpa[Op.operands]using ho
  have hs:execOp a.eval o=(do pure (.value (<-Instr.buildSlice t m (ps.map λ(i,x)=>(i,a.eval x)))):Sem Next):=by unfold execOp;rw[hop]
  rw[hs];rcases hd with⟨hd,rfl⟩|⟨m',hd,rfl⟩
  ·exact aH.toN (Fp hE hG hg k ht hd he hp e)
  ·cases e
 |load t x=>
  rw[hop]at e ho hacc;cases hacc;obtain⟨y,ht,e⟩:=iI e;have hx:aC n x=true:=by simpa[Op.operands]using ho
  have hs:execOp a.eval o=(do pure (.value (<-Instr.loadAt t (a.eval x))):Sem Next):=by unfold execOp;rw[hop]
  rw[hs];exact aH.toN (Xp hg k ht (aX hE hG x hx) hD e)
 |store t x y=>
  rw[hop]at e ho hacc;cases hacc;obtain⟨yt,ht,e⟩:=iI e;have hx:aC n x=true/\aC n y=true:=by simpa[Op.operands]using ho
  have hs:execOp a.eval o=(do Instr.storeAt t (a.eval x) (a.eval y);pure .skip:Sem Next):=by unfold execOp;rw[hop]
  rw[hs];exact Dh.toN (SC hg k ht (aX hE hG x hx.1) (aX hE hG y hx.2) hD e)
 |nilCheck x=>
  rw[hop]at e ho;have e:sQ (nC g ((ev x).f en)) h= .ok v h':=e;have hx:aC n x=true:=by simpa[Op.operands]using ho
  obtain⟨h1,h2,rfl⟩:=JO (P:=P) k hg (aX hE hG x hx) e o a.eval x hop rfl;exact⟨ι,w,[],_,h1, .inl ⟨_,rfl,h2⟩,Loc.refl k⟩
 |binOp op t x y ty=>
  rw[hop]at e ho;have e:sQ ((Sy op (Bool.rec (Xm y) true (Xm x)) (eqK g t)).f ((ev x).f en) ((ev y).f en)) h= .ok v h':=e;have hx:aC n x=true/\aC n y=true:=by simpa[Op.operands]using ho
  have hs:execOp a.eval o=(do pure (.value (<-(do eqGuard op t x y (a.eval x) (a.eval y);binOp op t (a.eval x) (a.eval y):Sem Value))):Sem Next):=by unfold execOp;rw[hop]
  rw[hs];obtain⟨e1,rfl,hv⟩:=pz e;subst e1;obtain⟨v',h1,h2⟩:=Xn (P:=P) hg (aX hE hG x hx.1) (aX hE hG y hx.2) rfl hv w;exact aH.toN (aH.ret k h1 h2)
 |unOp op t x=>
  rw[hop]at e ho;have e:sQ ((uop op).f ((ev x).f en)) h= .ok v h':=e;have hx:aC n x=true:=by simpa[Op.operands]using ho
  have hs:execOp a.eval o=(do pure (.value (<-Op.unary op (a.eval x))):Sem Next):=by unfold execOp;rw[hop]
  rw[hs];obtain⟨e1,rfl,hv⟩:=pz e;subst e1;obtain⟨v',h1,h2⟩:=uop_ok (P:=P) (aX hE hG x hx) rfl hv;exact aH.toN (aH.ret k (h1 w) h2)
 |convert s d x=>
  rw[hop]at e ho hacc;cases hacc;obtain⟨ys,hs',e⟩:=iI e;obtain⟨yd,hd',e⟩:=iI e;have hx:aC n x=true:=by simpa[Op.operands]using ho
  have hs:execOp a.eval o=(do pure (.value (<-convert s d (a.eval x))):Sem Next):=by unfold execOp;rw[hop]
  rw[hs];exact aH.toN (XC hg k hs' hd' (aX hE hG x hx) hD e)
 |makeInterface t x=>
  rw[hop]at e ho;obtain⟨y,ht,e⟩:=iI e;have hx:aC n x=true:=by simpa[Op.operands]using ho
  have hs:execOp a.eval o=(do pure (.value (<-Instr.makeInterface t (a.eval x))):Sem Next):=by unfold execOp;rw[hop]
  rw[hs];have hi:(∀ms,y.desc≠.interface ms)/\v= .sH t ((ev x).f en)/\h'=h:=by
   split at e;·cases e
   ·rename_i hne;refine⟨λms hms=>hne ms hms,?_⟩;dsimp only at e;split at e
    ·cases e
    ·cases e;exact⟨rfl,rfl⟩
  obtain⟨h1,rfl,rfl⟩:=hi;exact aH.toN (Ia k hg ht h1 (aX hE hG x hx))
 |makeFunc fn fs cs=>
  rw[hop]at e ho;have hs:execOp a.eval o=(do pure (.value (<-Instr.makeFunc fn (fs.map a.eval) (cs.map a.eval))):Sem Next):=by unfold execOp;rw[hop]
  rw[hs];cases fn with
  |func f0=>
   cases e;have hx:fs.toList.all (aC n)=true/\cs.toList.all (aC n)=true:=by have:(fs++cs).toList.all (aC n)=true:=ho;rw[pR,yI,aQ]at this;exact this
   exact aH.toN (JI k (by rw[mM];exact vB hE hG _ hx.1) (by rw[mM];exact vB hE hG _ hx.2))
  |method nm=>
   obtain⟨fs⟩:=fs;obtain⟨cs⟩:=cs;rcases fs with _|⟨o1,_|⟨o2,fs⟩⟩
   ·cases e
   ·rcases cs with _|⟨o3,cs⟩
    ·have hx:aC n o1=true:=by have:(#[o1]++#[]:Array Operand).toList.all (aC n)=true:=ho;simpa using this
     have hv:=aX hE hG o1 hx;have e:(match(ev o1).f en with
      | .sH t x=>bB.ok (.fn (nat_lit 0) (.sH t x) (.str (Str.of nm.toUTF8))) h
      |_=> .fail)= .ok v h':=e
     generalize(ev o1).f en=xa at e hv;cases xa<;>first|(cases e;done)|skip
     cases e;have h2:=aH.toN (Fq (P:=P) (nm:=nm) k hv);simpa using h2
    ·cases e
   ·cases e
  |_=>cases e
 |makeMap t r=>
  rw[hop]at e ho;have hs:execOp a.eval o=(do pure (.value (<-Instr.makeMap t (r.map a.eval))):Sem Next):=by unfold execOp;rw[hop]
  rw[hs];cases r with
  |none=>exact aH.toN (AY k hg e _ (by simp))
  |some x=>
   have hx:aC n x=true:=by simpa[Op.operands]using ho
   have hv:=aX hE hG x hx;have e:(match(ev x).f en with
    | .int _ _=>qm (dV g t) h
    |_=> .fail)= .ok v h':=e
   have hi:(∃kd m,a.eval x= .int kd m)/\qm (dV g t) h= .ok v h':=by generalize(ev x).f en=xa at e hv;cases xa<;>first|(cases e;done)|exact⟨⟨_,_,hv⟩,e⟩
   exact aH.toN (AY k hg hi.2 _ (λy hy=>by cases hy;exact hi.1))
 |makeSlice t l c=>
  rw[hop]at e ho;obtain⟨y,el,ye,arr,ht,he,hd,e⟩:=zX e;have hx:aC n l=true/\aC n c=true:=by simpa[Op.operands]using ho
  have hs:execOp a.eval o=(do pure (.value (<-Instr.makeSlice t (a.eval l) (a.eval c))):Sem Next):=by unfold execOp;rw[hop]
  rw[hs];rcases hd with⟨hd,rfl⟩|⟨m',hd,rfl⟩
  ·exact aH.toN (Hz hg k ht hd he (aX hE hG l hx.1) (aX hE hG c hx.2) e)
  ·cases e
 |slice t x lo hi mx=>
  rw[hop]at e ho hacc;cases hacc;have hs:execOp a.eval o=(do pure (.value (<-Instr.sliceAt t (a.eval x) (lo.map a.eval) (hi.map a.eval) (mx.map a.eval))):Sem Next):=by unfold execOp;rw[hop]
  rw[hs];have hx:aC n x=true/\oOk n lo=true/\oOk n hi=true/\oOk n mx=true:=by cases lo<;>cases hi<;>cases mx<;>simpa[Op.operands,oOk]using ho
  unfold Fx at e;dsimp only at e;split at e;·rename_i el _ _ _ _ _ ht;obtain⟨ye,he,e⟩:=iI e;obtain⟨hmh,e⟩:=OE e;exact aH.toN (SV hE hG hg k ht rfl he hx.1 hx.2.1 hx.2.2.1 hx.2.2.2 hmh e)
  ·rename_i ht;split at e
   ·exact aH.toN (JD hE hG hg k ht rfl hx.1 hx.2.1 hx.2.2.1 e)
   ·cases e
  ·rename_i m el _ _ _ _ _ ht;obtain⟨ye,he,e⟩:=iI e;exact aH.toN (JE hE hG hg k ht rfl he hx.1 hx.2.1 hx.2.2.1 hD e)
  ·cases e
 |fieldAddr s x f0=>
  rw[hop]at e ho;obtain⟨y,fs,fd,yf,hy,hd,hf,he,e⟩:=fieldT_inv e;have hx:aC n x=true:=by simpa[Op.operands]using ho
  have hs:execOp a.eval o=(do pure (.value (<-Instr.fieldAt s (a.eval x) f0)):Sem Next):=by unfold execOp;rw[hop]
  rw[hs];split at e;·rename_i hz;exact aH.toN (fieldAddr_ok hg k hy hd hf he (by rw[hz];simp) (aX hE hG x hx) e)
  ·cases e
 |field s x f0=>
  rw[hop]at e ho;obtain⟨y,fs,fd,yf,hy,hd,hf,he,e⟩:=fieldT_inv e;have hx:aC n x=true:=by simpa[Op.operands]using ho
  have hs:execOp a.eval o=(do pure (.value (<-Instr.field s (a.eval x) f0)):Sem Next):=by unfold execOp;rw[hop]
  rw[hs];have hv:=aX hE hG x hx;dsimp only at e;split at e;·rename_i cs hcs;rw[hcs]at hv;exact aH.toN (fields_ok hg k hy hd hf he hv e)
  ·cases e
 |indexAddr t x i=>
  rw[hop]at e ho;obtain⟨y,el,ye,arr,ht,he,hd,e⟩:=zX e;have hx:aC n x=true/\aC n i=true:=by simpa[Op.operands]using ho
  have hs:execOp a.eval o=(do pure (.value (<-Instr.indexAt t (a.eval x) (a.eval i))):Sem Next):=by unfold execOp;rw[hop]
  rw[hs];rcases hd with⟨hd,rfl⟩|⟨m',hd,rfl⟩
  ·exact aH.toN (Xr hg k ht hd he (aX hE hG x hx.1) (aX hE hG i hx.2) e)
  ·exact aH.toN (Xt hg k ht hd he (aX hE hG x hx.1) (aX hE hG i hx.2) e)
 |index t x i=>
  rw[hop]at e ho;have hx:aC n x=true/\aC n i=true:=by simpa[Op.operands]using ho
  have hs:execOp a.eval o=(do pure (.value (<-Instr.index t (a.eval x) (a.eval i))):Sem Next):=by unfold execOp;rw[hop]
  rw[hs];unfold Fx at e;dsimp only at e;split at e;·rename_i ht;exact aH.toN (Qm hg k ht rfl (aX hE hG x hx.1) (aX hE hG i hx.2) e)
  ·rename_i m el _ _ _ _ _ ht;obtain⟨ye,he,e⟩:=iI e;exact aH.toN (Qn hg k ht rfl he (aX hE hG x hx.1) (aX hE hG i hx.2) e)
  ·cases e
 |lookup t x i ok=>
  rw[hop]at e ho hacc;cases hacc;obtain⟨y,kt,et,ye,ht,hd,he,e⟩:=A9 e;have hx:aC n x=true/\aC n i=true:=by simpa[Op.operands]using ho
  have hs:execOp a.eval o=(do pure (.value (<-Instr.lookup t (a.eval x) (a.eval i) ok)):Sem Next):=by unfold execOp;rw[hop]
  rw[hs];exact aH.toN (Qp hg k ht hd he (aX hE hG x hx.1) (aX hE hG i hx.2) hD e)
 |mapUpdate t m kk x=>
  rw[hop]at e ho hacc;cases hacc;have hx:aC n m=true/\aC n kk=true/\aC n x=true:=by simpa[Op.operands]using ho
  have hs:execOp a.eval o=(do Instr.mapUpdate t (a.eval m) (a.eval kk) (a.eval x);pure .skip:Sem Next):=by unfold execOp;rw[hop]
  rw[hs];have e:(match(ev x).f en with
   | .bad=>bB.fail
   |v=>zT (dV g t) ((ev m).f en) ((ev kk).f en) v h)= .ok v h':=e
  split at e;·cases e
  ·exact Dh.toN (JH hg k (aX hE hG m hx.1) (aX hE hG kk hx.2.1) (aX hE hG x hx.2.2) hD e)
 |insert t m kk x=>
  rw[hop]at e ho hacc;cases hacc;have hx:aC n m=true/\aC n kk=true/\aC n x=true:=by simpa[Op.operands]using ho
  have hs:execOp a.eval o=(do Instr.mapUpdate t (a.eval m) (a.eval kk) (a.eval x);pure .skip:Sem Next):=by unfold execOp;rw[hop]
  rw[hs];have e:(match(ev x).f en with
   | .bad=>bB.fail
   |v=>zT (dV g t) ((ev m).f en) ((ev kk).f en) v h)= .ok v h':=e
  split at e;·cases e
  ·exact Dh.toN (JH hg k (aX hE hG m hx.1) (aX hE hG kk hx.2.1) (aX hE hG x hx.2.2) hD e)
 |mapEntry t m kk=>
  rw[hop]at e ho hacc;cases hacc;obtain⟨y,kt,et,ye,ht,hd,he,e⟩:=A9 e;have hx:aC n m=true/\aC n kk=true:=by simpa[Op.operands]using ho
  have hs:execOp a.eval o=(do pure (.value (<-Instr.mapEntry t (a.eval m) (a.eval kk))):Sem Next):=by unfold execOp;rw[hop]
  rw[hs];exact aH.toN (Qq hg k ht hd he (aX hE hG m hx.1) (aX hE hG kk hx.2) hD e)
 |entryStore t m s x=>
  rw[hop]at e ho hacc;cases hacc;have hx:aC n m=true/\aC n s=true/\aC n x=true:=by simpa[Op.operands]using ho
  have hs:execOp a.eval o=(do Instr.entryStore t (a.eval m) (a.eval s) (a.eval x);pure .skip:Sem Next):=by unfold execOp;rw[hop]
  rw[hs];have e:(match(ev x).f en with
   | .bad=>bB.fail
   |v=>H9 ((ev m).f en) ((ev s).f en) v h)= .ok v h':=e
  split at e;·cases e
  ·exact Dh.toN (SY k (aX hE hG m hx.1) (aX hE hG s hx.2.1) (aX hE hG x hx.2.2) hD e)
 |range t x=>
  rw[hop]at e ho;have hx:aC n x=true:=by simpa[Op.operands]using ho
  have hs:execOp a.eval o=(do pure (.value (<-Instr.range t (a.eval x))):Sem Next):=by unfold execOp;rw[hop]
  rw[hs];unfold Fx at e;dsimp only at e;split at e;·rename_i ht;exact aH.toN (S9 k hg ht rfl (aX hE hG x hx) e)
  ·cases e
 |next it s=>
  rw[hop]at e ho hacc;cases hacc;have hx:aC n it=true:=by simpa[Op.operands]using ho
  have hs:execOp a.eval o=(do pure (.value (<-Instr.next (a.eval it) s o.type)):Sem Next):=by unfold execOp;rw[hop]
  rw[hs];cases s;·cases e
  ·exact aH.toN (Xz k (aX hE hG it hx) hD o.type e)
 |extract x i=>
  rw[hop]at e ho;have hx:aC n x=true:=by simpa[Op.operands]using ho
  have hs:execOp a.eval o=(do pure (.value (<-Instr.extract (a.eval x) i)):Sem Next):=by unfold execOp;rw[hop]
  rw[hs];exact aH.toN (Mi k (aX hE hG x hx) e)
 |call c=>
  rw[hop]at e ho hacc;have hs:execOp a.eval o=(do let d<-resolve a.eval c o.type;invoke d.target d.args:Sem Next):=by unfold execOp;rw[hop]
  rw[hs];cases hc:c.callee with
  |builtin b=>
   have hacc:some (λen=>blks c.args.toList en)=some f:=by rw[<-hacc];unfold sJ;dsimp only;rw[hc]
   cases hacc;refine Mt hE hG hg k hc ?_ hD e;have ho:(c.operands).toList.all (aC n)=true:=ho;unfold Call.operands at ho;rw[hc]at ho;simpa using ho
  |_=>unfold Fx at e;dsimp only at e;rw[hc]at e;cases e
 |_=>rw[hop]at e;cases e
end
end
def St (b:Frame) (a:Go.Act) (todo:List Item):Frame:={b with tmps:=a.tmps,todo,defers:=a.defers,mode:= .run}
theorem Im (b:Frame) (a:Go.Act) (todo:List Item):(St b a todo).eval=a.eval:=by funext x;cases x<;>rfl
section
variable {P:Program} {b:Frame} {a:Go.Act} {k:List Item} {cs:List Frame} {w:World}
theorem OH:step P (lone (St b a (.code .skip::k)) cs w)= .next (lone (St b a k) cs w):=
 step_lone_go (by simp[stepG,stepG.exec,St])
theorem Tp {l:Nat}:step P (lone (St b a (.code (.label l)::k)) cs w)= .next (lone (St b a k) cs w):=
 step_lone_go (by simp[stepG,stepG.exec,St])
theorem Mw {i:Nat}:step P (lone (St b a (.inBlock i::k)) cs w)= .next (lone (St b a k) cs w):=
 step_lone_go (by simp[stepG,stepG.exec,St])
theorem Mx {c:Code}:step P (lone (St b a (.inScope c::k)) cs w)= .next (lone (St b a k) cs w):=
 step_lone_go (by simp[stepG,stepG.exec,St])
theorem Tq {x y:Code}:step P (lone (St b a (.code (.seq x y)::k)) cs w)= .next (lone (St b a (.code x:: .code y::k)) cs w):=
 step_lone_go (by simp[stepG,stepG.exec,St])
theorem OJ {c:Operand} {x y:Code} {t:Bool} (h:a.eval c= .bool t):
 step P (lone (St b a (.code (.cond c x y)::k)) cs w)= .next (lone (St b a (.code (if t then x else y)::k)) cs w):=
 step_lone_go (by
  have he:(St b a (.code (.cond c x y)::k)).eval c= .bool t:=by rw[Im];exact h
  simp only[St]at he;simp[stepG,stepG.exec,St,he])
theorem Tt {i:Nat} {c:Code}:step P (lone (St b a (.code (.block i c)::k)) cs w)= .next (lone (St b a (.code c:: .inBlock i::k)) cs w):=
 step_lone_go (by simp[stepG,stepG.exec,St])
theorem XH {c:Code}:step P (lone (St b a (.code (.loop c)::k)) cs w)= .next (lone (St b a (.code c:: .inLoop c::k)) cs w):=
 step_lone_go (by simp[stepG,stepG.exec,St])
theorem Qw {c:Code}:step P (lone (St b a (.inLoop c::k)) cs w)= .next (lone (St b a (.code c:: .inLoop c::k)) cs w):=
 step_lone_go (by simp[stepG,stepG.exec,St])
theorem Tv {c:Code}:step P (lone (St b a (.code (.scope c)::k)) cs w)= .next (lone (St b a (.code c:: .inScope c::k)) cs w):=
 step_lone_go (by simp[stepG,stepG.exec,St])
theorem XI {i:Nat} {k':List Item} (h:exitTo i k=some k'):step P (lone (St b a (.code (.exit i)::k)) cs w)= .next (lone (St b a k') cs w):=
 step_lone_go (by simp[stepG,stepG.exec,St,h])
theorem XJ {l:Nat} {k':List Item} (h:gotoIn l k=some k'):step P (lone (St b a (.code (.goto l)::k)) cs w)= .next (lone (St b a k') cs w):=
 step_lone_go (by simp[stepG,stepG.exec,St,h])
theorem Qx {i:Nat} {ops:Array Oper}:
 step P (lone (St b a (.code (.region i ops false)::k)) cs w)= .next (lone (St b a (.inRegion ops (List.range ops.size)::k)) cs w):=
 step_lone_go (by simp[stepG,stepG.exec,St])
theorem Dz {i:Nat} {ops:Array Oper}:
 step P (lone (St b a (.code (.region i ops true)::k)) cs w)=
  .next (lone (St b a (.inRegion ops (Region.schedule (P.follows .mixedOrders) ops (w.tape w.drawn (.order b.fn i)))::k)) cs (World.bQ w (w.drawn+1))):=
 step_lone_go (by simp[stepG,stepG.exec,St,World.bQ,choose,Sem.run,Question.forced,Question.cut])
theorem wL {ops:Array Oper}:step P (lone (St b a (.inRegion ops []::k)) cs w)= .next (lone (St b a k) cs w):=
 step_lone_go (by simp[stepG,stepG.exec,St])
theorem qo {ops:Array Oper} {i:Nat} {rest:List Nat} (v:Value):
 (St b a (.inRegion ops (i::rest)::k)).finish v=St b (a.put ((ops[i]?).bind (·.dst)) v) (.inRegion ops rest::k):=by
 cases h:(ops[i]?).bind (·.dst)<;>simp[Frame.finish,St,Act.put,h]
theorem DC {ops:Array Oper} {i:Nat} {rest:List Nat} (h:((ops[i]?).map (Region.wanted · (yielded ops a.tmps))).getD false=false):
 step P (lone (St b a (.inRegion ops (i::rest)::k)) cs w)= .next (lone (St b (a.put ((ops[i]?).bind (·.dst)) undef) (.inRegion ops rest::k)) cs w):=by
 rw[<-qo];exact step_lone_go (by
  have h':=h;simp only[St]at*
  simp[stepG,stepG.exec,h'])
def Cg:Op->Bool
 | .defer _=>true
 |_=>false
theorem Io {ops:Array Oper} {i:Nat} {rest:List Nat} {o:Oper} (ho:ops[i]? =some o) (hw:Region.wanted o (yielded ops a.tmps)=true) (hd:b.roundOf=none\/Cg o.op=false):
 stepG P true {frame:=St b a (.inRegion ops (i::rest)::k),callers:=cs,status:= .running,dying:=none} w=
  stepG.apply P true (St b a (.inRegion ops (i::rest)::k)) cs none (execOp a.eval o) w:=by
 have he:=Im b a (.inRegion ops (i::rest)::k);simp only[St]at he;rcases hd with hd|hd;·rw[hd]at he;simp[stepG,stepG.exec,stepG.oper,Frame.oper?,St,ho,hw,he,hd]
 ·cases hr:b.roundOf with
  |none=>rw[hr]at he;simp[stepG,stepG.exec,stepG.oper,Frame.oper?,St,ho,hw,he,hr]
  |some l=>rw[hr]at he;obtain⟨dst,op,ty,pos,after,gd⟩:=o;cases op<;>first|(cases hd;done)|(simp[stepG,stepG.exec,stepG.oper,Frame.oper?,St,ho,hw,he,hr];done)
end
def Calm (kind:CallKind) (cs:List Frame):Prop:=kind= .normal\/(kind= .deferred/\∀c r,cs=c::r->c.mode= .returning)
structure Lv (P:Program) (fr:Frame) (f:FuncId) (kind:CallKind) (w:World) (v:Value):Prop where
 mode:fr.mode= .returning
 defers:fr.defers=[]
 kind:fr.kind=kind
 fn:fr.fn=f
 res:∃fn,P.funcs[f]? =some fn/\(results fn fr.tmps).run P w= .ok v w
def rz (P:Program) (f:FuncId) (vs:Array Value) (w:World) (R:Value->World->Prop):Prop:=
 ∀kind cs,Calm kind cs->∃fr v w',R v w'/\Steps P (lone (Frame.enter P f vs kind) cs w) (lone fr cs w')/\Lv P fr f kind w' v
def aaV (P:Program) (l:Nat) (f:FuncId) (tmps:Array Value) (as bo:Code) (w:World) (R:Value->World->Prop):Prop:=
 ∀c cs,∃v w',R v w'/\Steps P (lone (Frame.round l f tmps as bo .normal) (c::cs) w) (lone (c.finish v) cs w')
def Ends (P:Program) (s:Sem Next) (w:World) (R:Value->World->Prop):Prop:=
 (∃v w',s.run P w= .ok (.value v) w'/\R v w')\/(∃f vs w1,s.run P w= .ok (.enter f vs) w1/\rz P f vs w1 R)\/
 (∃l f tmps as bo w1,s.run P w= .ok (.round l f tmps as bo) w1/\aaV P l f tmps as bo w1 R)
section
variable {P:Program} {w:World} {R R':Value->World->Prop}
theorem Ends.congr {s s':Sem Next} (h:s'.run P w=s.run P w) (e:Ends P s w R):Ends P s' w R:=by unfold Ends;rw[h];exact e
theorem Ends.mono {s:Sem Next} (hR:∀v w,R v w->R' v w) (e:Ends P s w R):Ends P s w R':=by
 rcases e with⟨v,w',h,r⟩|⟨f,vs,w1,h,r⟩|⟨l,f,tmps,as,bo,w1,h,r⟩
 ·exact .inl ⟨v,w',h,hR _ _ r⟩
 ·exact .inr (.inl ⟨f,vs,w1,h,λkind cs hc=>let⟨fr,v,w',q,s,t⟩:=r kind cs hc;⟨fr,v,w',hR _ _ q,s,t⟩⟩)
 ·exact .inr (.inr ⟨l,f,tmps,as,bo,w1,h,λc cs=>let⟨v,w',q,s⟩:=r c cs;⟨v,w',hR _ _ q,s⟩⟩)
theorem DF {P:Program} {fr c:Frame} {cs:List Frame} {w:World} {v:Value} {f:FuncId} (h:Lv P fr f .normal w v):
 step P (lone fr (c::cs) w)= .next (lone (c.finish v) cs w):=by
 obtain⟨hm,hd,hk,rfl,fn,hf,hr⟩:=h;exact step_lone_go (by simp[stepG,unwind,doReturn,hm,hd,hk,hf,hr])
theorem OM {ops:Array Oper} {i:Nat} {rest:List Nat} {o:Oper} {b:Frame} {a:Go.Act} {k:List Item} {cs:List Frame} (ho:ops[i]? =some o) (hw:Region.wanted o (yielded ops a.tmps)=true)
 (hd:b.roundOf=none\/Cg o.op=false) (e:Ends P (execOp a.eval o) w R):
 ∃v w',R v w'/\Steps P (lone (St b a (.inRegion ops (i::rest)::k)) cs w) (lone (St b (a.put o.dst v) (.inRegion ops rest::k)) cs w'):=by
 have hg:=Io (P:=P) (k:=k) (cs:=cs) (w:=w) (rest:=rest) ho hw hd;have hfin:∀v,(St b a (.inRegion ops (i::rest)::k)).finish v=St b (a.put o.dst v) (.inRegion ops rest::k):=by intro v;rw[qo,ho];rfl
 rcases e with⟨v,w',h,r⟩|⟨f,vs,w1,h,r⟩|⟨l,f,tmps,as,bo,w1,h,r⟩
 ·refine⟨v,w',r, .one (step_lone_go ?_)⟩;rw[hg,<-hfin];simp[stepG.apply,h]
 ·obtain⟨fr,v,w',q,hs,hl⟩:=r .normal (St b a (.inRegion ops (i::rest)::k)::cs) (.inl rfl);have henter:step P (lone (St b a (.inRegion ops (i::rest)::k)) cs w)=
   .next (lone (Frame.enter P f vs .normal) (St b a (.inRegion ops (i::rest)::k)::cs) w1):=
   step_lone_go (by rw[hg];simp[stepG.apply,h,St])
  refine⟨v,w',q, .head henter (hs.trans (.one ?_))⟩;rw[<-hfin];exact DF hl
 ·obtain⟨v,w',q,hs⟩:=r (St b a (.inRegion ops (i::rest)::k)) cs;have henter:step P (lone (St b a (.inRegion ops (i::rest)::k)) cs w)=
   .next (lone (Frame.round l f tmps as bo .normal) (St b a (.inRegion ops (i::rest)::k)::cs) w1):=
   step_lone_go (by rw[hg];simp[stepG.apply,h,St])
  refine⟨v,w',q, .head henter ?_⟩;rw[<-hfin];exact hs
theorem XK {ops:Array Oper} {i:Nat} {rest:List Nat} {o:Oper} {b:Frame} {a:Go.Act} {k:List Item} {cs:List Frame} {w':World} (ho:ops[i]? =some o) (hw:Region.wanted o (yielded ops a.tmps)=true)
 (hd:b.roundOf=none\/Cg o.op=false) (h:(execOp a.eval o).run P w= .ok .skip w'):
 Steps P (lone (St b a (.inRegion ops (i::rest)::k)) cs w) (lone (St b (a.put o.dst undef) (.inRegion ops rest::k)) cs w'):=by
 have hg:=Io (P:=P) (k:=k) (cs:=cs) (w:=w) (rest:=rest) ho hw hd;have hfin:∀v,(St b a (.inRegion ops (i::rest)::k)).finish v=St b (a.put o.dst v) (.inRegion ops rest::k):=by intro v;rw[qo,ho];rfl
 refine .one (step_lone_go ?_);rw[hg,<-hfin];simp[stepG.apply,h]
theorem Tw {ops:Array Oper} {i:Nat} {rest:List Nat} {o:Oper} {b:Frame} {a:Go.Act} {k:List Item} {cs:List Frame} {w':World} {d:Deferred} (ho:ops[i]? =some o) (hw:Region.wanted o (yielded ops a.tmps)=true)
 (hd:b.roundOf=none) (h:(execOp a.eval o).run P w= .ok (.defer d) w'):
 Steps P (lone (St b a (.inRegion ops (i::rest)::k)) cs w) (lone (St b (({a with defers:=d::a.defers}:Go.Act).put o.dst undef) (.inRegion ops rest::k)) cs w'):=by
 have hg:=Io (P:=P) (k:=k) (cs:=cs) (w:=w) (rest:=rest) ho hw (.inl hd);have hfin:({St b a (.inRegion ops (i::rest)::k)with defers:=d::a.defers}:Frame).finish undef=
  St b (({a with defers:=d::a.defers}:Go.Act).put o.dst undef) (.inRegion ops rest::k):=by
  have:=qo (b:=b) (a:={a with defers:=d::a.defers}) (k:=k) (ops:=ops) (i:=i) (rest:=rest) undef;rw[ho]at this;exact this
 refine .one (step_lone_go ?_);rw[hg];simp only[stepG.apply,Sem.runT_eq,h,GStep.bare_after];exact fJ (λfr=>GStep.go {frame:=fr,callers:=cs,status:= .running,dying:=none} w') hfin
theorem MB {fr:Frame} {cs:List Frame} (h:Calm fr.kind cs):tryRecover fr cs=none:=by
 unfold tryRecover;rcases h with h|⟨h,hc⟩
 ·rw[h]
 ·rw[h];cases cs with
  |nil=>rfl
  |cons c r=>simp only[hc c r rfl]
theorem MC {ops:Array Oper} {i:Nat} {rest:List Nat} {o:Oper} {b:Frame} {a:Go.Act} {k:List Item} {cs:List Frame} {w':World} (ho:ops[i]? =some o) (hw:Region.wanted o (yielded ops a.tmps)=true)
 (hd:b.roundOf=none) (hc:Calm b.kind cs) (h:(execOp a.eval o).run P w= .ok .recover w'):
 Steps P (lone (St b a (.inRegion ops (i::rest)::k)) cs w) (lone (St b (a.put o.dst .nilIface) (.inRegion ops rest::k)) cs w'):=by
 have hg:=Io (P:=P) (k:=k) (cs:=cs) (w:=w) (rest:=rest) ho hw (.inl hd);have hfin:∀v,(St b a (.inRegion ops (i::rest)::k)).finish v=St b (a.put o.dst v) (.inRegion ops rest::k):=by intro v;rw[qo,ho];rfl
 have hr:tryRecover (St b a (.inRegion ops (i::rest)::k)) cs=none:=MB hc;have hro:(St b a (.inRegion ops (i::rest)::k)).roundOf=none:=hd;refine .one (step_lone_go ?_);rw[hg,<-hfin];simp[stepG.apply,h,hro,hr]
end
def CR (ι:aV) (h:H) (w:World) (v:AV) (h':H):Value->World->Prop:=λv' w'=>∃ι' W,VR ι' v v'/\WR ι' h' w'/\Ext ι h w ι' h' w' W
structure Qy (P:Program) (cx:Cx):Prop where
 call:∀f args h v h',cx.call f args h= .ok v h'->∀ι w (vs:Array Value),WR ι h w->GI ι->fQ ι args vs.toList->Ends P (callFunc f vs) w (CR ι h w v h')
 pU:∀t s f,cx.pU t s=some f->zK P t s=some f
 wE:∀l args h v h',cx.wE l args h= .ok v h'->∀ι w (vs:Array Value) m,WR ι h w->GI ι->ι l=some m->fQ ι args vs.toList->Ends P (Instr.yield m.B vs) w (CR ι h w v h')
def XL (ι:aV) (rd:Option Nat) (b:Frame):Prop:=(rd=none/\b.roundOf=none)\/∃l m,rd=some l/\ι l=some m/\b.roundOf=some m.B
theorem XL.mono {ι ι':aV} (h:ι.le ι') {rd:Option Nat} {b:Frame} (k:XL ι rd b):XL ι' rd b:=by
 rcases k with k|⟨l,m,h1,h2,h3⟩
 ·exact .inl k
 ·exact .inr ⟨l,m,h1,h _ _ h2,h3⟩
structure Pre (P:Program) (n:Nat) (cx:Cx) (ι:aV) (en:Env) (h:H) (df:List Df) (a:Go.Act) (w:World) (b:Frame) (cs:List Frame):Prop where
 cok:Qy P cx
 env:fU ι n en a.tmps
 vC:Tx ι df a.defers
 wr:WR ι h w
 gi:GI ι
 rd:XL ι cx.rd b
 calm:Calm b.kind cs
structure SR (ι0:aV) (h0:H) (w0:World) (n:Nat) (ι:aV) (en:Env) (h:H) (df:List Df) (a:Go.Act) (w:World):Prop where
 env:fU ι n en a.tmps
 vC:Tx ι df a.defers
 wr:WR ι h w
 ext:∃W,Ext ι0 h0 w0 ι h w W
section
variable {P:Program} {n:Nat} {cx:Cx} {ι ι0 ι1:aV} {en en0 oJ:Env} {h h0 h1:H} {df df0 rC:List Df} {a a0 a1:Go.Act} {w w0 w1:World} {b:Frame} {cs:List Frame}
theorem SR.le (s:SR ι0 h0 w0 n ι en h df a w) (k:WR ι0 h0 w0):ι0.le ι:=let⟨_,e⟩:=s.ext;e.le k.fresh
theorem Pre.next (p:Pre P n cx ι0 en0 h0 df0 a0 w0 b cs) (s:SR ι0 h0 w0 n ι en h df a w):Pre P n cx ι en h df a w b cs:=
 ⟨p.cok,s.env,s.vC,s.wr,p.gi.mono (s.le p.wr),p.rd.mono (s.le p.wr),p.calm⟩
theorem Pre.here (p:Pre P n cx ι en h df a w b cs):SR ι h w n ι en h df a w:=⟨p.env,p.vC,p.wr,[],Ext.refl ι h w p.wr.fresh⟩
theorem SR.trans (s:SR ι0 h0 w0 n ι1 oJ h1 rC a1 w1) (t:SR ι1 h1 w1 n ι en h df a w):SR ι0 h0 w0 n ι en h df a w:=by obtain⟨W,e⟩:=s.ext;obtain⟨W',e'⟩:=t.ext;exact⟨t.env,t.vC,t.wr,_,e.trans e'⟩
def Out (P:Program) (b:Frame) (n:Nat) (kk:List Item) (cs:List Frame) (ι:aV) (h:H) (w:World) (m:Machine):XR->Prop
 | .fail=>True
 | .norm en' h' jY=>∃ι' a' w',Steps P m (lone (St b a' kk) cs w')/\SR ι h w n ι' en' h' jY a' w'
 | .ret en' h' jY=>∃ι' a' w' todo,Steps P m (lone (St b a' (.code .ret::todo)) cs w')/\SR ι h w n ι' en' h' jY a' w'
 | .ext i en' h' jY=>∃ι' a' w' todo,exitTo i todo=exitTo i kk/\Steps P m (lone (St b a' (.code (.exit i)::todo)) cs w')/\SR ι h w n ι' en' h' jY a' w'
 | .got l en' h' jY=>∃ι' a' w' todo,gotoIn l todo=gotoIn l kk/\Steps P m (lone (St b a' (.code (.goto l)::todo)) cs w')/\SR ι h w n ι' en' h' jY a' w'
theorem Out.trans {kk:List Item} {m m1:Machine} {r:XR} (hs:Steps P m m1) (s:SR ι0 h0 w0 n ι1 oJ h1 rC a1 w1) (o:Out P b n kk cs ι1 h1 w1 m1 r):Out P b n kk cs ι0 h0 w0 m r:=by
 cases r with
 |fail=>trivial
 |norm en' h' jY=>obtain⟨ι',a',w',q,t⟩:=o;exact⟨ι',a',w',hs.trans q,s.trans t⟩
 |ret en' h' jY=>obtain⟨ι',a',w',todo,q,t⟩:=o;exact⟨ι',a',w',todo,hs.trans q,s.trans t⟩
 |ext i en' h' jY=>obtain⟨ι',a',w',todo,e,q,t⟩:=o;exact⟨ι',a',w',todo,e,hs.trans q,s.trans t⟩
 |got l en' h' jY=>obtain⟨ι',a',w',todo,e,q,t⟩:=o;exact⟨ι',a',w',todo,e,hs.trans q,s.trans t⟩
theorem Out.steps {kk:List Item} {m m1:Machine} {r:XR} (hs:Steps P m m1) (o:Out P b n kk cs ι0 h0 w0 m1 r):Out P b n kk cs ι0 h0 w0 m r:=by
 cases r with
 |fail=>trivial
 |norm en' h' jY=>obtain⟨ι',a',w',q,t⟩:=o;exact⟨ι',a',w',hs.trans q,t⟩
 |ret en' h' jY=>obtain⟨ι',a',w',todo,q,t⟩:=o;exact⟨ι',a',w',todo,hs.trans q,t⟩
 |ext i en' h' jY=>obtain⟨ι',a',w',todo,e,q,t⟩:=o;exact⟨ι',a',w',todo,e,hs.trans q,t⟩
 |got l en' h' jY=>obtain⟨ι',a',w',todo,e,q,t⟩:=o;exact⟨ι',a',w',todo,e,hs.trans q,t⟩
theorem Out.pass {kk:List Item} {x:Item} (hx:x.plain=true) {m:Machine} {r:XR} (hr:∀en h df,r≠.norm en h df) (o:Out P b n (x::kk) cs ι0 h0 w0 m r):Out P b n kk cs ι0 h0 w0 m r:=by
 cases r with
 |fail=>trivial
 |norm en' h' jY=>exact absurd rfl (hr _ _ _)
 |ret en' h' jY=>exact o
 |ext i en' h' jY=>obtain⟨ι',a',w',todo,e,q,t⟩:=o;exact⟨ι',a',w',todo,(by rw[e];cases x<;>first|rfl|(cases hx;done)),q,t⟩
 |got l en' h' jY=>obtain⟨ι',a',w',todo,e,q,t⟩:=o;exact⟨ι',a',w',todo,(by rw[e];cases x<;>first|rfl|(cases hx;done)),q,t⟩
end
def sK (P:Program) (n:Nat) (k:K) (s:List Item->List Item):Prop:=
 ∀cx ι en h df a w b cs,Pre P n cx ι en h df a w b cs->∀kk,Out P b n kk cs ι h w (lone (St b a (s kk)) cs w) (k.k cx en h df)
def Qz (P:Program) (n:Nat) (lk:Nat->Option K) (c:Code):Prop:=
 ∀l,match lk l,findLabel c l with
  |some r,some rest=>sK P n r (λkk=> .code rest::kk)
  |none,none=>True
  |_,_=>False
section
variable {P:Program} {n:Nat}
theorem sK.pre {k:K} {s s':List Item->List Item} (hs:∀b a kk cs w,step P (lone (St b a (s' kk)) cs w)= .next (lone (St b a (s kk)) cs w)) (hk:sK P n k s):sK P n k s':=by intro cx ι en h df a w b cs p kk;exact Out.steps (.one (hs b a kk cs w)) (hk cx ι en h df a w b cs p kk)
theorem yJ:sK P n FQ (λkk=>kk):=λ_ ι _ _ _ a w _ _ p _=>⟨ι,a,w, .refl _ _,p.here⟩
theorem Tz (s:List Item->List Item):sK P n failK s:=λ_ _ _ _ _ _ _ _ _ _ _=>trivial
theorem TA (i:Nat):sK P n ⟨λ_=> .ext i⟩ (λkk=> .code (.exit i)::kk):=λ_ ι _ _ _ a w _ _ p kk=>⟨ι,a,w,kk,rfl, .refl _ _,p.here⟩
theorem TD (l:Nat):sK P n ⟨λ_=> .got l⟩ (λkk=> .code (.goto l)::kk):=λ_ ι _ _ _ a w _ _ p kk=>⟨ι,a,w,kk,rfl, .refl _ _,p.here⟩
theorem XM:sK P n ⟨λ_=> .ret⟩ (λkk=> .code .ret::kk):=λ_ ι _ _ _ a w _ _ p kk=>⟨ι,a,w,kk, .refl _ _,p.here⟩
theorem OO {ka kb:K} {sa:List Item->List Item} {y:Code} (ha:sK P n ka sa) (hb:sK P n kb (λkk=> .code y::kk)):sK P n (XO ka kb) (λkk=>sa (.code y::kk)):=by
 intro cx ι en h df a w b cs p kk;have o:=ha cx ι en h df a w b cs p (.code y::kk);show Out P b n kk cs ι h w _ (XR.rec (motive:=λ_=>XR) .fail (kb.k cx) .ret .ext .got (ka.k cx en h df));generalize ka.k cx en h df=r at o;cases r with
 |fail=>trivial
 |norm oJ h1 rC=>obtain⟨ι1,a1,w1,q,s⟩:=o;exact Out.trans q s (hb cx ι1 oJ h1 rC a1 w1 b cs (p.next s) kk)
 |ret oJ h1 rC=>exact Out.pass (x:= .code y) rfl (by simp) o
 |ext i oJ h1 rC=>exact Out.pass (x:= .code y) rfl (by simp) o
 |got l oJ h1 rC=>exact Out.pass (x:= .code y) rfl (by simp) o
theorem TF {c:Operand} (hc:aC n c=true) {ka kb:K} {x y:Code} (ha:sK P n ka (λkk=> .code x::kk)) (hb:sK P n kb (λkk=> .code y::kk)):
 sK P n (ZN (ev c) ka kb) (λkk=> .code (.cond c x y)::kk):=by
 intro cx ι en h df a w b cs p kk;have hv:=aX p.env p.gi c hc;show Out P b n kk cs ι h w _ (OB.rec (motive:=λ_=>XR) .fail (kb.k cx en h df) (ka.k cx en h df) (toB ((ev c).f en)));cases ht:toB ((ev c).f en)with
 |none=>trivial
 |f=>rw[toB_f ht]at hv;exact Out.steps (.one (OJ (t:=false) hv)) (hb cx ι en h df a w b cs p kk)
 |t=>rw[toB_t ht]at hv;exact Out.steps (.one (OJ (t:=true) hv)) (ha cx ι en h df a w b cs p kk)
theorem QA {i:Nat} {ka:K} {x:Code} (ha:sK P n ka (λkk=> .code x::kk)):sK P n (TG i ka) (λkk=> .code (.block i x)::kk):=by
 intro cx ι en h df a w b cs p kk;have o:=ha cx ι en h df a w b cs p (.inBlock i::kk);refine Out.steps (.one Tt) ?_;show Out P b n kk cs ι h w _ (XR.rec (motive:=λ_=>XR) .fail .norm .ret (leave i) .got (ka.k cx en h df));generalize ka.k cx en h df=r at o;cases r with
 |fail=>trivial
 |norm oJ h1 rC=>obtain⟨ι1,a1,w1,q,s⟩:=o;exact⟨ι1,a1,w1,q.trans (.one Mw),s⟩
 |ret oJ h1 rC=>exact o
 |ext j oJ h1 rC=>
  obtain⟨ι1,a1,w1,todo,e,q,s⟩:=o;have e':exitTo j todo=if i==j then some kk else exitTo j kk:=by
   rw[e];have:exitTo j (.inBlock i::kk)=if i==j then some kk else exitTo j kk:=by simp only[exitTo]
   exact this
  show Out P b n kk cs ι h w _ (Bool.rec (.ext j oJ h1 rC) (.norm oJ h1 rC) (Nat.beq j i));cases hj:Nat.beq j i
  ·have hne:j≠i:=λc=>by rw[c,qN]at hj;cases hj
   rw[aj (by simp;exact λc=>hne c.symm)]at e';exact⟨ι1,a1,w1,todo,e',q,s⟩
  ·obtain rfl:=aI hj;rw[au (by simp)]at e';exact⟨ι1,a1,w1,q.trans (.one (XI e')),s⟩
 |got l oJ h1 rC=>obtain⟨ι1,a1,w1,todo,e,q,s⟩:=o;exact⟨ι1,a1,w1,todo,by rw[e];rfl,q,s⟩
noncomputable def ZO (ka:K) (cx:Cx):Nat->Env->H->List Df->XR:=Nat.rec (motive:=λ_=>Env->H->List Df->XR) (λ_ _ _=> .fail)
 (λ_ ih en h df=>XR.rec (motive:=λ_=>XR) .fail ih .ret .ext .got (ka.k cx en h df))
theorem TH {ka:K} {x:Code} (ha:sK P n ka (λkk=> .code x::kk)):sK P n (ZP ka) (λkk=> .code (.loop x)::kk):=by
 intro cx ι en h df a w b cs p kk;refine Out.steps (.one XH) ?_;show Out P b n kk cs ι h w _ (ZO ka cx cx.fuel en h df);generalize cx.fuel=N;induction N generalizing ι en h df a w with
 |zero=>trivial
 |succ N ih=>
  have o:=ha cx ι en h df a w b cs p (.inLoop x::kk);show Out P b n kk cs ι h w _ (XR.rec (motive:=λ_=>XR) .fail (ZO ka cx N) .ret .ext .got (ka.k cx en h df));generalize ka.k cx en h df=r at o;cases r with
  |fail=>trivial
  |norm oJ h1 rC=>obtain⟨ι1,a1,w1,q,s⟩:=o;exact Out.trans (q.trans (.one Qw)) s (ih ι1 oJ h1 rC a1 w1 (p.next s))
  |ret oJ h1 rC=>exact Out.pass (x:= .inLoop x) rfl (by simp) o
  |ext i oJ h1 rC=>exact Out.pass (x:= .inLoop x) rfl (by simp) o
  |got l oJ h1 rC=>exact Out.pass (x:= .inLoop x) rfl (by simp) o
noncomputable def Ip (lk:Nat->Option K) (cx:Cx):Nat->K->Env->H->List Df->XR:=Nat.rec (motive:=λ_=>K->Env->H->List Df->XR) (λ_ _ _ _=> .fail)
 (λ_ ih k en h df=>XR.rec (motive:=λ_=>XR) .fail .norm .ret .ext
  (λl en' h' jY=>match lk l with
   |some r=>ih r en' h' jY
   |none=> .got l en' h' jY) (k.k cx en h df))
theorem QB {ka:K} {lk:Nat->Option K} {x:Code} (ha:sK P n ka (λkk=> .code x::kk)) (hl:Qz P n lk x):sK P n (TI ka lk) (λkk=> .code (.scope x)::kk):=by
 intro cx ι en h df a w b cs p kk;refine Out.steps (.one Tv) ?_;show Out P b n kk cs ι h w _ (Ip lk cx cx.fuel ka en h df);generalize cx.fuel=N;generalize hc:x=y at ha;have ha':sK P n ka (λkk=> .code y::kk):=ha;have goal:∀N (ka:K) (y:Code),sK P n ka (λkk=> .code y::kk)->∀ι en h df a w,Pre P n cx ι en h df a w b cs->
  Out P b n kk cs ι h w (lone (St b a (.code y:: .inScope x::kk)) cs w) (Ip lk cx N ka en h df):=by
  intro N;induction N with
  |zero=>intros;trivial
  |succ N ih=>
   intro ka y ha ι en h df a w p;have o:=ha cx ι en h df a w b cs p (.inScope x::kk);show Out P b n kk cs ι h w _ (XR.rec (motive:=λ_=>XR) .fail .norm .ret .ext
    (λl en' h' jY=>match lk l with
     |some r=>Ip lk cx N r en' h' jY
     |none=> .got l en' h' jY) (ka.k cx en h df))
   generalize ka.k cx en h df=r at o;cases r with
   |fail=>trivial
   |norm oJ h1 rC=>obtain⟨ι1,a1,w1,q,s⟩:=o;exact⟨ι1,a1,w1,q.trans (.one Mx),s⟩
   |ret oJ h1 rC=>exact o
   |ext i oJ h1 rC=>obtain⟨ι1,a1,w1,todo,e,q,s⟩:=o;exact⟨ι1,a1,w1,todo,by rw[e];rfl,q,s⟩
   |got l oJ h1 rC=>
    obtain⟨ι1,a1,w1,todo,e,q,s⟩:=o;have hll:=hl l;have e':gotoIn l todo=match findLabel x l with
     |some rest=>some (.code rest:: .inScope x::kk)
     |none=>gotoIn l kk:=by rw[e];rfl
    show Out P b n kk cs ι h w _ (match lk l with
     |some r=>Ip lk cx N r oJ h1 rC
     |none=> .got l oJ h1 rC)
    cases hk:lk l with
    |none=>
     rw[hk]at hll;cases hf:findLabel x l with
     |none=>rw[hf]at e';exact⟨ι1,a1,w1,todo,e',q,s⟩
     |some rest=>rw[hf]at hll;exact hll.elim
    |some r=>
     rw[hk]at hll;cases hf:findLabel x l with
     |none=>rw[hf]at hll;exact hll.elim
     |some rest=>rw[hf]at hll e';exact Out.trans (q.trans (.one (XJ e'))) s (ih r rest hll ι1 oJ h1 rC a1 w1 (p.next s))
 subst hc;exact goal N ka x ha ι en h df a w p
theorem TJ {a b:Nat->Option K} {kb:K} {x y:Code} (ha:Qz P n a x) (hb:Qz P n b y) (hk:sK P n kb (λkk=> .code y::kk)):Qz P n (TK a b kb) (.seq x y):=by
 intro l;have h1:=ha l;have h2:=hb l;have e1:TK a b kb l=match a l with|some r=>some (XO r kb)|none=>b l:=rfl
 have e2:findLabel (.seq x y) l=match findLabel x l with|some rest=>some (.seq rest y)|none=>findLabel y l:=by rw[findLabel];cases findLabel x l<;>rfl
 rw[e1,e2];cases hal:a l with
 |none=>
  rw[hal]at h1;cases hf:findLabel x l with
  |none=>exact h2
  |some rest=>rw[hf]at h1;exact h1.elim
 |some r=>
  rw[hal]at h1;cases hf:findLabel x l with
  |none=>rw[hf]at h1;exact h1.elim
  |some rest=>rw[hf]at h1;exact sK.pre (s:=λkk=> .code rest:: .code y::kk) (λ_ _ _ _ _=>Tq) (OO h1 hk)
theorem jZ (c:Code) (h:∀l,findLabel c l=none):Qz P n BF c:=by intro l;rw[h l];exact trivial
