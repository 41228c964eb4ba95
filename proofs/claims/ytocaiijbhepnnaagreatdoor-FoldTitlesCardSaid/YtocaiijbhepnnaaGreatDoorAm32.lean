/- The machine's soundness: the operations of a region, one after another. -/
import Derived.Test.YtocaiijbhepnnaaGreatDoorAm28
namespace Go.Proofs.YtocaiijbhepnnaaGreatDoor.Am
section
variable {P:Program} {g:G} {n:Nat} {cx:Cx} {ι:aV} {en:Env} {h h':H} {df jY:List Df} {a:Go.Act} {w:World} {b:Frame} {cs:List Frame} {D:Nat->Prop}
def OpR (cx:Cx) (k:OpK) (en:Env) (h:H) (df:List Df) (v:AV) (h':H) (jY:List Df):Prop:=
 match k with
 | .plain a=>a.f en h= .ok v h'/\jY=df
 | .call f as=>apply cx (f.f en) ((opsL as).f en) h= .ok v h'/\jY=df
 | .defer f as=>cx.rd=none/\v= .fT .nil/\h'=h/\∃g0 x c,(ev f).f en= .fn g0 x c/\aaY x=true/\jY= .call g0 (kT x (kT ((opsL as).f en) c))::df
 | .recover=>cx.rd=none/\v= .qc/\h'=h/\jY=df
theorem JY (d:Option Tmp) (k:OpK) (ih:K):(qp d k ih).k cx en h df= .fail\/∃v h' jY,(qp d k ih).k cx en h df=ih.k cx ((pO d).f v en) h' jY/\OpR cx k en h df v h' jY:=by
 cases k with
 |plain x=>
  cases d with
  |none=>
   have e:(qp none (.plain x) ih).k cx en h df=onR (λ_ h'=>ih.k cx en h' df) (x.f en h):=rfl;rw[e];cases hr:x.f en h with
   |fail=>exact .inl rfl
   |ok v h'=>exact .inr ⟨v,h',df,rfl,hr,rfl⟩
  |some t=>
   have e:(qp (some t) (.plain x) ih).k cx en h df=onR (λv h'=>ih.k cx ((pT t).f v en) h' df) (x.f en h):=rfl;rw[e];cases hr:x.f en h with
   |fail=>exact .inl rfl
   |ok v h'=>exact .inr ⟨v,h',df,rfl,hr,rfl⟩
 |call f as=>
  have e:(qp d (.call f as) ih).k cx en h df=onR (λv h'=>ih.k cx ((pO d).f v en) h' df) (apply cx (f.f en) ((opsL as).f en) h):=rfl;rw[e];cases hr:apply cx (f.f en) ((opsL as).f en) h with
  |fail=>exact .inl rfl
  |ok v h'=>exact .inr ⟨v,h',df,rfl,hr,rfl⟩
 |defer f as=>
  have e:(qp d (.defer f as) ih).k cx en h df=(match cx.rd,(ev f).f en with
   |none, .fn g a c=>(match aaY a with
    |false=> .fail
    |true=>ih.k cx ((pO d).f (.fT .nil) en) h (.call g (kT a (kT ((opsL as).f en) c))::df))
   |_,_=> .fail):=rfl
  rw[e];split
  ·rename_i g0 x c hrd hf;split
   ·exact .inl rfl
   ·rename_i hno;exact .inr ⟨_,_,_,rfl,hrd,rfl,rfl,g0,x,c,hf,hno,rfl⟩
  ·exact .inl rfl
 |recover=>
  have e:(qp d .recover ih).k cx en h df=(match cx.rd with
   |none=>ih.k cx ((pO d).f .qc en) h df
   |some _=> .fail):=rfl
  rw[e];split;·rename_i hrd;exact .inr ⟨_,_,_,rfl,hrd,rfl,rfl,rfl⟩
  ·exact .inl rfl
theorem vD {d:Option Tmp} {v:AV} {v':Value} (hE:fU ι n en a.tmps) (hd:∀t,d=some t->t<n) (hv:VR ι v v'):fU ι n ((pO d).f v en) (a.put d v').tmps:=by
 cases d with
 |none=>exact hE
 |some t=>exact hE.put (hd t rfl) hv
theorem put_defers (a:Go.Act) (d:Option Tmp) (v:Value):(a.put d v).defers=a.defers:=by cases d<;>rfl
theorem yK {ops:List Oper} {o:Oper} (h:fK n ops o=true):∀t,o.dst=some t->t<n:=by intro t ht;unfold fK at h;simp only[aQ]at h;have:=h.1.1;rw[ht]at this;have:Nat.ble (t+1) n=true:=this;rw[aD]at this;exact this
theorem wY {ops:List Oper} {o:Oper} (h:fK n ops o=true):o.op.operands.toList.all (aC n)=true:=by unfold fK at h;simp only[aQ]at h;exact h.1.2
theorem JZ {ops:Array Oper} {o:Oper} (hop:fK n ops.toList o=true) (hE:fU ι n en a.tmps) {j:Nat} {wn:Bool} (hg:o.guard=some (j,wn)) {t:Tmp} (ht:yL ops.toList j=some t):
 (J2 wn ((gT t).f en)= .t->Region.wanted o (yielded ops a.tmps)=true)/\(J2 wn ((gT t).f en)= .f->Region.wanted o (yielded ops a.tmps)=false):=by
 unfold fK at hop;simp only[aQ]at hop;have h3:=hop.2;rw[hg]at h3;dsimp only at h3;unfold yL at ht;rw[dN]at ht h3;cases hoj:ops[j]? with
 |none=>rw[hoj]at ht;cases ht
 |some oj=>
  rw[hoj]at ht h3;dsimp only at ht h3;rw[ht]at h3;have h3:Nat.ble (t+1) n=true:=h3;rw[aD]at h3;have htn:t<n:=h3;have hv:=hE.at_ t htn;have hw:Region.wanted o (yielded ops a.tmps)=(yielded ops a.tmps j==some wn):=by unfold Region.wanted;rw[hg]
  have hy:yielded ops a.tmps j=match a.tmps.getD t undef with| .bool b=>some b|_=>none:=by
   unfold yielded;rw[hoj];simp only[Option.bind_some,ht];have hlt:t<a.tmps.size:=by rw[hE.size];exact htn
   rw[l6 hlt];have:a.tmps.getD t undef=a.tmps[t]:=by simp[Array.getD,hlt]
   rw[this];cases a.tmps[t]<;>rfl
  rw[hw,hy];generalize(gT t).f en=x at hv;generalize a.tmps.getD t undef=y at hv;cases x with
  |bool bb=>cases hv;cases bb<;>cases wn<;>exact⟨(λc=>by first|rfl|(cases c;done)),(λc=>by first|rfl|(cases c;done))⟩
  |fT vs=>obtain⟨xs,rfl,_⟩:=hv;cases wn<;>exact⟨(λc=>by cases c),(λ_=>rfl)⟩
  |_=>exact⟨(λc=>by cases c),(λc=>by cases c)⟩
theorem Calm.self {kind:CallKind} {cs:List Frame} (h:Calm kind cs):Calm kind cs:=h
theorem DI (hg:jP P g) (k:WR ι h w D) (hE:fU ι n en a.tmps) (hG:GI ι) {ops:Array Oper} {i:Nat} {rest:List Nat} {kk:List Item} {o:Oper} (ho:ops[i]? =some o)
 (hop:o.op.operands.toList.all (aC n)=true) (hw:Region.wanted o (yielded ops a.tmps)=true) {x:Act} (hk:nX g o.op= .plain x) {v:AV} (e:x.f en h= .ok v h') (hD:∀f,sJ o.op=some f->∀b∈f en,D b):
 ∃ι' W v' w',Steps P (lone (St b a (.inRegion ops (i::rest)::kk)) cs w) (lone (St b (a.put o.dst v') (.inRegion ops rest::kk)) cs w')/\VR ι' v v'/\Loc ι h w ι' h' w' W:=by
 have hx:x=Fx g o.op/\Cg o.op=false/\∃f,sJ o.op=some f:=by
  cases hop':o.op with
  |call c=>
   rw[hop']at hk;cases hc:c.callee with
   |value f=>simp only[nX,hc]at hk;cases hk
   |invoke r m=>simp only[nX,hc]at hk;cases hk
   |builtin bb=>
    refine⟨?_,rfl,?_⟩
    ·cases bb<;>first
      |(simp only[nX,hc]at hk;cases hk;rfl)
      |(simp only[nX,hc]at hk;cases hk)
    ·exact⟨_,by unfold sJ;dsimp only;rw[hc]⟩
  |defer c=>rw[hop']at hk;cases hc:c.callee<;>simp only[nX,hc]at hk<;>cases hk<;>cases e
  |_=>rw[hop']at hk;cases hk;exact⟨rfl,rfl,_,rfl⟩
 obtain⟨rfl,hd,f,hf⟩:=hx;obtain⟨ι',w',W,nx,h1,h2,h3⟩:=aaU (P:=P) hE hG hg k o hop hf (hD f hf) e;rcases h2 with⟨v',rfl,hv⟩|⟨rfl,rfl⟩
 ·obtain⟨v2,w2,⟨hv2,hw2⟩,hs⟩:=OM (R:=λu w2=>u=v'/\w2=w') (k:=kk) (cs:=cs) (b:=b) (rest:=rest) ho hw (.inr hd) (.inl ⟨v',w',h1,rfl,rfl⟩);subst hv2;subst hw2;exact⟨ι',W,v2,w2,hs,hv,h3⟩
 ·exact⟨ι',W,undef,w',XK ho hw (.inr hd) h1,⟨#[],rfl,rfl⟩,h3⟩
theorem DJ (hc:Qy P cx) (k:WR ι h w) (hG:GI ι) {f args v:AV} {vf:Value} {vs:Array Value} (hf:VR ι f vf) (ha:fQ ι args vs.toList) (e:apply cx f args h= .ok v h'):
 Ends P (do let d<-Deferred.ofValue vf vs;invoke d.target d.args) w (CR ι h w v h'):=by
 unfold apply at e;split at e
 ·rename_i f0 x c;rcases hf with⟨xs,ys,rfl,hx,hy⟩|⟨y,nm,rfl,hx,hy⟩
  ·have e:cx.call f0 (kT x (kT args c)) h= .ok v h':=by cases x<;>first|exact e|exact hx.elim
   refine Ends.congr (s:=callFunc f0 (xs++vs++ys)) rfl (hc.call _ _ _ _ _ e ι w _ k hG ?_);rw[pR,pR,iL];exact mI hx (mI ha hy)
  ·split at e
   ·split at e
    ·split at e
     ·rename_i t x _ s _ f' hf';obtain⟨u,rfl,hu⟩:=hx;obtain⟨b,hb1,hb2⟩:=hy;have hb3:nm.toUTF8=b:=by injection hb1
      have hm:=λw=>(FH (hc.pU _ _ _ hf') (hb2.trans (by rw[hb3])) (P.types.size+Made.depth-1) u w).1;have hpos:P.types.size+Made.depth-1+1=P.types.size+Made.depth:=by
       have:0<Made.depth:=by decide
       omega
      rw[hpos]at hm;refine Ends.congr (s:=callFunc f' (#[u]++vs)) ?_ (hc.call _ _ _ _ _ e ι w _ k hG ?_)
      ·have hx:(#[Value.iface t u]++vs).extract 1 (#[Value.iface t u]++vs).size=vs:=by simp
       have h0:(#[Value.iface t u]++vs)[0]? =some (.iface t u):=by rw[Array.getElem?_append_left (by simp)];rfl
       simp only[Deferred.ofValue,Sem.run_bind,Sem.run_pure,Result.andThen_ok,invoke,h0,hx,callMethod,run_program,hm]
      ·rw[pR];exact⟨u,_,rfl,hu,ha⟩
     ·cases e
    ·cases e
   ·exact hx.elim
   ·exact hx.elim
   ·cases e
 ·rename_i l;obtain⟨m,hm,rfl⟩:=hf;refine Ends.congr (s:=Instr.yield m.B vs) ?_ (hc.wE _ _ _ _ _ e ι w vs m k hG hm ha);show(Instr.yield m.B (#[]++vs)).run P w=_;rw[Array.empty_append]
 ·cases e
theorem J3 {op:Op} {f:EV} {as:List Operand} (hk:nX g op= .call f as):∃c r,op= .call c/\as=c.args.toList/\sJ op=none/\c.operands=#[r]++c.args/\
 ((c.callee= .value r/\f=ev r)\/∃nm:String,c.callee= .invoke r nm/\f=adC r (Str.of nm.toUTF8)):=by
 cases op with
 |call c=>
  cases hc:c.callee with
  |value f0=>simp only[nX,hc]at hk;cases hk;exact⟨c,f0,rfl,rfl,by unfold sJ;dsimp only;rw[hc],by unfold Call.operands;rw[hc], .inl ⟨hc,rfl⟩⟩
  |invoke r m=>simp only[nX,hc]at hk;cases hk;exact⟨c,r,rfl,rfl,by unfold sJ;dsimp only;rw[hc],by unfold Call.operands;rw[hc], .inr ⟨m,hc,rfl⟩⟩
  |builtin bb=>cases bb<;>(simp only[nX,hc]at hk;cases hk)
 |defer c=>cases hc:c.callee<;>(simp only[nX,hc]at hk;cases hk)
 |_=>cases hk
theorem FT (hc:Qy P cx) (k:WR ι h w) (hE:fU ι n en a.tmps) (hG:GI ι) {ops:Array Oper} {i:Nat} {rest:List Nat} {kk:List Item} {o:Oper} (ho:ops[i]? =some o)
 (hop:o.op.operands.toList.all (aC n)=true) (hw:Region.wanted o (yielded ops a.tmps)=true) {f:EV} {as:List Operand} (hk:nX g o.op= .call f as) {v:AV} (e:apply cx (f.f en) ((opsL as).f en) h= .ok v h'):
 ∃ι' W v' w',Steps P (lone (St b a (.inRegion ops (i::rest)::kk)) cs w) (lone (St b (a.put o.dst v') (.inRegion ops rest::kk)) cs w')/\VR ι' v v'/\WR ι' h' w'/\Ext ι h w ι' h' w' W:=by
 obtain⟨c,r,hoc,rfl,_,hops,hcv⟩:=J3 hk;have hops:aC n r=true/\c.args.toList.all (aC n)=true:=by rw[hoc]at hop;have:(c.operands).toList.all (aC n)=true:=hop;rw[hops]at this;simpa using this
 have ZL:=aX hE hG r hops.1;have hva:=vB hE hG c.args.toList hops.2;rw[<-mM]at hva;have hx:execOp a.eval o=(do let d<-resolve a.eval c o.type;invoke d.target d.args:Sem Next):=by unfold execOp;rw[hoc]
 have he2:Ends P (execOp a.eval o) w (CR ι h w v h'):=by
  rcases hcv with⟨hcv,rfl⟩|⟨nm,hcv,rfl⟩
  ·refine Ends.congr ?_ (DJ hc k hG ZL hva e);rw[hx];unfold resolve;rw[hcv]
  ·have e:apply cx (TM ((ev r).f en) (Str.of nm.toUTF8)) ((opsL c.args.toList).f en) h= .ok v h':=e;have hvf:VR ι (TM ((ev r).f en) (Str.of nm.toUTF8)) (.func (.method nm) #[a.eval r] #[]):=by generalize(ev r).f en=x at ZL e⊢;cases x<;>first|(cases e;done)|exact .inr ⟨_,nm,rfl,ZL,nm.toUTF8,rfl,rfl⟩
   refine Ends.congr ?_ (DJ hc k hG hvf hva e);rw[hx];unfold resolve;rw[hcv];rfl
 obtain⟨v',w',⟨ι',W,h1,h2,h3⟩,hs⟩:=OM (k:=kk) (cs:=cs) (b:=b) (rest:=rest) ho hw (.inr (by rw[hoc];rfl)) he2;exact⟨ι',W,v',w',hs,h1,h2,h3⟩
theorem OQ (hg:jP P g) (p:Pre P n cx ι en h df a w b cs) {ops:Array Oper} {i:Nat} {rest:List Nat} {kk:List Item} {o:Oper} (ho:ops[i]? =some o) (hok:fK n ops.toList o=true)
 (hw:Region.wanted o (yielded ops a.tmps)=true) {v:AV} (e:OpR cx (nX g o.op) en h df v h' jY):
 ∃ι' a' w',Steps P (lone (St b a (.inRegion ops (i::rest)::kk)) cs w) (lone (St b a' (.inRegion ops rest::kk)) cs w')/\SR ι h w n ι' ((pO o.dst).f v en) h' jY a' w':=by
 have hop:=wY hok;have hdn:=yK hok;generalize hk:nX g o.op=kd at e;cases kd with
 |plain x=>obtain⟨e,rfl⟩:=e;obtain⟨ι',W,v',w',hs,hv,hL⟩:=DI (b:=b) (cs:=cs) (rest:=rest) (kk:=kk) hg p.wr p.env p.gi ho hop hw hk e (λ_ _ _ _=>trivial);have hle:=hL.toExt.le p.wr.fresh;exact⟨ι',_,w',hs,vD (p.env.mono hle) hdn hv,(by rw[put_defers];exact p.vC.mono hle),hL.wr p.wr,W,hL.toExt⟩
 |call f as=>obtain⟨e,rfl⟩:=e;obtain⟨ι',W,v',w',hs,hv,hwr,hE⟩:=FT (b:=b) (cs:=cs) (rest:=rest) (kk:=kk) p.cok p.wr p.env p.gi ho hop hw hk e;have hle:=hE.le p.wr.fresh;exact⟨ι',_,w',hs,vD (p.env.mono hle) hdn hv,(by rw[put_defers];exact p.vC.mono hle),hwr,W,hE⟩
 |defer f as=>
  obtain⟨hrd,rfl,rfl,g0,x,c0,hf,hil,rfl⟩:=e;have hx:∃c,o.op= .defer c/\c.callee= .value f/\as=c.args.toList:=by
   cases hop':o.op with
   |call c=>
    rw[hop']at hk;cases hc:c.callee with
    |builtin bb=>cases bb<;>(simp only[nX,hc]at hk;cases hk)
    |_=>simp only[nX,hc]at hk;cases hk
   |defer c=>
    rw[hop']at hk;cases hc:c.callee with
    |value f0=>simp only[nX,hc]at hk;cases hk;exact⟨c,rfl,hc,rfl⟩
    |_=>simp only[nX,hc]at hk;cases hk
   |_=>rw[hop']at hk;cases hk
  obtain⟨c,hoc,hcv,rfl⟩:=hx;have hops:aC n f=true/\c.args.toList.all (aC n)=true:=by rw[hoc]at hop;have:(c.operands).toList.all (aC n)=true:=hop;unfold Call.operands at this;rw[hcv]at this;simpa using this
  have hvf:=aX p.env p.gi f hops.1;have hva:=vB p.env p.gi c.args.toList hops.2;rw[hf]at hvf;obtain⟨xs,ys,hvf,hxs,hys⟩:∃xs ys:Array Value,a.eval f= .func (.func g0) xs ys/\fQ ι x xs.toList/\fQ ι c0 ys.toList:=by
   rcases hvf with hvf|⟨y,nm,_,h1,_⟩
   ·exact hvf
   ·cases x<;>first|cases hil;done|exact h1.elim
  have hro:b.roundOf=none:=by
   rcases p.rd with⟨_,h2⟩|⟨l,m,h1,_,_⟩
   ·exact h2
   ·rw[hrd]at h1;cases h1
  have hx:(execOp a.eval o).run P w= .ok (.defer {target:= .fn (.func g0) ys,args:=xs++c.args.map a.eval}) w:=by unfold execOp;rw[hoc];dsimp only;unfold resolve;rw[hcv];dsimp only;rw[hvf];rfl
  refine⟨ι,_,w,Tw ho hw hro hx,vD (a:={a with defers:=_::a.defers}) p.env hdn ⟨#[],rfl,rfl⟩,?_,p.wr,[],Ext.refl _ _ _ p.wr.fresh⟩;rw[put_defers];refine⟨ys,xs++c.args.map a.eval,a.defers,rfl,?_,p.vC⟩;rw[pR,mM,iL];exact mI hxs (mI hva hys)
 |recover=>
  obtain⟨hrd,rfl,rfl,rfl⟩:=e;have hx:∃c,o.op= .call c/\c.callee= .builtin .recover:=by
   cases hop':o.op with
   |call c=>
    rw[hop']at hk;cases hc:c.callee with
    |builtin bb=>cases bb<;>first|exact⟨c,rfl,hc⟩|(simp only[nX,hc]at hk;cases hk)
    |_=>simp only[nX,hc]at hk;cases hk
   |defer c=>rw[hop']at hk;cases hc:c.callee<;>(simp only[nX,hc]at hk;cases hk)
   |_=>rw[hop']at hk;cases hk
  obtain⟨c,hoc,hcv⟩:=hx;have hro:b.roundOf=none:=by
   rcases p.rd with⟨_,h2⟩|⟨l,m,h1,_,_⟩
   ·exact h2
   ·rw[hrd]at h1;cases h1
  have hx:(execOp a.eval o).run P w= .ok .recover w:=by unfold execOp;rw[hoc];dsimp only;unfold resolve;rw[hcv];rfl
  exact⟨ι,_,w,MC ho hw hro p.calm hx,vD p.env hdn rfl,(by rw[put_defers];exact p.vC),p.wr,[],Ext.refl _ _ _ p.wr.fresh⟩
theorem QC (hg:jP P g) {ops:Array Oper} {i:Nat} {rest:List Nat} {o:Oper} (ho:ops[i]? =some o) (hok:fK n ops.toList o=true) {ih:K} (hih:sK P n ih (λkk=> .inRegion ops rest::kk)):
 sK P n (ME g ops.toList o ih) (λkk=> .inRegion ops (i::rest)::kk):=by
 intro cx ι en h df a w b cs p kk;have body:Region.wanted o (yielded ops a.tmps)=true->Out P b n kk cs ι h w (lone (St b a (.inRegion ops (i::rest)::kk)) cs w) ((qp o.dst (nX g o.op) ih).k cx en h df):=λhw=>by
  rcases JY (cx:=cx) (en:=en) (h:=h) (df:=df) o.dst (nX g o.op) ih with e|⟨v,h',jY,e,hr⟩
  ·rw[e];trivial
  ·rw[e];obtain⟨ι',a',w',hs,s⟩:=OQ (rest:=rest) (kk:=kk) hg p ho hok hw hr;exact Out.trans hs s (hih cx ι' _ h' jY a' w' b cs (p.next s) kk)
 unfold ME;cases hgd:o.guard with
 |none=>dsimp only;exact body (by unfold Region.wanted;rw[hgd])
 |some jw=>
  obtain⟨j,wn⟩:=jw;dsimp only;cases ht:yL ops.toList j with
  |none=>trivial
  |some t=>
   obtain⟨h1,h2⟩:=JZ hok p.env hgd ht;show Out P b n kk cs ι h w _ (OB.rec (motive:=λ_=>XR) .fail (ih.k cx ((pO o.dst).f (.fT .nil) en) h df) ((qp o.dst (nX g o.op) ih).k cx en h df) (J2 wn ((gT t).f en)));cases hs:J2 wn ((gT t).f en)with
   |none=>trivial
   |f=>
    have hw:=h2 hs;have hstep:step P (lone (St b a (.inRegion ops (i::rest)::kk)) cs w)= .next (lone (St b (a.put ((ops[i]?).bind (·.dst)) undef) (.inRegion ops rest::kk)) cs w):=
     DC (by rw[ho];exact hw)
    rw[ho]at hstep;have s:SR ι h w n ι ((pO o.dst).f (.fT .nil) en) h df (a.put o.dst undef) w:=⟨vD p.env (yK hok) ⟨#[],rfl,rfl⟩,(by rw[put_defers];exact p.vC),p.wr,[],Ext.refl _ _ _ p.wr.fresh⟩
    exact Out.trans (.one hstep) s (hih cx ι _ h df _ w b cs (p.next s) kk)
   |t=>exact body (h1 hs)
theorem OT (hg:jP P g) {ops:Array Oper} (hok:ops.toList.all (fK n ops.toList)=true):∀(l:List Oper) (i:Nat),ops.toList.drop i=l->sK P n (adD g ops.toList l) (λkk=> .inRegion ops (List.range' i l.length)::kk)
 |[],_,_=>sK.pre (λ_ _ _ _ _=>wL) yJ
 |o::r,i,hl=>by
  have hi:i<ops.toList.length:=by
   rcases aF i ops.toList.length with c|c;·exact c
   ·rw[Ch c]at hl;cases hl
  rw[pK hi]at hl;injection hl with h1 h2;have ho:ops[i]? =some o:=by rw[<-dN,aS hi,h1]
  have Ju:fK n ops.toList o=true:=dZ.1 hok o (h1▸iN hi);exact QC hg ho Ju (OT hg hok r (i+1) h2)
theorem MF (hg:jP P g) {id:Nat} {ops:Array Oper} (hok:ops.toList.all (fK n ops.toList)=true):sK P n (Ci g ops.toList false) (λkk=> .code (.region id ops false)::kk):=by refine sK.pre (s:=λkk=> .inRegion ops (List.range ops.size)::kk) (λ_ _ _ _ _=>Qx) ?_;have:=OT (P:=P) hg hok ops.toList 0 rfl;rw[<-List.range_eq_range',jE]at this;exact this
end
section
variable {P:Program} {g:G} {n:Nat} {cx:Cx} {ι:aV} {en:Env} {h h':H} {df jY:List Df} {a:Go.Act} {w:World} {b:Frame} {cs:List Frame} {D:Nat->Prop}
theorem MG {R:Value->World->Prop} {f:Operand} {ps:Array Tmp} {as bo:Code} {k:List Item} {l:Nat} {mark:List Deferred} {w1:World}
 (he:(Instr.enterLoop b.fn a.tmps ps as bo b.roundOf).run P w= .ok (l,mark) w1)
 (e:Ends P (do let d<-Deferred.ofValue (a.eval f) #[.func (.yield l) #[] #[]];invoke d.target d.args) w1 R):
 ∃v w',R v w'/\Steps P (lone (St b a (.code (.rangeFunc f ps as bo)::k)) cs w) (lone (St b {a with defers:=mark++a.defers} (.endRangeFunc l::k)) cs w'):=by
 have hev:(St b {a with defers:=mark++a.defers} (.inRangeFunc l::k)).eval=a.eval:=by rw[Im];rfl
 have hstep:(stepG P true {frame:=St b a (.code (.rangeFunc f ps as bo)::k),callers:=cs,status:= .running,dying:=none} w).bare=
  (stepG.apply P true (St b {a with defers:=mark++a.defers} (.inRangeFunc l::k)) cs none (do let d<-Deferred.ofValue (a.eval f) #[.func (.yield l) #[] #[]];invoke d.target d.args) w1).bare:=by
  have:(do let d<-resolve (St b {a with defers:=mark++a.defers} (.inRangeFunc l::k)).eval {callee:= .value f,args:=#[.const (.func (.yield l) #[] #[])],argTypes:=#[]} 0;invoke d.target d.args:Sem Next)=
   (do let d<-Deferred.ofValue (a.eval f) #[.func (.yield l) #[] #[]];invoke d.target d.args:Sem Next):=by
   rw[hev];unfold resolve;simp[Go.Act.eval]
  rw[<-this];simp only[stepG,stepG.exec,St,Sem.runT_eq,he,GStep.bare_after]
 rcases e with⟨v,w',hr,q⟩|⟨f0,vs,w2,hr,q⟩|⟨l0,f0,tmps,as0,bo0,w2,hr,q⟩
 ·refine⟨v,w',q, .one (step_lone_go ?_)⟩;rw[hstep];simp[stepG.apply,hr,Frame.finish,St]
 ·obtain⟨fr,v,w',q,hs,hl⟩:=q .normal (St b {a with defers:=mark++a.defers} (.inRangeFunc l::k)::cs) (.inl rfl);have henter:step P (lone (St b a (.code (.rangeFunc f ps as bo)::k)) cs w)=
   .next (lone (Frame.enter P f0 vs .normal) (St b {a with defers:=mark++a.defers} (.inRangeFunc l::k)::cs) w2):=
   step_lone_go (by rw[hstep];simp[stepG.apply,hr,St])
  exact⟨v,w',q, .head henter (hs.trans (.one (DF hl)))⟩
 ·obtain⟨v,w',q,hs⟩:=q (St b {a with defers:=mark++a.defers} (.inRangeFunc l::k)) cs;have henter:step P (lone (St b a (.code (.rangeFunc f ps as bo)::k)) cs w)=
   .next (lone (Frame.round l0 f0 tmps as0 bo0 .normal) (St b {a with defers:=mark++a.defers} (.inRangeFunc l::k)::cs) w2):=
   step_lone_go (by rw[hstep];simp[stepG.apply,hr,St])
  exact⟨v,w',q, .head henter hs⟩
theorem TN {l:Nat} {r:Loop} (hw:w.heap[l]? =some (.loop r)) (hb:r.state≠.busy) {k:List Item}:
 step P (lone (St b a (.endRangeFunc l::k)) cs w)= .next (lone (St b a ((r.pending.map Item.code).toList++k)) cs {w with heap:=w.heap.setIfInBounds l (.loop {r with state:= .exhausted})}):=by
 have hrun:(Instr.endLoop l).run P w= .ok r.pending {w with heap:=w.heap.setIfInBounds l (.loop {r with state:= .exhausted})}:=by
  have h1:(Instr.getLoop l).run P w= .ok r w:=by
   unfold Instr.getLoop;rw[Sem.run_bind];have:(getObj l).run P w= .ok (.loop r) w:=by show Sem.run P (Sem.getObj l Sem.pure) w=_;unfold Sem.run;rw[hw];rfl
   rw[this];rfl
  have h2:(setObj l (.loop {r with state:= .exhausted})).run P w= .ok () {w with heap:=w.heap.setIfInBounds l (.loop {r with state:= .exhausted})}:=by show Sem.run P (Sem.setObj l _ (Sem.pure ())) w=_;unfold Sem.run;rw[hw];rfl
  have hbs:(r.state== .busy)=false:=by cases hs:r.state<;>first|rfl|exact absurd hs hb
  unfold Instr.endLoop;simp only[Sem.run_bind,h1,Result.andThen_ok,hbs,aZ,jq,h2,Sem.run_pure]
 exact step_lone_go (by simp[stepG,stepG.exec,St,hrun])
theorem Ba (o:Obj) (w:World):(newObj o).run P w= .ok w.heap.size (World.grown w w.drawn o):=rfl
theorem run_getLoop {l:Nat} {r:Loop} (hw:w.heap[l]? =some (.loop r)):(Instr.getLoop l).run P w= .ok r w:=by
 unfold Instr.getLoop;rw[Sem.run_bind];have:(getObj l).run P w= .ok (.loop r) w:=by show Sem.run P (Sem.getObj l Sem.pure) w=_;unfold Sem.run;rw[hw];rfl
 rw[this];rfl
theorem agn (k:WR ι h w) {ι':aV} {h':H} {w':World} {W:List Nat} (L:Loc ι h w ι' h' w' W):WR ι' h' w'/\Ext ι h w ι' h' w' W:=⟨L.wr k,L.toExt⟩
theorem WR.at(k:WR ι h w) {b:Nat} {m:Nm} (e:ι b=some m) {x:wF} (hb:h.get b=some x):∃o,w.heap[m.B]? =some o/\BR ι x o m:=k.map trivial e hb
theorem FU (p:Pre P n cx ι en h df a w b cs) {f:Operand} (hf:aC n f=true) {ps:Array Tmp} {as bo:Code} {kk:List Item} {l:Nat} {mark:List Deferred} {w1:World} {ι1:aV} {h1:H} {rC:List Df} {W1:List Nat}
 (he:(Instr.enterLoop b.fn a.tmps ps as bo b.roundOf).run P w= .ok (l,mark) w1) {la:Nat} {m:Nm} (hm:ι1 la=some m) (hl:m.B=l)
 (k1:WR ι1 h1 w1) (e1:Ext ι h w ι1 h1 w1 W1) (hdf:Tx ι1 rC (mark++a.defers)) {r:XR}
 (hr:r=(match apply cx ((ev f).f en) (.cons (.wE la) .nil) h1 with
  | .ok _ h'=>(match h'.get la with
    |some (.loop st pend fn env ps' as' Jv dd)=>(match st with
     | .busy=> .fail
     |_=>MH pend en (h'.set la (.loop .exhausted pend fn env ps' as' Jv dd)) rC)
    |_=> .fail)
  | .fail=> .fail)):Out P b n kk cs ι h w (lone (St b a (.code (.rangeFunc f ps as bo)::kk)) cs w) r:=by
 have hle:=e1.le p.wr.fresh;have hvf:=(aX p.env p.gi f hf).mono hle;cases hap:apply cx ((ev f).f en) (.cons (.wE la) .nil) h1 with
 |fail=>rw[hap]at hr;subst hr;trivial
 |ok v h2=>
  rw[hap]at hr;dsimp only at hr;have hargs:fQ ι1 (.cons (.wE la) .nil) (#[Value.func (.yield l) #[] #[]]:Array Value).toList:=⟨_,_,rfl,⟨m,hm,by rw[hl]⟩,rfl⟩
  have adE:=DJ p.cok k1 (p.gi.mono hle) hvf hargs hap;obtain⟨v',w2,⟨ι2,W2,_,k2,e2⟩,hs⟩:=MG (cs:=cs) (k:=kk) he adE;have hle2:=e2.le k1.fresh;cases hg:h2.get la with
  |none=>rw[hg]at hr;subst hr;trivial
  |some x=>
   rw[hg]at hr;cases x with
   |loop st pend fn env ps' as' Jv dd=>
    dsimp only at hr;have hm2:=hle2 _ _ hm;obtain⟨o,ho,hbr⟩:=k2.at hm2 hg;obtain⟨rr,n',md,rfl,b1,b2,b3,b4,b5,b6,b7,b8,b9⟩:=hbr;by_cases hst:st= .busy;·subst hst;subst hr;trivial
    have hr:r=MH pend en (h2.set la (.loop .exhausted pend fn env ps' as' Jv dd)) rC:=by cases st<;>first|exact hr|exact absurd rfl hst
    have ahf:BR ι2 (.loop .exhausted pend fn env ps' as' Jv dd) (.loop {rr with state:= .exhausted}) m:=⟨{rr with state:= .exhausted},n',md,rfl,rfl,b2,b3,b4,b5,b6,b7,b8,b9⟩
    have L:=Loc.mO k2 hm2 hg ho ahf;rw[hl]at ho L;have hstep:=TN (P:=P) (b:=b) (a:={a with defers:=mark++a.defers}) (cs:=cs) (k:=kk) ho (by rw[b1];exact hst);have hsr:SR ι h w n ι2 en (h2.set la (.loop .exhausted pend fn env ps' as' Jv dd)) rC {a with defers:=mark++a.defers} {w2 with heap:=w2.heap.setIfInBounds l (.loop {rr with state:= .exhausted})}:=
     ⟨p.env.mono (aV.le_trans hle hle2),hdf.mono hle2,L.wr k2,_,(e1.trans e2).trans L.toExt⟩
    have htodo:(rr.pending.map Item.code).toList=(pend.map Item.code).toList:=by rw[b2]
    rw[htodo]at hstep;subst hr;cases pend with
    |none=>exact⟨ι2,_,_,hs.trans (.one hstep),hsr⟩
    |some c=>
     cases c with
     |ret=>exact⟨ι2,_,_,kk,hs.trans (.one hstep),hsr⟩
     |exit i=>exact⟨ι2,_,_,kk,rfl,hs.trans (.one hstep),hsr⟩
     |goto l'=>exact⟨ι2,_,_,kk,rfl,hs.trans (.one hstep),hsr⟩
     |_=>trivial
   |_=>subst hr;trivial
theorem QD {f:Operand} (hf:aC n f=true) {ps:Array Tmp} {as bo:Code} (hps:(ps.toList.all (Nat.blt · n))=true) (has:codeOk n as=true) (hbo:codeOk n bo=true):
 sK P n (Iq (ev f) ps.toList as bo) (λkk=> .code (.rangeFunc f ps as bo)::kk):=by
 intro cx ι en h df a w b cs p kk
 rcases p.rd with⟨hrd,hro⟩|⟨l0,m0,hrd,hm0,hro⟩
 ·
  unfold Iq
  dsimp only
  rw[hrd]
  dsimp only
  split
  ·rename_i hroom
   rw[aD]at hroom
   have hroom:h.next+1<65536:=hroom
   have L1:=Loc.yh p.wr (by omega) .vC ⟨w.heap.size,0,0⟩ (.deferred (some [])) (w':=World.grown w w.drawn (.deferred (some []))) (by simp[World.grown]) gH (Nat.le_refl _) gI rfl rfl rfl rfl
   have k1:=L1.wr p.wr
   have hle1:=L1.toExt.le p.wr.fresh
   let rr:Loop:={state:= .ready,pending:=none,fn:=b.fn,tmps:=a.tmps,params:=ps,assign:=as,body:=bo,defers:=w.heap.size}
   have hn1:(h.new .vC).next=h.next+1:=rfl
   have hdd:(ι.add h.next ⟨w.heap.size,0,0⟩).add (h.next+1) ⟨w.heap.size+1,0,0⟩ h.next=some ⟨w.heap.size,0,0⟩:=by
    rw[aV.tL _ _ (by omega),aV.add_same]
   have hfr:(ι.add h.next ⟨w.heap.size,0,0⟩) (h.next+1)=none:=k1.fresh _ (ay _)
   have hle2:(ι.add h.next ⟨w.heap.size,0,0⟩).le ((ι.add h.next ⟨w.heap.size,0,0⟩).add (h.next+1) ⟨w.heap.size+1,0,0⟩):=aV.sZ _ hfr
   have L2:=Loc.yh (ι:=ι.add h.next ⟨w.heap.size,0,0⟩) k1 (by rw[hn1];omega) (.loop .ready none (nat_lit 0) en ps.toList as bo h.next) ⟨w.heap.size+1,0,0⟩ (.loop rr) (w':=World.grown (World.grown w w.drawn (.deferred (some []))) w.drawn (.loop rr))
    (by simp[World.grown]) gH (by simp[World.grown])
    (by have:=gI (w:=World.grown w w.drawn (.deferred (some []))) (n:=w.drawn) (o:= .loop rr)
        have hsz:(World.grown w w.drawn (.deferred (some []))).heap.size=w.heap.size+1:=by simp[World.grown]
        rw[hsz]at this;exact this)
    ⟨rr,n,⟨w.heap.size,0,0⟩,rfl,rfl,rfl,p.env.mono (aV.le_trans hle1 hle2),rfl,rfl,rfl,hdd,rfl,has,hbo,hps⟩ rfl rfl rfl
   have k2:=L2.wr k1
   refine FU p hf (l:=w.heap.size+1) (mark:=[{target:= .collected w.heap.size,args:=#[]}]) (w1:=World.grown (World.grown w w.drawn (.deferred (some []))) w.drawn (.loop rr)) ?_ (la:=h.next+1) (m:=⟨w.heap.size+1,0,0⟩) (aV.add_same _ _ _) rfl k2 (L1.toExt.trans L2.toExt) ?_ rfl
   ·have hsz:(World.grown w w.drawn (.deferred (some []))).heap.size=w.heap.size+1:=by simp[World.grown]
    rw[hro]
    simp only[Instr.enterLoop,Sem.run_bind,Ba,Result.andThen_ok,Sem.run_pure,hsz]
    rfl
   ·exact⟨_,a.defers,hdd,rfl,p.vC.mono (aV.le_trans hle1 hle2)⟩
  ·trivial
 ·
  unfold Iq
  dsimp only
  rw[hrd]
  dsimp only
  split
  ·rename_i st0 pd0 fn0 en0 ps0 as0 bo0 dd hroom hl0
   have hr:=H.jX.1 hroom
   obtain⟨o,ho,hbr⟩:=p.wr.at hm0 hl0
   obtain⟨r0,n',md,rfl,b1,b2,b3,b4,b5,b6,b7,b8,b9⟩:=hbr
   let rr:Loop:={state:= .ready,pending:=none,fn:=b.fn,tmps:=a.tmps,params:=ps,assign:=as,body:=bo,defers:=r0.defers}
   have hfr:=p.wr.fresh h.next (ay _)
   have hle2:ι.le (ι.add h.next ⟨w.heap.size,0,0⟩):=aV.sZ _ hfr
   have L2:=Loc.yh p.wr hr (.loop .ready none (nat_lit 0) en ps.toList as bo dd) ⟨w.heap.size,0,0⟩ (.loop rr) (w':=World.grown w w.drawn (.loop rr))
    (by simp[World.grown]) gH (Nat.le_refl _) gI
    ⟨rr,n,md,rfl,rfl,rfl,p.env.mono hle2,rfl,rfl,rfl,hle2 _ _ b7,b8,has,hbo,hps⟩ rfl rfl rfl
   have k2:=L2.wr p.wr
   refine FU p hf (l:=w.heap.size) (mark:=[]) (w1:=World.grown w w.drawn (.loop rr)) ?_ (la:=h.next) (m:=⟨w.heap.size,0,0⟩) (aV.add_same _ _ _) rfl k2 L2.toExt ?_ rfl
   ·rw[hro]
    simp only[Instr.enterLoop,Sem.run_bind,run_getLoop ho,Result.andThen_ok,Sem.run_pure,Ba]
    rfl
   ·exact p.vC.mono hle2
  ·trivial
end
section
variable {P:Program} {g:G} {n:Nat} {cx:Cx} {ι:aV} {en:Env} {h h':H} {df jY:List Df} {a:Go.Act} {w:World} {b:Frame} {cs:List Frame}
theorem QE (hg:jP P g) (k:WR ι h w) {t:TypeId} {y:Ty} (ht:g.ty t=some y) {x v:AV} {va:Value} (ha:VR ι x va)
 (e:(qd y.agg y.size).f x h= .ok v h'):∃v',(do loadVar t (<-asAddr va):Sem Value).run P w= .ok v' w/\VR ι v v'/\h'=h:=by
 obtain⟨hd,hag,i,z,hi,hs,_,_,_⟩:=hg.ty _ _ ht;cases hy:y.agg
 ·rw[hy]at e;have e:L9 Sz x h= .ok v h':=e;obtain⟨b,o,rfl,e⟩:=qR e;obtain⟨m,hm,rfl⟩:=ha;obtain⟨el,ro,n,d,tr,hb,e⟩:=lg e;obtain⟨arr,iV,lo,hi',hw,h1,h2,_,h4,_⟩:=k.cells trivial hm hb;cases hlt:Nat.ble (Nat.succ o) n
  ·rw[hlt]at e;cases e
  ·rw[hlt]at e;rw[aD]at hlt;have hlt:o<n:=hlt;obtain⟨rfl,rfl,_⟩:=pz e;refine⟨_,?_,h4 o hlt,rfl⟩;simp only[asAddr,Sem.run_bind,Sem.run_pure,Result.andThen_ok,loadVar,zN hd,<-hag,hy,aZ,jq];exact AX hw (by omega)
 ·rw[hy]at e;have e:L9 (SA y.size) x h= .ok v h':=e;obtain⟨b,o,rfl,e⟩:=qR e;obtain⟨m,hm,rfl⟩:=ha;obtain⟨el,ro,n,d,tr,hb,e⟩:=lg e;obtain⟨arr,iV,lo,hi',hw,h1,h2,_,h4,_⟩:=k.cells trivial hm hb;cases hlt:Nat.ble (Nat.add o y.size) n
  ·rw[hlt]at e;cases e
  ·rw[hlt]at e;rw[aD]at hlt;have hlt:o+y.size<=n:=hlt;cases e;refine⟨.agg (((List.range y.size).map λj=>arr.getD (m.sh+o+j) undef).toArray),?_,⟨_,rfl,?_⟩,rfl⟩
   ·simp only[asAddr,Sem.run_bind,Sem.run_pure,Result.andThen_ok,loadVar,zN hd,<-hag,hy,if_true,dz hi,hs];rw[eU hw (by omega)];rfl
   ·exact l7 y.size o λj h1 h2=>h4 j (by omega)
def OU (n:Nat):ResultVar->Bool
 | .tmp t=>Nat.ble (t+1) n
 | .cell a _=>Nat.ble (a+1) n
def rd1 (tmps:Array Value):ResultVar->Sem Value
 | .tmp t=>pure (tmps.getD t undef)
 | .cell a t=>do loadVar t (<-asAddr (tmps.getD a undef))
theorem MI (fn:Func) (tmps:Array Value):results fn tmps=(do let vs<-fn.results.mapM (rd1 tmps);pure (if h:vs.size=1 then vs[0]else .tuple vs)):=rfl
theorem OV (hg:jP P g) (k:WR ι h w) (hE:fU ι n en a.tmps) (r:ResultVar) (hr:OU n r=true) (hc:J4 g r en h≠.bad\/j5 g en h [r]=true):
 ∃x,(rd1 a.tmps r).run P w= .ok x w/\VR ι (J4 g r en h) x:=by
 cases r with
 |tmp t=>
  have ht:t<n:=by have hr:Nat.ble (t+1) n=true:=hr;rw[aD]at hr;exact hr
  exact⟨_,rfl,hE.at_ t ht⟩
 |cell x t=>
  have hx:x<n:=by have hr:Nat.ble (x+1) n=true:=hr;rw[aD]at hr;exact hr
  have hv:=hE.at_ x hx;cases ht:g.ty t with
  |none=>
   exfalso;rcases hc with hc|hc;·apply hc;unfold J4;dsimp only;rw[ht]
   ·have e:j5 g en h [.cell x t]=(match g.ty t with
     |some y=>(match(qd y.agg y.size).f ((gT x).f en) h with
      | .ok _ _=>true
      | .fail=>false)
     |none=>false):=rfl
    rw[e,ht]at hc;cases hc
  |some y=>
   cases hl:(qd y.agg y.size).f ((gT x).f en) h with
   |fail=>
    exfalso;rcases hc with hc|hc;·apply hc;unfold J4;dsimp only;rw[ht];dsimp only;rw[hl]
    ·have e:j5 g en h [.cell x t]=(match g.ty t with
      |some y=>(match(qd y.agg y.size).f ((gT x).f en) h with
       | .ok _ _=>true
       | .fail=>false)
      |none=>false):=rfl
     rw[e,ht]at hc;dsimp only at hc;rw[hl]at hc;cases hc
   |ok v h2=>
    obtain⟨v',h1,h2,_⟩:=QE hg k ht hv hl;refine⟨v',h1,?_⟩;have:J4 g (.cell x t) en h=v:=by unfold J4;dsimp only;rw[ht];dsimp only;rw[hl]
    rw[this];exact h2
theorem Ir {r:ResultVar} {rs:List ResultVar} (e:j5 g en h (r::rs)=true):j5 g en h [r]=true/\j5 g en h rs=true:=by
 cases r with
 |tmp t=>exact⟨rfl,e⟩
 |cell x t=>
  have e1:j5 g en h (.cell x t::rs)=(match g.ty t with
   |some y=>(match(qd y.agg y.size).f ((gT x).f en) h with
    | .ok _ _=>j5 g en h rs
    | .fail=>false)
   |none=>false):=rfl
  have e2:j5 g en h [.cell x t]=(match g.ty t with
   |some y=>(match(qd y.agg y.size).f ((gT x).f en) h with
    | .ok _ _=>true
    | .fail=>false)
   |none=>false):=rfl
  rw[e1]at e;rw[e2];cases ht:g.ty t with
  |none=>rw[ht]at e;cases e
  |some y=>
   rw[ht]at e;dsimp only at e⊢;cases hl:(qd y.agg y.size).f ((gT x).f en) h with
   |fail=>rw[hl]at e;cases e
   |ok v h2=>rw[hl]at e;exact⟨rfl,e⟩
theorem J5 (hg:jP P g) (k:WR ι h w) (hE:fU ι n en a.tmps):∀(rs:List ResultVar),rs.all (OU n)=true->j5 g en h rs=true->
 ∃xs,(rs.mapM (rd1 a.tmps)).run P w= .ok xs w/\fQ ι (TP g en h rs) xs
 |[],_,_=>⟨[],rfl,rfl⟩
 |r::rs,hr,hc=>by simp only[uX,aQ]at hr;obtain⟨hc1,hc2⟩:=Ir hc;obtain⟨x,h1,h2⟩:=OV hg k hE r hr.1 (.inr hc1);obtain⟨xs,h3,h4⟩:=J5 hg k hE rs hr.2 hc2;refine⟨x::xs,?_,x,xs,rfl,h2,h4⟩;rw[List.mapM_cons];simp only[Sem.run_bind,h1,Result.andThen_ok,h3,Sem.run_pure]
theorem TQ (hg:jP P g) (k:WR ι h w) (hE:fU ι n en a.tmps) {fn:Func} {rs:List ResultVar} (hrs:fn.results.toList=rs) (hr:rs.all (OU n)=true) {v:AV} (e:FV g rs en h= .ok v h'):
 h'=h/\∃x,(results fn a.tmps).run P w= .ok x w/\VR ι v x:=by
 have hma:∀xs:List Value,(rs.mapM (rd1 a.tmps)).run P w= .ok xs w->(fn.results.mapM (rd1 a.tmps)).run P w= .ok xs.toArray w:=λxs hx=>by rw[Array.mapM_eq_mapM_toList,hrs];simp only[Sem.run_map,hx,Result.andThen_ok]
 rw[MI];simp only[Sem.run_bind];unfold FV at e;split at e
 ·rename_i r;obtain⟨rfl,rfl,hv⟩:=pz e;simp only[uX,aQ]at hr;obtain⟨x,h1,h2⟩:=OV (a:=a) hg k hE r hr.1 (.inl hv);have h3:([r].mapM (rd1 a.tmps)).run P w= .ok [x] w:=by rw[List.mapM_cons];simp only[Sem.run_bind,h1,Result.andThen_ok,Sem.run_pure,List.mapM_nil]
  refine⟨rfl,x,?_,h2⟩;rw[hma _ h3];rfl
 ·rename_i hne;split at e
  ·rename_i hc;cases e;obtain⟨xs,h1,h2⟩:=J5 (a:=a) hg k hE _ hr hc;refine⟨rfl, .tuple xs.toArray,?_,xs.toArray,rfl,h2⟩;rw[hma _ h1];simp only[Result.andThen_ok,Sem.run_pure];have hl:xs.toArray.size≠1:=by
    have:xs.length=rs.length:=by
     have:=gq h2;rw[<-this];have:∀l:List ResultVar,llen (TP g en h l)=l.length:=λl=>by
      induction l with
      |nil=>rfl
      |cons _ _ ih=>exact fJ Nat.succ ih
     exact this rs
    rw[qZ,this];intro c;obtain⟨r,hr1⟩:=List.length_eq_one_iff.1 c;exact hne r hr1
   rw[dif_neg hl]
  ·cases e
def Bb (P:Program) (s:Sem Next) (w:World) (R:Value->World->Prop):Prop:=
 (∃v w',s.run P w= .ok (.value v) w'/\R v w')\/(∃f vs w1,s.run P w= .ok (.enter f vs) w1/\rz P f vs w1 R)
theorem Bb.ends {s:Sem Next} {R:Value->World->Prop} (e:Bb P s w R):Ends P s w R:=by
 rcases e with e|e;·exact .inl e
 ·exact .inr (.inl e)
def Rt (b:Frame) (a:Go.Act) (todo:List Item) (ds:List Deferred):Frame:={b with tmps:=a.tmps,todo,defers:=ds,mode:= .returning}
theorem Iu {fr c:Frame} {cs:List Frame} {w:World} {v:Value} {f:FuncId} (h:Lv P fr f .deferred w v) (hc:c.mode= .returning):
 step P (lone fr (c::cs) w)= .next (lone c cs w):=by
 obtain⟨hm,hd,hk,rfl,fn,hf,hr⟩:=h;exact step_lone_go (by simp[stepG,unwind,doReturn,hm,hd,hk,hf,hr,hc])
theorem J6 {todo:List Item} {f:FuncId} {zY as:Array Value} {ds:List Deferred} {R:Value->World->Prop} (e:Bb P (callFunc f (as++zY)) w R):
 ∃v w',R v w'/\Steps P (lone (Rt b a todo ({target:= .fn (.func f) zY,args:=as}::ds)) cs w) (lone (Rt b a todo ds) cs w'):=by
 have hinv:(invoke (.fn (.func f) zY) as).run P w=(callFunc f (as++zY)).run P w:=rfl;rcases e with⟨v,w',h,r⟩|⟨f0,vs,w1,h,r⟩
 ·refine⟨v,w',r, .one (step_lone_go ?_)⟩;rw[<-hinv]at h;simp[stepG,unwind,callDeferred,Rt,h]
 ·obtain⟨fr,v,w',q,hs,hl⟩:=r .deferred (Rt b a todo ds::cs) (.inr ⟨rfl,λc r e=>by cases e;rfl⟩);have henter:step P (lone (Rt b a todo ({target:= .fn (.func f) zY,args:=as}::ds)) cs w)= .next (lone (Frame.enter P f0 vs .deferred) (Rt b a todo ds::cs) w1):=
   step_lone_go (by rw[<-hinv]at h;simp[stepG,unwind,callDeferred,Rt,h])
  exact⟨v,w',q, .head henter (hs.trans (.one (Iu hl rfl)))⟩
theorem Iw {todo:List Item} {l:Nat} {args:Array Value} {ds:List Deferred} (hw:w.heap[l]? =some (.deferred (some []))):
 step P (lone (Rt b a todo ({target:= .collected l,args:=args}::ds)) cs w)= .next (lone (Rt b a todo ds) cs {w with heap:=w.heap.setIfInBounds l (.deferred none)}):=by
 have hrun:(Instr.takeDeferred l).run P w= .ok [] {w with heap:=w.heap.setIfInBounds l (.deferred none)}:=by
  have h1:(getObj l).run P w= .ok (.deferred (some [])) w:=by show Sem.run P (Sem.getObj l Sem.pure) w=_;unfold Sem.run;rw[hw];rfl
  have h2:(setObj l (.deferred none)).run P w= .ok () {w with heap:=w.heap.setIfInBounds l (.deferred none)}:=by show Sem.run P (Sem.setObj l _ (Sem.pure ())) w=_;unfold Sem.run;rw[hw];rfl
  unfold Instr.takeDeferred;simp only[Sem.run_bind,h1,Result.andThen_ok,h2,Sem.run_pure]
 exact step_lone_go (by simp[stepG,unwind,Rt,hrun])
structure CxF (P:Program) (cx:Cx):Prop where
 pU:∀t s f,cx.pU t s=some f->zK P t s=some f
 call:∀f args h v h',cx.call f args h= .ok v h'->∀ι w (vs:Array Value),WR ι h w->GI ι->fQ ι args vs.toList->Bb P (callFunc f vs) w (CR ι h w v h')
 wE:∀l args h v h',cx.wE l args h= .ok v h'->∀ι w (vs:Array Value) m,WR ι h w->GI ι->ι l=some m->fQ ι args vs.toList->Ends P (Instr.yield m.B vs) w (CR ι h w v h')
theorem CxF.ok (h:CxF P cx):Qy P cx:=⟨λf args h0 v h' e ι w vs k hG ha=>(h.call f args h0 v h' e ι w vs k hG ha).ends,h.pU,h.wE⟩
theorem DK (hc:CxF P cx) {todo:List Item}:∀(l:List Df) (ι:aV) (h:H) (w:World) (ds:List Deferred),WR ι h w->GI ι->Tx ι l ds->∀h',DL cx l h=some h'->
 ∃ι' w' W,Steps P (lone (Rt b a todo ds) cs w) (lone (Rt b a todo []) cs w')/\WR ι' h' w'/\Ext ι h w ι' h' w' W
 |[],ι,h,w,ds,k,hG,hd,h',e=>by cases e;cases hd;exact⟨ι,w,[], .refl _ _,k,Ext.refl _ _ _ k.fresh⟩
 | .call f args::r,ι,h,w,ds,k,hG,hd,h',e=>by
   obtain⟨zY,as,ds',rfl,ha,hd⟩:=hd;have e:(match cx.call f args h with
    | .ok _ h'=>DL cx r h'
    | .fail=>none)=some h':=e
   split at e;·rename_i v h1 hcall;obtain⟨v',w1,⟨ι1,W1,_,k1,e1⟩,hs⟩:=J6 (b:=b) (a:=a) (cs:=cs) (todo:=todo) (ds:=ds') (zY:=zY) (as:=as) (hc.call f args h v h1 hcall ι w (as++zY) k hG (by rw[pR];exact ha));have hle:=e1.le k.fresh;obtain⟨ι2,w2,W2,hs2,k2,e2⟩:=DK hc r ι1 h1 w1 ds' k1 (hG.mono hle) (hd.mono hle) h' e;exact⟨ι2,w2,_,hs.trans hs2,k2,e1.trans e2⟩
   ·cases e
 | .coll bl::r,ι,h,w,ds,k,hG,hd,h',e=>by
   obtain⟨m,ds',hm,rfl,hd⟩:=hd;have e:(match h.get bl with
    |some .vC=>DL cx r (h.set bl .taken)
    |_=>none)=some h':=e
   split at e;·rename_i hb;obtain⟨o,ho,hbr⟩:=k.at hm hb;have hbr:o= .deferred (some []):=hbr;subst hbr;have L:=Loc.mO k hm hb ho (x:= .taken) (o:= .deferred none) rfl;obtain⟨ι2,w2,W2,hs2,k2,e2⟩:=DK hc r ι _ _ ds' (L.wr k) hG hd h' e;exact⟨ι2,w2,_, .head (Iw ho) hs2,k2,L.toExt.trans e2⟩
   ·cases e
end
def fnOk (f:Fn):Bool:=codeOk f.nt f.body&&Nat.ble f.nt 256&&f.res.all (OU f.nt)
section
variable {P:Program} {g:G} {n:Nat} {cx:Cx} {ι:aV} {en:Env} {h h':H} {df jY:List Df} {a:Go.Act} {w:World} {b:Frame} {cs:List Frame}
theorem Iy {a b:Nat} (h:Nat.blt a b=true):a<b:=by have h:Nat.ble (a+1) b=true:=h;rw[aD]at h;exact h
def DR (P:Program) (g:G):Prop:=∀n id (ops:Array Oper),ops.toList.all (fK n ops.toList)=true->sK P n (Ci g ops.toList true) (λkk=> .code (.region id ops true)::kk)
theorem MJ (hg:jP P g) (hdr:DR P g):∀c,codeOk n c=true->sK P n (WX g c).k (λkk=> .code c::kk)/\Qz P n (WX g c).lk c:=by
 intro c;induction c with
 |skip=>intro _;exact⟨sK.pre (λ_ _ _ _ _=>OH) yJ,jZ _ (λ_=>by rw[findLabel]<;>simp)⟩
 |region id ops draw=>
  intro hc;have hc:ops.toList.all (fK n ops.toList)=true:=hc;refine⟨?_,jZ _ (λ_=>by rw[findLabel]<;>simp)⟩;cases draw;·exact MF hg hc
  ·exact hdr n id ops hc
 |seq x y XT ihy=>intro hc;have hc:(codeOk n x&&codeOk n y)=true:=hc;rw[aQ]at hc;obtain⟨hx,lx⟩:=XT hc.1;obtain⟨hy,ly⟩:=ihy hc.2;exact⟨sK.pre (s:=λkk=> .code x:: .code y::kk) (λ_ _ _ _ _=>Tq) (OO hx hy),TJ lx ly hy⟩
 |cond c x y XT ihy=>intro hc;have hc:(aC n c&&codeOk n x&&codeOk n y)=true:=hc;rw[aQ,aQ]at hc;exact⟨TF hc.1.1 (XT hc.1.2).1 (ihy hc.2).1,jZ _ (λ_=>by rw[findLabel]<;>simp)⟩
 |block i x ih=>intro hc;exact⟨QA (ih hc).1,jZ _ (λ_=>by rw[findLabel]<;>simp)⟩
 |loop x ih=>intro hc;exact⟨TH (ih hc).1,jZ _ (λ_=>by rw[findLabel]<;>simp)⟩
 |rangeFunc f ps as bo _ _=>intro hc;have hc:(aC n f&&ps.toList.all (Nat.blt · n)&&codeOk n as&&codeOk n bo)=true:=hc;rw[aQ,aQ,aQ]at hc;exact⟨QD hc.1.1.1 hc.1.1.2 hc.1.2 hc.2,jZ _ (λ_=>by rw[findLabel]<;>simp)⟩
 |exit i=>intro _;exact⟨TA i,jZ _ (λ_=>by rw[findLabel]<;>simp)⟩
 |scope x ih=>intro hc;exact⟨QB (ih hc).1 (ih hc).2,jZ _ (λ_=>by rw[findLabel]<;>simp)⟩
 |label l=>
  intro _;refine⟨sK.pre (λ_ _ _ _ _=>Tp) yJ,λl'=> ?_⟩;have e1:(WX g (.label l)).lk l'=match Nat.beq l l' with|true=>some FQ|false=>none:=rfl
  have e2:findLabel (.label l) l'=if l==l' then some .skip else none:=by rw[findLabel]
  rw[e1,e2];cases hb:Nat.beq l l'
  ·have:¬((l==l')=true):=λc=>by rw[cZ]at c;subst c;rw[qN]at hb;cases hb
   rw[aj this];exact trivial
  ·obtain rfl:=aI hb;rw[au (by simp)];exact sK.pre (λ_ _ _ _ _=>OH) yJ
 |goto l=>intro _;exact⟨TD l,jZ _ (λ_=>by rw[findLabel]<;>simp)⟩
 |ret=>intro _;exact⟨XM,jZ _ (λ_=>by rw[findLabel]<;>simp)⟩
 |refuse _=>intro _;exact⟨Tz _,jZ _ (λ_=>by rw[findLabel]<;>simp)⟩
theorem FW {j:Nat} (hj:j<256):∀(x:AV) (l:List Value),fQ ι x l->∀(k:Nat) (t:Env),k+l.length<=256->
 (gT j).f (FX x k t)=if k<=j/\j<k+l.length then Bw x (j-k)else(gT j).f t:=by
 refine iW ?_ ?_;·intro k t _;rw[aj (by simp)];rfl
 ·intro x r y ys _ _ ih k t hk;simp only[bT]at hk⊢;have e:FX (.cons x r) k t=FX r (k+1) ((pT k).f x t):=rfl;rw[e,ih (k+1) _ (by omega)];by_cases h1:j=k
  ·subst h1;rw[aj (by omega),au (by omega),uR,rD hj];rfl
  ·by_cases h2:k+1<=j/\j<k+1+ys.length
   ·rw[au h2,au (by omega)];obtain⟨i,rfl⟩:∃i,j=k+1+i:=⟨j-(k+1),by omega⟩
    rw[show k+1+i-(k+1)=i by omega,show k+1+i-k=i+1 by omega];rfl
   ·rw[aj h2,aj (by omega),tT (by omega) hj (λc=>h1 c.symm)]
theorem aa0 (hr:b.roundOf=none):step P (lone (St b a []) cs w)= .next (lone (Rt b a [] a.defers) cs w):=
 step_lone_go (by simp[stepG,stepG.exec,St,Rt,hr])
theorem aa1 (hr:b.roundOf=none) {k:List Item}:step P (lone (St b a (.code .ret::k)) cs w)= .next (lone (Rt b a (.code .ret::k) a.defers) cs w):=
 step_lone_go (by simp[stepG,stepG.exec,St,Rt,hr])
theorem J7 (hg:jP P g) (hdr:DR P g) (hc:CxF P cx) (hrd:cx.rd=none) {f:Nat} {x:Fn} (hf:g.fn f=some x) (hx:fnOk x=true) {args v:AV} {vs:Array Value}
 (k:WR ι h w) (hG:GI ι) (ha:fQ ι args vs.toList) (e:enter g cx x args h= .ok v h'):rz P f vs w (CR ι h w v h'):=by
 obtain⟨fn,hfn,hbody,hnt,hres⟩:=hg.fn f x hf;unfold fnOk at hx;rw[aQ,aQ,aD]at hx;obtain⟨⟨hco,hn⟩,hro⟩:=hx;intro kind cs hcalm;let b:Frame:={(default:Frame)with fn:=f,kind:=kind}
 let a:Go.Act:={tmps:=vs++Array.replicate (x.nt-vs.size) undef,defers:=[]}
 have henter:Frame.enter P f vs kind=St b a [.code x.body]:=by simp[Frame.enter,St,hfn,hbody,hnt,a,b];rfl
 rw[henter];unfold enter at e;dsimp only at e;have hla:=gq ha;have fits:∀r:XR,(match Nat.ble (llen args) x.nt,r with
  |true, .norm en h df=>(match DL cx df h with|some h'=>FV g x.res en h'|none=> .fail)
  |true, .ret en h df=>(match DL cx df h with|some h'=>FV g x.res en h'|none=> .fail)
  |_,_=>bB.fail)= .ok v h'->llen args<=x.nt/\∃oJ h1 rC h2,(r= .norm oJ h1 rC\/r= .ret oJ h1 rC)/\DL cx rC h1=some h2/\FV g x.res oJ h2= .ok v h':=by
  intro r e;split at e
  ·rename_i hle;rw[aD]at hle;split at e
   ·rename_i h2 hd;exact⟨hle,_,_,_,h2, .inl rfl,hd,e⟩
   ·cases e
  ·rename_i hle;rw[aD]at hle;split at e
   ·rename_i h2 hd;exact⟨hle,_,_,_,h2, .inr rfl,hd,e⟩
   ·cases e
  ·cases e
 obtain⟨hle,oJ,h1,rC,h2,hr,hdf,hout⟩:=fits _ e;have hsz:vs.size<=x.nt:=by
  have:vs.toList.length=vs.size:=by simp
  omega
 have ahg:a.tmps.size=x.nt:=by show(vs++Array.replicate (x.nt-vs.size) undef).size=x.nt;rw[pQ,Array.size_replicate];omega
 have hE:fU ι x.nt (FX args (nat_lit 0) MN) a.tmps:=by
  refine⟨ahg,hn,λi hi=> ?_,λi h1 h2=> ?_⟩;rotate_left
  ·rw[FW h2 args _ ha 0 MN (by have:vs.toList.length=vs.size:=by simp
                               omega),if_neg (by have:vs.toList.length=vs.size:=by simp
                                                 omega),Iz h2]
  rw[FW (by omega) args _ ha 0 MN (by have:vs.toList.length=vs.size:=by simp
                                      omega)]
  have hvl:vs.toList.length=vs.size:=by simp
  by_cases c:i<vs.size
  ·rw[au (by omega),mJ];have:=gu ha i;have e2:a.tmps.getD i undef=vs.toList.getD i undef:=by show(vs++Array.replicate (x.nt-vs.size) undef).getD i undef=_;rw[Dx _ _ c,gJ,aG,dN]
   rw[e2];exact this
  ·rw[aj (by omega),Iz (by omega)];exact trivial
 have p:Pre P x.nt cx ι (FX args (nat_lit 0) MN) h [] a w b cs:=⟨hc.ok,hE,rfl,k,hG, .inl ⟨hrd,rfl⟩,hcalm⟩
 have o:=(MJ hg hdr x.body hco).1 cx ι _ h [] a w b cs p [];have key:∃ι1 a1 w1 todo,Steps P (lone (St b a [.code x.body]) cs w) (lone (Rt b a1 todo a1.defers) cs w1)/\SR ι h w x.nt ι1 oJ h1 rC a1 w1:=by
  rcases hr with hr|hr;·rw[hr]at o;obtain⟨ι1,a1,w1,hs,s⟩:=o;exact⟨ι1,a1,w1,[],hs.trans (.one (aa0 rfl)),s⟩
  ·rw[hr]at o;obtain⟨ι1,a1,w1,todo,hs,s⟩:=o;exact⟨ι1,a1,w1, .code .ret::todo,hs.trans (.one (aa1 rfl)),s⟩
 obtain⟨ι1,a1,w1,todo,hs,s⟩:=key;obtain⟨W1,e1⟩:=s.ext;have hle1:=e1.le k.fresh;obtain⟨ι2,w2,W2,hs2,k2,e2⟩:=DK (b:=b) (a:=a1) (cs:=cs) hc (todo:=todo) rC ι1 h1 w1 a1.defers s.wr (hG.mono hle1) s.vC h2 hdf;obtain⟨rfl,y,hrun,hv⟩:=TQ (a:=a1) hg k2 (s.env.mono (e2.le s.wr.fresh)) hres hro hout;exact⟨Rt b a1 todo [],y,w2,⟨ι2,_,hv,k2,e1.trans e2⟩,hs.trans hs2,⟨rfl,rfl,rfl,rfl,fn,hfn,hrun⟩⟩
