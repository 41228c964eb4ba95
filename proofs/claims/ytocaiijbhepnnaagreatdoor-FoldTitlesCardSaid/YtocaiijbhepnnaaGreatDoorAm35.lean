/- The machine's soundness: rounds of a range over a function; the whole machine, where drawn regions and functions without a body are supposed. -/
import Derived.Test.YtocaiijbhepnnaaGreatDoorAm32
namespace Go.Proofs.YtocaiijbhepnnaaGreatDoor.Am
section
variable {P:Program} {g:G} {n:Nat} {cx:Cx} {ι:aV} {en:Env} {h h':H} {df jY:List Df} {a:Go.Act} {w:World} {b:Frame} {cs:List Frame}
theorem params_ok:∀(ps:List Tmp) (args:AV) (vs:List Value),fQ ι args vs->ps.length=vs.length->(ps.all (Nat.blt · n))=true->∀(en:Env) (tmps:Array Value),fU ι n en tmps->
 fU ι n (params ps args en) ((ps.zip vs).foldl (λtmps (t,a)=>tmps.setIfInBounds t a) tmps)
 |[],_,_,_,_,_,_,_,hE=>hE
 |q::ps,args,vs,ha,hl,hp,en,tmps,hE=>by
  cases vs with
  |nil=>cases hl
  |cons v vs=>
   have hl:ps.length=vs.length:=by simpa using hl
   simp only[uX,aQ]at hp;have h0:=gu ha 0;have h1:=Dc ha 1;have e:params (q::ps) args en=params ps (FE args (nat_lit 1)) ((pT q).f (Bw args (nat_lit 0)) en):=rfl;rw[e,List.zip_cons_cons,pE];exact params_ok ps _ vs h1 hl hp.2 _ _ (hE.put (Iy hp.1) h0)
theorem Bc {l:Nat} {r r':Loop} (hw:w.heap[l]? =some (.loop r)):(setObj l (.loop r')).run P w= .ok () {w with heap:=w.heap.setIfInBounds l (.loop r')}:=by show Sem.run P (Sem.setObj l _ (Sem.pure ())) w=_;unfold Sem.run;rw[hw];rfl
theorem TR {l:Nat} {r:Loop} (hw:w.heap[l]? =some (.loop r)) (hr:r.state= .ready) (hro:b.roundOf=some l) {k:List Item}:
 step P (lone (St b a (.beginRound::k)) cs w)= .next (lone (St b a k) cs {w with heap:=w.heap.setIfInBounds l (.loop {r with state:= .busy})}):=by
 have hrun:(Instr.beginRound l).run P w= .ok () {w with heap:=w.heap.setIfInBounds l (.loop {r with state:= .busy})}:=by unfold Instr.beginRound;simp only[Sem.run_bind,run_getLoop hw,Result.andThen_ok,Bc hw,hr,Sem.run_pure]
 exact step_lone_go (by simp[stepG,stepG.exec,stepG.apply,St,hro,hrun,Frame.finish])
theorem run_endRound {l:Nat} {r:Loop} (hw:w.heap[l]? =some (.loop r)) (jump:Option Code):
 (Instr.endRound l jump).run P w= .ok (.bool jump.isNone) {w with heap:=w.heap.setIfInBounds l (.loop {r with state:=if jump.isNone then .ready else .done,pending:=jump})}:=by
 unfold Instr.endRound;simp only[Sem.run_bind,run_getLoop hw,Result.andThen_ok,Bc hw,Sem.run_pure]
def J8:Option Code->List Item->Prop
 |none,k=>k=[]
 |some .ret,k=>∃t,k= .code .ret::t
 |some (.exit i),k=>∃t,k= .code (.exit i)::t/\exitTo i t=none
 |some (.goto l),k=>∃t,k= .code (.goto l)::t/\gotoIn l t=none
 |_,_=>False
theorem J9 {l:Nat} {r:Loop} (hw:w.heap[l]? =some (.loop r)) (hro:b.roundOf=some l) (hk:b.kind= .normal) {c:Frame} {jump:Option Code} {k:List Item} (ho:J8 jump k):
 step P (lone (St b a k) (c::cs) w)= .next (lone (c.finish (.bool jump.isNone)) cs {w with heap:=w.heap.setIfInBounds l (.loop {r with state:=if jump.isNone then .ready else .done,pending:=jump})}):=by
 have hrun:=run_endRound (P:=P) hw jump;refine step_lone_go ?_;cases jump with
 |none=>have ho:k=[]:=ho;subst ho;simp[stepG,stepG.exec,St,hro,hrun,doReturn,hk]
 |some j=>
  cases j with
  |ret=>obtain⟨t,rfl⟩:=ho;simp[stepG,stepG.exec,St,hro,hrun,doReturn,hk]
  |exit i=>obtain⟨t,rfl,ht⟩:=ho;simp[stepG,stepG.exec,St,hro,hrun,doReturn,hk,ht]
  |goto l'=>obtain⟨t,rfl,ht⟩:=ho;simp[stepG,stepG.exec,St,hro,hrun,doReturn,hk,ht]
  |_=>exact ho.elim
noncomputable def finR (l:Nat) (jump:Option Code) (st:LoopState) (b:Bool) (h2:H):bB:=
 match h2.get l with
 |some (.loop _ _ fn2 aa2 ps2 as2 bo2 dd2)=> .ok (.bool b) (h2.set l (.loop st jump fn2 aa2 ps2 as2 bo2 dd2))
 |_=> .fail
noncomputable def adG (l:Nat):XR->bB
 | .norm _ h2 _=>finR l none .ready true h2
 | .ret _ h2 _=>finR l (some .ret) .done false h2
 | .ext i _ h2 _=>finR l (some (.exit i)) .done false h2
 | .got l' _ h2 _=>finR l (some (.goto l')) .done false h2
 | .fail=> .fail
theorem QF {l:Nat} {args v:AV} (e:begun g cx l args h= .ok v h'):∃st0 pd0 fn0 env ps as bo dd0 oJ h1 pend fn env' ps' as' Jv dd,
 h.get l=some (.loop st0 pd0 fn0 env ps as bo dd0)/\llen args=ps.length/\(WX g as).k.k {cx with rd:=some l} (params ps args env) h []= .norm oJ h1 []/\
 h1.get l=some (.loop .ready pend fn env' ps' as' Jv dd)/\adG l ((WX g bo).k.k {cx with rd:=some l} oJ (h1.set l (.loop .busy pend fn env' ps' as' Jv dd)) [])= .ok v h':=by
 unfold begun at e;split at e
 ·rename_i st0 pd0 fn0 env ps as bo dd0 hl;split at e
  ·rename_i hlen;split at e
   ·rename_i oJ h1 hk;split at e
    ·rename_i pend fn env' ps' as' Jv dd hl1;refine⟨st0,pd0,fn0,env,ps,as,bo,dd0,oJ,h1,pend,fn,env',ps',as',Jv,dd,hl,aI hlen,hk,hl1,?_⟩;rw[<-e];generalize(WX g bo).k.k {cx with rd:=some l} oJ (h1.set l (.loop .busy pend fn env' ps' as' Jv dd)) []=r;cases r<;>rfl
    ·cases e
   ·cases e
  ·cases e
 ·cases e
theorem fin_ok {h3:H} {en3:Env} {df3:List Df} {ι3:aV} {a3:Go.Act} {w3:World} {l:Nat} {m:Nm} (k0:WR ι h w) (hm:ι l=some m) (s3:SR ι h w n ι3 en3 h3 df3 a3 w3) {jump:Option Code} {st:LoopState} {bb:Bool} {v:AV} {c:Frame} {k:List Item}
 (e:finR l jump st bb h3= .ok v h') (hst:st=if jump.isNone then .ready else .done) (hbb:bb=jump.isNone) (ho:J8 jump k) (hro:b.roundOf=some m.B:=by rfl) (hk:b.kind= .normal:=by rfl):
 ∃v' w',CR ι h w v h' v' w'/\Steps P (lone (St b a3 k) (c::cs) w3) (lone (c.finish v') cs w'):=by
 unfold finR at e;split at e
 ·rename_i st3 pd3 fn3 ahk ps3 as3 bo3 dd3 hl3;cases e;have hm3:=s3.le k0 _ _ hm;obtain⟨o3,ho3,ahl⟩:=s3.wr.at hm3 hl3;obtain⟨r3,n3,md3,rfl,d1,d2,d3,d4,d5,d6,d7,d8,d9⟩:=ahl;have L:=Loc.mO s3.wr hm3 hl3 ho3 (x:= .loop st jump fn3 ahk ps3 as3 bo3 dd3) (o:= .loop {r3 with state:=if jump.isNone then .ready else .done,pending:=jump})
   ⟨{r3 with state:=if jump.isNone then .ready else .done,pending:=jump},n3,md3,rfl,hst.symm,rfl,d3,d4,d5,d6,d7,d8,d9⟩
  obtain⟨W3,e3⟩:=s3.ext;refine⟨.bool jump.isNone,_,⟨ι3,_,by rw[hbb];rfl,L.wr s3.wr,e3.trans L.toExt⟩, .one (J9 ho3 hro hk ho)⟩
 ·cases e
theorem TT (hg:jP P g) (hdr:DR P g) (hc:CxF P cx) {l:Nat} {args v:AV} {vs:Array Value} {m:Nm} (k:WR ι h w) (hG:GI ι) (hm:ι l=some m) (ha:fQ ι args vs.toList)
 (e:begun g cx l args h= .ok v h'):Ends P (Instr.yield m.B vs) w (CR ι h w v h'):=by
 obtain⟨st0,pd0,fn0,env,ps,as,bo,dd0,oJ,h1,pend,fn,env',ps',as',Jv,dd,hl,hlen,hk,hl1,hfin⟩:=QF e;obtain⟨o,ho,hbr⟩:=k.at hm hl;obtain⟨r,n,md,rfl,b1,b2,b3,b4,b5,b6,b7,b8,has,hbo,hps⟩:=hbr;have hla:=gq ha;have hsz:vs.size=r.params.size:=by rw[<-jE,<-jE,b4,<-hlen,hla]
 refine .inr (.inr ⟨m.B,r.fn,(r.params.zip vs).foldl (λtmps (t,a)=>tmps.setIfInBounds t a) r.tmps,r.assign,r.body,w,?_,?_⟩);·unfold Instr.yield;simp only[Sem.run_bind,run_getLoop ho,Result.andThen_ok];rw[if_neg (by simp[hsz])];rfl
 intro c cs;rw[b5,b6];let b:Frame:={(default:Frame)with fn:=r.fn,kind:= .normal,roundOf:=some m.B}
 let a:Go.Act:={tmps:=(r.params.zip vs).foldl (λtmps (t,a)=>tmps.setIfInBounds t a) r.tmps,defers:=[]}
 have aa3:Frame.round m.B r.fn ((r.params.zip vs).foldl (λtmps (t,a)=>tmps.setIfInBounds t a) r.tmps) as bo .normal=St b a [.code as, .beginRound, .code bo]:=rfl;rw[aa3];have hE:fU ι n (params ps args env) a.tmps:=by
  have:=params_ok (n:=n) ps args vs.toList ha (by rw[<-hlen,hla]) hps env r.tmps b3;have hz:(r.params.zip vs).foldl (λtmps (t,a)=>tmps.setIfInBounds t a) r.tmps=(ps.zip vs.toList).foldl (λtmps (t,a)=>tmps.setIfInBounds t a) r.tmps:=by rw[<-Array.foldl_toList,Array.toList_zip,b4]
  show fU ι n _ ((r.params.zip vs).foldl (λtmps (t,a)=>tmps.setIfInBounds t a) r.tmps);rw[hz];exact this
 have hcx:CxF P {cx with rd:=some l}:=⟨hc.pU,hc.call,hc.wE⟩
 have p:Pre P n {cx with rd:=some l} ι (params ps args env) h [] a w b (c::cs):=⟨hcx.ok,hE,rfl,k,hG, .inr ⟨l,m,rfl,hm,rfl⟩, .inl rfl⟩
 have o1:=(MJ (n:=n) hg hdr as has).1 {cx with rd:=some l} ι _ h [] a w b (c::cs) p [.beginRound, .code bo];rw[hk]at o1;obtain⟨ι1,a1,w1,hs1,s1⟩:=o1;have hle1:=s1.le k;have hm1:=hle1 _ _ hm;obtain⟨o2,ho2,ahm⟩:=s1.wr.at hm1 hl1;obtain⟨r2,n2,md2,rfl,c1,c2,c3,c4,c5,c6,c7,c8,c9⟩:=ahm;have L2:=Loc.mO s1.wr hm1 hl1 ho2 (x:= .loop .busy pend fn env' ps' as' Jv dd) (o:= .loop {r2 with state:= .busy}) ⟨{r2 with state:= .busy},n2,md2,rfl,rfl,c2,c3,c4,c5,c6,c7,c8,c9⟩;have k2:=L2.wr s1.wr;have hs2:=TR (P:=P) (b:=b) (a:=a1) (cs:=c::cs) ho2 c1 rfl (k:=[.code bo]);have hd1:a1.defers=[]:=s1.vC;have s2:SR ι h w n ι1 oJ (h1.set l (.loop .busy pend fn env' ps' as' Jv dd)) [] a1 {w1 with heap:=w1.heap.setIfInBounds m.B (.loop {r2 with state:= .busy})}:=by obtain⟨W1,e1⟩:=s1.ext;exact⟨s1.env,s1.vC,k2,_,e1.trans L2.toExt⟩
 have p2:Pre P n {cx with rd:=some l} ι1 oJ (h1.set l (.loop .busy pend fn env' ps' as' Jv dd)) [] a1 {w1 with heap:=w1.heap.setIfInBounds m.B (.loop {r2 with state:= .busy})} b (c::cs):=p.next s2;have o3:=(MJ (n:=n) hg hdr bo hbo).1 {cx with rd:=some l} ι1 oJ _ [] a1 _ b (c::cs) p2 [];have hpre:=hs1.trans (.one hs2);generalize(WX g bo).k.k {cx with rd:=some l} oJ (h1.set l (.loop .busy pend fn env' ps' as' Jv dd)) []=rr at o3 hfin;cases rr with
 |fail=>cases hfin
 |norm en3 h3 df3=>obtain⟨ι3,a3,w3,hs3,s3⟩:=o3;obtain⟨v',w',hcr,hs4⟩:=fin_ok (P:=P) (b:=b) (c:=c) (cs:=cs) (jump:=none) (k:=[]) k hm (s2.trans s3) hfin rfl rfl rfl;exact⟨v',w',hcr,hpre.trans (hs3.trans hs4)⟩
 |ret en3 h3 df3=>obtain⟨ι3,a3,w3,todo,hs3,s3⟩:=o3;obtain⟨v',w',hcr,hs4⟩:=fin_ok (P:=P) (b:=b) (c:=c) (cs:=cs) (jump:=some .ret) (k:= .code .ret::todo) k hm (s2.trans s3) hfin rfl rfl ⟨todo,rfl⟩;exact⟨v',w',hcr,hpre.trans (hs3.trans hs4)⟩
 |ext i en3 h3 df3=>obtain⟨ι3,a3,w3,todo,ht,hs3,s3⟩:=o3;obtain⟨v',w',hcr,hs4⟩:=fin_ok (P:=P) (b:=b) (c:=c) (cs:=cs) (jump:=some (.exit i)) (k:= .code (.exit i)::todo) k hm (s2.trans s3) hfin rfl rfl ⟨todo,rfl,ht⟩;exact⟨v',w',hcr,hpre.trans (hs3.trans hs4)⟩
 |got l' en3 h3 df3=>obtain⟨ι3,a3,w3,todo,ht,hs3,s3⟩:=o3;obtain⟨v',w',hcr,hs4⟩:=fin_ok (P:=P) (b:=b) (c:=c) (cs:=cs) (jump:=some (.goto l')) (k:= .code (.goto l')::todo) k hm (s2.trans s3) hfin rfl rfl ⟨todo,rfl,ht⟩;exact⟨v',w',hcr,hpre.trans (hs3.trans hs4)⟩
def OX (P:Program) (g:G):Prop:=∀f x,g.fn f=some x->fnOk x=true/\∀fn,P.funcs[f]? =some fn->(fn.name== "runtime.NumGoroutine")=false
def qw (P:Program) (g:G):Prop:=∀f args h v h',g.fn f=none->TU (g.ext f) args h= .ok v h'->∀ι w (vs:Array Value),WR ι h w->GI ι->fQ ι args vs.toList->
 Bb P (callFunc f vs) w (CR ι h w v h')
def gM (P:Program) (g:G):Prop:=∀f args h v h',g.iK f args h=some (.ok v h')->∀ι w (vs:Array Value),WR ι h w->GI ι->fQ ι args vs.toList->
 Bb P (callFunc f vs) w (CR ι h w v h')
theorem wZ {f:Nat} {x:Fn} (hg:jP P g) (hfn:OX P g) (hf:g.fn f=some x) (vs:Array Value) (w:World):(callFunc f vs).run P w= .ok (.enter f vs) w:=by obtain⟨hx,hname⟩:=hfn f x hf;obtain⟨fn,hfn',hbody,_,_⟩:=hg.fn f x hf;have hn:=hname fn hfn';unfold callFunc;simp only[Sem.run_bind,run_program,Result.andThen_ok,hfn',hn,aZ,jq,hbody,Option.isNone_some];rfl
theorem TV (hg:jP P g) (hdr:DR P g) (hfn:OX P g) (hext:qw P g) (sU:gM P g):∀N m rd,CxF P ⟨(run g N).call,(run g N).wE,m,rd,g.pU⟩
 |0,_,_=>⟨hg.pU,λ_ _ _ _ _ e=>(by cases e),λ_ _ _ _ _ e=>(by cases e)⟩
 |N+1,m,rd=>by
  have ih:=TV hg hdr hfn hext sU N N none;refine⟨hg.pU,λf args h v h' e ι w vs k hG ha=> ?_,λl args h v h' e ι w vs m k hG hm ha=> ?_⟩
  ·have e:(match g.iK f args h with
    |some r=>r
    |none=>(match g.fn f with
     |some fn=>enter g ⟨(run g N).call,(run g N).wE,N,none,g.pU⟩ fn args h
     |none=>TU (g.ext f) args h))= .ok v h':=e
   cases ho:g.iK f args h with
   |some r=>rw[ho]at e;have e:r= .ok v h':=e;subst e;exact sU f args h v h' ho ι w vs k hG ha
   |none=>
    rw[ho]at e;dsimp only at e;cases hf:g.fn f with
    |none=>rw[hf]at e;exact hext f args h v h' hf e ι w vs k hG ha
    |some x=>rw[hf]at e;exact .inr ⟨f,vs,w,wZ hg hfn hf vs w,J7 hg hdr ih rfl hf (hfn f x hf).1 k hG ha e⟩
  ·exact TT hg hdr ih k hG hm ha e
end
section
variable {g:G} {en en':Env} {hh:H}
theorem dW {t:Nat} {k k':Ty->Act} (h:∀y,(k' y).f en' hh=(k y).f en hh):(Il g t k').f en' hh=(Il g t k).f en hh:=by
 unfold Il;cases g.ty t with
 |none=>rfl
 |some y=>exact h y
theorem FY {b:Bool} {a a':Act} (h:a'.f en' hh=a.f en hh):(onB b a').f en' hh=(onB b a).f en hh:=by
 cases b;·rfl
 ·exact h
theorem tV {t:Nat} {k k':Nat->Option Nat->Ty->Act} (h:∀e arr y,(k' e arr y).f en' hh=(k e arr y).f en hh):(AZ g t k').f en' hh=(AZ g t k).f en hh:=by
 unfold AZ;split;·exact dW λy=>h _ _ y
 ·exact dW λy=>h _ _ y
 ·rfl
theorem wM {t:Nat} {k k':Ty->Act} (h:∀y,(k' y).f en' hh=(k y).f en hh):(mapElem g t k').f en' hh=(mapElem g t k).f en hh:=by
 unfold mapElem;split;·exact dW h
 ·rfl
theorem fieldT_congr {s f:Nat} {k k':Field->Ty->Act} (h:∀fd y,(k' fd y).f en' hh=(k fd y).f en hh):(fieldT g s f k').f en' hh=(fieldT g s f k).f en hh:=by
 unfold fieldT;split
 ·split
  ·exact dW λy=>h _ y
  ·rfl
 ·rfl
theorem fillA_congr {pl:Nat->Option (Nat×Nat)}:∀(ps:List (Nat×Operand)),(∀p∈ps,(ev p.2).f en'=(ev p.2).f en)->∀cs,fillA pl en' ps cs=fillA pl en ps cs
 |[],_,_=>rfl
 |p::r,h,cs=>by
  have ih:=fillA_congr (pl:=pl) r (λq hq=>h q (by simp[hq]));have hp:=h p (by simp);have e:∀en,fillA pl en (p::r) cs=(match pl p.1 with
   |some (off,size)=>match Nat.beq (llen (cellsOf ((ev p.2).f en))) size,Nat.ble (Nat.add off size) (llen cs),Bz (Nat.beq size (nat_lit 0))with
    |true,true,true=>fillA pl en r (qh cs off (cellsOf ((ev p.2).f en)))
    |_,_,_=> .bad
   |none=> .bad):=λ_=>rfl
  rw[e en',e en,hp];cases pl p.1 with
  |none=>rfl
  |some os=>
   dsimp only;split;·exact ih _
   ·rfl
theorem nK:∀(l:List Operand),(∀x∈l,(ev x).f en'=(ev x).f en)->(opsL l).f en'=(opsL l).f en
 |[],_=>rfl
 |o::r,h=>by show AV.cons ((ev o).f en') ((opsL r).f en')=AV.cons ((ev o).f en) ((opsL r).f en);rw[h o (by simp),nK r (λx hx=>h x (by simp[hx]))]
theorem DU:∀(l:List Operand),(∀x∈l,(ev x).f en'=(ev x).f en)->blks l en'=blks l en
 |[],_=>rfl
 |o::r,h=>by rw[iA,iA,h o (by simp),DU r (λx hx=>h x (by simp[hx]))]
theorem fM {x:Option Operand} {d:Nat} {k k':Nat->bB} (hx:∀o,x=some o->(ev o).f en'=(ev o).f en) (h:∀n,k' n=k n):qj en' x d k'=qj en x d k:=by
 have:k'=k:=funext h;subst this;cases x with
 |none=>rfl
 |some o=>show Dl .fail k' ((ev o).f en')=Dl .fail k' ((ev o).f en);rw[hx o rfl]
theorem IB {es:Nat} {x:Operand} {lo hi mx:Option Operand} (hx:(ev x).f en'=(ev x).f en) (hlo:∀o,lo=some o->(ev o).f en'=(ev o).f en) (hhi:∀o,hi=some o->(ev o).f en'=(ev o).f en)
 (hmx:∀o,mx=some o->(ev o).f en'=(ev o).f en):(Dm es (ev x) lo hi mx).f en' hh=(Dm es (ev x) lo hi mx).f en hh:=by
 unfold Dm;dsimp only;rw[hx];split;·exact fM hmx λ_=>fM hhi λ_=>fM hlo λ_=>rfl
 ·exact fM hmx λ_=>fM hhi λ_=>fM hlo λ_=>rfl
 ·rfl
theorem DV {x:Operand} {lo hi:Option Operand} (hx:(ev x).f en'=(ev x).f en) (hlo:∀o,lo=some o->(ev o).f en'=(ev o).f en) (hhi:∀o,hi=some o->(ev o).f en'=(ev o).f en):
 (ql (ev x) lo hi).f en' hh=(ql (ev x) lo hi).f en hh:=by
 unfold ql;dsimp only;rw[hx];split;·exact fM hhi λ_=>fM hlo λ_=>rfl
 ·rfl
theorem DW {es n:Nat} {x:Operand} {lo hi mx:Option Operand} (hx:(ev x).f en'=(ev x).f en) (hlo:∀o,lo=some o->(ev o).f en'=(ev o).f en) (hhi:∀o,hi=some o->(ev o).f en'=(ev o).f en):
 (nA es n (ev x) lo hi mx).f en' hh=(nA es n (ev x) lo hi mx).f en hh:=by
 unfold nA;dsimp only;rw[hx];split
 ·split
  ·rfl
  ·unfold AU;congr 1;funext _ _ _ _ _;exact fM hhi λ_=>fM hlo λ_=>rfl
 ·rfl
theorem QG (o:Op) (h:∀x∈o.operands.toList,(ev x).f en'=(ev x).f en):(Fx g o).f en' hh=(Fx g o).f en hh:=by
 cases o with
 |move x=>show He ((ev x).f en') hh=He ((ev x).f en) hh;rw[h x (by simp[Op.operands])]
 |assign x=>show He ((ev x).f en') hh=He ((ev x).f en) hh;rw[h x (by simp[Op.operands])]
 |pick c a b=>show OB.rec (motive:=λ_=>bB) .fail (sQ ((ev b).f en') hh) (sQ ((ev a).f en') hh) (toB ((ev c).f en'))=OB.rec (motive:=λ_=>bB) .fail (sQ ((ev b).f en) hh) (sQ ((ev a).f en) hh) (toB ((ev c).f en));rw[h c (by simp[Op.operands]),h a (by simp[Op.operands]),h b (by simp[Op.operands])]
 |alloc t=>exact dW λy=>by split<;>rfl
 |box t x=>show row t (cellsOf ((ev x).f en')) hh _=row t (cellsOf ((ev x).f en)) hh _;rw[h x (by simp[Op.operands])]
 |build t ps=>refine dW λy=>FY ?_;show yx (fillA _ en' ps.toList y.zero) hh=yx (fillA _ en ps.toList y.zero) hh;rw[fillA_congr ps.toList (λp hp=>h p.2 (by simp[Op.operands];exact⟨p.1,by simpa using hp⟩))]
 |buildSlice t n ps=>
  refine tV λe arr y=> ?_;have hp:=fillA_congr (en:=en) (en':=en') (pl:=λi=>some (Nat.mul i y.size,y.size)) ps.toList (λp hp=>h p.2 (by simp[Op.operands];exact⟨p.1,by simpa using hp⟩));cases arr with
  |none=>dsimp only;rw[hp]
  |some _=>rfl
 |load t x=>refine dW λy=> ?_;show(qd y.agg y.size).f ((ev x).f en') hh=(qd y.agg y.size).f ((ev x).f en) hh;rw[h x (by simp[Op.operands])]
 |store t x v=>refine dW λy=> ?_;show(Dj y.agg y.size).f ((ev x).f en') ((ev v).f en') hh=(Dj y.agg y.size).f ((ev x).f en) ((ev v).f en) hh;rw[h x (by simp[Op.operands]),h v (by simp[Op.operands])]
 |nilCheck x=>show sQ (nC g ((ev x).f en')) hh=sQ (nC g ((ev x).f en)) hh;rw[h x (by simp[Op.operands])]
 |binOp op t x y ty=>show sQ ((Sy op _ _).f ((ev x).f en') ((ev y).f en')) hh=sQ ((Sy op _ _).f ((ev x).f en) ((ev y).f en)) hh;rw[h x (by simp[Op.operands]),h y (by simp[Op.operands])]
 |unOp op t x=>show sQ ((uop op).f ((ev x).f en')) hh=sQ ((uop op).f ((ev x).f en)) hh;rw[h x (by simp[Op.operands])]
 |convert s d x=>refine dW λys=>dW λyd=> ?_;show JN g _ _ _ ((ev x).f en') hh=JN g _ _ _ ((ev x).f en) hh;rw[h x (by simp[Op.operands])]
 |makeInterface t x=>
  refine dW λy=> ?_;have hx:=h x (by simp[Op.operands]);split;·rfl
  ·dsimp only;rw[hx]
 |makeFunc fn fs cs=>
  cases fn with
  |func f=>show bB.ok (.fn f ((opsL fs.toList).f en') ((opsL cs.toList).f en')) hh=bB.ok (.fn f ((opsL fs.toList).f en) ((opsL cs.toList).f en)) hh;rw[nK fs.toList (λx hx=>h x (by simp[Op.operands];left;simpa using hx)),nK cs.toList (λx hx=>h x (by simp[Op.operands];right;simpa using hx))]
  |method nm=>
   obtain⟨fs⟩:=fs;obtain⟨cs⟩:=cs;rcases fs with _|⟨o1,_|⟨o2,fs⟩⟩
   ·rfl
   ·rcases cs with _|⟨o3,cs⟩
    ·have hx:=h o1 (by simp[Op.operands]);show(match(ev o1).f en' with
      | .sH t x=>bB.ok (.fn (nat_lit 0) (.sH t x) (.str (Str.of nm.toUTF8))) hh
      |_=> .fail)=(match(ev o1).f en with
      | .sH t x=>bB.ok (.fn (nat_lit 0) (.sH t x) (.str (Str.of nm.toUTF8))) hh
      |_=> .fail)
     rw[hx]
    ·rfl
   ·rfl
  |_=>rfl
 |makeMap t r=>
  cases r with
  |none=>rfl
  |some x=>have hx:=h x (by simp[Op.operands]);unfold Fx;dsimp only;rw[hx]
 |makeSlice t l c=>
  refine tV λe arr y=> ?_;have hl:=h l (by simp[Op.operands]);have hc:=h c (by simp[Op.operands]);cases arr with
  |none=>dsimp only;rw[hl,hc]
  |some _=>rfl
 |slice t x lo hi mx=>
  have hx:=h x (by simp[Op.operands]);have hlo:∀o,lo=some o->(ev o).f en'=(ev o).f en:=λo e=>h o (by subst e;simp[Op.operands]);have hhi:∀o,hi=some o->(ev o).f en'=(ev o).f en:=λo e=>h o (by subst e;simp[Op.operands]);have hmx:∀o,mx=some o->(ev o).f en'=(ev o).f en:=λo e=>h o (by subst e;simp[Op.operands]);unfold Fx;dsimp only;split;·exact dW λy=>FY (IB hx hlo hhi hmx)
  ·split
   ·exact DV hx hlo hhi
   ·rfl
  ·exact dW λy=>DW hx hlo hhi
  ·rfl
 |fieldAddr s x f=>
  have hx:=h x (by simp[Op.operands]);refine fieldT_congr λfd y=> ?_;split;·show L9 (fieldA fd.offset) ((ev x).f en') hh=L9 (fieldA fd.offset) ((ev x).f en) hh;rw[hx]
  ·rfl
 |field s x f=>have hx:=h x (by simp[Op.operands]);refine fieldT_congr λfd y=> ?_;dsimp only;rw[hx]
 |indexAddr t x i=>
  have hx:=h x (by simp[Op.operands]);have hi:=h i (by simp[Op.operands]);refine tV λe arr y=> ?_;cases arr with
  |none=>show SQ _ ((ev x).f en') ((ev i).f en') hh=SQ _ ((ev x).f en) ((ev i).f en) hh;rw[hx,hi]
  |some n=>show SS _ _ ((ev x).f en') ((ev i).f en') hh=SS _ _ ((ev x).f en) ((ev i).f en) hh;rw[hx,hi]
 |index t x i=>
  have hx:=h x (by simp[Op.operands]);have hi:=h i (by simp[Op.operands]);unfold Fx;dsimp only;split;·show Dk ((ev x).f en') ((ev i).f en') hh=Dk ((ev x).f en) ((ev i).f en) hh;rw[hx,hi]
  ·refine dW λy=> ?_;dsimp only;rw[hx,hi]
  ·rfl
 |lookup t x i ok=>have hx:=h x (by simp[Op.operands]);have hi:=h i (by simp[Op.operands]);refine wM λy=> ?_;dsimp only;rw[hx,hi]
 |mapUpdate t m k x=>have hx:=h x (by simp[Op.operands]);have hm:=h m (by simp[Op.operands]);have hk:=h k (by simp[Op.operands]);unfold Fx;dsimp only;rw[hx,hm,hk]
 |insert t m k x=>have hx:=h x (by simp[Op.operands]);have hm:=h m (by simp[Op.operands]);have hk:=h k (by simp[Op.operands]);unfold Fx;dsimp only;rw[hx,hm,hk]
 |mapEntry t m k=>have hm:=h m (by simp[Op.operands]);have hk:=h k (by simp[Op.operands]);refine wM λy=> ?_;dsimp only;rw[hm,hk]
 |entryStore t m s x=>have hx:=h x (by simp[Op.operands]);have hm:=h m (by simp[Op.operands]);have hs:=h s (by simp[Op.operands]);unfold Fx;dsimp only;rw[hx,hm,hs]
 |range t x=>
  have hx:=h x (by simp[Op.operands]);unfold Fx;dsimp only;split;·dsimp only;rw[hx]
  ·rfl
 |next it s=>
  have hx:=h it (by simp[Op.operands]);cases s;·rfl
  ·show JK ((ev it).f en') hh=JK ((ev it).f en) hh;rw[hx]
 |extract x i=>show sQ (tJ ((ev x).f en') i) hh=sQ (tJ ((ev x).f en) i) hh;rw[h x (by simp[Op.operands])]
 |call c=>
  have hc:∀x∈c.args.toList,(ev x).f en'=(ev x).f en:=λx hx=>h x (by
   show x∈(c.operands).toList;unfold Call.operands;rw[pR];exact iM _ hx)
  unfold Fx;dsimp only;cases c.callee with
  |builtin b=>
   dsimp only;split
   ·rename_i t ts x hts hx;rw[hx]at hc;have hxx:=hc x (by simp);split
    ·rfl
    ·rfl
    ·rename_i y _ _ _;show Td y.desc ((ev x).f en') hh=Td y.desc ((ev x).f en) hh;rw[hxx]
    ·rfl
   ·dsimp only;rw[nK _ hc]
  |_=>rfl
 |_=>rfl
theorem QH (o:Op) (h:∀x∈o.operands.toList,(ev x).f en'=(ev x).f en) {f:Env->List Nat} (hf:sJ o=some f):f en'=f en:=by
 cases o with
 |load t x=>cases hf;show aM ((ev x).f en')=aM ((ev x).f en);rw[h x (by simp[Op.operands])]
 |store t x v=>cases hf;show aM ((ev x).f en')=aM ((ev x).f en);rw[h x (by simp[Op.operands])]
 |lookup t x i ok=>cases hf;show aM ((ev x).f en')=aM ((ev x).f en);rw[h x (by simp[Op.operands])]
 |mapUpdate t x i v=>cases hf;show aM ((ev x).f en')=aM ((ev x).f en);rw[h x (by simp[Op.operands])]
 |insert t x i v=>cases hf;show aM ((ev x).f en')=aM ((ev x).f en);rw[h x (by simp[Op.operands])]
 |mapEntry t x i=>cases hf;show aM ((ev x).f en')=aM ((ev x).f en);rw[h x (by simp[Op.operands])]
 |entryStore t x i v=>cases hf;show aM ((ev x).f en')=aM ((ev x).f en);rw[h x (by simp[Op.operands])]
 |next x s=>cases hf;show aM ((ev x).f en')=aM ((ev x).f en);rw[h x (by simp[Op.operands])]
 |convert s d x=>cases hf;show aM ((ev x).f en')=aM ((ev x).f en);rw[h x (by simp[Op.operands])]
 |slice t x lo hi mx=>cases hf;show aM ((ev x).f en')=aM ((ev x).f en);rw[h x (by simp[Op.operands])]
 |call c=>
  have hc:∀x∈c.args.toList,(ev x).f en'=(ev x).f en:=λx hx=>h x (by
   show x∈(c.operands).toList;unfold Call.operands;rw[pR];exact iM _ hx)
  unfold sJ at hf;dsimp only at hf;cases hcc:c.callee with
  |builtin b=>rw[hcc]at hf;cases hf;exact DU _ hc
  |_=>rw[hcc]at hf;cases hf
 |defer c=>cases hf
 |_=>cases hf;rfl
end
theorem TW {ι ι1:aV} {a:AV} {l:List Value} {y:Value} (h1:(R ι1 a).2 l) (h2:(R ι a).1 y):False:=by cases a<;>first|exact h1.elim|exact h2.elim
theorem adJ {ι ι1 ι2:aV} (hh:∀b m,ι1 b=some m->ι2 b=ι b) (a:AV):
 (∀v v',(R ι1 a).1 v'->(R ι a).1 v->(R ι2 a).1 v)/\(∀l l',(R ι1 a).2 l'->(R ι a).2 l->(R ι2 a).2 l):=by
 induction a with
 |ptr b off=>exact⟨λ_ _ ⟨m1,h1,_⟩ ⟨m,h,e⟩=>⟨m,by rw[hh b m1 h1];exact h,e⟩,λ_ _ _ h=>h⟩
 |slice b off len es z=>exact⟨λ_ _ ⟨m1,_,_,h1,_⟩ ⟨m,y,cap,h,r⟩=>⟨m,y,cap,by rw[hh b m1 h1];exact h,r⟩,λ_ _ _ h=>h⟩
 |map b=>exact⟨λ_ _ ⟨m1,h1,_⟩ ⟨m,h,e⟩=>⟨m,by rw[hh b m1 h1];exact h,e⟩,λ_ _ _ h=>h⟩
 |wE b=>exact⟨λ_ _ ⟨m1,h1,_⟩ ⟨m,h,e⟩=>⟨m,by rw[hh b m1 h1];exact h,e⟩,λ_ _ _ h=>h⟩
 |fn f a c iha ihc=>
  refine⟨λv v' h1 h2=> ?_,λ_ _ _ h=>h⟩;rcases h1 with⟨xs',ys',_,h',k'⟩|⟨y',nm',_,h',k'⟩<;>rcases h2 with⟨xs,ys,e,h,k⟩|⟨y,nm,e,h,k⟩
  ·exact .inl ⟨xs,ys,e,iha.2 _ _ h' h,ihc.2 _ _ k' k⟩
  ·exact(TW h' h).elim
  ·exact(TW h h').elim
  ·exact .inr ⟨y,nm,e,iha.1 _ _ h' h,ihc.1 _ _ k' k⟩
 |sH t x ih=>exact⟨λ_ _ ⟨y',_,h'⟩ ⟨y,e,h⟩=>⟨y,e,ih.1 _ _ h' h⟩,λ_ _ _ h=>h⟩
 |agg cs ih=>exact⟨λ_ _ ⟨xs',_,h'⟩ ⟨xs,e,h⟩=>⟨xs,e,ih.2 _ _ h' h⟩,λ_ _ _ h=>h⟩
 |fT cs ih=>exact⟨λ_ _ ⟨xs',_,h'⟩ ⟨xs,e,h⟩=>⟨xs,e,ih.2 _ _ h' h⟩,λ_ _ _ h=>h⟩
 |cons x t ihh iht=>exact⟨λ_ _ _ h=>h,λ_ _ ⟨x',xs',_,hx',hxs'⟩ ⟨x,xs,e,hx,hxs⟩=>⟨x,xs,e,ihh.1 _ _ hx' hx,iht.2 _ _ hxs' hxs⟩⟩
 |_=>exact⟨λ_ _ _ h=>h,λ_ _ _ h=>h⟩
theorem VR.cut {ι ι1 ι2:aV} (hh:∀b m,ι1 b=some m->ι2 b=ι b) {a:AV} {v v':Value} (h1:VR ι1 a v') (h:VR ι a v):VR ι2 a v:=(adJ hh a).1 v v' h1 h
theorem fU.cut {ι ι1 ι2:aV} (hh:∀b m,ι1 b=some m->ι2 b=ι b) {n n1:Nat} {en:Env} {t t1:Array Value} (h1:fU ι1 n1 en t1) (h:fU ι n en t):fU ι2 n en t:=by
 refine⟨h.size,h.most,λi hi=> ?_,h.rest⟩;by_cases c:i<n1;·exact VR.cut hh (h1.at_ i c) (h.at_ i hi)
 ·rw[h1.rest i (by omega) (by have:=h.most;omega)];exact trivial
theorem BR.cut {ι ι1 ι2:aV} (hh:∀b m,ι1 b=some m->ι2 b=ι b) {blk:wF} {o o1:Obj} {m m1:Nm} (h1:BR ι1 blk o1 m1) (h:BR ι blk o m):BR ι2 blk o m:=by
 cases blk with
 |cells el ro n d t=>obtain⟨arr,iV,lo,hi,e,a1,a2,a3,a4,a5⟩:=h;obtain⟨alf,_,_,_,_,_,_,_,b4,_⟩:=h1;exact⟨arr,iV,lo,hi,e,a1,a2,a3,λi hi=>VR.cut hh (b4 i hi) (a4 i hi),a5⟩
 |zU kd n c t lk=>
  obtain⟨es,e,a1,a0,a2,a3⟩:=h;obtain⟨es1,_,_,_,_,b3⟩:=h1;refine⟨es,e,a1,a0,a2,λi hi=> ?_⟩;have hx:=a3 i hi;have hy:=b3 i hi;cases hv:E.get 11 (path 11 i) t with
  |none=>simp only[hv]at hx⊢;exact hx
  |some v=>simp only[hv]at hx hy⊢;obtain⟨e1,he1,hv1⟩:=hx;obtain⟨e2,_,hv2⟩:=hy;exact⟨e1,he1,VR.cut hh hv2 hv1⟩
 |smap n c l=>
  obtain⟨es,e,a1,a0,a2,a3⟩:=h;obtain⟨es1,_,_,_,_,b3⟩:=h1;refine⟨es,e,a1,a0,a2,λs=> ?_⟩;have hx:=a3 s;have hy:=b3 s;cases hv:nH (Str.of s) l with
  |none=>simp only[hv]at hx⊢;exact hx
  |some v=>simp only[hv]at hx hy⊢;obtain⟨e1,he1,hv1⟩:=hx;obtain⟨e2,_,hv2⟩:=hy;exact⟨e1,he1,VR.cut hh hv2 hv1⟩
 |iter s pos=>exact h
 |loop st pend fn en ps as bo vC=>obtain⟨r,n,md,h2,h3,h4,h5,h6,h7,h8,h9,h10⟩:=h;obtain⟨r1,n1,md1,_,_,_,k5,_,_,_,k9,_⟩:=h1;exact⟨r,n,md,h2,h3,h4,fU.cut hh k5 h5,h6,h7,h8,(by rw[hh _ _ k9];exact h9),h10⟩
 |vC=>exact h
 |taken=>exact h
noncomputable section
def nZ (op:Op) (i:Nat) (en:Env) (h h':H):Rc:=
 match sJ op with
 |some f=>⟨i,false,List.append (f en) (below h.next (Nat.sub h'.ln h.ln) h'.log),below h.next (Nat.sub h'.ln h.ln) h'.log,h.next,h'.next⟩
 |none=>⟨i,true,[],below h.next (Nat.sub h'.ln h.ln) h'.log,h.next,h'.next⟩
def Ma (ops:List Oper) (o:Oper) (en:Env):OB:=
 match o.guard with
 |none=> .t
 |some (j,w)=>J2 w ((match yL ops j with|some t=>gT t|none=>(⟨λ_=> .bad⟩:EV)).f en)
structure StepT (g:G) (cx:Cx) (df:List Df) (ops:List Oper) (E:Nat->Env) (Hh:Nat->H) (V:Nat->AV) (X:Nat->Bool) (i:Nat) (o:Oper):Prop where
 env:E (i+1)=(pO o.dst).f (V i) (E i)
 run:X i=true->Ma ops o (E i)= .t/\OpR cx (nX g o.op) (E i) (Hh i) df (V i) (Hh (i+1)) df
 no:X i=false->Ma ops o (E i)= .f/\V i= .fT .nil/\Hh (i+1)=Hh i
def upd {α:Type} (f:Nat->α) (i:Nat) (x:α):Nat->α:=λj=>if j=i then x else f j
theorem upd_same {α:Type} (f:Nat->α) (i:Nat) (x:α):upd f i x i=x:=by simp[upd]
theorem upd_ne {α:Type} (f:Nat->α) {i j:Nat} (x:α) (h:j≠i):upd f i x j=f j:=by simp[upd,h]
theorem TY (g:G) (cx:Cx) (ops:List Oper) (o:Oper) (i pm:Nat) (en:Env) (h:H) (df:List Df) (rs:List Rc) (k:List Rc->Env->H->List Df->XR):
 OY cx (j6 g ops o) i pm en h df rs k=match Ma ops o en with
  | .t=>(qp o.dst (nX g o.op) ⟨λ_ en' h' jY=>doneD (j6 g ops o) i pm en h rs k en' h' jY⟩).k cx en h df
  | .f=>k rs ((pO o.dst).f (.fT .nil) en) h df
  | .none=> .fail:=by
 unfold OY Ma j6;cases hg:o.guard with
 |none=>rfl
 |some jw=>obtain⟨j,w⟩:=jw;rfl
theorem T9 (g:G) (ops:List Oper) (o:Oper) (i pm:Nat) (en:Env) (h:H) (rs:List Rc) (k:List Rc->Env->H->List Df->XR) (en':Env) (h':H) (jY:List Df):
 doneD (j6 g ops o) i pm en h rs k en' h' jY=match rE pm (nZ o.op i en h h') rs with
  |true=>k (match quiet (nZ o.op i en h h')with|true=>rs|false=>nZ o.op i en h h'::rs) en' h' jY
  |false=> .fail:=rfl
theorem Ua (g:G) (ms:List Nat) (cx:Cx) (ops:List Oper) (o:Oper) (l:List DO) (i:Nat) (rs:List Rc) (en:Env) (h:H) (df:List Df):
 WY ms cx (j6 g ops o::l) i rs en h df=OY cx (j6 g ops o) i (fV ms i) en h df rs (WY ms cx l (i+1)):=rfl
theorem DX {pm:Nat} {r:Rc}:∀{rs:List Rc},rE pm r rs=true->∀q∈rs,Nat.testBit pm q.i=true\/compat q r=true
 |[],_,q,hq=>by cases hq
 |x::rs,h,q,hq=>by
  have e:rE pm r (x::rs)=Bool.rec false (rE pm r rs) (Bool.rec (compat x r) true (Nat.testBit pm x.i)):=rfl;rw[e]at h;have h1:(Bool.rec (compat x r) true (Nat.testBit pm x.i):Bool)=true/\rE pm r rs=true:=by
   cases hb:(Bool.rec (compat x r) true (Nat.testBit pm x.i):Bool)
   ·rw[hb]at h;cases h
   ·rw[hb]at h;exact⟨rfl,h⟩
  rcases aR.1 hq with rfl|hq
  ·cases ht:Nat.testBit pm q.i
   ·rw[ht]at h1;exact .inr h1.1
   ·exact .inl rfl
  ·exact DX h1.2 q hq
theorem Ub {g:G} {cx:Cx} {o:Oper} {en:Env} {h h':H} {df jY:List Df} {v:AV} (hd:rG (nX g o.op)=true) (e:OpR cx (nX g o.op) en h df v h' jY):jY=df:=by
 cases hk:nX g o.op with
 |plain x=>rw[hk]at e;exact e.2
 |call f as=>rw[hk]at e;exact e.2
 |defer f as=>rw[hk]at hd;cases hd
 |recover=>rw[hk]at hd;cases hd
theorem IC {g:G} {ms:List Nat} {cx:Cx} {df:List Df} {ops:List Oper}:∀(l:List Oper) (i:Nat) (rs:List Rc) (en:Env) (h:H),(∀o∈l,rG (nX g o.op)=true)->
 WY ms cx (l.map (j6 g ops)) i rs en h df≠.fail->
 ∃(E:Nat->Env) (Hh:Nat->H) (V:Nat->AV) (X:Nat->Bool),E i=en/\Hh i=h/\WY ms cx (l.map (j6 g ops)) i rs en h df= .norm (E (i+l.length)) (Hh (i+l.length)) df/\
  (∀j o,l[j]? =some o->StepT g cx df ops E Hh V X (i+j) o)/\
  (∀j o,l[j]? =some o->X (i+j)=true->∀q∈rs,Nat.testBit (fV ms (i+j)) q.i=true\/compat q (nZ o.op (i+j) (E (i+j)) (Hh (i+j)) (Hh (i+j+1)))=true)/\
  (∀k j ok oj,k<j->l[k]? =some ok->l[j]? =some oj->X (i+k)=true->X (i+j)=true->
   quiet (nZ ok.op (i+k) (E (i+k)) (Hh (i+k)) (Hh (i+k+1)))=true\/Nat.testBit (fV ms (i+j)) (i+k)=true\/
   compat (nZ ok.op (i+k) (E (i+k)) (Hh (i+k)) (Hh (i+k+1))) (nZ oj.op (i+j) (E (i+j)) (Hh (i+j)) (Hh (i+j+1)))=true)
 |[],i,rs,en,h,_,_=>⟨λ_=>en,λ_=>h,λ_=> .bad,λ_=>false,rfl,rfl,rfl,λj o e=>by simp at e,λj o e=>by simp at e,λk j ok oj _ e=>by simp at e⟩
 |o::l,i,rs,en,h,hd,hne=>by
  rw[jD,Ua,TY]at hne⊢;have hd1:=hd o (by simp);have hd2:∀o∈l,rG (nX g o.op)=true:=λo ho=>hd o (by simp[ho]);cases hg:Ma ops o en with
  |none=>rw[hg]at hne;exact absurd rfl hne
  |f=>
   rw[hg]at hne;dsimp only at hne⊢;obtain⟨E,Hh,V,X,e1,e2,e3,s1,s2,s3⟩:=IC l (i+1) rs _ h hd2 hne;have i1:i+1≠i:=by omega
   have ne:∀j,i+1+j≠i:=λj=>by omega
   have ne':∀j,i+1+j+1≠i:=λj=>by omega
   have st:∀j o',l[j]? =some o'->StepT g cx df ops (upd E i en) (upd Hh i h) (upd V i (.fT .nil)) (upd X i false) (i+1+j) o':=λj o' ho=>by
    have:=s1 j o' ho;refine⟨?_,?_,?_⟩;·rw[upd_ne _ _ (ne' j),upd_ne _ _ (ne j),upd_ne _ _ (ne j)];exact this.env
    ·rw[upd_ne _ _ (ne j),upd_ne _ _ (ne j),upd_ne _ _ (ne j),upd_ne _ _ (ne j),upd_ne _ _ (ne' j)];exact this.run
    ·rw[upd_ne _ _ (ne j),upd_ne _ _ (ne j),upd_ne _ _ (ne j),upd_ne _ _ (ne j),upd_ne _ _ (ne' j)];exact this.no
   refine⟨upd E i en,upd Hh i h,upd V i (.fT .nil),upd X i false,upd_same _ _ _,upd_same _ _ _,?_,?_,?_,?_⟩;·rw[e3,bT,show i+(l.length+1)=i+1+l.length by omega,upd_ne _ _ (ne _),upd_ne _ _ (ne _)]
   ·intro j o' ho;cases j with
    |zero=>
     obtain rfl:o=o':=by simpa using ho
     rw[dG];refine⟨?_,λhx=> ?_,λ_=>⟨?_,upd_same _ _ _,?_⟩⟩;·rw[upd_ne _ _ i1,upd_same,upd_same];exact e1
     ·rw[upd_same]at hx;cases hx
     ·rw[upd_same];exact hg
     ·rw[upd_ne _ _ i1,upd_same];exact e2
    |succ j=>rw[show i+(j+1)=i+1+j by omega];exact st j o' (by simpa using ho)
   ·intro j o' ho hx;cases j with
    |zero=>rw[dG,upd_same]at hx;cases hx
    |succ j=>rw[show i+(j+1)=i+1+j by omega]at hx⊢;rw[upd_ne _ _ (ne j)]at hx;have:=s2 j o' (by simpa using ho) hx;rw[upd_ne _ _ (ne j),upd_ne _ _ (ne j),upd_ne _ _ (ne' j)];exact this
   ·intro k j ok oj hkj hk hj hxk hxj;cases k with
    |zero=>rw[dG,upd_same]at hxk;cases hxk
    |succ k=>
     cases j with
     |zero=>omega
     |succ j=>rw[show i+(k+1)=i+1+k by omega]at hxk⊢;rw[show i+(j+1)=i+1+j by omega]at hxj⊢;rw[upd_ne _ _ (ne k)]at hxk;rw[upd_ne _ _ (ne j)]at hxj;have:=s3 k j ok oj (by omega) (by simpa using hk) (by simpa using hj) hxk hxj;rw[upd_ne _ _ (ne k),upd_ne _ _ (ne k),upd_ne _ _ (ne' k),upd_ne _ _ (ne j),upd_ne _ _ (ne j),upd_ne _ _ (ne' j)];exact this
  |t=>
   rw[hg]at hne;dsimp only at hne⊢;rcases JY (cx:=cx) (en:=en) (h:=h) (df:=df) o.dst (nX g o.op) ⟨λ_ en' h' jY=>doneD (j6 g ops o) i (fV ms i) en h rs (WY ms cx (l.map (j6 g ops)) (i+1)) en' h' jY⟩with hb|⟨v,h1,rC,hb,hr⟩
   ·rw[hb]at hne;exact absurd rfl hne
   ·obtain rfl:=Ub hd1 hr;rw[hb]at hne⊢;dsimp only at hne⊢;rw[T9]at hne⊢;cases hc:rE (fV ms i) (nZ o.op i en h h1) rs with
    |false=>rw[hc]at hne;exact absurd rfl hne
    |true=>
     rw[hc]at hne;dsimp only at hne⊢;obtain⟨E,Hh,V,X,e1,e2,e3,s1,s2,s3⟩:=IC l (i+1) _ _ h1 hd2 hne;have hcs:=DX hc;have i1:i+1≠i:=by omega
     have ne:∀j,i+1+j≠i:=λj=>by omega
     have ne':∀j,i+1+j+1≠i:=λj=>by omega
     have hsub:∀q∈rs,q∈(match quiet (nZ o.op i en h h1)with|true=>rs|false=>nZ o.op i en h h1::rs):=λq hq=>by
      cases quiet (nZ o.op i en h h1);·exact rH _ hq
      ·exact hq
     have st:∀j o',l[j]? =some o'->StepT g cx rC ops (upd E i en) (upd Hh i h) (upd V i v) (upd X i true) (i+1+j) o':=λj o' ho=>by
      have:=s1 j o' ho;refine⟨?_,?_,?_⟩;·rw[upd_ne _ _ (ne' j),upd_ne _ _ (ne j),upd_ne _ _ (ne j)];exact this.env
      ·rw[upd_ne _ _ (ne j),upd_ne _ _ (ne j),upd_ne _ _ (ne j),upd_ne _ _ (ne j),upd_ne _ _ (ne' j)];exact this.run
      ·rw[upd_ne _ _ (ne j),upd_ne _ _ (ne j),upd_ne _ _ (ne j),upd_ne _ _ (ne j),upd_ne _ _ (ne' j)];exact this.no
     refine⟨upd E i en,upd Hh i h,upd V i v,upd X i true,upd_same _ _ _,upd_same _ _ _,?_,?_,?_,?_⟩;·rw[e3,bT,show i+(l.length+1)=i+1+l.length by omega,upd_ne _ _ (ne _),upd_ne _ _ (ne _)]
     ·intro j o' ho;cases j with
      |zero=>
       obtain rfl:o=o':=by simpa using ho
       rw[dG];refine⟨?_,λ_=>⟨?_,?_⟩,λhx=> ?_⟩;·rw[upd_ne _ _ i1,upd_same,upd_same];exact e1
       ·rw[upd_same];exact hg
       ·rw[upd_ne _ _ i1,upd_same,upd_same,upd_same,e2];exact hr
       ·rw[upd_same]at hx;cases hx
      |succ j=>rw[show i+(j+1)=i+1+j by omega];exact st j o' (by simpa using ho)
     ·intro j o' ho hx q hq;cases j with
      |zero=>
       obtain rfl:o=o':=by simpa using ho
       rw[dG,upd_ne _ _ i1,upd_same,upd_same,e2];exact hcs q hq
      |succ j=>rw[show i+(j+1)=i+1+j by omega]at hx⊢;rw[upd_ne _ _ (ne j)]at hx;have:=s2 j o' (by simpa using ho) hx q (hsub q hq);rw[upd_ne _ _ (ne j),upd_ne _ _ (ne j),upd_ne _ _ (ne' j)];exact this
     ·intro k j ok oj hkj hk hj hxk hxj;cases j with
      |zero=>omega
      |succ j=>
       rw[show i+(j+1)=i+1+j by omega]at hxj⊢;rw[upd_ne _ _ (ne j)]at hxj;have hj:l[j]? =some oj:=by simpa using hj
       cases k with
       |zero=>
        obtain rfl:o=ok:=by simpa using hk
        rw[dG,upd_ne _ _ i1,upd_same,upd_same,e2,upd_ne _ _ (ne j),upd_ne _ _ (ne j),upd_ne _ _ (ne' j)];cases hq:quiet (nZ o.op i en h h1)with
        |true=>exact .inl rfl
        |false=>
         have:=s2 j oj hj hxj (nZ o.op i en h h1) (by rw[hq];exact oK);have hi:(nZ o.op i en h h1).i=i:=by unfold nZ;split<;>rfl
         rw[hi]at this;exact .inr this
       |succ k=>rw[show i+(k+1)=i+1+k by omega]at hxk⊢;rw[upd_ne _ _ (ne k)]at hxk;have:=s3 k j ok oj (by omega) (by simpa using hk) hj hxk hxj;rw[upd_ne _ _ (ne k),upd_ne _ _ (ne k),upd_ne _ _ (ne' k),upd_ne _ _ (ne j),upd_ne _ _ (ne j),upd_ne _ _ (ne' j)];exact this
def Ind (k i:Rc):Prop:=(∀b∈k.wrt,¬(i.call=true\/b∈i.acc))/\(∀b∈i.wrt,¬(k.call=true\/b∈k.acc))/\(∀b,k.lo<=b->b<k.hi->¬(i.call=true\/b∈i.acc))
theorem mP {x:Nat}:∀{l:List Nat},yM x l=true↔x∈l
 |[]=>⟨(λh=>by cases h),(λh=>by cases h)⟩
 |y::l=>by
  have e:yM x (y::l)=Bool.rec (yM x l) true (Nat.beq x y):=rfl;rw[e];cases hb:Nat.beq x y
  ·have hne:x≠y:=λc=>by rw[c,qN]at hb;cases hb
   rw[aR];exact⟨λh=> .inr (mP.1 h),λh=>mP.2 (h.resolve_left hne)⟩
  ·obtain rfl:=aI hb;exact⟨λ_=>by simp,λ_=>rfl⟩
theorem yN:∀{a b:List Nat},MO a b=true->∀x∈a,x∉b
 |[],_,_,x,hx=>by cases hx
 |y::a,b,h,x,hx=>by
  have e:MO (y::a) b=Bool.rec (MO a b) false (yM y b):=rfl;rw[e]at h;cases hm:yM y b
  ·rw[hm]at h;rcases aR.1 hx with rfl|hx
   ·intro c;rw[mP.2 c]at hm;cases hm
   ·exact yN h x hx
  ·rw[hm]at h;cases h
theorem zZ {lo hi:Nat}:∀{a:List Nat},xg lo hi a=true->∀x∈a,lo<=x->x<hi->False
 |[],_,x,hx=>by cases hx
 |y::a,h,x,hx=>by
  have e:xg lo hi (y::a)=Bool.rec (xg lo hi a) (Bool.rec false (xg lo hi a) (Nat.ble hi y)) (Nat.ble lo y):=rfl;rw[e]at h;have h2:xg lo hi a=true/\(lo<=y->y<hi->False):=by
   cases h1:Nat.ble lo y;·rw[h1]at h;exact⟨h,λc=>by rw[<-aD]at c;rw[c]at h1;cases h1⟩
   ·rw[h1]at h;cases h3:Nat.ble hi y
    ·rw[h3]at h;cases h
    ·rw[h3]at h;rw[aD]at h3;exact⟨h,λ_ c=>by omega⟩
  rcases aR.1 hx with rfl|hx;·exact h2.2
  ·exact zZ h2.1 x hx
theorem vE:∀{a:List Nat},DY a=true->a=[]
 |[],_=>rfl
 |_::_,h=>by cases h
theorem QI {k i:Rc} (h:compat k i=true):Ind k i:=by
 unfold compat at h;split at h
 ·rename_i hk hi;obtain⟨h1,h⟩:=ak h;obtain⟨h2,h3⟩:=ak h;refine⟨λb hb c=> ?_,λb hb c=> ?_,λb hl hh c=> ?_⟩
  ·rcases c with c|c
   ·rw[hi]at c;cases c
   ·exact yN h1 b hb c
  ·rcases c with c|c
   ·rw[hk]at c;cases c
   ·exact yN h2 b hb c
  ·rcases c with c|c
   ·rw[hi]at c;cases c
   ·exact zZ h3 b c hl hh
 ·rename_i hk hi;obtain⟨h1,h⟩:=ak h;obtain⟨h2,h3⟩:=ak h;refine⟨λb hb c=> ?_,λb hb c=> ?_,λb hl hh c=> ?_⟩
  ·rcases c with c|c
   ·rw[hi]at c;cases c
   ·exact yN h1 b hb c
  ·rw[vE h2]at hb;cases hb
  ·rcases c with c|c
   ·rw[hi]at c;cases c
   ·exact zZ h3 b c hl hh
 ·rename_i hk hi;obtain⟨h1,h⟩:=ak h;obtain⟨h2,h3⟩:=ak h;have h3:=aI h3;refine⟨λb hb c=> ?_,λb hb c=> ?_,λb hl hh c=> ?_⟩
  ·rw[vE h1]at hb;cases hb
  ·rcases c with c|c
   ·rw[hk]at c;cases c
   ·exact yN h2 b hb c
  ·omega
 ·cases h
theorem Uc {k i:Rc} (h:quiet k=true):Ind k i:=by
 unfold quiet at h;obtain⟨h1,h⟩:=ak h;obtain⟨h2,h⟩:=ak h;obtain⟨h3,h4⟩:=ak h;have h4:=aI h4;refine⟨λb hb c=> ?_,λb hb c=> ?_,λb hl hh c=> ?_⟩;·rw[vE h3]at hb;cases hb
 ·rcases c with c|c
  ·rw[c]at h1;cases h1
  ·rw[vE h2]at c;cases c
 ·omega
theorem FZ {lo b:Nat}:∀{W L:List Nat},b∈W->b<lo->b∈below lo W.length (W++L)
 |[],_,h,_=>by cases h
 |x::W,L,h,hlt=>by
  have e:below lo (x::W).length (x::W++L)=Bool.rec (below lo W.length (W++L)) (x::below lo W.length (W++L)) (Nat.ble (Nat.succ x) lo):=rfl;rw[e];rcases aR.1 h with rfl|h
  ·have:Nat.ble (Nat.succ b) lo=true:=by rw[aD];exact hlt
   rw[this];exact oK
  ·have:=FZ (lo:=lo) (L:=L) h hlt;cases Nat.ble (Nat.succ x) lo
   ·exact this
   ·exact rH _ this
