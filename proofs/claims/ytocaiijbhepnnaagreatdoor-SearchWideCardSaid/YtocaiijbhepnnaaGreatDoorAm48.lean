/- The machine's soundness: the table of known calls is so, where each was run. -/
import Derived.Test.YtocaiijbhepnnaaGreatDoorAm44
namespace Go.Proofs.YtocaiijbhepnnaaGreatDoor.Am
theorem K5:∀t:AV,FP 0 t=t:=by
 intro t;induction t with
 |sG y x ih=>show AV.sG y (FP 0 x)=_;rw[ih]
 |agg x ih=>show AV.agg (FP 0 x)=_;rw[ih]
 |fV x ih=>show AV.fV (FP 0 x)=_;rw[ih]
 |cons x y YC ihy=>show AV.cons (FP 0 x) (FP 0 y)=_;rw[YC,ihy]
 |_=>rfl
theorem P5 {ι ι2:aX} {a t:AV} (h:dU [] a t=true) {l:List Value} (hl:gG ι a l):gG ι2 t l:=by
 have hm:Moved [] ι ι2 0:=λt h1 h2=>by simp at h2;omega
 have:=(yV hm a t h).2 l hl;rw[K5]at this;exact this
def Er:List Value->Bool
 |[]=>true
 | .int _ _::r=>Er r
 |_::_=>false
theorem K6 {ι:aX}:∀{vs l:List Value},Er vs=true->gG ι (tT vs) l->l=vs
 |[],l,_,h=>oL h
 |v::vs,l,hi,h=>by
  obtain⟨x,xs,rfl,hx,hxs⟩:=gP (show gG ι (.cons (UO v) (tT vs)) l from h);cases v with
  |int k n=>have hx:x= .int k n:=hx;rw[hx,K6 (ι:=ι) (show Er vs=true from hi) hxs]
  |_=>cases hi
noncomputable def xG:List (Nat×List Value)->Bool
 |[]=>true
 |p::r=>aA (Nat.ble (Nat.succ p.1) 64) (aA (Nat.ble p.2.length 4000000) (aA (Er p.2) (xG r)))
theorem GQ:∀{l:List (Nat×List Value)},xG l=true->∀p∈l,p.1<64/\p.2.length<=4000000/\Er p.2=true
 |[],_,p,h=>by cases h
 |q::l,h,p,hp=>by
  have h:aA (Nat.ble (Nat.succ q.1) 64) (aA (Nat.ble q.2.length 4000000) (aA (Er q.2) (xG l)))=true:=h;obtain⟨h1,h⟩:=aj h;obtain⟨h2,h⟩:=aj h;obtain⟨h3,h4⟩:=aj h;rw[aH]at h1 h2;rcases aT.1 hp with rfl|hp;·exact⟨h1,h2,h3⟩
  ·exact GQ h4 p hp
theorem K7 {h:H} {ι:aX} {w:World} (k:WR ι h w) (hG:GI ι):∀{l:List (Nat×List Value)},(∀p∈l,p.1<64/\p.2.length<=4000000/\Er p.2=true)->K3 h l=true->∀p∈l,TabAt w p.1 p.2
 |[],_,_,p,hp=>by cases hp
 |q::l,hq,ht,p,hp=>by
  have ht:aA (match h.get q.1 with|some (.cells _ _ n d t)=>aA (Nat.beq n q.2.length) (dU [] (Cv d t n (nat_lit 0)) (tT q.2))|_=>false) (K3 h l)=true:=ht;obtain⟨h1,h2⟩:=aj ht;rcases aT.1 hp with rfl|hp
  ·obtain⟨c1,c2,c3⟩:=hq p (by simp);split at h1
   ·rename_i el ro n d t hg;obtain⟨h3,h4⟩:=aj h1;have h3:=aR h3;obtain⟨cs,hι⟩:=hG p.1 c1;obtain⟨arr,iY,lo,hi,hw,a1,a2,a3,a4,_⟩:=k.cells trivial hι hg;have hr:=mE (ι:=ι) (arr:=arr) (sh:=0) n 0 (λj _ hj=>a4 j (by omega));have hr2:gG ι (tT p.2) _:=P5 h4 hr;have ai4:=K6 c3 hr2;have a1:arr.size=cs:=a1;have a2:0+n<=cs:=a2;refine⟨arr,iY,lo,hi,hw,by omega,λi hi=> ?_⟩;rw[<-ai4];simp[List.getD_eq_getElem?_getD,show i<n by omega]
   ·cases h1
  ·exact K7 k hG (λp hp=>hq p (by simp[hp])) h2 p hp
def oZ (P:Program) (tabs:List (Nat×List Value)) (e:Known):Prop:=∀f args h v h',useK tabs e f args h=some (.ok v h')->∀ι w (vs:Array Value),WR ι h w->GI ι->gG ι args vs.toList->
 Bz P (callFunc f vs) w (CR ι h w v h')
theorem rz.mono {P:Program} {f:Nat} {vs:Array Value} {w:World} {R R':Value->World->Prop} (hR:∀v w,R v w->R' v w) (h:rz P f vs w R):rz P f vs w R':=λkind cs hc=>let⟨fr,v,w',q,s,t⟩:=h kind cs hc;⟨fr,v,w',hR _ _ q,s,t⟩
theorem NQ {P:Program} {ext:Nat->Nat} {iP:Nat->AV->H->Option bF} {N:Nat} {tabs:List (Nat×List Value)} {e:Known} {R:List Nat} (lq:P.follows .mixedOrders=true) (hprog:fC P=true)
 (hext:mO P (bY P ext iP)) (sW:fO P (bY P ext iP)) (hf:(fnOf P e.f).isSome=true) (hno:iP e.f e.args (lu tabs)=none) (ht:xG tabs=true)
 (hrun:Vs e R ((run (bY P ext iP) (Nat.succ N)).call e.f e.args (lu tabs))=true):oZ P tabs e:=by
 intro f args h v h' u ι w vs k hG ha;obtain⟨rfl,hargs,hroom,hn,htab,rfl,rfl⟩:=use_inv u;obtain⟨x,hx⟩:=tF.1 hf;have htk:=GQ ht;have hat:=K7 k hG htk htab;cases hr:(run (bY P ext iP) (Nat.succ N)).call e.f e.args (lu tabs)with
 |fail=>rw[hr]at hrun;cases hrun
 |ok v1 h1=>rw[hr]at hrun;have hvs:gG (qy w) e.args vs.toList:=P5 hargs ha;have hen:=kD (nu P ext iP) lq (fnsOk_of hprog) hext sW (N:=N) (f:=e.f) (x:=x) hx hno hr (vs:=vs) (Jt λp hp=>⟨(htk p hp).1,(htk p hp).2.1,hat p hp⟩) (yU w) hvs;exact .inr ⟨e.f,vs,w,xk (nu P ext iP) (fnsOk_of hprog) hx vs w,hen.mono λv' w' hcr=>Vt hrun k hn hroom hcr⟩
noncomputable section
def AJ (tabs:List (Nat×List Value)) (f:Nat) (args:AV) (h:H):List Known->Option bF:=List.rec (motive:=λ_=>Option bF) none
 (λe _ ih=>Option.rec (motive:=λ_=>Option bF) ih some (useK tabs e f args h))
def AL (tabs:List (Nat×List Value)) (tbl:List (Nat×List Known)) (f:Nat) (args:AV) (h:H):Option bF:=List.rec (motive:=λ_=>Option bF) none
 (λp _ ih=>Bool.rec ih (AJ tabs f args h p.2) (Nat.beq f p.1)) tbl
theorem K8 {tabs:List (Nat×List Value)} {f:Nat} {args:AV} {h:H} {r:bF}:∀{l:List Known},AJ tabs f args h l=some r->∃e∈l,useK tabs e f args h=some r
 |[],u=>by cases u
 |e::l,u=>by
  have u:Option.rec (motive:=λ_=>Option bF) (AJ tabs f args h l) some (useK tabs e f args h)=some r:=u;cases hu:useK tabs e f args h with
  |none=>rw[hu]at u;obtain⟨e',h1,h2⟩:=K8 u;exact⟨e',by simp[h1],h2⟩
  |some r'=>rw[hu]at u;cases u;exact⟨e,by simp,hu⟩
theorem K9 {tabs:List (Nat×List Value)} {f:Nat} {args:AV} {h:H} {r:bF}:∀{tbl:List (Nat×List Known)},AL tabs tbl f args h=some r->∃p∈tbl,∃e∈p.2,useK tabs e f args h=some r
 |[],u=>by cases u
 |p::l,u=>by
  have u:Bool.rec (AL tabs l f args h) (AJ tabs f args h p.2) (Nat.beq f p.1)=some r:=u;cases hb:Nat.beq f p.1;·rw[hb]at u;obtain⟨q,h1,e,h2,h3⟩:=K9 u;exact⟨q,by simp[h1],e,h2,h3⟩
  ·rw[hb]at u;obtain⟨e,h2,h3⟩:=K8 u;exact⟨p,by simp,e,h2,h3⟩
theorem lX {P:Program} {ext:Nat->Nat} {tabs:List (Nat×List Value)} {tbl:List (Nat×List Known)} (h:∀p∈tbl,∀e∈p.2,oZ P tabs e):fO P (bY P ext (AL tabs tbl)):=by intro f args hh v h' u ι w vs k hG ha;obtain⟨p,h1,e,h2,h3⟩:=K9 u;exact h p h1 e h2 f args hh v h' h3 ι w vs k hG ha
end
noncomputable section
def Vu (a b:Nat->AV->H->Option bF) (f:Nat) (args:AV) (h:H):Option bF:=Option.rec (motive:=λ_=>Option bF) (b f args h) some (a f args h)
theorem CV {P:Program} {ext:Nat->Nat} {a b:Nat->AV->H->Option bF} (ha:fO P (bY P ext a)) (hb:fO P (bY P ext b)):fO P (bY P ext (Vu a b)):=by
 intro f args h v h' u;have u:Option.rec (motive:=λ_=>Option bF) (b f args h) some (a f args h)=some (.ok v h'):=u;cases hx:a f args h with
 |none=>rw[hx]at u;exact hb f args h v h' u
 |some r=>rw[hx]at u;cases u;exact ha f args h v h' hx
variable {P:Program} {tabs:List (Nat×List Value)}
theorem ai5:∀e∈([]:List Known),oZ P tabs e:=λ_ h=>by cases h
theorem ah0 {e:Known} {l:List Known} (h:oZ P tabs e) (r:∀e∈l,oZ P tabs e):∀x∈e::l,oZ P tabs x:=λx hx=>by
 rcases aT.1 hx with rfl|hx;·exact h
 ·exact r x hx
theorem pY:∀p∈([]:List (Nat×List Known)),∀e∈p.2,oZ P tabs e:=λ_ h=>by cases h
theorem ny {f:Nat} {l:List Known} {r:List (Nat×List Known)} (h:∀e∈l,oZ P tabs e) (k:∀p∈r,∀e∈p.2,oZ P tabs e):∀p∈(f,l)::r,∀e∈p.2,oZ P tabs e:=λp hp=>by
 rcases aT.1 hp with rfl|hp;·exact h
 ·exact k p hp
end
noncomputable section
def jU:AV->AV->Bool
 | .bool a, .bool b=>FU a b
 | .int k n, .int k' n'=>aA (Nat.beq (sV k) (sV k')) (eqI n n')
 | .str s, .str s'=>s.eq s'
 | .ptr a o, .ptr t o'=>aA (Nat.beq a t) (Nat.beq o o')
 | .nK, .nK=>true
 | .slice a o l e z, .slice t o' l' e' z'=>aA (Nat.beq a t) (aA (Nat.beq o o') (aA (Nat.beq l l') (aA (Nat.beq e e') (FU z z'))))
 | .jq, .jq=>true
 | .qN, .qN=>true
 | .qO, .qO=>true
 | .qd, .qd=>true
 | .sG y a, .sG y' t=>aA (Nat.beq y y') (jU a t)
 | .agg a, .agg t=>jU a t
 | .fV a, .fV t=>jU a t
 | .nil, .nil=>true
 | .cons a r, .cons t q=>aA (jU a t) (jU r q)
 |_,_=>false
theorem Jv:∀(a t:AV),jU a t=true->a=t:=by
 intro a;induction a with
 |bad=>intro t h;cases t<;>simp[jU]at h
 |unk=>intro t h;cases t<;>simp[jU]at h
 |bool b=>intro t h;cases t<;>simp only[jU,bq]at h;obtain rfl:=vH h;rfl
 |int k n=>intro t h;cases t<;>simp only[jU,bq]at h;obtain⟨h1,h2⟩:=aj h;obtain rfl:=iq h1;obtain rfl:=Nc h2;rfl
 |str s=>intro t h;cases t<;>simp only[jU,bq]at h;obtain rfl:=(Str.eq_iff _ _).1 h;rfl
 |ptr b o=>intro t h;cases t<;>simp only[jU,bq]at h;obtain⟨h1,h2⟩:=aj h;obtain rfl:=aR h1;obtain rfl:=aR h2;rfl
 |nK=>intro t h;cases t<;>simp only[jU,bq]at h;rfl
 |slice b o l e z=>intro t h;cases t<;>simp only[jU,bq]at h;obtain⟨h1,h⟩:=aj h;obtain⟨h2,h⟩:=aj h;obtain⟨h3,h⟩:=aj h;obtain⟨h4,h5⟩:=aj h;obtain rfl:=aR h1;obtain rfl:=aR h2;obtain rfl:=aR h3;obtain rfl:=aR h4;obtain rfl:=vH h5;rfl
 |jq=>intro t h;cases t<;>simp only[jU,bq]at h;rfl
 |map b=>intro t h;cases t<;>simp[jU]at h
 |qN=>intro t h;cases t<;>simp only[jU,bq]at h;rfl
 |fn f x c=>intro t h;cases t<;>simp[jU]at h
 |wG l=>intro t h;cases t<;>simp[jU]at h
 |qO=>intro t h;cases t<;>simp only[jU,bq]at h;rfl
 |sG y x ih=>intro t h;cases t<;>simp only[jU,bq]at h;obtain⟨h1,h2⟩:=aj h;obtain rfl:=aR h1;rw[ih _ h2]
 |qd=>intro t h;cases t<;>simp only[jU,bq]at h;rfl
 |agg x ih=>intro t h;cases t<;>simp only[jU,bq]at h;rw[ih _ h]
 |fV x ih=>intro t h;cases t<;>simp only[jU,bq]at h;rw[ih _ h]
 |nil=>intro t h;cases t<;>simp only[jU,bq]at h;rfl
 |cons x r YC ihr=>intro t h;cases t<;>simp only[jU,bq]at h;obtain⟨h1,h2⟩:=aj h;rw[YC _ h1,ihr _ h2]
def eqB:wH->TB->Bool
 | .cells el false n d t, .cells iY l=>aA (Nat.beq el iY) (aA (Nat.beq n (llen l)) (aA (Nat.ble n fM) (jU (Cv d t n (nat_lit 0)) l)))
 |_,_=>false
theorem Vv {ι:aX} {x:wH} {tb:TB} (h:eqB x tb=true) {o:Obj} {m:Nm} (hb:BR ι x o m):BR ι (NP 0 tb) o m:=by
 unfold eqB at h;split at h
 ·rename_i el n dd t iY l;obtain⟨h1,h⟩:=aj h;obtain⟨h2,h⟩:=aj h;obtain⟨h3,h4⟩:=aj h;obtain rfl:=aR h1;have h2:=aR h2;rw[aH]at h3;have h3:n<=4000000:=h3;obtain⟨arr,iY,lo,hi,rfl,a1,a2,a3,a4,a5⟩:=hb;have hr:=mE (ι:=ι) (arr:=arr) (sh:=m.sh) n 0 (λj _ hj=>a4 j (by omega));have hr2:gG ι l ((List.range n).map λj=>arr.getD (m.sh+0+j) undef):=by rw[<-Jv _ _ h4];exact hr
  refine⟨arr,iY,lo,hi,rfl,a1,by rw[<-h2];exact a2,jY (by rw[<-h2];exact h3),λi hi=> ?_,⟨a5.1,λc=>absurd c (by have:=Dy (llen l);omega),λc=>(by cases c)⟩⟩;have hi:i<n:=by rw[h2];exact hi
  have hll:=gL hr2;rw[dR,nR]at hll;rw[K5,FN,jW (llen l) (jY (by rw[<-h2];exact h3)) hr2 0 i _ (by simp;omega) (by omega),au (by simp;omega),lU];have:=gM hr2 i;have e:((List.range n).map λj=>arr.getD (m.sh+0+j) undef).getD i undef=arr.getD (m.sh+i) undef:=by simp[List.getD_eq_getElem?_getD,hi]
  rw[e]at this;exact this
 ·cases h
def RO (h:H) (b:Nat) (x:Option wH):H:=⟨E.put x hd (path hd b) h.t,h.next,h.ln,h.log⟩
theorem La {h:H} {x:Option wH} {a b:Nat} (ha:a<65536) (hb:b<65536):(RO h a x).get b=if b=a then x else h.get b:=by
 unfold H.get RO;split;·rename_i e;subst e;exact E.dD _ _ _ _
 ·rename_i e;exact E.fu _ _ _ _ ha hb (λc=>e c.symm) _
def Es:List (Nat×TB)->H->H:=List.rec (motive:=λ_=>H->H) (λh=>h) (λp _ ih h=>RO (ih h) p.1 (some (NP 0 p.2)))
def mP:List Nat->H->H:=List.rec (motive:=λ_=>H->H) (λh=>h) (λb _ ih h=>RO (ih h) b none)
theorem vI:∀(l:List (Nat×TB)) (h:H),(Es l h).next=h.next/\(Es l h).log=h.log/\(Es l h).ln=h.ln
 |[],_=>⟨rfl,rfl,rfl⟩
 |_::l,h=>vI l h
theorem yX {h:H} {b:Nat} (hb:b<65536):∀(l:List (Nat×TB)),(∀p∈l,p.1<65536)->((∃tb,(b,tb)∈l/\(Es l h).get b=some (NP 0 tb))\/((∀tb,(b,tb)∉l)/\(Es l h).get b=h.get b))
 |[],_=> .inr ⟨λ_ c=>(by cases c),rfl⟩
 |p::l,hl=>by
  have e:Es (p::l) h=RO (Es l h) p.1 (some (NP 0 p.2)):=rfl;rw[e,La (hl p (by simp)) hb];by_cases c:b=p.1;·rw[au c];exact .inl ⟨p.2,by rw[c];exact nU,rfl⟩
  ·rw[ak c];rcases yX (h:=h) hb l λp hp=>hl p (by simp[hp])with⟨tb,h1,h2⟩|⟨h1,h2⟩
   ·exact .inl ⟨tb,by simp[h1],h2⟩
   ·refine .inr ⟨λtb hm=> ?_,h2⟩;rcases aT.1 hm with q|q
    ·exact c (by rw[<-q])
    ·exact h1 tb q
theorem qz {h:H} {b:Nat} (hb:b<65536):∀(l:List Nat),(∀p∈l,p<65536)->(b∈l/\(mP l h).get b=none)\/(b∉l/\(mP l h).get b=h.get b)
 |[],_=> .inr ⟨λc=>(by cases c),rfl⟩
 |p::l,hl=>by
  have e:mP (p::l) h=RO (mP l h) p none:=rfl;rw[e,La (hl p (by simp)) hb];by_cases c:b=p;·rw[au c];exact .inl ⟨by simp[c],rfl⟩
  ·rw[ak c];rcases qz (h:=h) hb l λp hp=>hl p (by simp[hp])with⟨h1,h2⟩|⟨h1,h2⟩
   ·exact .inl ⟨by simp[h1],h2⟩
   ·exact .inr ⟨by simp[c,h1],h2⟩
structure gW where
 f:Nat
 args:AV
 nx:Nat
 bi:List (Nat×TB)
 v:AV
 nx':Nat
 bo:List (Nat×TB)
 ws:List Nat
def upN:Nat->Nat->List Nat:=λn=>Nat.rec (motive:=λ_=>Nat->List Nat) (λ_=>[]) (λ_ ih k=>k::ih (Nat.succ k)) n
theorem CX {b:Nat}:∀{n k:Nat},b∈upN n k↔k<=b/\b<k+n
 |0,k=>by show b∈[]↔_;simp
 |n+1,k=>by show b∈k::upN n (k+1)↔_;rw[aT,CX];omega
def nA (e:gW):H:=Es e.bi ⟨E.rep none hd,e.nx,nat_lit 0,[]⟩
def rM (e:gW) (h:H):H:=⟨(Es e.bo (mP e.ws (mP (upN (Nat.sub e.nx' e.nx) e.nx) h))).t,e.nx',Nat.add h.ln e.ws.length,List.append e.ws h.log⟩
def jo (h:H):List (Nat×TB)->Bool:=List.rec (motive:=λ_=>Bool) true (λp _ ih=>aA (match h.get p.1 with|some x=>eqB x p.2|none=>false) ih)
theorem vJ {h:H}:∀{l:List (Nat×TB)},jo h l=true->∀p∈l,∃x,h.get p.1=some x/\eqB x p.2=true
 |[],_,p,hp=>by cases hp
 |q::l,e,p,hp=>by
  have e:aA (match h.get q.1 with|some x=>eqB x q.2|none=>false) (jo h l)=true:=e;obtain⟨h1,h2⟩:=aj e;rcases aT.1 hp with rfl|hp
  ·cases hg:h.get p.1 with
   |none=>rw[hg]at h1;cases h1
   |some x=>rw[hg]at h1;exact⟨x,rfl,h1⟩
  ·exact vJ h2 p hp
def Lb {α:Type} (q:α->Bool):List α->Bool:=List.rec (motive:=λ_=>Bool) true (λp _ ih=>aA (q p) ih)
theorem vK {α:Type} {q:α->Bool}:∀{l:List α},Lb q l=true->∀p∈l,q p=true
 |[],_,p,hp=>by cases hp
 |x::l,e,p,hp=>by
  have e:aA (q x) (Lb q l)=true:=e;obtain⟨h1,h2⟩:=aj e;rcases aT.1 hp with rfl|hp;·exact h1
  ·exact vK h2 p hp
def or2 (a b:Bool):Bool:=Bool.rec b true a
theorem Vw {a b:Bool} (h:or2 a b=true):a=true\/b=true:=by cases a<;>cases b<;>simp_all [or2]
def useM (e:gW) (f:Nat) (args:AV) (h:H):Option bF:=
 Bool.rec none (some (.ok e.v (rM e h))) (aA (Nat.beq f e.f) (aA (Nat.beq h.next e.nx) (aA (jU args e.args) (jo h e.bi))))
def P6 (e:gW):Bool:=
 aA (aA (Nat.ble e.nx (nat_lit 65536)) (Nat.ble e.nx' (nat_lit 65536)))
  (aA (aA (Lb (λp:Nat×TB=>Nat.ble (Nat.succ p.1) e.nx) e.bi) (Lb (λp:Nat×TB=>aA (Nat.ble (Nat.succ p.1) e.nx') (or2 (Nat.ble e.nx p.1) (yO p.1 e.ws))) e.bo))
   (Lb (λb=>yO b (List.rec (motive:=λ_=>List Nat) [] (λp _ ih=>p.1::ih) e.bi)) e.ws))
def Vx (e:gW):bF->Bool:=bF.rec (motive:=λ_=>Bool) false
 (λv h=>aA (jU v e.v) (aA (Nat.beq h.next e.nx') (aA (jo h e.bo) (Lb (λb=>or2 (Nat.ble e.nx b) (yO b e.ws)) h.log))))
theorem mem_keys {b:Nat}:∀{l:List (Nat×TB)},b∈(List.rec (motive:=λ_=>List Nat) [] (λp _ ih=>p.1::ih) l:List Nat)->∃tb,(b,tb)∈l
 |[],h=>by cases h
 |p::l,h=>by
  rcases aT.1 h with rfl|h;·exact⟨p.2,by simp⟩
  ·obtain⟨tb,h⟩:=mem_keys h;exact⟨tb,by simp[h]⟩
structure OkM (e:gW):Prop where
 n1:e.nx<=65536
 n2:e.nx'<=65536
 bi:∀p∈e.bi,p.1<e.nx
 bo:∀p∈e.bo,p.1<e.nx'/\(e.nx<=p.1\/p.1∈e.ws)
 ws:∀b∈e.ws,∃tb,(b,tb)∈e.bi
theorem Vy {e:gW} (h:P6 e=true):OkM e:=by
 obtain⟨h1,h⟩:=aj h;obtain⟨h2,h3⟩:=aj h;obtain⟨a1,a2⟩:=aj h1;obtain⟨b1,b2⟩:=aj h2;rw[aH]at a1 a2;refine⟨a1,a2,λp hp=> ?_,λp hp=> ?_,λb hb=>mem_keys (ni.1 (vK h3 b hb))⟩;·have:=vK b1 p hp;rw[aH]at this;exact this
 ·obtain⟨q1,q2⟩:=aj (vK b2 p hp);rw[aH]at q1;refine⟨q1,?_⟩;rcases Vw q2 with c|c
  ·rw[aH]at c;exact .inl c
  ·exact .inr (ni.1 c)
section
variable {P:Program} {ι:aX} {h:H} {w:World}
theorem ab2 {e:gW} (o:OkM e) {b:Nat} (hb:b<65536) {x:wH} (hx:(nA e).get b=some x):∃tb,(b,tb)∈e.bi/\x=NP 0 tb:=by
 rcases yX (h:=⟨E.rep none hd,e.nx,0,[]⟩) hb e.bi (λp hp=>bC (o.bi p hp) o.n1)with⟨tb,h1,h2⟩|⟨_,h2⟩
 ·have h2:(nA e).get b=some (NP 0 tb):=h2;rw[hx]at h2;exact⟨tb,h1,dh h2⟩
 ·have h2:(nA e).get b=(⟨E.rep none hd,e.nx,0,[]⟩:H).get b:=h2;rw[hx]at h2;have h3:(⟨E.rep none hd,e.nx,0,[]⟩:H).get b=none:=E.uV _ _ _;rw[h3]at h2;cases h2
theorem Jw {e:gW} (o:OkM e) (hag:jo h e.bi=true) {b:Nat} (hb:b<65536) {x:wH} (hx:(nA e).get b=some x):∃y tb,h.get b=some y/\eqB y tb=true/\x=NP 0 tb:=by obtain⟨tb,h1,rfl⟩:=ab2 o hb hx;obtain⟨y,hy,hq⟩:=vJ hag _ h1;exact⟨y,tb,hy,hq,rfl⟩
theorem aaM {e:gW} (o:OkM e) (hag:jo h e.bi=true) (hn:h.next=e.nx) (k:WR ι h w):WR ι (nA e) w:=by
 have hnx:(nA e).next=e.nx:=(vI e.bi _).1
 refine⟨by rw[hnx];exact o.n1,λb hb=>k.fresh b (by rw[hn];rw[hnx]at hb;exact hb),λb x _ hb hx=> ?_,λb b' x x' m m' _ _ hb hb' hx hx' hm hm' hB=> ?_⟩;·rw[hnx]at hb;obtain⟨y,tb,hy,hq,rfl⟩:=Jw o hag (by have:=o.n1;omega) hx;obtain⟨m,ob,z1,z2,z3⟩:=k.blk b y trivial (by omega) hy;exact⟨m,ob,z1,z2,Vv hq z3⟩
 ·rw[hnx]at hb hb';obtain⟨y,tb,hy,_,_⟩:=Jw o hag (by have:=o.n1;omega) hx;obtain⟨y',tb',hy',_,_⟩:=Jw o hag (by have:=o.n1;omega) hx';exact k.inj b b' y y' m m' trivial trivial (by omega) (by omega) hy hy' hm hm' hB
theorem P7 {e:gW} (o:OkM e) {v1:AV} {h1:H} (hc:Vx e (.ok v1 h1)=true) (k:WR ι h w) (hn:h.next=e.nx) (hag:jo h e.bi=true) {v':Value} {w':World}
 (hcr:CR ι (nA e) w v1 h1 v' w'):CR ι h w e.v (rM e h) v' w':=by
 obtain⟨c1,hc⟩:=aj hc;obtain⟨c2,hc⟩:=aj hc;obtain⟨c3,c4⟩:=aj hc;have c2:=aR c2;obtain rfl:=Jv _ _ c1;obtain⟨ι1,W,hv,k1,E⟩:=hcr;have hnx:(nA e).next=e.nx:=(vI e.bi _).1
 have hWl:W=h1.log:=by have q:=E.log;have q2:(nA e).log=[]:=(vI e.bi _).2.1;rw[q2,iL]at q;exact q.symm
 have hWs:∀b∈W,b<e.nx->b∈e.ws:=λb hb hlt=>by
  rcases Vw (vK c4 b (hWl▸hb))with c|c;·rw[aH]at c;omega
  ·exact ni.1 c
 have n1:=o.n1;have n2:=o.n2;have nlt:∀b m,ι b=some m->b<e.nx:=λb m hb=>by
  rcases aN b e.nx with c|c;·exact c
  ·rw[k.fresh b (by omega)]at hb;cases hb
 have live:∀b∈e.ws,∃y,h.get b=some y:=λb hb=>by obtain⟨tb,hm⟩:=o.ws b hb;obtain⟨y,hy,_⟩:=vJ hag _ hm;exact⟨y,hy⟩
 have ae0:∀b∈e.ws,b<e.nx:=λb hb=>by obtain⟨tb,hm⟩:=o.ws b hb;exact o.bi _ hm
 have hle:ι.le ι1:=E.le λb hb=>k.fresh b (by rw[hn];rw[hnx]at hb;exact hb);have stays:∀b y m,b<e.nx->b∉e.ws->h.get b=some y->ι b=some m->w'.heap[m.B]? =w.heap[m.B]? :=λb y m hb hws hy hm=>by obtain⟨m1,ob,z1,z2,_⟩:=k.blk b y trivial (by omega) hy;rw[hm]at z1;cases z1;refine E.heap m.B (dQ.1 z2).1 λb0 hb0 m0 hm0 hB=> ?_;have hlt:=nlt b0 m0 hm0;have hw0:=hWs b0 hb0 hlt;obtain⟨y0,hy0⟩:=live b0 hw0;have:=k.inj b0 b y0 y m0 m trivial trivial (by omega) (by omega) hy0 hy hm0 hm hB;subst this;exact hws hw0
 have nle:e.nx<=e.nx':=by have:=E.next;rw[hnx,c2]at this;exact this
 have ae1:∀p∈upN (Nat.sub e.nx' e.nx) e.nx,p<65536:=λp hp=>by obtain⟨_,q⟩:=CX.1 hp;have q:p<e.nx+(e.nx'-e.nx):=q;omega
 have wsb:∀p∈e.ws,p<65536:=λp hp=>bC (ae0 p hp) o.n1;have bob:∀p∈e.bo,p.1<65536:=λp hp=>bC (o.bo p hp).1 o.n2;have get':∀b x,b<e.nx'->(rM e h).get b=some x->(∃tb y,(b,tb)∈e.bo/\h1.get b=some y/\eqB y tb=true/\x=NP 0 tb)\/(b<e.nx/\b∉e.ws/\(∀tb,(b,tb)∉e.bo)/\h.get b=some x):=λb x hb hx=>by
  have hx:(Es e.bo (mP e.ws (mP (upN (Nat.sub e.nx' e.nx) e.nx) h))).get b=some x:=hx;rcases yX (h:=mP e.ws (mP (upN (Nat.sub e.nx' e.nx) e.nx) h)) (show b<65536 by omega) e.bo bob with⟨tb,q1,q2⟩|⟨q1,q2⟩
  ·rw[hx]at q2;obtain⟨y,hy,hq⟩:=vJ c3 _ q1;exact .inl ⟨tb,y,q1,hy,hq,dh q2⟩
  ·rw[hx]at q2;rcases qz (h:=mP (upN (Nat.sub e.nx' e.nx) e.nx) h) (show b<65536 by omega) e.ws wsb with⟨_,r2⟩|⟨r1,r2⟩
   ·rw[r2]at q2;cases q2
   ·rw[r2]at q2;rcases qz (h:=h) (show b<65536 by omega) _ ae1 with⟨_,s2⟩|⟨s1,s2⟩
    ·rw[s2]at q2;cases q2
    ·rw[s2]at q2;refine .inr ⟨?_,r1,q1,q2.symm⟩;rcases aN b e.nx with c|c
     ·exact c
     ·exfalso;refine s1 (CX.2 ⟨c,?_⟩);show b<e.nx+(e.nx'-e.nx)
      omega
 have kept':∀b,b<e.nx->b∉e.ws->(rM e h).get b=h.get b:=λb hb hws=>by
  show(Es e.bo (mP e.ws (mP (upN (Nat.sub e.nx' e.nx) e.nx) h))).get b=_;rcases yX (h:=mP e.ws (mP (upN (Nat.sub e.nx' e.nx) e.nx) h)) (show b<65536 by omega) e.bo bob with⟨tb,q1,_⟩|⟨_,q2⟩
  ·rcases(o.bo _ q1).2 with c|c
   ·exact absurd c (by show ¬e.nx<=b;omega)
   ·exact absurd c hws
  ·rw[q2];rcases qz (h:=mP (upN (Nat.sub e.nx' e.nx) e.nx) h) (show b<65536 by omega) e.ws wsb with⟨r1,_⟩|⟨_,r2⟩
   ·exact absurd r1 hws
   ·rw[r2];rcases qz (h:=h) (show b<65536 by omega) _ ae1 with⟨s1,_⟩|⟨_,s2⟩
    ·have:=(CX.1 s1).1;omega
    ·exact s2
 have CP:∀b,b<e.nx->ι1 b=ι b:=λb hb=>E.CP b (by rw[hnx];exact hb);have apart:∀b b' x' y m m',b<e.nx->b∉e.ws->h.get b=some y->ι b=some m->b'<e.nx'->h1.get b'=some x'->(e.nx<=b'\/b'∈e.ws)->ι1 b'=some m'->m.B=m'.B->b=b':=λb b' x' y m m' hb hws hy hm hb' hx' hor hm' hB=>by
  have hsz:m.B<w.heap.size:=by obtain⟨m1,ob,z1,z2,_⟩:=k.blk b y trivial (by omega) hy;rw[hm]at z1;cases z1;exact(dQ.1 z2).1
  rcases hor with c|c
  ·rcases E.new b' m' (by rw[hnx];exact c) hm' with q|⟨b0,hb0,m0,hm0,hB0⟩
   ·omega
   ·have hlt:=nlt b0 m0 hm0;have hw0:=hWs b0 hb0 hlt;obtain⟨y0,hy0⟩:=live b0 hw0;have:=k.inj b0 b y0 y m0 m trivial trivial (by omega) (by omega) hy0 hy hm0 hm (by omega);subst this;exact absurd hw0 hws
  ·obtain⟨y0,hy0⟩:=live b' c;have hlt:=ae0 b' c;rw[CP b' hlt]at hm';exact k.inj b b' y y0 m m' trivial trivial (by omega) (by omega) hy hy0 hm hm' hB
 refine⟨ι1,e.ws,hv,?_,?_⟩
 ·refine⟨o.n2,λb hb=>k1.fresh b (by rw[c2];exact hb),λb x _ hb hx=> ?_,λb b' x x' m m' _ _ hb hb' hx hx' hm hm' hB=> ?_⟩
  ·have hb:b<e.nx':=hb;rcases get' b x hb hx with⟨tb,y,q1,q2,q3,rfl⟩|⟨q1,q2,q3,q4⟩
   ·obtain⟨m,ob,z1,z2,z3⟩:=k1.blk b y trivial (by omega) q2;exact⟨m,ob,z1,z2,Vv q3 z3⟩
   ·obtain⟨m,ob,z1,z2,z3⟩:=k.blk b x trivial (by omega) q4;exact⟨m,ob,hle _ _ z1,by rw[stays b x m q1 q2 q4 z1];exact z2,z3.mono hle⟩
  ·have hb:b<e.nx':=hb;have hb':b'<e.nx':=hb';rcases get' b x hb hx with⟨tb,y,q1,q2,q3,rfl⟩|⟨q1,q2,q3,q4⟩<;>rcases get' b' x' hb' hx' with⟨tb',y',r1,r2,r3,rfl⟩|⟨r1,r2,r3,r4⟩
   ·exact k1.inj b b' y y' m m' trivial trivial (by omega) (by omega) q2 r2 hm hm' hB
   ·rw[CP b' r1]at hm';exact(apart b' b y x' m' m r1 r2 r4 hm' hb q2 (o.bo _ q1).2 hm hB.symm).symm
   ·rw[CP b q1]at hm;exact apart b b' y' x m m' q1 q2 q4 hm hb' r2 (o.bo _ r1).2 hm' hB
   ·rw[CP b q1]at hm;rw[CP b' r1]at hm';exact k.inj b b' x x' m m' trivial trivial (by omega) (by omega) q4 r4 hm hm' hB
 ·exact{
   next:=by show h.next<=e.nx';omega
   CP:=λb hb=>CP b (by omega)
   log:=rfl
   ln:=rfl
   kept:=λb hb hnw=>kept' b (by omega) hnw
   live:=λb hb _=>live b hb
   size:=E.size
   heap:=λi hi hno=>E.heap i hi λb hb m hm=>hno b (hWs b hb (nlt b m hm)) m hm
   new:=λb m hb hm=>by
    rcases E.new b m (by rw[hnx];omega) hm with q|⟨b0,hb0,m0,hm0,hB0⟩
    ·exact .inl q
    ·exact .inr ⟨b0,hWs b0 hb0 (nlt b0 m0 hm0),m0,hm0,hB0⟩
   os:=E.os
   tape:=E.tape
   out:=E.out}
end
def xH (P:Program) (e:gW):Prop:=∀f args h v h',useM e f args h=some (.ok v h')->∀ι w (vs:Array Value),WR ι h w->GI ι->gG ι args vs.toList->
 Bz P (callFunc f vs) w (CR ι h w v h')
theorem useM_inv {e:gW} {f:Nat} {args v:AV} {h h':H} (u:useM e f args h=some (.ok v h')):f=e.f/\h.next=e.nx/\args=e.args/\jo h e.bi=true/\v=e.v/\h'=rM e h:=by
 unfold useM at u;cases hc:(aA (Nat.beq f e.f) (aA (Nat.beq h.next e.nx) (aA (jU args e.args) (jo h e.bi))))
 ·rw[hc]at u;cases u
 ·rw[hc]at u;cases u;obtain⟨h1,hc⟩:=aj hc;obtain⟨h2,hc⟩:=aj hc;obtain⟨h3,h4⟩:=aj hc;exact⟨aR h1,aR h2,Jv _ _ h3,h4,rfl,rfl⟩
theorem Lc {P:Program} {ext:Nat->Nat} {iP:Nat->AV->H->Option bF} {N:Nat} {e:gW} (lq:P.follows .mixedOrders=true) (hprog:fC P=true)
 (hext:mO P (bY P ext iP)) (sW:fO P (bY P ext iP)) (hf:(fnOf P e.f).isSome=true) (hno:iP e.f e.args (nA e)=none) (ho:P6 e=true)
 (hrun:Vx e ((run (bY P ext iP) (Nat.succ N)).call e.f e.args (nA e))=true):xH P e:=by
 intro f args h v h' u ι w vs k hG ha;obtain⟨rfl,hn,rfl,hag,rfl,rfl⟩:=useM_inv u;obtain⟨x,hx⟩:=tF.1 hf;have o:=Vy ho;cases hr:(run (bY P ext iP) (Nat.succ N)).call e.f e.args (nA e)with
 |fail=>rw[hr]at hrun;cases hrun
 |ok v1 h1=>rw[hr]at hrun;have hen:=kD (nu P ext iP) lq (fnsOk_of hprog) hext sW (N:=N) (f:=e.f) (x:=x) hx hno hr (vs:=vs) (aaM o hag hn k) hG ha;exact .inr ⟨e.f,vs,w,xk (nu P ext iP) (fnsOk_of hprog) hx vs w,hen.mono λv' w' hcr=>P7 o hrun k hn hag hcr⟩
def YM (l:List gW) (f:Nat) (args:AV) (h:H):Option bF:=List.rec (motive:=λ_=>Option bF) none
 (λe _ ih=>Option.rec (motive:=λ_=>Option bF) ih some (useM e f args h)) l
theorem Ld {f:Nat} {args:AV} {h:H} {r:bF}:∀{l:List gW},YM l f args h=some r->∃e∈l,useM e f args h=some r
 |[],u=>by cases u
 |e::l,u=>by
  have u:Option.rec (motive:=λ_=>Option bF) (YM l f args h) some (useM e f args h)=some r:=u;cases hu:useM e f args h with
  |none=>rw[hu]at u;obtain⟨e',h1,h2⟩:=Ld u;exact⟨e',by simp[h1],h2⟩
  |some r'=>rw[hu]at u;cases u;exact⟨e,by simp,hu⟩
theorem YN {P:Program} {ext:Nat->Nat} {l:List gW} (h:∀e∈l,xH P e):fO P (bY P ext (YM l)):=by intro f args hh v h' u ι w vs k hG ha;obtain⟨e,h1,h2⟩:=Ld u;exact h e h1 f args hh v h' h2 ι w vs k hG ha
theorem akF {P:Program}:∀e∈([]:List gW),xH P e:=λ_ h=>by cases h
theorem ai6 {P:Program} {e:gW} {l:List gW} (h:xH P e) (r:∀e∈l,xH P e):∀x∈e::l,xH P x:=λx hx=>by
 rcases aT.1 hx with rfl|hx;·exact h
 ·exact r x hx
end
noncomputable section
def Vz (f:AV->H->Bool):bF->Bool:=bF.rec (motive:=λ_=>Bool) false (λv h=>aA (f v h) (Em (nat_lit 64) h.log))
theorem YO {f:AV->H->Bool} {r:bF} (h:Vz f r=true):∃v h',r= .ok v h'/\f v h'=true/\∀x∈h'.log,64<=x:=by
 cases r with
 |fail=>cases h
 |ok v h'=>have h:aA (f v h') (Em (nat_lit 64) h'.log)=true:=h;obtain⟨h1,h2⟩:=aj h;exact⟨v,h',rfl,h1,En h2⟩
theorem Jy {P:Program} {ext:Nat->Nat} {iP:Nat->AV->H->Option bF} {N f:Nat} {l:List (Nat×List Value)} (lq:P.follows .mixedOrders=true) (hprog:fC P=true) (hext:mO P (bY P ext iP)) (sW:fO P (bY P ext iP))
 (hf:(fnOf P f).isSome=true) {args:AV} (hno:iP f args (lu l)=none) {q:AV->H->Bool}
 (e:Vz q ((run (bY P ext iP) (Nat.succ N)).call f args (lu l))=true) {w:World} (hl:∀p∈l,p.1<64/\p.2.length<=4000000/\TabAt w p.1 p.2) {vs:Array Value} (ha:gG (qy w) args vs.toList):
 Calls P f vs w λo w'=>∃v' v h' ι',o= .returned v'/\q v h'=true/\VR ι' v v'/\WR ι' h' w'/\RowKit.Below w.heap.size w w':=by
 obtain⟨x,hx⟩:=tF.1 hf;obtain⟨v,h',hr,hq,Vp⟩:=YO e;have hc:=(kD (nu P ext iP) lq (fnsOk_of hprog) hext sW (N:=N) (f:=f) (x:=x) hx hno hr (vs:=vs) (Jt hl) (yU w) ha).calls;refine hc.mono λo w' ho=> ?_;obtain⟨v',rfl,ι',W,hv,hw,hE⟩:=ho;have hW:W=h'.log:=by have h1:=hE.log;have h2:(lu l).log=[]:=rfl;rw[h2,iL]at h1;exact h1.symm
 refine⟨v',v,h',ι',rfl,hq,hv,hw,hE.os,hE.tape,hE.out,hE.size,λk hk=>hE.heap k hk λb hb m hm=> ?_⟩;have:=Vp b (hW▸hb);unfold qy at hm;rw[ak (by omega)]at hm;cases hm
def Le (k:Nat):E (Option AV) k->Bool:=
 Nat.rec (motive:=λk=>E (Option AV) k->Bool) (λe=>match e with|none=>true|some _=>false) (λ_ ih e=>aA (ih e.a) (aA (ih e.b) (aA (ih e.c) (ih e.d)))) k
theorem vL:∀(k:Nat) (e:E (Option AV) k),Le k e=true->∀p,E.get k p e=none
 |0,e,h,p=>by
  show(e:Option AV)=none;cases e with
  |none=>rfl
  |some x=>cases h
 |k+1,e,h,p=>by
  have h:aA (Le k e.a) (aA (Le k e.b) (aA (Le k e.c) (Le k e.d)))=true:=h;obtain⟨h1,h⟩:=aj h;obtain⟨h2,h⟩:=aj h;obtain⟨h3,h4⟩:=aj h;cases p with
  |z=>exact vL k e.a h1 .z
  |s d p=>rw[E.BH];cases d;exact vL k _ h1 p;exact vL k _ h2 p;exact vL k _ h3 p;exact vL k _ h4 p
def wO (k:Nat):E (Option AV) k->Nat->List (Nat×AV):=
 Nat.rec (motive:=λk=>E (Option AV) k->Nat->List (Nat×AV)) (λe b=>match e with|none=>[]|some x=>[(b,x)])
  (λk ih e b=>Bool.rec (List.append (ih e.a b) (List.append (ih e.b (Nat.add b (Nat.pow 4 k))) (List.append (ih e.c (Nat.add b (Nat.mul 2 (Nat.pow 4 k)))) (ih e.d (Nat.add b (Nat.mul 3 (Nat.pow 4 k))))))) [] (Le (Nat.succ k) e)) k
theorem yY:∀(k:Nat) (e:E (Option AV) k) (b i:Nat) (x:AV),i<4^k->E.get k (path k i) e=some x->(b+i,x)∈wO k e b
 |0,e,b,i,x,hi,h=>by
  have hi:i=0:=by simpa using hi
  subst hi;have h:(e:Option AV)=some x:=h;subst h;exact dM.2 rfl
 |k+1,e,b,i,x,hi,h=>by
  have hl:wO (k+1) e b=Bool.rec (List.append (wO k e.a b) (List.append (wO k e.b (Nat.add b (Nat.pow 4 k))) (List.append (wO k e.c (Nat.add b (Nat.mul 2 (Nat.pow 4 k)))) (wO k e.d (Nat.add b (Nat.mul 3 (Nat.pow 4 k))))))) [] (Le (Nat.succ k) e):=rfl;rw[hl];cases hem:Le (Nat.succ k) e with
  |true=>rw[vL _ _ hem]at h;cases h
  |false=>
   show(b+i,x)∈wO k e.a b++(wO k e.b (b+4^k)++(wO k e.c (b+2*4^k)++wO k e.d (b+3*4^k)))
   rw[AO,E.BH]at h;have hp:0<4^k:=Nat.pow_pos (by omega);have hd:i/4^k<4:=Nat.div_lt_of_lt_mul (by rw[Nat.pow_succ]at hi;exact hi);have hm:=Nat.mod_lt i hp;have hdm:=Nat.div_add_mod i (4^k);have:i/4^k=0\/i/4^k=1\/i/4^k=2\/i/4^k=3:=(λq (h:q<4)=>(by omega:q=0\/q=1\/q=2\/q=3)) _ hd;simp only[fZ];rcases this with c|c|c|c<;>rw[c]at h hdm;·have:=yY k e.a b _ x hm h;rw[show b+i=b+i%4^k by omega];exact .inl this
   ·have:=yY k e.b (b+4^k) _ x hm h;rw[show b+i=b+4^k+i%4^k by omega];exact .inr (.inl this)
   ·have:=yY k e.c (b+2*4^k) _ x hm h;rw[show b+i=b+2*4^k+i%4^k by omega];exact .inr (.inr (.inl this))
   ·have:=yY k e.d (b+3*4^k) _ x hm h;rw[show b+i=b+3*4^k+i%4^k by omega];exact .inr (.inr (.inr this))
theorem first_none:∀{l:List MapEntry} {k:Value},(∀x∈l,x.key≠k)->bI l k none
 |[],_,_=>rfl
 |x::l,_,h=> .inr ⟨h x (by simp),first_none λy hy=>h y (by simp[hy])⟩
theorem nI {ι:aX} {h:H} {w:World} {b off c:Nat} {v:Value} {el:Nat} {ro:Bool} {n d:Nat} {t:E AV d} (k:WR ι h w) (hv:VR ι (.ptr b off) v) (hb:h.get b=some (.cells el ro n d t)) (hc:off+c<=n):
 ∃B o,v= .pointer (some ⟨B,o,none⟩)/\∀i,i<c->∃x,w.cell? ⟨B,o+i,none⟩=some x/\VR ι (E.get d (path d (off+i)) t) x:=by
 obtain⟨m,hm,rfl⟩:=hv;obtain⟨arr,iY,lo,hi,hw,h1,h2,h3,h4,h5⟩:=k.cells trivial hm hb;refine⟨m.B,m.sh+off,rfl,λi hi=>⟨arr.getD (m.sh+(off+i)) undef,?_,h4 (off+i) (by omega)⟩⟩;rw[show m.sh+off+i=m.sh+(off+i)by omega];have hlt:m.sh+(off+i)<arr.size:=by omega
 unfold World.cell?;rw[hw];simp[Array.getD,hlt]
theorem fP {ι:aX} {h:H} {w:World} {b off len es:Nat} {z:Bool} {v:Value} {el:Nat} {ro:Bool} {n d:Nat} {t:E AV d} (k:WR ι h w) (hv:VR ι (.slice b off len es z) v) (hlen:0<len) (hb:h.get b=some (.cells el ro n d t)) (hc:off+len*es<=n):
 ∃B o cap,v= .slice (some ⟨B,o,none⟩) len cap/\len<=cap/\∀i,i<len*es->∃x,w.cell? ⟨B,o+i,none⟩=some x/\VR ι (E.get d (path d (off+i)) t) x:=by
 obtain⟨m,y,cap,hm,rfl,hle,hz,hy⟩:=hv;obtain⟨rfl,Uq⟩:y=⟨m.B,m.sh+off,none⟩/\m.sh+off+cap*es<=m.cs:=by
  rcases hy with hy|hy;·omega
  ·exact hy
 obtain⟨arr,iY,lo,hi,hw,h1,h2,h3,h4,h5⟩:=k.cells trivial hm hb;refine⟨m.B,m.sh+off,cap,rfl,hle,λi hi=>⟨arr.getD (m.sh+(off+i)) undef,?_,h4 (off+i) (by omega)⟩⟩;rw[show m.sh+off+i=m.sh+(off+i)by omega];have hlt:m.sh+(off+i)<arr.size:=by omega
 unfold World.cell?;rw[hw];simp[Array.getD,hlt]
end
noncomputable section
theorem WR.below {ι:aX} {h:H} {w w':World} (k:WR ι h w) (hb:RowKit.Below w.heap.size w w'):WR ι h w':=
 ⟨k.most,k.fresh,λb x d hl hx=>by
  obtain⟨m,o,z1,z2,z3⟩:=k.blk b x d hl hx;exact⟨m,o,z1,(hb.block m.B (dQ.1 z2).1).trans z2,z3⟩,k.inj⟩
def h0 (n:Nat):H:=⟨E.rep none hd,n,nat_lit 0,[]⟩
theorem Lf {n:Nat} (h1:64<=n) (h2:n<=65536) (w:World):WR (qy w) (h0 n) w:=
 have e:∀b,(h0 n).get b=none:=λ_=>E.uV _ _ _
 ⟨h2,λb hb=>by have hb:n<=b:=hb;unfold qy;rw[ak (by omega)],λb x _ _ hx=>(by rw[e]at hx;cases hx),λb _ x _ _ _ _ _ _ _ hx=>(by rw[e]at hx;cases hx)⟩
def o7 (e:gW) (q:AV->H->Bool):bF->Bool:=bF.rec (motive:=λ_=>Bool) false (λv h=>aA (q v h) (Vx e (.ok v h)))
theorem ug {P:Program} {ext:Nat->Nat} {iP:Nat->AV->H->Option bF} {N:Nat} {e:gW} (lq:P.follows .mixedOrders=true) (hprog:fC P=true)
 (hext:mO P (bY P ext iP)) (sW:fO P (bY P ext iP)) (hws:e.ws=[]) {q:AV->H->Bool}
 (hall:aA (fnOf P e.f).isSome (aA (iP e.f e.args (nA e)).isNone (aA (P6 e) (o7 e q ((run (bY P ext iP) (Nat.succ N)).call e.f e.args (nA e)))))=true)
 {h:H} {ι:aX} {w:World} (k:WR ι h w) (hG:GI ι) (hn:h.next=e.nx) (hag:jo h e.bi=true) {vs:Array Value} (ha:gG ι e.args vs.toList):
 Calls P e.f vs w λo w'=>∃v',o= .returned v'/\(∃v1 h1 ι1,q v1 h1=true/\VR ι1 v1 v'/\WR ι1 h1 w')/\(∃ι',WR ι' (rM e h) w'/\GI ι'/\VR ι' e.v v')/\RowKit.Below w.heap.size w w':=by
 obtain⟨hf,hall⟩:=aj hall;obtain⟨hno,hall⟩:=aj hall;obtain⟨ho,hrun⟩:=aj hall;obtain⟨x,hx⟩:=tF.1 hf;have o:=Vy ho;cases hr:(run (bY P ext iP) (Nat.succ N)).call e.f e.args (nA e)with
 |fail=>rw[hr]at hrun;cases hrun
 |ok v1 h1=>
  rw[hr]at hrun;obtain⟨hq,hc⟩:=aj hrun;refine(kD (nu P ext iP) lq (fnsOk_of hprog) hext sW (N:=N) (f:=e.f) (x:=x) hx (CY.1 hno) hr (vs:=vs) (aaM o hag hn k) hG ha).calls.mono ?_;rintro oo w' ⟨v',rfl,hcr⟩;have ai7:=P7 o hc k hn hag hcr;obtain⟨ι1,_,hv1,hw1,_⟩:=hcr;obtain⟨ι2,W,hv2,hw2,hE⟩:=ai7;have hW:W=[]:=by have h1:=hE.log;have h2:(rM e h).log=List.append e.ws h.log:=rfl;rw[h2,hws]at h1;have:=dX List.length h1;rw[bT]at this;exact List.length_eq_zero_iff.1 (by have h3:(List.append ([]:List Nat) h.log).length=h.log.length:=rfl;omega)
  refine⟨v',rfl,⟨v1,h1,ι1,hq,hv1,hw1⟩,⟨ι2,hw2,hG.mono (hE.le k.fresh),hv2⟩,hE.os,hE.tape,hE.out,hE.size,λj hj=>hE.heap j hj λb hb=> ?_⟩;rw[hW]at hb;cases hb
def all2 {α β:Type} (q:α->β->Bool) (l:List α):List β->Bool:=List.rec (motive:=λ_=>List β->Bool) (λ_=>true) (λx _ ih r=>List.rec (motive:=λ_=>Bool) false (λy r _=>aA (q x y) (ih r)) r) l
theorem P8 {α β:Type} {q:α->β->Bool}:∀{l:List α} {r:List β},all2 q l r=true->∀x∈l,∃y,q x y=true
 |[],_,_,x,hx=>by cases hx
 |_::_,[],e,_,_=>by cases e
 |a::l,b::r,e,x,hx=>by
  have e:aA (q a b) (all2 q l r)=true:=e;obtain⟨h1,h2⟩:=aj e;rcases aT.1 hx with rfl|hx;·exact⟨b,h1⟩
  ·exact P8 h2 x hx
theorem P9 {P:Program} {ext:Nat->Nat} {iP:Nat->AV->H->Option bF} {N:Nat} {tabs:List (Nat×List Value)} (lq:P.follows .mixedOrders=true) (hprog:fC P=true)
 (hext:mO P (bY P ext iP)) (sW:fO P (bY P ext iP)) (ht:xG tabs=true) {l:List Known} (r:List (List Nat))
 (h:all2 (λ(e:Known) R=>aA (fnOf P e.f).isSome (aA (iP e.f e.args (lu tabs)).isNone (Vs e R ((run (bY P ext iP) (Nat.succ N)).call e.f e.args (lu tabs))))) l r=true):∀e∈l,oZ P tabs e:=λe he=>by
 obtain⟨R,h⟩:=P8 h e he;obtain⟨h1,h2⟩:=aj h;obtain⟨h3,h4⟩:=aj h2;exact NQ (N:=N) lq hprog hext sW h1 (CY.1 h3) ht h4
theorem YP {P:Program} {ext:Nat->Nat} {iP:Nat->AV->H->Option bF} {N:Nat} (lq:P.follows .mixedOrders=true) (hprog:fC P=true)
 (hext:mO P (bY P ext iP)) (sW:fO P (bY P ext iP)) {l:List gW}
 (h:Lb (λ(e:gW)=>aA (fnOf P e.f).isSome (aA (iP e.f e.args (nA e)).isNone (aA (P6 e) (Vx e ((run (bY P ext iP) (Nat.succ N)).call e.f e.args (nA e)))))) l=true):∀e∈l,xH P e:=λe he=>by
 obtain⟨h1,h2⟩:=aj (vK h e he);obtain⟨h3,h4⟩:=aj h2;obtain⟨h5,h6⟩:=aj h4;exact Lc (N:=N) lq hprog hext sW h1 (CY.1 h3) h5 h6
theorem kE {α:Type} {p:α->Prop} {a b:List α} (h:∀e∈a,p e) (k:∀e∈b,p e):∀e∈List.append a b,p e:=λe he=>(fZ.1 he).elim (h e) (k e)
