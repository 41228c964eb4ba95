/- The machine's soundness: the table of known calls is so, where each was run. -/
import Derived.Test.YtocaiijbhepnnaaGreatDoorAm44
namespace Go.Proofs.YtocaiijbhepnnaaGreatDoor.Am
theorem Kk:∀t:AV,Fb 0 t=t:=by
 intro t;induction t with
 |sH y x ih=>show AV.sH y (Fb 0 x)=_;rw[ih]
 |agg x ih=>show AV.agg (Fb 0 x)=_;rw[ih]
 |fT x ih=>show AV.fT (Fb 0 x)=_;rw[ih]
 |cons x y XT ihy=>show AV.cons (Fb 0 x) (Fb 0 y)=_;rw[XT,ihy]
 |_=>rfl
theorem Pb {ι ι2:aV} {a t:AV} (h:dK [] a t=true) {l:List Value} (hl:fQ ι a l):fQ ι2 t l:=by
 have hm:Moved [] ι ι2 0:=λt h1 h2=>by simp at h2;omega
 have:=(yS hm a t h).2 l hl;rw[Kk]at this;exact this
def Ec:List Value->Bool
 |[]=>true
 | .int _ _::r=>Ec r
 |_::_=>false
theorem Kl {ι:aV}:∀{vs l:List Value},Ec vs=true->fQ ι (tQ vs) l->l=vs
 |[],l,_,h=>oh h
 |v::vs,l,hi,h=>by
  obtain⟨x,xs,rfl,hx,hxs⟩:=gG (show fQ ι (.cons (TL v) (tQ vs)) l from h);cases v with
  |int k n=>have hx:x= .int k n:=hx;rw[hx,Kl (ι:=ι) (show Ec vs=true from hi) hxs]
  |_=>cases hi
noncomputable def xC:List (Nat×List Value)->Bool
 |[]=>true
 |p::r=>aA (Nat.ble (Nat.succ p.1) 64) (aA (Nat.ble p.2.length 4000000) (aA (Ec p.2) (xC r)))
theorem Ga:∀{l:List (Nat×List Value)},xC l=true->∀p∈l,p.1<64/\p.2.length<=4000000/\Ec p.2=true
 |[],_,p,h=>by cases h
 |q::l,h,p,hp=>by
  have h:aA (Nat.ble (Nat.succ q.1) 64) (aA (Nat.ble q.2.length 4000000) (aA (Ec q.2) (xC l)))=true:=h;obtain⟨h1,h⟩:=ak h;obtain⟨h2,h⟩:=ak h;obtain⟨h3,h4⟩:=ak h;rw[aD]at h1 h2;rcases aR.1 hp with rfl|hp;·exact⟨h1,h2,h3⟩
  ·exact Ga h4 p hp
theorem Km {h:H} {ι:aV} {w:World} (k:WR ι h w) (hG:GI ι):∀{l:List (Nat×List Value)},(∀p∈l,p.1<64/\p.2.length<=4000000/\Ec p.2=true)->Ki h l=true->∀p∈l,TabAt w p.1 p.2
 |[],_,_,p,hp=>by cases hp
 |q::l,hq,ht,p,hp=>by
  have ht:aA (match h.get q.1 with|some (.cells _ _ n d t)=>aA (Nat.beq n q.2.length) (dK [] (BN d t n (nat_lit 0)) (tQ q.2))|_=>false) (Ki h l)=true:=ht;obtain⟨h1,h2⟩:=ak ht;rcases aR.1 hp with rfl|hp
  ·obtain⟨c1,c2,c3⟩:=hq p (by simp);split at h1
   ·rename_i el ro n d t hg;obtain⟨h3,h4⟩:=ak h1;have h3:=aI h3;obtain⟨cs,hι⟩:=hG p.1 c1;obtain⟨arr,iV,lo,hi,hw,a1,a2,a3,a4,_⟩:=k.cells trivial hι hg;have hr:=l7 (ι:=ι) (arr:=arr) (sh:=0) n 0 (λj _ hj=>a4 j (by omega));have hr2:fQ ι (tQ p.2) _:=Pb h4 hr;have ahx:=Kl c3 hr2;have a1:arr.size=cs:=a1;have a2:0+n<=cs:=a2;refine⟨arr,iV,lo,hi,hw,by omega,λi hi=> ?_⟩;rw[<-ahx];simp[List.getD_eq_getElem?_getD,show i<n by omega]
   ·cases h1
  ·exact Km k hG (λp hp=>hq p (by simp[hp])) h2 p hp
def oL (P:Program) (tabs:List (Nat×List Value)) (e:Known):Prop:=∀f args h v h',useK tabs e f args h=some (.ok v h')->∀ι w (vs:Array Value),WR ι h w->GI ι->fQ ι args vs.toList->
 Bb P (callFunc f vs) w (CR ι h w v h')
theorem rz.mono {P:Program} {f:Nat} {vs:Array Value} {w:World} {R R':Value->World->Prop} (hR:∀v w,R v w->R' v w) (h:rz P f vs w R):rz P f vs w R':=λkind cs hc=>let⟨fr,v,w',q,s,t⟩:=h kind cs hc;⟨fr,v,w',hR _ _ q,s,t⟩
theorem MV {P:Program} {ext:Nat->Nat} {iK:Nat->AV->H->Option bB} {N:Nat} {tabs:List (Nat×List Value)} {e:Known} {R:List Nat} (pW:P.follows .mixedOrders=true) (hprog:gV P=true)
 (hext:qw P (dL P ext iK)) (sU:gM P (dL P ext iK)) (hf:(fnOf P e.f).isSome=true) (hno:iK e.f e.args (kV tabs)=none) (ht:xC tabs=true)
 (hrun:Uw e R ((run (dL P ext iK) (Nat.succ N)).call e.f e.args (kV tabs))=true):oL P tabs e:=by
 intro f args h v h' u ι w vs k hG ha;obtain⟨rfl,hargs,hroom,hn,htab,rfl,rfl⟩:=use_inv u;obtain⟨x,hx⟩:=tu.1 hf;have htk:=Ga ht;have hat:=Km k hG htk htab;cases hr:(run (dL P ext iK) (Nat.succ N)).call e.f e.args (kV tabs)with
 |fail=>rw[hr]at hrun;cases hrun
 |ok v1 h1=>rw[hr]at hrun;have hvs:fQ (sW w) e.args vs.toList:=Pb hargs ha;have hen:=kr (mR P ext iK) pW (fnsOk_of hprog) hext sU (N:=N) (f:=e.f) (x:=x) hx hno hr (vs:=vs) (IJ λp hp=>⟨(htk p hp).1,(htk p hp).2.1,hat p hp⟩) (IK w) hvs;exact .inr ⟨e.f,vs,w,wZ (mR P ext iK) (fnsOk_of hprog) hx vs w,hen.mono λv' w' hcr=>Ux hrun k hn hroom hcr⟩
noncomputable section
def MW (tabs:List (Nat×List Value)) (f:Nat) (args:AV) (h:H):List Known->Option bB:=List.rec (motive:=λ_=>Option bB) none
 (λe _ ih=>Option.rec (motive:=λ_=>Option bB) ih some (useK tabs e f args h))
def uf (tabs:List (Nat×List Value)) (tbl:List (Nat×List Known)) (f:Nat) (args:AV) (h:H):Option bB:=List.rec (motive:=λ_=>Option bB) none
 (λp _ ih=>Bool.rec ih (MW tabs f args h p.2) (Nat.beq f p.1)) tbl
theorem Kn {tabs:List (Nat×List Value)} {f:Nat} {args:AV} {h:H} {r:bB}:∀{l:List Known},MW tabs f args h l=some r->∃e∈l,useK tabs e f args h=some r
 |[],u=>by cases u
 |e::l,u=>by
  have u:Option.rec (motive:=λ_=>Option bB) (MW tabs f args h l) some (useK tabs e f args h)=some r:=u;cases hu:useK tabs e f args h with
  |none=>rw[hu]at u;obtain⟨e',h1,h2⟩:=Kn u;exact⟨e',by simp[h1],h2⟩
  |some r'=>rw[hu]at u;cases u;exact⟨e,by simp,hu⟩
theorem Ko {tabs:List (Nat×List Value)} {f:Nat} {args:AV} {h:H} {r:bB}:∀{tbl:List (Nat×List Known)},uf tabs tbl f args h=some r->∃p∈tbl,∃e∈p.2,useK tabs e f args h=some r
 |[],u=>by cases u
 |p::l,u=>by
  have u:Bool.rec (uf tabs l f args h) (MW tabs f args h p.2) (Nat.beq f p.1)=some r:=u;cases hb:Nat.beq f p.1;·rw[hb]at u;obtain⟨q,h1,e,h2,h3⟩:=Ko u;exact⟨q,by simp[h1],e,h2,h3⟩
  ·rw[hb]at u;obtain⟨e,h2,h3⟩:=Kn u;exact⟨p,by simp,e,h2,h3⟩
theorem lI {P:Program} {ext:Nat->Nat} {tabs:List (Nat×List Value)} {tbl:List (Nat×List Known)} (h:∀p∈tbl,∀e∈p.2,oL P tabs e):gM P (dL P ext (uf tabs tbl)):=by intro f args hh v h' u ι w vs k hG ha;obtain⟨p,h1,e,h2,h3⟩:=Ko u;exact h p h1 e h2 f args hh v h' h3 ι w vs k hG ha
end
noncomputable section
def Uy (a b:Nat->AV->H->Option bB) (f:Nat) (args:AV) (h:H):Option bB:=Option.rec (motive:=λ_=>Option bB) (b f args h) some (a f args h)
theorem Ck {P:Program} {ext:Nat->Nat} {a b:Nat->AV->H->Option bB} (ha:gM P (dL P ext a)) (hb:gM P (dL P ext b)):gM P (dL P ext (Uy a b)):=by
 intro f args h v h' u;have u:Option.rec (motive:=λ_=>Option bB) (b f args h) some (a f args h)=some (.ok v h'):=u;cases hx:a f args h with
 |none=>rw[hx]at u;exact hb f args h v h' u
 |some r=>rw[hx]at u;cases u;exact ha f args h v h' hx
variable {P:Program} {tabs:List (Nat×List Value)}
theorem ahy:∀e∈([]:List Known),oL P tabs e:=λ_ h=>by cases h
theorem ags {e:Known} {l:List Known} (h:oL P tabs e) (r:∀e∈l,oL P tabs e):∀x∈e::l,oL P tabs x:=λx hx=>by
 rcases aR.1 hx with rfl|hx;·exact h
 ·exact r x hx
theorem pY:∀p∈([]:List (Nat×List Known)),∀e∈p.2,oL P tabs e:=λ_ h=>by cases h
theorem gy {f:Nat} {l:List Known} {r:List (Nat×List Known)} (h:∀e∈l,oL P tabs e) (k:∀p∈r,∀e∈p.2,oL P tabs e):∀p∈(f,l)::r,∀e∈p.2,oL P tabs e:=λp hp=>by
 rcases aR.1 hp with rfl|hp;·exact h
 ·exact k p hp
end
noncomputable section
def jQ:AV->AV->Bool
 | .bool a, .bool b=>Fh a b
 | .int k n, .int k' n'=>aA (Nat.beq (sS k) (sS k')) (eqI n n')
 | .str s, .str s'=>s.eq s'
 | .ptr a o, .ptr t o'=>aA (Nat.beq a t) (Nat.beq o o')
 | .nG, .nG=>true
 | .slice a o l e z, .slice t o' l' e' z'=>aA (Nat.beq a t) (aA (Nat.beq o o') (aA (Nat.beq l l') (aA (Nat.beq e e') (Fh z z'))))
 | .jm, .jm=>true
 | .qL, .qL=>true
 | .qM, .qM=>true
 | .qc, .qc=>true
 | .sH y a, .sH y' t=>aA (Nat.beq y y') (jQ a t)
 | .agg a, .agg t=>jQ a t
 | .fT a, .fT t=>jQ a t
 | .nil, .nil=>true
 | .cons a r, .cons t q=>aA (jQ a t) (jQ r q)
 |_,_=>false
theorem IQ:∀(a t:AV),jQ a t=true->a=t:=by
 intro a;induction a with
 |bad=>intro t h;cases t<;>simp[jQ]at h
 |unk=>intro t h;cases t<;>simp[jQ]at h
 |bool b=>intro t h;cases t<;>simp only[jQ,aZ]at h;obtain rfl:=vI h;rfl
 |int k n=>intro t h;cases t<;>simp only[jQ,aZ]at h;obtain⟨h1,h2⟩:=ak h;obtain rfl:=gQ h1;obtain rfl:=Me h2;rfl
 |str s=>intro t h;cases t<;>simp only[jQ,aZ]at h;obtain rfl:=(Str.eq_iff _ _).1 h;rfl
 |ptr b o=>intro t h;cases t<;>simp only[jQ,aZ]at h;obtain⟨h1,h2⟩:=ak h;obtain rfl:=aI h1;obtain rfl:=aI h2;rfl
 |nG=>intro t h;cases t<;>simp only[jQ,aZ]at h;rfl
 |slice b o l e z=>intro t h;cases t<;>simp only[jQ,aZ]at h;obtain⟨h1,h⟩:=ak h;obtain⟨h2,h⟩:=ak h;obtain⟨h3,h⟩:=ak h;obtain⟨h4,h5⟩:=ak h;obtain rfl:=aI h1;obtain rfl:=aI h2;obtain rfl:=aI h3;obtain rfl:=aI h4;obtain rfl:=vI h5;rfl
 |jm=>intro t h;cases t<;>simp only[jQ,aZ]at h;rfl
 |map b=>intro t h;cases t<;>simp[jQ]at h
 |qL=>intro t h;cases t<;>simp only[jQ,aZ]at h;rfl
 |fn f x c=>intro t h;cases t<;>simp[jQ]at h
 |wE l=>intro t h;cases t<;>simp[jQ]at h
 |qM=>intro t h;cases t<;>simp only[jQ,aZ]at h;rfl
 |sH y x ih=>intro t h;cases t<;>simp only[jQ,aZ]at h;obtain⟨h1,h2⟩:=ak h;obtain rfl:=aI h1;rw[ih _ h2]
 |qc=>intro t h;cases t<;>simp only[jQ,aZ]at h;rfl
 |agg x ih=>intro t h;cases t<;>simp only[jQ,aZ]at h;rw[ih _ h]
 |fT x ih=>intro t h;cases t<;>simp only[jQ,aZ]at h;rw[ih _ h]
 |nil=>intro t h;cases t<;>simp only[jQ,aZ]at h;rfl
 |cons x r XT ihr=>intro t h;cases t<;>simp only[jQ,aZ]at h;obtain⟨h1,h2⟩:=ak h;rw[XT _ h1,ihr _ h2]
def eqB:wF->TB->Bool
 | .cells el false n d t, .cells iV l=>aA (Nat.beq el iV) (aA (Nat.beq n (llen l)) (aA (Nat.ble n fH) (jQ (BN d t n (nat_lit 0)) l)))
 |_,_=>false
theorem Uz {ι:aV} {x:wF} {tb:TB} (h:eqB x tb=true) {o:Obj} {m:Nm} (hb:BR ι x o m):BR ι (MU 0 tb) o m:=by
 unfold eqB at h;split at h
 ·rename_i el n dd t iV l;obtain⟨h1,h⟩:=ak h;obtain⟨h2,h⟩:=ak h;obtain⟨h3,h4⟩:=ak h;obtain rfl:=aI h1;have h2:=aI h2;rw[aD]at h3;have h3:n<=4000000:=h3;obtain⟨arr,iV,lo,hi,rfl,a1,a2,a3,a4,a5⟩:=hb;have hr:=l7 (ι:=ι) (arr:=arr) (sh:=m.sh) n 0 (λj _ hj=>a4 j (by omega));have hr2:fQ ι l ((List.range n).map λj=>arr.getD (m.sh+0+j) undef):=by rw[<-IQ _ _ h4];exact hr
  refine⟨arr,iV,lo,hi,rfl,a1,by rw[<-h2];exact a2,jW (by rw[<-h2];exact h3),λi hi=> ?_,⟨a5.1,λc=>absurd c (by have:=Di (llen l);omega),λc=>(by cases c)⟩⟩;have hi:i<n:=by rw[h2];exact hi
  have hll:=gq hr2;rw[bM,mq]at hll;rw[Kk,Fa,jT (llen l) (jW (by rw[<-h2];exact h3)) hr2 0 i _ (by simp;omega) (by omega),au (by simp;omega),mJ];have:=gu hr2 i;have e:((List.range n).map λj=>arr.getD (m.sh+0+j) undef).getD i undef=arr.getD (m.sh+i) undef:=by simp[List.getD_eq_getElem?_getD,hi]
  rw[e]at this;exact this
 ·cases h
def QN (h:H) (b:Nat) (x:Option wF):H:=⟨E.put x hd (path hd b) h.t,h.next,h.ln,h.log⟩
theorem Kq {h:H} {x:Option wF} {a b:Nat} (ha:a<65536) (hb:b<65536):(QN h a x).get b=if b=a then x else h.get b:=by
 unfold H.get QN;split;·rename_i e;subst e;exact E.cO _ _ _ _
 ·rename_i e;exact E.eX _ _ _ _ ha hb (λc=>e c.symm) _
def Ed:List (Nat×TB)->H->H:=List.rec (motive:=λ_=>H->H) (λh=>h) (λp _ ih h=>QN (ih h) p.1 (some (MU 0 p.2)))
def mG:List Nat->H->H:=List.rec (motive:=λ_=>H->H) (λh=>h) (λb _ ih h=>QN (ih h) b none)
theorem vJ:∀(l:List (Nat×TB)) (h:H),(Ed l h).next=h.next/\(Ed l h).log=h.log/\(Ed l h).ln=h.ln
 |[],_=>⟨rfl,rfl,rfl⟩
 |_::l,h=>vJ l h
theorem yT {h:H} {b:Nat} (hb:b<65536):∀(l:List (Nat×TB)),(∀p∈l,p.1<65536)->((∃tb,(b,tb)∈l/\(Ed l h).get b=some (MU 0 tb))\/((∀tb,(b,tb)∉l)/\(Ed l h).get b=h.get b))
 |[],_=> .inr ⟨λ_ c=>(by cases c),rfl⟩
 |p::l,hl=>by
  have e:Ed (p::l) h=QN (Ed l h) p.1 (some (MU 0 p.2)):=rfl;rw[e,Kq (hl p (by simp)) hb];by_cases c:b=p.1;·rw[au c];exact .inl ⟨p.2,by rw[c];exact oK,rfl⟩
  ·rw[aj c];rcases yT (h:=h) hb l λp hp=>hl p (by simp[hp])with⟨tb,h1,h2⟩|⟨h1,h2⟩
   ·exact .inl ⟨tb,by simp[h1],h2⟩
   ·refine .inr ⟨λtb hm=> ?_,h2⟩;rcases aR.1 hm with q|q
    ·exact c (by rw[<-q])
    ·exact h1 tb q
theorem qz {h:H} {b:Nat} (hb:b<65536):∀(l:List Nat),(∀p∈l,p<65536)->(b∈l/\(mG l h).get b=none)\/(b∉l/\(mG l h).get b=h.get b)
 |[],_=> .inr ⟨λc=>(by cases c),rfl⟩
 |p::l,hl=>by
  have e:mG (p::l) h=QN (mG l h) p none:=rfl;rw[e,Kq (hl p (by simp)) hb];by_cases c:b=p;·rw[au c];exact .inl ⟨by simp[c],rfl⟩
  ·rw[aj c];rcases qz (h:=h) hb l λp hp=>hl p (by simp[hp])with⟨h1,h2⟩|⟨h1,h2⟩
   ·exact .inl ⟨by simp[h1],h2⟩
   ·exact .inr ⟨by simp[c,h1],h2⟩
structure jk where
 f:Nat
 args:AV
 nx:Nat
 bi:List (Nat×TB)
 v:AV
 nx':Nat
 bo:List (Nat×TB)
 ws:List Nat
def upN:Nat->Nat->List Nat:=λn=>Nat.rec (motive:=λ_=>Nat->List Nat) (λ_=>[]) (λ_ ih k=>k::ih (Nat.succ k)) n
theorem Cm {b:Nat}:∀{n k:Nat},b∈upN n k↔k<=b/\b<k+n
 |0,k=>by show b∈[]↔_;simp
 |n+1,k=>by show b∈k::upN n (k+1)↔_;rw[aR,Cm];omega
def IU (e:jk):H:=Ed e.bi ⟨E.rep none hd,e.nx,nat_lit 0,[]⟩
def MX (e:jk) (h:H):H:=⟨(Ed e.bo (mG e.ws (mG (upN (Nat.sub e.nx' e.nx) e.nx) h))).t,e.nx',Nat.add h.ln e.ws.length,List.append e.ws h.log⟩
def p8 (h:H):List (Nat×TB)->Bool:=List.rec (motive:=λ_=>Bool) true (λp _ ih=>aA (match h.get p.1 with|some x=>eqB x p.2|none=>false) ih)
theorem vK {h:H}:∀{l:List (Nat×TB)},p8 h l=true->∀p∈l,∃x,h.get p.1=some x/\eqB x p.2=true
 |[],_,p,hp=>by cases hp
 |q::l,e,p,hp=>by
  have e:aA (match h.get q.1 with|some x=>eqB x q.2|none=>false) (p8 h l)=true:=e;obtain⟨h1,h2⟩:=ak e;rcases aR.1 hp with rfl|hp
  ·cases hg:h.get p.1 with
   |none=>rw[hg]at h1;cases h1
   |some x=>rw[hg]at h1;exact⟨x,rfl,h1⟩
  ·exact vK h2 p hp
def Kr {α:Type} (q:α->Bool):List α->Bool:=List.rec (motive:=λ_=>Bool) true (λp _ ih=>aA (q p) ih)
theorem vL {α:Type} {q:α->Bool}:∀{l:List α},Kr q l=true->∀p∈l,q p=true
 |[],_,p,hp=>by cases hp
 |x::l,e,p,hp=>by
  have e:aA (q x) (Kr q l)=true:=e;obtain⟨h1,h2⟩:=ak e;rcases aR.1 hp with rfl|hp;·exact h1
  ·exact vL h2 p hp
def or2 (a b:Bool):Bool:=Bool.rec b true a
theorem UA {a b:Bool} (h:or2 a b=true):a=true\/b=true:=by cases a<;>cases b<;>simp_all [or2]
def useM (e:jk) (f:Nat) (args:AV) (h:H):Option bB:=
 Bool.rec none (some (.ok e.v (MX e h))) (aA (Nat.beq f e.f) (aA (Nat.beq h.next e.nx) (aA (jQ args e.args) (p8 h e.bi))))
def okM (e:jk):Bool:=
 aA (aA (Nat.ble e.nx (nat_lit 65536)) (Nat.ble e.nx' (nat_lit 65536)))
  (aA (aA (Kr (λp:Nat×TB=>Nat.ble (Nat.succ p.1) e.nx) e.bi) (Kr (λp:Nat×TB=>aA (Nat.ble (Nat.succ p.1) e.nx') (or2 (Nat.ble e.nx p.1) (yM p.1 e.ws))) e.bo))
   (Kr (λb=>yM b (List.rec (motive:=λ_=>List Nat) [] (λp _ ih=>p.1::ih) e.bi)) e.ws))
def UC (e:jk):bB->Bool:=bB.rec (motive:=λ_=>Bool) false
 (λv h=>aA (jQ v e.v) (aA (Nat.beq h.next e.nx') (aA (p8 h e.bo) (Kr (λb=>or2 (Nat.ble e.nx b) (yM b e.ws)) h.log))))
theorem mem_keys {b:Nat}:∀{l:List (Nat×TB)},b∈(List.rec (motive:=λ_=>List Nat) [] (λp _ ih=>p.1::ih) l:List Nat)->∃tb,(b,tb)∈l
 |[],h=>by cases h
 |p::l,h=>by
  rcases aR.1 h with rfl|h;·exact⟨p.2,by simp⟩
  ·obtain⟨tb,h⟩:=mem_keys h;exact⟨tb,by simp[h]⟩
structure OkM (e:jk):Prop where
 n1:e.nx<=65536
 n2:e.nx'<=65536
 bi:∀p∈e.bi,p.1<e.nx
 bo:∀p∈e.bo,p.1<e.nx'/\(e.nx<=p.1\/p.1∈e.ws)
 ws:∀b∈e.ws,∃tb,(b,tb)∈e.bi
theorem UD {e:jk} (h:okM e=true):OkM e:=by
 obtain⟨h1,h⟩:=ak h;obtain⟨h2,h3⟩:=ak h;obtain⟨a1,a2⟩:=ak h1;obtain⟨b1,b2⟩:=ak h2;rw[aD]at a1 a2;refine⟨a1,a2,λp hp=> ?_,λp hp=> ?_,λb hb=>mem_keys (mP.1 (vL h3 b hb))⟩;·have:=vL b1 p hp;rw[aD]at this;exact this
 ·obtain⟨q1,q2⟩:=ak (vL b2 p hp);rw[aD]at q1;refine⟨q1,?_⟩;rcases UA q2 with c|c
  ·rw[aD]at c;exact .inl c
  ·exact .inr (mP.1 c)
section
variable {P:Program} {ι:aV} {h:H} {w:World}
theorem abb {e:jk} (o:OkM e) {b:Nat} (hb:b<65536) {x:wF} (hx:(IU e).get b=some x):∃tb,(b,tb)∈e.bi/\x=MU 0 tb:=by
 rcases yT (h:=⟨E.rep none hd,e.nx,0,[]⟩) hb e.bi (λp hp=>bJ (o.bi p hp) o.n1)with⟨tb,h1,h2⟩|⟨_,h2⟩
 ·have h2:(IU e).get b=some (MU 0 tb):=h2;rw[hx]at h2;exact⟨tb,h1,bW h2⟩
 ·have h2:(IU e).get b=(⟨E.rep none hd,e.nx,0,[]⟩:H).get b:=h2;rw[hx]at h2;have h3:(⟨E.rep none hd,e.nx,0,[]⟩:H).get b=none:=E.vg _ _ _;rw[h3]at h2;cases h2
theorem IV {e:jk} (o:OkM e) (hag:p8 h e.bi=true) {b:Nat} (hb:b<65536) {x:wF} (hx:(IU e).get b=some x):∃y tb,h.get b=some y/\eqB y tb=true/\x=MU 0 tb:=by obtain⟨tb,h1,rfl⟩:=abb o hb hx;obtain⟨y,hy,hq⟩:=vK hag _ h1;exact⟨y,tb,hy,hq,rfl⟩
theorem ZV {e:jk} (o:OkM e) (hag:p8 h e.bi=true) (hn:h.next=e.nx) (k:WR ι h w):WR ι (IU e) w:=by
 have hnx:(IU e).next=e.nx:=(vJ e.bi _).1
 refine⟨by rw[hnx];exact o.n1,λb hb=>k.fresh b (by rw[hn];rw[hnx]at hb;exact hb),λb x _ hb hx=> ?_,λb b' x x' m m' _ _ hb hb' hx hx' hm hm' hB=> ?_⟩;·rw[hnx]at hb;obtain⟨y,tb,hy,hq,rfl⟩:=IV o hag (by have:=o.n1;omega) hx;obtain⟨m,ob,z1,z2,z3⟩:=k.blk b y trivial (by omega) hy;exact⟨m,ob,z1,z2,Uz hq z3⟩
 ·rw[hnx]at hb hb';obtain⟨y,tb,hy,_,_⟩:=IV o hag (by have:=o.n1;omega) hx;obtain⟨y',tb',hy',_,_⟩:=IV o hag (by have:=o.n1;omega) hx';exact k.inj b b' y y' m m' trivial trivial (by omega) (by omega) hy hy' hm hm' hB
theorem Pd {e:jk} (o:OkM e) {v1:AV} {h1:H} (hc:UC e (.ok v1 h1)=true) (k:WR ι h w) (hn:h.next=e.nx) (hag:p8 h e.bi=true) {v':Value} {w':World}
 (hcr:CR ι (IU e) w v1 h1 v' w'):CR ι h w e.v (MX e h) v' w':=by
 obtain⟨c1,hc⟩:=ak hc;obtain⟨c2,hc⟩:=ak hc;obtain⟨c3,c4⟩:=ak hc;have c2:=aI c2;obtain rfl:=IQ _ _ c1;obtain⟨ι1,W,hv,k1,E⟩:=hcr;have hnx:(IU e).next=e.nx:=(vJ e.bi _).1
 have hWl:W=h1.log:=by have q:=E.log;have q2:(IU e).log=[]:=(vJ e.bi _).2.1;rw[q2,ji]at q;exact q.symm
 have hWs:∀b∈W,b<e.nx->b∈e.ws:=λb hb hlt=>by
  rcases UA (vL c4 b (hWl▸hb))with c|c;·rw[aD]at c;omega
  ·exact mP.1 c
 have n1:=o.n1;have n2:=o.n2;have nlt:∀b m,ι b=some m->b<e.nx:=λb m hb=>by
  rcases aF b e.nx with c|c;·exact c
  ·rw[k.fresh b (by omega)]at hb;cases hb
 have live:∀b∈e.ws,∃y,h.get b=some y:=λb hb=>by obtain⟨tb,hm⟩:=o.ws b hb;obtain⟨y,hy,_⟩:=vK hag _ hm;exact⟨y,hy⟩
 have ad2:∀b∈e.ws,b<e.nx:=λb hb=>by obtain⟨tb,hm⟩:=o.ws b hb;exact o.bi _ hm
 have hle:ι.le ι1:=E.le λb hb=>k.fresh b (by rw[hn];rw[hnx]at hb;exact hb);have stays:∀b y m,b<e.nx->b∉e.ws->h.get b=some y->ι b=some m->w'.heap[m.B]? =w.heap[m.B]? :=λb y m hb hws hy hm=>by obtain⟨m1,ob,z1,z2,_⟩:=k.blk b y trivial (by omega) hy;rw[hm]at z1;cases z1;refine E.heap m.B (dM.1 z2).1 λb0 hb0 m0 hm0 hB=> ?_;have hlt:=nlt b0 m0 hm0;have hw0:=hWs b0 hb0 hlt;obtain⟨y0,hy0⟩:=live b0 hw0;have:=k.inj b0 b y0 y m0 m trivial trivial (by omega) (by omega) hy0 hy hm0 hm hB;subst this;exact hws hw0
 have nle:e.nx<=e.nx':=by have:=E.next;rw[hnx,c2]at this;exact this
 have ad3:∀p∈upN (Nat.sub e.nx' e.nx) e.nx,p<65536:=λp hp=>by obtain⟨_,q⟩:=Cm.1 hp;have q:p<e.nx+(e.nx'-e.nx):=q;omega
 have wsb:∀p∈e.ws,p<65536:=λp hp=>bJ (ad2 p hp) o.n1;have bob:∀p∈e.bo,p.1<65536:=λp hp=>bJ (o.bo p hp).1 o.n2;have get':∀b x,b<e.nx'->(MX e h).get b=some x->(∃tb y,(b,tb)∈e.bo/\h1.get b=some y/\eqB y tb=true/\x=MU 0 tb)\/(b<e.nx/\b∉e.ws/\(∀tb,(b,tb)∉e.bo)/\h.get b=some x):=λb x hb hx=>by
  have hx:(Ed e.bo (mG e.ws (mG (upN (Nat.sub e.nx' e.nx) e.nx) h))).get b=some x:=hx;rcases yT (h:=mG e.ws (mG (upN (Nat.sub e.nx' e.nx) e.nx) h)) (show b<65536 by omega) e.bo bob with⟨tb,q1,q2⟩|⟨q1,q2⟩
  ·rw[hx]at q2;obtain⟨y,hy,hq⟩:=vK c3 _ q1;exact .inl ⟨tb,y,q1,hy,hq,bW q2⟩
  ·rw[hx]at q2;rcases qz (h:=mG (upN (Nat.sub e.nx' e.nx) e.nx) h) (show b<65536 by omega) e.ws wsb with⟨_,r2⟩|⟨r1,r2⟩
   ·rw[r2]at q2;cases q2
   ·rw[r2]at q2;rcases qz (h:=h) (show b<65536 by omega) _ ad3 with⟨_,s2⟩|⟨s1,s2⟩
    ·rw[s2]at q2;cases q2
    ·rw[s2]at q2;refine .inr ⟨?_,r1,q1,q2.symm⟩;rcases aF b e.nx with c|c
     ·exact c
     ·exfalso;refine s1 (Cm.2 ⟨c,?_⟩);show b<e.nx+(e.nx'-e.nx)
      omega
 have kept':∀b,b<e.nx->b∉e.ws->(MX e h).get b=h.get b:=λb hb hws=>by
  show(Ed e.bo (mG e.ws (mG (upN (Nat.sub e.nx' e.nx) e.nx) h))).get b=_;rcases yT (h:=mG e.ws (mG (upN (Nat.sub e.nx' e.nx) e.nx) h)) (show b<65536 by omega) e.bo bob with⟨tb,q1,_⟩|⟨_,q2⟩
  ·rcases(o.bo _ q1).2 with c|c
   ·exact absurd c (by show ¬e.nx<=b;omega)
   ·exact absurd c hws
  ·rw[q2];rcases qz (h:=mG (upN (Nat.sub e.nx' e.nx) e.nx) h) (show b<65536 by omega) e.ws wsb with⟨r1,_⟩|⟨_,r2⟩
   ·exact absurd r1 hws
   ·rw[r2];rcases qz (h:=h) (show b<65536 by omega) _ ad3 with⟨s1,_⟩|⟨_,s2⟩
    ·have:=(Cm.1 s1).1;omega
    ·exact s2
 have Ce:∀b,b<e.nx->ι1 b=ι b:=λb hb=>E.Ce b (by rw[hnx];exact hb);have apart:∀b b' x' y m m',b<e.nx->b∉e.ws->h.get b=some y->ι b=some m->b'<e.nx'->h1.get b'=some x'->(e.nx<=b'\/b'∈e.ws)->ι1 b'=some m'->m.B=m'.B->b=b':=λb b' x' y m m' hb hws hy hm hb' hx' hor hm' hB=>by
  have hsz:m.B<w.heap.size:=by obtain⟨m1,ob,z1,z2,_⟩:=k.blk b y trivial (by omega) hy;rw[hm]at z1;cases z1;exact(dM.1 z2).1
  rcases hor with c|c
  ·rcases E.new b' m' (by rw[hnx];exact c) hm' with q|⟨b0,hb0,m0,hm0,hB0⟩
   ·omega
   ·have hlt:=nlt b0 m0 hm0;have hw0:=hWs b0 hb0 hlt;obtain⟨y0,hy0⟩:=live b0 hw0;have:=k.inj b0 b y0 y m0 m trivial trivial (by omega) (by omega) hy0 hy hm0 hm (by omega);subst this;exact absurd hw0 hws
  ·obtain⟨y0,hy0⟩:=live b' c;have hlt:=ad2 b' c;rw[Ce b' hlt]at hm';exact k.inj b b' y y0 m m' trivial trivial (by omega) (by omega) hy hy0 hm hm' hB
 refine⟨ι1,e.ws,hv,?_,?_⟩
 ·refine⟨o.n2,λb hb=>k1.fresh b (by rw[c2];exact hb),λb x _ hb hx=> ?_,λb b' x x' m m' _ _ hb hb' hx hx' hm hm' hB=> ?_⟩
  ·have hb:b<e.nx':=hb;rcases get' b x hb hx with⟨tb,y,q1,q2,q3,rfl⟩|⟨q1,q2,q3,q4⟩
   ·obtain⟨m,ob,z1,z2,z3⟩:=k1.blk b y trivial (by omega) q2;exact⟨m,ob,z1,z2,Uz q3 z3⟩
   ·obtain⟨m,ob,z1,z2,z3⟩:=k.blk b x trivial (by omega) q4;exact⟨m,ob,hle _ _ z1,by rw[stays b x m q1 q2 q4 z1];exact z2,z3.mono hle⟩
  ·have hb:b<e.nx':=hb;have hb':b'<e.nx':=hb';rcases get' b x hb hx with⟨tb,y,q1,q2,q3,rfl⟩|⟨q1,q2,q3,q4⟩<;>rcases get' b' x' hb' hx' with⟨tb',y',r1,r2,r3,rfl⟩|⟨r1,r2,r3,r4⟩
   ·exact k1.inj b b' y y' m m' trivial trivial (by omega) (by omega) q2 r2 hm hm' hB
   ·rw[Ce b' r1]at hm';exact(apart b' b y x' m' m r1 r2 r4 hm' hb q2 (o.bo _ q1).2 hm hB.symm).symm
   ·rw[Ce b q1]at hm;exact apart b b' y' x m m' q1 q2 q4 hm hb' r2 (o.bo _ r1).2 hm' hB
   ·rw[Ce b q1]at hm;rw[Ce b' r1]at hm';exact k.inj b b' x x' m m' trivial trivial (by omega) (by omega) q4 r4 hm hm' hB
 ·exact{
   next:=by show h.next<=e.nx';omega
   Ce:=λb hb=>Ce b (by omega)
   log:=rfl
   ln:=rfl
   kept:=λb hb hnw=>kept' b (by omega) hnw
   live:=λb hb _=>live b hb
   size:=E.size
   heap:=λi hi hno=>E.heap i hi λb hb m hm=>hno b (hWs b hb (nlt b m hm)) m hm
   new:=λb m hb hm=>by
    rcases E.new b m (by rw[hnx];omega) hm with q|⟨b0,hb0,m0,hm0,hB0⟩
    ·exact .inl q
    ·exact .inr ⟨b0,hWs b0 hb0 (nlt b0 m0 hm0),m0,hm0,hB0⟩
   os:=E.os
   tape:=E.tape
   out:=E.out}
end
def xD (P:Program) (e:jk):Prop:=∀f args h v h',useM e f args h=some (.ok v h')->∀ι w (vs:Array Value),WR ι h w->GI ι->fQ ι args vs.toList->
 Bb P (callFunc f vs) w (CR ι h w v h')
theorem useM_inv {e:jk} {f:Nat} {args v:AV} {h h':H} (u:useM e f args h=some (.ok v h')):f=e.f/\h.next=e.nx/\args=e.args/\p8 h e.bi=true/\v=e.v/\h'=MX e h:=by
 unfold useM at u;cases hc:(aA (Nat.beq f e.f) (aA (Nat.beq h.next e.nx) (aA (jQ args e.args) (p8 h e.bi))))
 ·rw[hc]at u;cases u
 ·rw[hc]at u;cases u;obtain⟨h1,hc⟩:=ak hc;obtain⟨h2,hc⟩:=ak hc;obtain⟨h3,h4⟩:=ak hc;exact⟨aI h1,aI h2,IQ _ _ h3,h4,rfl,rfl⟩
theorem Kt {P:Program} {ext:Nat->Nat} {iK:Nat->AV->H->Option bB} {N:Nat} {e:jk} (pW:P.follows .mixedOrders=true) (hprog:gV P=true)
 (hext:qw P (dL P ext iK)) (sU:gM P (dL P ext iK)) (hf:(fnOf P e.f).isSome=true) (hno:iK e.f e.args (IU e)=none) (ho:okM e=true)
 (hrun:UC e ((run (dL P ext iK) (Nat.succ N)).call e.f e.args (IU e))=true):xD P e:=by
 intro f args h v h' u ι w vs k hG ha;obtain⟨rfl,hn,rfl,hag,rfl,rfl⟩:=useM_inv u;obtain⟨x,hx⟩:=tu.1 hf;have o:=UD ho;cases hr:(run (dL P ext iK) (Nat.succ N)).call e.f e.args (IU e)with
 |fail=>rw[hr]at hrun;cases hrun
 |ok v1 h1=>rw[hr]at hrun;have hen:=kr (mR P ext iK) pW (fnsOk_of hprog) hext sU (N:=N) (f:=e.f) (x:=x) hx hno hr (vs:=vs) (ZV o hag hn k) hG ha;exact .inr ⟨e.f,vs,w,wZ (mR P ext iK) (fnsOk_of hprog) hx vs w,hen.mono λv' w' hcr=>Pd o hrun k hn hag hcr⟩
def X5 (l:List jk) (f:Nat) (args:AV) (h:H):Option bB:=List.rec (motive:=λ_=>Option bB) none
 (λe _ ih=>Option.rec (motive:=λ_=>Option bB) ih some (useM e f args h)) l
theorem Ku {f:Nat} {args:AV} {h:H} {r:bB}:∀{l:List jk},X5 l f args h=some r->∃e∈l,useM e f args h=some r
 |[],u=>by cases u
 |e::l,u=>by
  have u:Option.rec (motive:=λ_=>Option bB) (X5 l f args h) some (useM e f args h)=some r:=u;cases hu:useM e f args h with
  |none=>rw[hu]at u;obtain⟨e',h1,h2⟩:=Ku u;exact⟨e',by simp[h1],h2⟩
  |some r'=>rw[hu]at u;cases u;exact⟨e,by simp,hu⟩
theorem X6 {P:Program} {ext:Nat->Nat} {l:List jk} (h:∀e∈l,xD P e):gM P (dL P ext (X5 l)):=by intro f args hh v h' u ι w vs k hG ha;obtain⟨e,h1,h2⟩:=Ku u;exact h e h1 f args hh v h' h2 ι w vs k hG ha
theorem ajC {P:Program}:∀e∈([]:List jk),xD P e:=λ_ h=>by cases h
theorem ahz {P:Program} {e:jk} {l:List jk} (h:xD P e) (r:∀e∈l,xD P e):∀x∈e::l,xD P x:=λx hx=>by
 rcases aR.1 hx with rfl|hx;·exact h
 ·exact r x hx
end
noncomputable section
def UE (f:AV->H->Bool):bB->Bool:=bB.rec (motive:=λ_=>Bool) false (λv h=>aA (f v h) (D8 (nat_lit 64) h.log))
theorem X7 {f:AV->H->Bool} {r:bB} (h:UE f r=true):∃v h',r= .ok v h'/\f v h'=true/\∀x∈h'.log,64<=x:=by
 cases r with
 |fail=>cases h
 |ok v h'=>have h:aA (f v h') (D8 (nat_lit 64) h'.log)=true:=h;obtain⟨h1,h2⟩:=ak h;exact⟨v,h',rfl,h1,D9 h2⟩
theorem IW {P:Program} {ext:Nat->Nat} {iK:Nat->AV->H->Option bB} {N f:Nat} {l:List (Nat×List Value)} (pW:P.follows .mixedOrders=true) (hprog:gV P=true) (hext:qw P (dL P ext iK)) (sU:gM P (dL P ext iK))
 (hf:(fnOf P f).isSome=true) {args:AV} (hno:iK f args (kV l)=none) {q:AV->H->Bool}
 (e:UE q ((run (dL P ext iK) (Nat.succ N)).call f args (kV l))=true) {w:World} (hl:∀p∈l,p.1<64/\p.2.length<=4000000/\TabAt w p.1 p.2) {vs:Array Value} (ha:fQ (sW w) args vs.toList):
 Calls P f vs w λo w'=>∃v' v h' ι',o= .returned v'/\q v h'=true/\VR ι' v v'/\WR ι' h' w'/\RowKit.Below w.heap.size w w':=by
 obtain⟨x,hx⟩:=tu.1 hf;obtain⟨v,h',hr,hq,Ut⟩:=X7 e;have hc:=(kr (mR P ext iK) pW (fnsOk_of hprog) hext sU (N:=N) (f:=f) (x:=x) hx hno hr (vs:=vs) (IJ hl) (IK w) ha).calls;refine hc.mono λo w' ho=> ?_;obtain⟨v',rfl,ι',W,hv,hw,hE⟩:=ho;have hW:W=h'.log:=by have h1:=hE.log;have h2:(kV l).log=[]:=rfl;rw[h2,ji]at h1;exact h1.symm
 refine⟨v',v,h',ι',rfl,hq,hv,hw,hE.os,hE.tape,hE.out,hE.size,λk hk=>hE.heap k hk λb hb m hm=> ?_⟩;have:=Ut b (hW▸hb);unfold sW at hm;rw[aj (by omega)]at hm;cases hm
def Kv (k:Nat):E (Option AV) k->Bool:=
 Nat.rec (motive:=λk=>E (Option AV) k->Bool) (λe=>match e with|none=>true|some _=>false) (λ_ ih e=>aA (ih e.a) (aA (ih e.b) (aA (ih e.c) (ih e.d)))) k
theorem vM:∀(k:Nat) (e:E (Option AV) k),Kv k e=true->∀p,E.get k p e=none
 |0,e,h,p=>by
  show(e:Option AV)=none;cases e with
  |none=>rfl
  |some x=>cases h
 |k+1,e,h,p=>by
  have h:aA (Kv k e.a) (aA (Kv k e.b) (aA (Kv k e.c) (Kv k e.d)))=true:=h;obtain⟨h1,h⟩:=ak h;obtain⟨h2,h⟩:=ak h;obtain⟨h3,h4⟩:=ak h;cases p with
  |z=>exact vM k e.a h1 .z
  |s d p=>rw[E.Bh];cases d;exact vM k _ h1 p;exact vM k _ h2 p;exact vM k _ h3 p;exact vM k _ h4 p
def wN (k:Nat):E (Option AV) k->Nat->List (Nat×AV):=
 Nat.rec (motive:=λk=>E (Option AV) k->Nat->List (Nat×AV)) (λe b=>match e with|none=>[]|some x=>[(b,x)])
  (λk ih e b=>Bool.rec (List.append (ih e.a b) (List.append (ih e.b (Nat.add b (Nat.pow 4 k))) (List.append (ih e.c (Nat.add b (Nat.mul 2 (Nat.pow 4 k)))) (ih e.d (Nat.add b (Nat.mul 3 (Nat.pow 4 k))))))) [] (Kv (Nat.succ k) e)) k
theorem yU:∀(k:Nat) (e:E (Option AV) k) (b i:Nat) (x:AV),i<4^k->E.get k (path k i) e=some x->(b+i,x)∈wN k e b
 |0,e,b,i,x,hi,h=>by
  have hi:i=0:=by simpa using hi
  subst hi;have h:(e:Option AV)=some x:=h;subst h;exact eG.2 rfl
 |k+1,e,b,i,x,hi,h=>by
  have hl:wN (k+1) e b=Bool.rec (List.append (wN k e.a b) (List.append (wN k e.b (Nat.add b (Nat.pow 4 k))) (List.append (wN k e.c (Nat.add b (Nat.mul 2 (Nat.pow 4 k)))) (wN k e.d (Nat.add b (Nat.mul 3 (Nat.pow 4 k))))))) [] (Kv (Nat.succ k) e):=rfl;rw[hl];cases hem:Kv (Nat.succ k) e with
  |true=>rw[vM _ _ hem]at h;cases h
  |false=>
   show(b+i,x)∈wN k e.a b++(wN k e.b (b+4^k)++(wN k e.c (b+2*4^k)++wN k e.d (b+3*4^k)))
   rw[Ah,E.Bh]at h;have hp:0<4^k:=Nat.pow_pos (by omega);have hd:i/4^k<4:=Nat.div_lt_of_lt_mul (by rw[Nat.pow_succ]at hi;exact hi);have hm:=Nat.mod_lt i hp;have hdm:=Nat.div_add_mod i (4^k);have:i/4^k=0\/i/4^k=1\/i/4^k=2\/i/4^k=3:=(λq (h:q<4)=>(by omega:q=0\/q=1\/q=2\/q=3)) _ hd;simp only[iE];rcases this with c|c|c|c<;>rw[c]at h hdm;·have:=yU k e.a b _ x hm h;rw[show b+i=b+i%4^k by omega];exact .inl this
   ·have:=yU k e.b (b+4^k) _ x hm h;rw[show b+i=b+4^k+i%4^k by omega];exact .inr (.inl this)
   ·have:=yU k e.c (b+2*4^k) _ x hm h;rw[show b+i=b+2*4^k+i%4^k by omega];exact .inr (.inr (.inl this))
   ·have:=yU k e.d (b+3*4^k) _ x hm h;rw[show b+i=b+3*4^k+i%4^k by omega];exact .inr (.inr (.inr this))
theorem first_none:∀{l:List MapEntry} {k:Value},(∀x∈l,x.key≠k)->bC l k none
 |[],_,_=>rfl
 |x::l,_,h=> .inr ⟨h x (by simp),first_none λy hy=>h y (by simp[hy])⟩
theorem iB {ι:aV} {h:H} {w:World} {b off c:Nat} {v:Value} {el:Nat} {ro:Bool} {n d:Nat} {t:E AV d} (k:WR ι h w) (hv:VR ι (.ptr b off) v) (hb:h.get b=some (.cells el ro n d t)) (hc:off+c<=n):
 ∃B o,v= .pointer (some ⟨B,o,none⟩)/\∀i,i<c->∃x,w.cell? ⟨B,o+i,none⟩=some x/\VR ι (E.get d (path d (off+i)) t) x:=by
 obtain⟨m,hm,rfl⟩:=hv;obtain⟨arr,iV,lo,hi,hw,h1,h2,h3,h4,h5⟩:=k.cells trivial hm hb;refine⟨m.B,m.sh+off,rfl,λi hi=>⟨arr.getD (m.sh+(off+i)) undef,?_,h4 (off+i) (by omega)⟩⟩;rw[show m.sh+off+i=m.sh+(off+i)by omega];have hlt:m.sh+(off+i)<arr.size:=by omega
 unfold World.cell?;rw[hw];simp[Array.getD,hlt]
theorem eO {ι:aV} {h:H} {w:World} {b off len es:Nat} {z:Bool} {v:Value} {el:Nat} {ro:Bool} {n d:Nat} {t:E AV d} (k:WR ι h w) (hv:VR ι (.slice b off len es z) v) (hlen:0<len) (hb:h.get b=some (.cells el ro n d t)) (hc:off+len*es<=n):
 ∃B o cap,v= .slice (some ⟨B,o,none⟩) len cap/\len<=cap/\∀i,i<len*es->∃x,w.cell? ⟨B,o+i,none⟩=some x/\VR ι (E.get d (path d (off+i)) t) x:=by
 obtain⟨m,y,cap,hm,rfl,hle,hz,hy⟩:=hv;obtain⟨rfl,Tf⟩:y=⟨m.B,m.sh+off,none⟩/\m.sh+off+cap*es<=m.cs:=by
  rcases hy with hy|hy;·omega
  ·exact hy
 obtain⟨arr,iV,lo,hi,hw,h1,h2,h3,h4,h5⟩:=k.cells trivial hm hb;refine⟨m.B,m.sh+off,cap,rfl,hle,λi hi=>⟨arr.getD (m.sh+(off+i)) undef,?_,h4 (off+i) (by omega)⟩⟩;rw[show m.sh+off+i=m.sh+(off+i)by omega];have hlt:m.sh+(off+i)<arr.size:=by omega
 unfold World.cell?;rw[hw];simp[Array.getD,hlt]
end
noncomputable section
theorem WR.below {ι:aV} {h:H} {w w':World} (k:WR ι h w) (hb:RowKit.Below w.heap.size w w'):WR ι h w':=
 ⟨k.most,k.fresh,λb x d hl hx=>by
  obtain⟨m,o,z1,z2,z3⟩:=k.blk b x d hl hx;exact⟨m,o,z1,(hb.block m.B (dM.1 z2).1).trans z2,z3⟩,k.inj⟩
def h0 (n:Nat):H:=⟨E.rep none hd,n,nat_lit 0,[]⟩
theorem ad4 {n:Nat} (h1:64<=n) (h2:n<=65536) (w:World):WR (sW w) (h0 n) w:=
 have e:∀b,(h0 n).get b=none:=λ_=>E.vg _ _ _
 ⟨h2,λb hb=>by have hb:n<=b:=hb;unfold sW;rw[aj (by omega)],λb x _ _ hx=>(by rw[e]at hx;cases hx),λb _ x _ _ _ _ _ _ _ hx=>(by rw[e]at hx;cases hx)⟩
def ad5 (e:jk) (q:AV->H->Bool):bB->Bool:=bB.rec (motive:=λ_=>Bool) false (λv h=>aA (q v h) (UC e (.ok v h)))
theorem ad6 {P:Program} {ext:Nat->Nat} {iK:Nat->AV->H->Option bB} {N:Nat} {e:jk} (pW:P.follows .mixedOrders=true) (hprog:gV P=true)
 (hext:qw P (dL P ext iK)) (sU:gM P (dL P ext iK)) (hws:e.ws=[]) {q:AV->H->Bool}
 (hall:aA (fnOf P e.f).isSome (aA (iK e.f e.args (IU e)).isNone (aA (okM e) (ad5 e q ((run (dL P ext iK) (Nat.succ N)).call e.f e.args (IU e)))))=true)
 {h:H} {ι:aV} {w:World} (k:WR ι h w) (hG:GI ι) (hn:h.next=e.nx) (hag:p8 h e.bi=true) {vs:Array Value} (ha:fQ ι e.args vs.toList):
 Calls P e.f vs w λo w'=>∃v',o= .returned v'/\(∃v1 h1 ι1,q v1 h1=true/\VR ι1 v1 v'/\WR ι1 h1 w')/\(∃ι',WR ι' (MX e h) w'/\GI ι'/\VR ι' e.v v')/\RowKit.Below w.heap.size w w':=by
 obtain⟨hf,hall⟩:=ak hall;obtain⟨hno,hall⟩:=ak hall;obtain⟨ho,hrun⟩:=ak hall;obtain⟨x,hx⟩:=tu.1 hf;have o:=UD ho;cases hr:(run (dL P ext iK) (Nat.succ N)).call e.f e.args (IU e)with
 |fail=>rw[hr]at hrun;cases hrun
 |ok v1 h1=>
  rw[hr]at hrun;obtain⟨hq,hc⟩:=ak hrun;refine(kr (mR P ext iK) pW (fnsOk_of hprog) hext sU (N:=N) (f:=e.f) (x:=x) hx (Cn.1 hno) hr (vs:=vs) (ZV o hag hn k) hG ha).calls.mono ?_;rintro oo w' ⟨v',rfl,hcr⟩;have ahA:=Pd o hc k hn hag hcr;obtain⟨ι1,_,hv1,hw1,_⟩:=hcr;obtain⟨ι2,W,hv2,hw2,hE⟩:=ahA;have hW:W=[]:=by have h1:=hE.log;have h2:(MX e h).log=List.append e.ws h.log:=rfl;rw[h2,hws]at h1;have:=fJ List.length h1;rw[bV]at this;exact List.length_eq_zero_iff.1 (by have h3:(List.append ([]:List Nat) h.log).length=h.log.length:=rfl;omega)
  refine⟨v',rfl,⟨v1,h1,ι1,hq,hv1,hw1⟩,⟨ι2,hw2,hG.mono (hE.le k.fresh),hv2⟩,hE.os,hE.tape,hE.out,hE.size,λj hj=>hE.heap j hj λb hb=> ?_⟩;rw[hW]at hb;cases hb
def all2 {α β:Type} (q:α->β->Bool) (l:List α):List β->Bool:=List.rec (motive:=λ_=>List β->Bool) (λ_=>true) (λx _ ih r=>List.rec (motive:=λ_=>Bool) false (λy r _=>aA (q x y) (ih r)) r) l
theorem Pe {α β:Type} {q:α->β->Bool}:∀{l:List α} {r:List β},all2 q l r=true->∀x∈l,∃y,q x y=true
 |[],_,_,x,hx=>by cases hx
 |_::_,[],e,_,_=>by cases e
 |a::l,b::r,e,x,hx=>by
  have e:aA (q a b) (all2 q l r)=true:=e;obtain⟨h1,h2⟩:=ak e;rcases aR.1 hx with rfl|hx;·exact⟨b,h1⟩
  ·exact Pe h2 x hx
theorem Pf {P:Program} {ext:Nat->Nat} {iK:Nat->AV->H->Option bB} {N:Nat} {tabs:List (Nat×List Value)} (pW:P.follows .mixedOrders=true) (hprog:gV P=true)
 (hext:qw P (dL P ext iK)) (sU:gM P (dL P ext iK)) (ht:xC tabs=true) {l:List Known} (r:List (List Nat))
 (h:all2 (λ(e:Known) R=>aA (fnOf P e.f).isSome (aA (iK e.f e.args (kV tabs)).isNone (Uw e R ((run (dL P ext iK) (Nat.succ N)).call e.f e.args (kV tabs))))) l r=true):∀e∈l,oL P tabs e:=λe he=>by
 obtain⟨R,h⟩:=Pe h e he;obtain⟨h1,h2⟩:=ak h;obtain⟨h3,h4⟩:=ak h2;exact MV (N:=N) pW hprog hext sU h1 (Cn.1 h3) ht h4
theorem X8 {P:Program} {ext:Nat->Nat} {iK:Nat->AV->H->Option bB} {N:Nat} (pW:P.follows .mixedOrders=true) (hprog:gV P=true)
 (hext:qw P (dL P ext iK)) (sU:gM P (dL P ext iK)) {l:List jk}
 (h:Kr (λ(e:jk)=>aA (fnOf P e.f).isSome (aA (iK e.f e.args (IU e)).isNone (aA (okM e) (UC e ((run (dL P ext iK) (Nat.succ N)).call e.f e.args (IU e)))))) l=true):∀e∈l,xD P e:=λe he=>by
 obtain⟨h1,h2⟩:=ak (vL h e he);obtain⟨h3,h4⟩:=ak h2;obtain⟨h5,h6⟩:=ak h4;exact Kt (N:=N) pW hprog hext sU h1 (Cn.1 h3) h5 h6
theorem lN {α:Type} {p:α->Prop} {a b:List α} (h:∀e∈a,p e) (k:∀e∈b,p e):∀e∈List.append a b,p e:=λe he=>(iE.1 he).elim (h e) (k e)
