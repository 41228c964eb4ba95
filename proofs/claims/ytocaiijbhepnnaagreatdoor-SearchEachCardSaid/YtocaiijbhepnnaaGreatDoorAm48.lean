/- The machine's soundness: the table of known calls is so, where each was run. -/
import Derived.Test.YtocaiijbhepnnaaGreatDoorAm44
namespace Go.Proofs.YtocaiijbhepnnaaGreatDoor.Am
theorem MQ:∀t:AV,Hw 0 t=t:=by
 intro t;induction t with
 |uy y x ih=>show AV.uy y (Hw 0 x)=_;rw[ih]
 |agg x ih=>show AV.agg (Hw 0 x)=_;rw[ih]
 |ig x ih=>show AV.ig (Hw 0 x)=_;rw[ih]
 |cons x y ihx ihy=>show AV.cons (Hw 0 x) (Hw 0 y)=_;rw[ihx,ihy]
 |_=>rfl
theorem R9 {ι ι2:bg} {a t:AV} (h:eH [] a t=true) {l:List Value} (hl:iC ι a l):iC ι2 t l:=by
 have hm:Moved [] ι ι2 0:=fun t h1 h2=>by simp at h2;omega
 have:=(Af hm a t h).2 l hl;rw[MQ]at this;exact this
def F4:List Value→Bool
 |[]=>true
 | .int _ _::r=>F4 r
 |_::_=>false
theorem MR {ι:bg}:∀{vs l:List Value},F4 vs=true→iC ι (uZ vs) l→l=vs
 |[],l,_,h=>qc h
 |v::vs,l,hi,h=>by
  obtain⟨x,xs,rfl,hx,hxs⟩:=iI (show iC ι (.cons (Xq v) (uZ vs)) l from h);cases v with
  |int k n=>have hx:x= .int k n:=hx;rw[hx,MR (ι:=ι) (show F4 vs=true from hi) hxs]
  |_=>cases hi
noncomputable def yS:List (Nat×List Value)→Bool
 |[]=>true
 |p::r=>aA (Nat.ble (Nat.succ p.1) 64) (aA (Nat.ble p.2.length 4000000) (aA (F4 p.2) (yS r)))
theorem I6:∀{l:List (Nat×List Value)},yS l=true→∀p∈l,p.1<64∧p.2.length≤4000000∧F4 p.2=true
 |[],_,p,h=>by cases h
 |q::l,h,p,hp=>by
  have h:aA (Nat.ble (Nat.succ q.1) 64) (aA (Nat.ble q.2.length 4000000) (aA (F4 q.2) (yS l)))=true:=h;obtain⟨h1,h⟩:=au h;obtain⟨h2,h⟩:=au h;obtain⟨h3,h4⟩:=au h;rw[aI]at h1 h2;rcases aU.1 hp with rfl|hp;·exact⟨h1,h2,h3⟩
  ·exact I6 h4 p hp
theorem MS {h:H} {ι:bg} {w:World} (k:WR ι h w) (hG:GI ι):∀{l:List (Nat×List Value)},(∀p∈l,p.1<64∧p.2.length≤4000000∧F4 p.2=true)→MO h l=true→∀p∈l,TabAt w p.1 p.2
 |[],_,_,p,hp=>by cases hp
 |q::l,hq,ht,p,hp=>by
  have ht:aA (match h.get q.1 with|some (.cells _ _ n d t)=>aA (Nat.beq n q.2.length) (eH [] (Ed d t n (nat_lit 0)) (uZ q.2))|_=>false) (MO h l)=true:=ht;obtain⟨h1,h2⟩:=au ht;rcases aU.1 hp with rfl|hp
  ·obtain⟨c1,c2,c3⟩:=hq p (by simp);split at h1
   ·rename_i el ro n d t hg;obtain⟨h3,h4⟩:=au h1;have h3:=aO h3;obtain⟨cs,hι⟩:=hG p.1 c1;obtain⟨arr,jv,lo,hi,hw,a1,a2,a3,a4,_⟩:=k.cells trivial hι hg;have hr:=nC (ι:=ι) (arr:=arr) (sh:=0) n 0 (fun j _ hj=>a4 j (by omega));have hr2:iC ι (uZ p.2) _:=R9 h4 hr;have amy:=MR c3 hr2;have a1:arr.size=cs:=a1;have a2:0+n≤cs:=a2;refine⟨arr,jv,lo,hi,hw,by omega,fun i hi=> ?_⟩;rw[←amy];simp[List.getD_eq_getElem?_getD,show i<n by omega]
   ·cases h1
  ·exact MS k hG (fun p hp=>hq p (by simp[hp])) h2 p hp
def qw (P:Program) (tabs:List (Nat×List Value)) (e:Known):Prop:=∀f args h v h',useK tabs e f args h=some (.ok v h')→∀ι w (vs:Array Value),WR ι h w→GI ι→iC ι args vs.toList→
 Dg P (callFunc f vs) w (CR ι h w v h')
theorem sV.mono {P:Program} {f:Nat} {vs:Array Value} {w:World} {R R':Value→World→Prop} (hR:∀v w,R v w→R' v w) (h:sV P f vs w R):sV P f vs w R':=fun kind cs hc=>let⟨fr,v,w',q,s,t⟩:=h kind cs hc;⟨fr,v,w',hR _ _ q,s,t⟩
theorem P9 {P:Program} {ext:Nat→Nat} {jh:Nat→AV→H→Option bF} {N:Nat} {tabs:List (Nat×List Value)} {e:Known} {R:List Nat} (mZ:P.follows .mixedOrders=true) (hprog:fZ P=true)
 (hext:oW P (cB P ext jh)) (uL:fV P (cB P ext jh)) (hf:(fnOf P e.f).isSome=true) (hno:jh e.f e.args (jQ tabs)=none) (ht:yS tabs=true)
 (hrun:X5 e R ((run (cB P ext jh) (Nat.succ N)).call e.f e.args (jQ tabs))=true):qw P tabs e:=by
 intro f args h v h' u ι w vs k hG ha;obtain⟨rfl,hargs,hroom,hn,htab,rfl,rfl⟩:=use_inv u;obtain⟨x,hx⟩:=uR.1 hf;have htk:=I6 ht;have hat:=MS k hG htk htab;cases hr:(run (cB P ext jh) (Nat.succ N)).call e.f e.args (jQ tabs)with
 |fail=>rw[hr]at hrun;cases hrun
 |ok v1 h1=>rw[hr]at hrun;have hvs:iC (tK w) e.args vs.toList:=R9 hargs ha;have hen:=lD (nZ P ext jh) mZ (fnsOk_of hprog) hext uL (N:=N) (f:=e.f) (x:=x) hx hno hr (vs:=vs) (Kz fun p hp=>⟨(htk p hp).1,(htk p hp).2.1,hat p hp⟩) (Et w) hvs;exact .inr ⟨e.f,vs,w,yK (nZ P ext jh) (fnsOk_of hprog) hx vs w,hen.mono fun v' w' hcr=>X6 hrun k hn hroom hcr⟩
noncomputable section
def Ag (tabs:List (Nat×List Value)) (f:Nat) (args:AV) (h:H):List Known→Option bF:=List.rec (motive:=fun _=>Option bF) none
 (fun e _ ih=>Option.rec (motive:=fun _=>Option bF) ih some (useK tabs e f args h))
def Ah (tabs:List (Nat×List Value)) (tbl:List (Nat×List Known)) (f:Nat) (args:AV) (h:H):Option bF:=List.rec (motive:=fun _=>Option bF) none
 (fun p _ ih=>Bool.rec ih (Ag tabs f args h p.2) (Nat.beq f p.1)) tbl
theorem MU {tabs:List (Nat×List Value)} {f:Nat} {args:AV} {h:H} {r:bF}:∀{l:List Known},Ag tabs f args h l=some r→∃e∈l,useK tabs e f args h=some r
 |[],u=>by cases u
 |e::l,u=>by
  have u:Option.rec (motive:=fun _=>Option bF) (Ag tabs f args h l) some (useK tabs e f args h)=some r:=u;cases hu:useK tabs e f args h with
  |none=>rw[hu]at u;obtain⟨e',h1,h2⟩:=MU u;exact⟨e',by simp[h1],h2⟩
  |some r'=>rw[hu]at u;cases u;exact⟨e,by simp,hu⟩
theorem MV {tabs:List (Nat×List Value)} {f:Nat} {args:AV} {h:H} {r:bF}:∀{tbl:List (Nat×List Known)},Ah tabs tbl f args h=some r→∃p∈tbl,∃e∈p.2,useK tabs e f args h=some r
 |[],u=>by cases u
 |p::l,u=>by
  have u:Bool.rec (Ah tabs l f args h) (Ag tabs f args h p.2) (Nat.beq f p.1)=some r:=u;cases hb:Nat.beq f p.1;·rw[hb]at u;obtain⟨q,h1,e,h2,h3⟩:=MV u;exact⟨q,by simp[h1],e,h2,h3⟩
  ·rw[hb]at u;obtain⟨e,h2,h3⟩:=MU u;exact⟨p,by simp,e,h2,h3⟩
theorem lG {P:Program} {ext:Nat→Nat} {tabs:List (Nat×List Value)} {tbl:List (Nat×List Known)} (h:∀p∈tbl,∀e∈p.2,qw P tabs e):fV P (cB P ext (Ah tabs tbl)):=by intro f args hh v h' u ι w vs k hG ha;obtain⟨p,h1,e,h2,h3⟩:=MV u;exact h p h1 e h2 f args hh v h' h3 ι w vs k hG ha
end
noncomputable section
def Qa (a b:Nat→AV→H→Option bF) (f:Nat) (args:AV) (h:H):Option bF:=Option.rec (motive:=fun _=>Option bF) (b f args h) some (a f args h)
theorem wS {P:Program} {ext:Nat→Nat} {a b:Nat→AV→H→Option bF} (ha:fV P (cB P ext a)) (hb:fV P (cB P ext b)):fV P (cB P ext (Qa a b)):=by
 intro f args h v h' u;have u:Option.rec (motive:=fun _=>Option bF) (b f args h) some (a f args h)=some (.ok v h'):=u;cases hx:a f args h with
 |none=>rw[hx]at u;exact hb f args h v h' u
 |some r=>rw[hx]at u;cases u;exact ha f args h v h' hx
variable {P:Program} {tabs:List (Nat×List Value)}
theorem amA:∀e∈([]:List Known),qw P tabs e:=fun _ h=>by cases h
theorem aln {e:Known} {l:List Known} (h:qw P tabs e) (r:∀e∈l,qw P tabs e):∀x∈e::l,qw P tabs x:=fun x hx=>by
 rcases aU.1 hx with rfl|hx;·exact h
 ·exact r x hx
theorem pq:∀p∈([]:List (Nat×List Known)),∀e∈p.2,qw P tabs e:=fun _ h=>by cases h
theorem oh {f:Nat} {l:List Known} {r:List (Nat×List Known)} (h:∀e∈l,qw P tabs e) (k:∀p∈r,∀e∈p.2,qw P tabs e):∀p∈(f,l)::r,∀e∈p.2,qw P tabs e:=fun p hp=>by
 rcases aU.1 hp with rfl|hp;·exact h
 ·exact k p hp
end
noncomputable section
def kQ:AV→AV→Bool
 | .bool a, .bool b=>H7 a b
 | .int k n, .int k' n'=>aA (Nat.beq (uK k) (uK k')) (eqI n n')
 | .str s, .str s'=>s.eq s'
 | .ptr a o, .ptr t o'=>aA (Nat.beq a t) (Nat.beq o o')
 | .oK, .oK=>true
 | .slice a o l e z, .slice t o' l' e' z'=>aA (Nat.beq a t) (aA (Nat.beq o o') (aA (Nat.beq l l') (aA (Nat.beq e e') (H7 z z'))))
 | .jO, .jO=>true
 | .sF, .sF=>true
 | .sG, .sG=>true
 | .qX, .qX=>true
 | .uy y a, .uy y' t=>aA (Nat.beq y y') (kQ a t)
 | .agg a, .agg t=>kQ a t
 | .ig a, .ig t=>kQ a t
 | .nil, .nil=>true
 | .cons a r, .cons t q=>aA (kQ a t) (kQ r q)
 |_,_=>false
theorem KD:∀(a t:AV),kQ a t=true→a=t:=by
 intro a;induction a with
 |bad=>intro t h;cases t<;>simp[kQ]at h
 |unk=>intro t h;cases t<;>simp[kQ]at h
 |bool b=>intro t h;cases t<;>simp only[kQ,bn]at h;obtain rfl:=wR h;rfl
 |int k n=>intro t h;cases t<;>simp only[kQ,bn]at h;obtain⟨h1,h2⟩:=au h;obtain rfl:=iT h1;obtain rfl:=Ph h2;rfl
 |str s=>intro t h;cases t<;>simp only[kQ,bn]at h;obtain rfl:=(Str.eq_iff _ _).1 h;rfl
 |ptr b o=>intro t h;cases t<;>simp only[kQ,bn]at h;obtain⟨h1,h2⟩:=au h;obtain rfl:=aO h1;obtain rfl:=aO h2;rfl
 |oK=>intro t h;cases t<;>simp only[kQ,bn]at h;rfl
 |slice b o l e z=>intro t h;cases t<;>simp only[kQ,bn]at h;obtain⟨h1,h⟩:=au h;obtain⟨h2,h⟩:=au h;obtain⟨h3,h⟩:=au h;obtain⟨h4,h5⟩:=au h;obtain rfl:=aO h1;obtain rfl:=aO h2;obtain rfl:=aO h3;obtain rfl:=aO h4;obtain rfl:=wR h5;rfl
 |jO=>intro t h;cases t<;>simp only[kQ,bn]at h;rfl
 |map b=>intro t h;cases t<;>simp[kQ]at h
 |sF=>intro t h;cases t<;>simp only[kQ,bn]at h;rfl
 |fn f x c=>intro t h;cases t<;>simp[kQ]at h
 |xY l=>intro t h;cases t<;>simp[kQ]at h
 |sG=>intro t h;cases t<;>simp only[kQ,bn]at h;rfl
 |uy y x ih=>intro t h;cases t<;>simp only[kQ,bn]at h;obtain⟨h1,h2⟩:=au h;obtain rfl:=aO h1;rw[ih _ h2]
 |qX=>intro t h;cases t<;>simp only[kQ,bn]at h;rfl
 |agg x ih=>intro t h;cases t<;>simp only[kQ,bn]at h;rw[ih _ h]
 |ig x ih=>intro t h;cases t<;>simp only[kQ,bn]at h;rw[ih _ h]
 |nil=>intro t h;cases t<;>simp only[kQ,bn]at h;rfl
 |cons x r ihx ihr=>intro t h;cases t<;>simp only[kQ,bn]at h;obtain⟨h1,h2⟩:=au h;rw[ihx _ h1,ihr _ h2]
def eqB:xZ→TB→Bool
 | .cells el false n d t, .cells jv l=>aA (Nat.beq el jv) (aA (Nat.beq n (llen l)) (aA (Nat.ble n gP) (kQ (Ed d t n (nat_lit 0)) l)))
 |_,_=>false
theorem X7 {ι:bg} {x:xZ} {tb:TB} (h:eqB x tb=true) {o:Obj} {m:Nm} (hb:BR ι x o m):BR ι (P8 0 tb) o m:=by
 unfold eqB at h;split at h
 ·rename_i el n dd t jv l;obtain⟨h1,h⟩:=au h;obtain⟨h2,h⟩:=au h;obtain⟨h3,h4⟩:=au h;obtain rfl:=aO h1;have h2:=aO h2;rw[aI]at h3;have h3:n≤4000000:=h3;obtain⟨arr,jv,lo,hi,rfl,a1,a2,a3,a4,a5⟩:=hb;have hr:=nC (ι:=ι) (arr:=arr) (sh:=m.sh) n 0 (fun j _ hj=>a4 j (by omega));have hr2:iC ι l ((List.range n).map fun j=>arr.getD (m.sh+0+j) undef):=by rw[←KD _ _ h4];exact hr
  refine⟨arr,jv,lo,hi,rfl,a1,by rw[←h2];exact a2,kX (by rw[←h2];exact h3),fun i hi=> ?_,⟨a5.1,fun c=>absurd c (by have:=E8 (llen l);omega),fun c=>(by cases c)⟩⟩;have hi:i<n:=by rw[h2];exact hi
  have hll:=iG hr2;rw[dx,nI]at hll;rw[MQ,Hu,kU (llen l) (kX (by rw[←h2];exact h3)) hr2 0 i _ (by simp;omega) (by omega),ak (by simp;omega),mP];have:=iH hr2 i;have e:((List.range n).map fun j=>arr.getD (m.sh+0+j) undef).getD i undef=arr.getD (m.sh+i) undef:=by simp[List.getD_eq_getElem?_getD,hi]
  rw[e]at this;exact this
 ·cases h
def UD (h:H) (b:Nat) (x:Option xZ):H:=⟨E.put x hd (path hd b) h.t,h.next,h.ln,h.log⟩
theorem MW {h:H} {x:Option xZ} {a b:Nat} (ha:a<65536) (hb:b<65536):(UD h a x).get b=if b=a then x else h.get b:=by
 unfold H.get UD;split;·rename_i e;subst e;exact E.dX _ _ _ _
 ·rename_i e;exact E.fP _ _ _ _ ha hb (fun c=>e c.symm) _
def F5:List (Nat×TB)→H→H:=List.rec (motive:=fun _=>H→H) (fun h=>h) (fun p _ ih h=>UD (ih h) p.1 (some (P8 0 p.2)))
def nN:List Nat→H→H:=List.rec (motive:=fun _=>H→H) (fun h=>h) (fun b _ ih h=>UD (ih h) b none)
theorem wT:∀(l:List (Nat×TB)) (h:H),(F5 l h).next=h.next∧(F5 l h).log=h.log∧(F5 l h).ln=h.ln
 |[],_=>⟨rfl,rfl,rfl⟩
 |_::l,h=>wT l h
theorem Ai {h:H} {b:Nat} (hb:b<65536):∀(l:List (Nat×TB)),(∀p∈l,p.1<65536)→((∃tb,(b,tb)∈l∧(F5 l h).get b=some (P8 0 tb))∨((∀tb,(b,tb)∉l)∧(F5 l h).get b=h.get b))
 |[],_=> .inr ⟨fun _ c=>(by cases c),rfl⟩
 |p::l,hl=>by
  have e:F5 (p::l) h=UD (F5 l h) p.1 (some (P8 0 p.2)):=rfl;rw[e,MW (hl p (by simp)) hb];by_cases c:b=p.1;·rw[ak c];exact .inl ⟨p.2,by rw[c];exact tC,rfl⟩
  ·rw[aj c];rcases Ai (h:=h) hb l fun p hp=>hl p (by simp[hp])with⟨tb,h1,h2⟩|⟨h1,h2⟩
   ·exact .inl ⟨tb,by simp[h1],h2⟩
   ·refine .inr ⟨fun tb hm=> ?_,h2⟩;rcases aU.1 hm with q|q
    ·exact c (by rw[←q])
    ·exact h1 tb q
theorem rJ {h:H} {b:Nat} (hb:b<65536):∀(l:List Nat),(∀p∈l,p<65536)→(b∈l∧(nN l h).get b=none)∨(b∉l∧(nN l h).get b=h.get b)
 |[],_=> .inr ⟨fun c=>(by cases c),rfl⟩
 |p::l,hl=>by
  have e:nN (p::l) h=UD (nN l h) p none:=rfl;rw[e,MW (hl p (by simp)) hb];by_cases c:b=p;·rw[ak c];exact .inl ⟨by simp[c],rfl⟩
  ·rw[aj c];rcases rJ (h:=h) hb l fun p hp=>hl p (by simp[hp])with⟨h1,h2⟩|⟨h1,h2⟩
   ·exact .inl ⟨by simp[h1],h2⟩
   ·exact .inr ⟨by simp[c,h1],h2⟩
structure iR where
 f:Nat
 args:AV
 nx:Nat
 bi:List (Nat×TB)
 v:AV
 nx':Nat
 bo:List (Nat×TB)
 ws:List Nat
def upN:Nat→Nat→List Nat:=fun n=>Nat.rec (motive:=fun _=>Nat→List Nat) (fun _=>[]) (fun _ ih k=>k::ih (Nat.succ k)) n
theorem Eu {b:Nat}:∀{n k:Nat},b∈upN n k↔k≤b∧b<k+n
 |0,k=>by show b∈[]↔_;simp
 |n+1,k=>by show b∈k::upN n (k+1)↔_;rw[aU,Eu];omega
def qx (e:iR):H:=F5 e.bi ⟨E.rep none hd,e.nx,nat_lit 0,[]⟩
def tL (e:iR) (h:H):H:=⟨(F5 e.bo (nN e.ws (nN (upN (Nat.sub e.nx' e.nx) e.nx) h))).t,e.nx',Nat.add h.ln e.ws.length,List.append e.ws h.log⟩
def jN (h:H):List (Nat×TB)→Bool:=List.rec (motive:=fun _=>Bool) true (fun p _ ih=>aA (match h.get p.1 with|some x=>eqB x p.2|none=>false) ih)
theorem wU {h:H}:∀{l:List (Nat×TB)},jN h l=true→∀p∈l,∃x,h.get p.1=some x∧eqB x p.2=true
 |[],_,p,hp=>by cases hp
 |q::l,e,p,hp=>by
  have e:aA (match h.get q.1 with|some x=>eqB x q.2|none=>false) (jN h l)=true:=e;obtain⟨h1,h2⟩:=au e;rcases aU.1 hp with rfl|hp
  ·cases hg:h.get p.1 with
   |none=>rw[hg]at h1;cases h1
   |some x=>rw[hg]at h1;exact⟨x,rfl,h1⟩
  ·exact wU h2 p hp
def MX {α:Type} (q:α→Bool):List α→Bool:=List.rec (motive:=fun _=>Bool) true (fun p _ ih=>aA (q p) ih)
theorem wV {α:Type} {q:α→Bool}:∀{l:List α},MX q l=true→∀p∈l,q p=true
 |[],_,p,hp=>by cases hp
 |x::l,e,p,hp=>by
  have e:aA (q x) (MX q l)=true:=e;obtain⟨h1,h2⟩:=au e;rcases aU.1 hp with rfl|hp;·exact h1
  ·exact wV h2 p hp
def or2 (a b:Bool):Bool:=Bool.rec b true a
theorem X8 {a b:Bool} (h:or2 a b=true):a=true∨b=true:=by cases a<;>cases b<;>simp_all [or2]
def useM (e:iR) (f:Nat) (args:AV) (h:H):Option bF:=
 Bool.rec none (some (.ok e.v (tL e h))) (aA (Nat.beq f e.f) (aA (Nat.beq h.next e.nx) (aA (kQ args e.args) (jN h e.bi))))
def UE (e:iR):Bool:=
 aA (aA (Nat.ble e.nx (nat_lit 65536)) (Nat.ble e.nx' (nat_lit 65536)))
  (aA (aA (MX (fun p:Nat×TB=>Nat.ble (Nat.succ p.1) e.nx) e.bi) (MX (fun p:Nat×TB=>aA (Nat.ble (Nat.succ p.1) e.nx') (or2 (Nat.ble e.nx p.1) (zY p.1 e.ws))) e.bo))
   (MX (fun b=>zY b (List.rec (motive:=fun _=>List Nat) [] (fun p _ ih=>p.1::ih) e.bi)) e.ws))
def X9 (e:iR):bF→Bool:=bF.rec (motive:=fun _=>Bool) false
 (fun v h=>aA (kQ v e.v) (aA (Nat.beq h.next e.nx') (aA (jN h e.bo) (MX (fun b=>or2 (Nat.ble e.nx b) (zY b e.ws)) h.log))))
theorem mem_keys {b:Nat}:∀{l:List (Nat×TB)},b∈(List.rec (motive:=fun _=>List Nat) [] (fun p _ ih=>p.1::ih) l:List Nat)→∃tb,(b,tb)∈l
 |[],h=>by cases h
 |p::l,h=>by
  rcases aU.1 h with rfl|h;·exact⟨p.2,by simp⟩
  ·obtain⟨tb,h⟩:=mem_keys h;exact⟨tb,by simp[h]⟩
structure OkM (e:iR):Prop where
 n1:e.nx≤65536
 n2:e.nx'≤65536
 bi:∀p∈e.bi,p.1<e.nx
 bo:∀p∈e.bo,p.1<e.nx'∧(e.nx≤p.1∨p.1∈e.ws)
 ws:∀b∈e.ws,∃tb,(b,tb)∈e.bi
theorem Ya {e:iR} (h:UE e=true):OkM e:=by
 obtain⟨h1,h⟩:=au h;obtain⟨h2,h3⟩:=au h;obtain⟨a1,a2⟩:=au h1;obtain⟨b1,b2⟩:=au h2;rw[aI]at a1 a2;refine⟨a1,a2,fun p hp=> ?_,fun p hp=> ?_,fun b hb=>mem_keys (nX.1 (wV h3 b hb))⟩;·have:=wV b1 p hp;rw[aI]at this;exact this
 ·obtain⟨q1,q2⟩:=au (wV b2 p hp);rw[aI]at q1;refine⟨q1,?_⟩;rcases X8 q2 with c|c
  ·rw[aI]at c;exact .inl c
  ·exact .inr (nX.1 c)
section
variable {P:Program} {ι:bg} {h:H} {w:World}
theorem ae0 {e:iR} (o:OkM e) {b:Nat} (hb:b<65536) {x:xZ} (hx:(qx e).get b=some x):∃tb,(b,tb)∈e.bi∧x=P8 0 tb:=by
 rcases Ai (h:=⟨E.rep none hd,e.nx,0,[]⟩) hb e.bi (fun p hp=>bH (o.bi p hp) o.n1)with⟨tb,h1,h2⟩|⟨_,h2⟩
 ·have h2:(qx e).get b=some (P8 0 tb):=h2;rw[hx]at h2;exact⟨tb,h1,dR h2⟩
 ·have h2:(qx e).get b=(⟨E.rep none hd,e.nx,0,[]⟩:H).get b:=h2;rw[hx]at h2;have h3:(⟨E.rep none hd,e.nx,0,[]⟩:H).get b=none:=E.wF _ _ _;rw[h3]at h2;cases h2
theorem KE {e:iR} (o:OkM e) (hag:jN h e.bi=true) {b:Nat} (hb:b<65536) {x:xZ} (hx:(qx e).get b=some x):∃y tb,h.get b=some y∧eqB y tb=true∧x=P8 0 tb:=by obtain⟨tb,h1,rfl⟩:=ae0 o hb hx;obtain⟨y,hy,hq⟩:=wU hag _ h1;exact⟨y,tb,hy,hq,rfl⟩
theorem adF {e:iR} (o:OkM e) (hag:jN h e.bi=true) (hn:h.next=e.nx) (k:WR ι h w):WR ι (qx e) w:=by
 have hnx:(qx e).next=e.nx:=(wT e.bi _).1
 refine⟨by rw[hnx];exact o.n1,fun b hb=>k.fresh b (by rw[hn];rw[hnx]at hb;exact hb),fun b x _ hb hx=> ?_,fun b b' x x' m m' _ _ hb hb' hx hx' hm hm' hB=> ?_⟩;·rw[hnx]at hb;obtain⟨y,tb,hy,hq,rfl⟩:=KE o hag (by have:=o.n1;omega) hx;obtain⟨m,ob,z1,z2,z3⟩:=k.blk b y trivial (by omega) hy;exact⟨m,ob,z1,z2,X7 hq z3⟩
 ·rw[hnx]at hb hb';obtain⟨y,tb,hy,_,_⟩:=KE o hag (by have:=o.n1;omega) hx;obtain⟨y',tb',hy',_,_⟩:=KE o hag (by have:=o.n1;omega) hx';exact k.inj b b' y y' m m' trivial trivial (by omega) (by omega) hy hy' hm hm' hB
theorem Sb {e:iR} (o:OkM e) {v1:AV} {h1:H} (hc:X9 e (.ok v1 h1)=true) (k:WR ι h w) (hn:h.next=e.nx) (hag:jN h e.bi=true) {v':Value} {w':World}
 (hcr:CR ι (qx e) w v1 h1 v' w'):CR ι h w e.v (tL e h) v' w':=by
 obtain⟨c1,hc⟩:=au hc;obtain⟨c2,hc⟩:=au hc;obtain⟨c3,c4⟩:=au hc;have c2:=aO c2;obtain rfl:=KD _ _ c1;obtain⟨ι1,W,hv,k1,E⟩:=hcr;have hnx:(qx e).next=e.nx:=(wT e.bi _).1
 have hWl:W=h1.log:=by have q:=E.log;have q2:(qx e).log=[]:=(wT e.bi _).2.1;rw[q2,eD]at q;exact q.symm
 have hWs:∀b∈W,b<e.nx→b∈e.ws:=fun b hb hlt=>by
  rcases X8 (wV c4 b (hWl▸hb))with c|c;·rw[aI]at c;omega
  ·exact nX.1 c
 have n1:=o.n1;have n2:=o.n2;have nlt:∀b m,ι b=some m→b<e.nx:=fun b m hb=>by
  rcases aK b e.nx with c|c;·exact c
  ·rw[k.fresh b (by omega)]at hb;cases hb
 have live:∀b∈e.ws,∃y,h.get b=some y:=fun b hb=>by obtain⟨tb,hm⟩:=o.ws b hb;obtain⟨y,hy,_⟩:=wU hag _ hm;exact⟨y,hy⟩
 have ahV:∀b∈e.ws,b<e.nx:=fun b hb=>by obtain⟨tb,hm⟩:=o.ws b hb;exact o.bi _ hm
 have hle:ι.le ι1:=E.le fun b hb=>k.fresh b (by rw[hn];rw[hnx]at hb;exact hb);have stays:∀b y m,b<e.nx→b∉e.ws→h.get b=some y→ι b=some m→w'.heap[m.B]? =w.heap[m.B]? :=fun b y m hb hws hy hm=>by obtain⟨m1,ob,z1,z2,_⟩:=k.blk b y trivial (by omega) hy;rw[hm]at z1;cases z1;refine E.heap m.B (dH.1 z2).1 fun b0 hb0 m0 hm0 hB=> ?_;have hlt:=nlt b0 m0 hm0;have hw0:=hWs b0 hb0 hlt;obtain⟨y0,hy0⟩:=live b0 hw0;have:=k.inj b0 b y0 y m0 m trivial trivial (by omega) (by omega) hy0 hy hm0 hm hB;subst this;exact hws hw0
 have nle:e.nx≤e.nx':=by have:=E.next;rw[hnx,c2]at this;exact this
 have ahW:∀p∈upN (Nat.sub e.nx' e.nx) e.nx,p<65536:=fun p hp=>by obtain⟨_,q⟩:=Eu.1 hp;have q:p<e.nx+(e.nx'-e.nx):=q;omega
 have wsb:∀p∈e.ws,p<65536:=fun p hp=>bH (ahV p hp) o.n1;have bob:∀p∈e.bo,p.1<65536:=fun p hp=>bH (o.bo p hp).1 o.n2;have get':∀b x,b<e.nx'→(tL e h).get b=some x→(∃tb y,(b,tb)∈e.bo∧h1.get b=some y∧eqB y tb=true∧x=P8 0 tb)∨(b<e.nx∧b∉e.ws∧(∀tb,(b,tb)∉e.bo)∧h.get b=some x):=fun b x hb hx=>by
  have hx:(F5 e.bo (nN e.ws (nN (upN (Nat.sub e.nx' e.nx) e.nx) h))).get b=some x:=hx;rcases Ai (h:=nN e.ws (nN (upN (Nat.sub e.nx' e.nx) e.nx) h)) (show b<65536 by omega) e.bo bob with⟨tb,q1,q2⟩|⟨q1,q2⟩
  ·rw[hx]at q2;obtain⟨y,hy,hq⟩:=wU c3 _ q1;exact .inl ⟨tb,y,q1,hy,hq,dR q2⟩
  ·rw[hx]at q2;rcases rJ (h:=nN (upN (Nat.sub e.nx' e.nx) e.nx) h) (show b<65536 by omega) e.ws wsb with⟨_,r2⟩|⟨r1,r2⟩
   ·rw[r2]at q2;cases q2
   ·rw[r2]at q2;rcases rJ (h:=h) (show b<65536 by omega) _ ahW with⟨_,s2⟩|⟨s1,s2⟩
    ·rw[s2]at q2;cases q2
    ·rw[s2]at q2;refine .inr ⟨?_,r1,q1,q2.symm⟩;rcases aK b e.nx with c|c
     ·exact c
     ·exfalso;refine s1 (Eu.2 ⟨c,?_⟩);show b<e.nx+(e.nx'-e.nx)
      omega
 have kept':∀b,b<e.nx→b∉e.ws→(tL e h).get b=h.get b:=fun b hb hws=>by
  show(F5 e.bo (nN e.ws (nN (upN (Nat.sub e.nx' e.nx) e.nx) h))).get b=_;rcases Ai (h:=nN e.ws (nN (upN (Nat.sub e.nx' e.nx) e.nx) h)) (show b<65536 by omega) e.bo bob with⟨tb,q1,_⟩|⟨_,q2⟩
  ·rcases(o.bo _ q1).2 with c|c
   ·exact absurd c (by show ¬e.nx≤b;omega)
   ·exact absurd c hws
  ·rw[q2];rcases rJ (h:=nN (upN (Nat.sub e.nx' e.nx) e.nx) h) (show b<65536 by omega) e.ws wsb with⟨r1,_⟩|⟨_,r2⟩
   ·exact absurd r1 hws
   ·rw[r2];rcases rJ (h:=h) (show b<65536 by omega) _ ahW with⟨s1,_⟩|⟨_,s2⟩
    ·have:=(Eu.1 s1).1;omega
    ·exact s2
 have Eo:∀b,b<e.nx→ι1 b=ι b:=fun b hb=>E.Eo b (by rw[hnx];exact hb);have apart:∀b b' x' y m m',b<e.nx→b∉e.ws→h.get b=some y→ι b=some m→b'<e.nx'→h1.get b'=some x'→(e.nx≤b'∨b'∈e.ws)→ι1 b'=some m'→m.B=m'.B→b=b':=fun b b' x' y m m' hb hws hy hm hb' hx' hor hm' hB=>by
  have hsz:m.B<w.heap.size:=by obtain⟨m1,ob,z1,z2,_⟩:=k.blk b y trivial (by omega) hy;rw[hm]at z1;cases z1;exact(dH.1 z2).1
  rcases hor with c|c
  ·rcases E.new b' m' (by rw[hnx];exact c) hm' with q|⟨b0,hb0,m0,hm0,hB0⟩
   ·omega
   ·have hlt:=nlt b0 m0 hm0;have hw0:=hWs b0 hb0 hlt;obtain⟨y0,hy0⟩:=live b0 hw0;have:=k.inj b0 b y0 y m0 m trivial trivial (by omega) (by omega) hy0 hy hm0 hm (by omega);subst this;exact absurd hw0 hws
  ·obtain⟨y0,hy0⟩:=live b' c;have hlt:=ahV b' c;rw[Eo b' hlt]at hm';exact k.inj b b' y y0 m m' trivial trivial (by omega) (by omega) hy hy0 hm hm' hB
 refine⟨ι1,e.ws,hv,?_,?_⟩
 ·refine⟨o.n2,fun b hb=>k1.fresh b (by rw[c2];exact hb),fun b x _ hb hx=> ?_,fun b b' x x' m m' _ _ hb hb' hx hx' hm hm' hB=> ?_⟩
  ·have hb:b<e.nx':=hb;rcases get' b x hb hx with⟨tb,y,q1,q2,q3,rfl⟩|⟨q1,q2,q3,q4⟩
   ·obtain⟨m,ob,z1,z2,z3⟩:=k1.blk b y trivial (by omega) q2;exact⟨m,ob,z1,z2,X7 q3 z3⟩
   ·obtain⟨m,ob,z1,z2,z3⟩:=k.blk b x trivial (by omega) q4;exact⟨m,ob,hle _ _ z1,by rw[stays b x m q1 q2 q4 z1];exact z2,z3.mono hle⟩
  ·have hb:b<e.nx':=hb;have hb':b'<e.nx':=hb';rcases get' b x hb hx with⟨tb,y,q1,q2,q3,rfl⟩|⟨q1,q2,q3,q4⟩<;>rcases get' b' x' hb' hx' with⟨tb',y',r1,r2,r3,rfl⟩|⟨r1,r2,r3,r4⟩
   ·exact k1.inj b b' y y' m m' trivial trivial (by omega) (by omega) q2 r2 hm hm' hB
   ·rw[Eo b' r1]at hm';exact(apart b' b y x' m' m r1 r2 r4 hm' hb q2 (o.bo _ q1).2 hm hB.symm).symm
   ·rw[Eo b q1]at hm;exact apart b b' y' x m m' q1 q2 q4 hm hb' r2 (o.bo _ r1).2 hm' hB
   ·rw[Eo b q1]at hm;rw[Eo b' r1]at hm';exact k.inj b b' x x' m m' trivial trivial (by omega) (by omega) q4 r4 hm hm' hB
 ·exact{
   next:=by show h.next≤e.nx';omega
   Eo:=fun b hb=>Eo b (by omega)
   log:=rfl
   ln:=rfl
   kept:=fun b hb hnw=>kept' b (by omega) hnw
   live:=fun b hb _=>live b hb
   size:=E.size
   heap:=fun i hi hno=>E.heap i hi fun b hb m hm=>hno b (hWs b hb (nlt b m hm)) m hm
   new:=fun b m hb hm=>by
    rcases E.new b m (by rw[hnx];omega) hm with q|⟨b0,hb0,m0,hm0,hB0⟩
    ·exact .inl q
    ·exact .inr ⟨b0,hWs b0 hb0 (nlt b0 m0 hm0),m0,hm0,hB0⟩
   os:=E.os
   tape:=E.tape
   out:=E.out}
end
def vE (P:Program) (e:iR):Prop:=∀f args h v h',useM e f args h=some (.ok v h')→∀ι w (vs:Array Value),WR ι h w→GI ι→iC ι args vs.toList→
 Dg P (callFunc f vs) w (CR ι h w v h')
theorem useM_inv {e:iR} {f:Nat} {args v:AV} {h h':H} (u:useM e f args h=some (.ok v h')):f=e.f∧h.next=e.nx∧args=e.args∧jN h e.bi=true∧v=e.v∧h'=tL e h:=by
 unfold useM at u;cases hc:(aA (Nat.beq f e.f) (aA (Nat.beq h.next e.nx) (aA (kQ args e.args) (jN h e.bi))))
 ·rw[hc]at u;cases u
 ·rw[hc]at u;cases u;obtain⟨h1,hc⟩:=au hc;obtain⟨h2,hc⟩:=au hc;obtain⟨h3,h4⟩:=au hc;exact⟨aO h1,aO h2,KD _ _ h3,h4,rfl,rfl⟩
theorem MZ {P:Program} {ext:Nat→Nat} {jh:Nat→AV→H→Option bF} {N:Nat} {e:iR} (mZ:P.follows .mixedOrders=true) (hprog:fZ P=true)
 (hext:oW P (cB P ext jh)) (uL:fV P (cB P ext jh)) (hf:(fnOf P e.f).isSome=true) (hno:jh e.f e.args (qx e)=none) (ho:UE e=true)
 (hrun:X9 e ((run (cB P ext jh) (Nat.succ N)).call e.f e.args (qx e))=true):vE P e:=by
 intro f args h v h' u ι w vs k hG ha;obtain⟨rfl,hn,rfl,hag,rfl,rfl⟩:=useM_inv u;obtain⟨x,hx⟩:=uR.1 hf;have o:=Ya ho;cases hr:(run (cB P ext jh) (Nat.succ N)).call e.f e.args (qx e)with
 |fail=>rw[hr]at hrun;cases hrun
 |ok v1 h1=>rw[hr]at hrun;have hen:=lD (nZ P ext jh) mZ (fnsOk_of hprog) hext uL (N:=N) (f:=e.f) (x:=x) hx hno hr (vs:=vs) (adF o hag hn k) hG ha;exact .inr ⟨e.f,vs,w,yK (nZ P ext jh) (fnsOk_of hprog) hx vs w,hen.mono fun v' w' hcr=>Sb o hrun k hn hag hcr⟩
def UF (l:List iR) (f:Nat) (args:AV) (h:H):Option bF:=List.rec (motive:=fun _=>Option bF) none
 (fun e _ ih=>Option.rec (motive:=fun _=>Option bF) ih some (useM e f args h)) l
theorem M0 {f:Nat} {args:AV} {h:H} {r:bF}:∀{l:List iR},UF l f args h=some r→∃e∈l,useM e f args h=some r
 |[],u=>by cases u
 |e::l,u=>by
  have u:Option.rec (motive:=fun _=>Option bF) (UF l f args h) some (useM e f args h)=some r:=u;cases hu:useM e f args h with
  |none=>rw[hu]at u;obtain⟨e',h1,h2⟩:=M0 u;exact⟨e',by simp[h1],h2⟩
  |some r'=>rw[hu]at u;cases u;exact⟨e,by simp,hu⟩
theorem KF {P:Program} {ext:Nat→Nat} {l:List iR} (h:∀e∈l,vE P e):fV P (cB P ext (UF l)):=by intro f args hh v h' u ι w vs k hG ha;obtain⟨e,h1,h2⟩:=M0 u;exact h e h1 f args hh v h' h2 ι w vs k hG ha
theorem aoy {P:Program}:∀e∈([]:List iR),vE P e:=fun _ h=>by cases h
theorem amB {P:Program} {e:iR} {l:List iR} (h:vE P e) (r:∀e∈l,vE P e):∀x∈e::l,vE P x:=fun x hx=>by
 rcases aU.1 hx with rfl|hx;·exact h
 ·exact r x hx
end
noncomputable section
def Qb (f:AV→H→Bool):bF→Bool:=bF.rec (motive:=fun _=>Bool) false (fun v h=>aA (f v h) (FX (nat_lit 64) h.log))
theorem abt {f:AV→H→Bool} {r:bF} (h:Qb f r=true):∃v h',r= .ok v h'∧f v h'=true∧∀x∈h'.log,64≤x:=by
 cases r with
 |fail=>cases h
 |ok v h'=>have h:aA (f v h') (FX (nat_lit 64) h'.log)=true:=h;obtain⟨h1,h2⟩:=au h;exact⟨v,h',rfl,h1,FY h2⟩
theorem Aj {P:Program} {ext:Nat→Nat} {jh:Nat→AV→H→Option bF} {N f:Nat} {l:List (Nat×List Value)} (mZ:P.follows .mixedOrders=true) (hprog:fZ P=true) (hext:oW P (cB P ext jh)) (uL:fV P (cB P ext jh))
 (hf:(fnOf P f).isSome=true) {args:AV} (hno:jh f args (jQ l)=none) {q:AV→H→Bool}
 (e:Qb q ((run (cB P ext jh) (Nat.succ N)).call f args (jQ l))=true) {w:World} (hl:∀p∈l,p.1<64∧p.2.length≤4000000∧TabAt w p.1 p.2) {vs:Array Value} (ha:iC (tK w) args vs.toList):
 Calls P f vs w fun o w'=>∃v' v h' ι',o= .returned v'∧q v h'=true∧VR ι' v v'∧WR ι' h' w'∧RowKit.Below w.heap.size w w':=by
 obtain⟨x,hx⟩:=uR.1 hf;obtain⟨v,h',hr,hq,X0⟩:=abt e;have hc:=(lD (nZ P ext jh) mZ (fnsOk_of hprog) hext uL (N:=N) (f:=f) (x:=x) hx hno hr (vs:=vs) (Kz hl) (Et w) ha).calls;refine hc.mono fun o w' ho=> ?_;obtain⟨v',rfl,ι',W,hv,hw,hE⟩:=ho;have hW:W=h'.log:=by have h1:=hE.log;have h2:(jQ l).log=[]:=rfl;rw[h2,eD]at h1;exact h1.symm
 refine⟨v',v,h',ι',rfl,hq,hv,hw,hE.os,hE.tape,hE.out,hE.size,fun k hk=>hE.heap k hk fun b hb m hm=> ?_⟩;have:=X0 b (hW▸hb);unfold tK at hm;rw[aj (by omega)]at hm;cases hm
def M4 (k:Nat):E (Option AV) k→Bool:=
 Nat.rec (motive:=fun k=>E (Option AV) k→Bool) (fun e=>match e with|none=>true|some _=>false) (fun _ ih e=>aA (ih e.a) (aA (ih e.b) (aA (ih e.c) (ih e.d)))) k
theorem wW:∀(k:Nat) (e:E (Option AV) k),M4 k e=true→∀p,E.get k p e=none
 |0,e,h,p=>by
  show(e:Option AV)=none;cases e with
  |none=>rfl
  |some x=>cases h
 |k+1,e,h,p=>by
  have h:aA (M4 k e.a) (aA (M4 k e.b) (aA (M4 k e.c) (M4 k e.d)))=true:=h;obtain⟨h1,h⟩:=au h;obtain⟨h2,h⟩:=au h;obtain⟨h3,h4⟩:=au h;cases p with
  |z=>exact wW k e.a h1 .z
  |s d p=>rw[E.Dl];cases d;exact wW k _ h1 p;exact wW k _ h2 p;exact wW k _ h3 p;exact wW k _ h4 p
def yx (k:Nat):E (Option AV) k→Nat→List (Nat×AV):=
 Nat.rec (motive:=fun k=>E (Option AV) k→Nat→List (Nat×AV)) (fun e b=>match e with|none=>[]|some x=>[(b,x)])
  (fun k ih e b=>Bool.rec (List.append (ih e.a b) (List.append (ih e.b (Nat.add b (Nat.pow 4 k))) (List.append (ih e.c (Nat.add b (Nat.mul 2 (Nat.pow 4 k)))) (ih e.d (Nat.add b (Nat.mul 3 (Nat.pow 4 k))))))) [] (M4 (Nat.succ k) e)) k
theorem Ak:∀(k:Nat) (e:E (Option AV) k) (b i:Nat) (x:AV),i<4^k→E.get k (path k i) e=some x→(b+i,x)∈yx k e b
 |0,e,b,i,x,hi,h=>by
  have hi:i=0:=by simpa using hi
  subst hi;have h:(e:Option AV)=some x:=h;subst h;exact fE.2 rfl
 |k+1,e,b,i,x,hi,h=>by
  have hl:yx (k+1) e b=Bool.rec (List.append (yx k e.a b) (List.append (yx k e.b (Nat.add b (Nat.pow 4 k))) (List.append (yx k e.c (Nat.add b (Nat.mul 2 (Nat.pow 4 k)))) (yx k e.d (Nat.add b (Nat.mul 3 (Nat.pow 4 k))))))) [] (M4 (Nat.succ k) e):=rfl;rw[hl];cases hem:M4 (Nat.succ k) e with
  |true=>rw[wW _ _ hem]at h;cases h
  |false=>
   show(b+i,x)∈yx k e.a b++(yx k e.b (b+4^k)++(yx k e.c (b+2*4^k)++yx k e.d (b+3*4^k)))
   rw[Cn,E.Dl]at h;have hp:0<4^k:=Nat.pow_pos (by omega);have hd:i/4^k<4:=Nat.div_lt_of_lt_mul (by rw[Nat.pow_succ]at hi;exact hi);have hm:=Nat.mod_lt i hp;have hdm:=Nat.div_add_mod i (4^k);have:i/4^k=0∨i/4^k=1∨i/4^k=2∨i/4^k=3:=(fun q (h:q<4)=>(by omega:q=0∨q=1∨q=2∨q=3)) _ hd;simp only[jk];rcases this with c|c|c|c<;>rw[c]at h hdm;·have:=Ak k e.a b _ x hm h;rw[show b+i=b+i%4^k by omega];exact .inl this
   ·have:=Ak k e.b (b+4^k) _ x hm h;rw[show b+i=b+4^k+i%4^k by omega];exact .inr (.inl this)
   ·have:=Ak k e.c (b+2*4^k) _ x hm h;rw[show b+i=b+2*4^k+i%4^k by omega];exact .inr (.inr (.inl this))
   ·have:=Ak k e.d (b+3*4^k) _ x hm h;rw[show b+i=b+3*4^k+i%4^k by omega];exact .inr (.inr (.inr this))
theorem first_none:∀{l:List MapEntry} {k:Value},(∀x∈l,x.key≠k)→bT l k none
 |[],_,_=>rfl
 |x::l,_,h=> .inr ⟨h x (by simp),first_none fun y hy=>h y (by simp[hy])⟩
theorem oI {ι:bg} {h:H} {w:World} {b off c:Nat} {v:Value} {el:Nat} {ro:Bool} {n d:Nat} {t:E AV d} (k:WR ι h w) (hv:VR ι (.ptr b off) v) (hb:h.get b=some (.cells el ro n d t)) (hc:off+c≤n):
 ∃B o,v= .pointer (some ⟨B,o,none⟩)∧∀i,i<c→∃x,w.cell? ⟨B,o+i,none⟩=some x∧VR ι (E.get d (path d (off+i)) t) x:=by
 obtain⟨m,hm,rfl⟩:=hv;obtain⟨arr,jv,lo,hi,hw,h1,h2,h3,h4,h5⟩:=k.cells trivial hm hb;refine⟨m.B,m.sh+off,rfl,fun i hi=>⟨arr.getD (m.sh+(off+i)) undef,?_,h4 (off+i) (by omega)⟩⟩;rw[show m.sh+off+i=m.sh+(off+i)by omega];have hlt:m.sh+(off+i)<arr.size:=by omega
 unfold World.cell?;rw[hw];simp[Array.getD,hlt]
theorem gQ {ι:bg} {h:H} {w:World} {b off len es:Nat} {z:Bool} {v:Value} {el:Nat} {ro:Bool} {n d:Nat} {t:E AV d} (k:WR ι h w) (hv:VR ι (.slice b off len es z) v) (hlen:0<len) (hb:h.get b=some (.cells el ro n d t)) (hc:off+len*es≤n):
 ∃B o cap,v= .slice (some ⟨B,o,none⟩) len cap∧len≤cap∧∀i,i<len*es→∃x,w.cell? ⟨B,o+i,none⟩=some x∧VR ι (E.get d (path d (off+i)) t) x:=by
 obtain⟨m,y,cap,hm,rfl,hle,hz,hy⟩:=hv;obtain⟨rfl,WU⟩:y=⟨m.B,m.sh+off,none⟩∧m.sh+off+cap*es≤m.cs:=by
  rcases hy with hy|hy;·omega
  ·exact hy
 obtain⟨arr,jv,lo,hi,hw,h1,h2,h3,h4,h5⟩:=k.cells trivial hm hb;refine⟨m.B,m.sh+off,cap,rfl,hle,fun i hi=>⟨arr.getD (m.sh+(off+i)) undef,?_,h4 (off+i) (by omega)⟩⟩;rw[show m.sh+off+i=m.sh+(off+i)by omega];have hlt:m.sh+(off+i)<arr.size:=by omega
 unfold World.cell?;rw[hw];simp[Array.getD,hlt]
end
noncomputable section
theorem WR.below {ι:bg} {h:H} {w w':World} (k:WR ι h w) (hb:RowKit.Below w.heap.size w w'):WR ι h w':=
 ⟨k.most,k.fresh,fun b x d hl hx=>by
  obtain⟨m,o,z1,z2,z3⟩:=k.blk b x d hl hx;exact⟨m,o,z1,(hb.block m.B (dH.1 z2).1).trans z2,z3⟩,k.inj⟩
def h0 (n:Nat):H:=⟨E.rep none hd,n,nat_lit 0,[]⟩
theorem Yb {n:Nat} (h1:64≤n) (h2:n≤65536) (w:World):WR (tK w) (h0 n) w:=
 have e:∀b,(h0 n).get b=none:=fun _=>E.wF _ _ _
 ⟨h2,fun b hb=>by have hb:n≤b:=hb;unfold tK;rw[aj (by omega)],fun b x _ _ hx=>(by rw[e]at hx;cases hx),fun b _ x _ _ _ _ _ _ _ hx=>(by rw[e]at hx;cases hx)⟩
def Ap (e:iR) (q:AV→H→Bool):bF→Bool:=bF.rec (motive:=fun _=>Bool) false (fun v h=>aA (q v h) (X9 e (.ok v h)))
theorem Aq {P:Program} {ext:Nat→Nat} {jh:Nat→AV→H→Option bF} {N:Nat} {e:iR} (mZ:P.follows .mixedOrders=true) (hprog:fZ P=true)
 (hext:oW P (cB P ext jh)) (uL:fV P (cB P ext jh)) (hws:e.ws=[]) {q:AV→H→Bool}
 (hall:aA (fnOf P e.f).isSome (aA (jh e.f e.args (qx e)).isNone (aA (UE e) (Ap e q ((run (cB P ext jh) (Nat.succ N)).call e.f e.args (qx e)))))=true)
 {h:H} {ι:bg} {w:World} (k:WR ι h w) (hG:GI ι) (hn:h.next=e.nx) (hag:jN h e.bi=true) {vs:Array Value} (ha:iC ι e.args vs.toList):
 Calls P e.f vs w fun o w'=>∃v',o= .returned v'∧(∃v1 h1 ι1,q v1 h1=true∧VR ι1 v1 v'∧WR ι1 h1 w')∧(∃ι',WR ι' (tL e h) w'∧GI ι'∧VR ι' e.v v')∧RowKit.Below w.heap.size w w':=by
 obtain⟨hf,hall⟩:=au hall;obtain⟨hno,hall⟩:=au hall;obtain⟨ho,hrun⟩:=au hall;obtain⟨x,hx⟩:=uR.1 hf;have o:=Ya ho;cases hr:(run (cB P ext jh) (Nat.succ N)).call e.f e.args (qx e)with
 |fail=>rw[hr]at hrun;cases hrun
 |ok v1 h1=>
  rw[hr]at hrun;obtain⟨hq,hc⟩:=au hrun;refine(lD (nZ P ext jh) mZ (fnsOk_of hprog) hext uL (N:=N) (f:=e.f) (x:=x) hx (Ev.1 hno) hr (vs:=vs) (adF o hag hn k) hG ha).calls.mono ?_;rintro oo w' ⟨v',rfl,hcr⟩;have amC:=Sb o hc k hn hag hcr;obtain⟨ι1,_,hv1,hw1,_⟩:=hcr;obtain⟨ι2,W,hv2,hw2,hE⟩:=amC;have hW:W=[]:=by have h1:=hE.log;have h2:(tL e h).log=List.append e.ws h.log:=rfl;rw[h2,hws]at h1;have:=eT List.length h1;rw[bf]at this;exact List.length_eq_zero_iff.1 (by have h3:(List.append ([]:List Nat) h.log).length=h.log.length:=rfl;omega)
  refine⟨v',rfl,⟨v1,h1,ι1,hq,hv1,hw1⟩,⟨ι2,hw2,hG.mono (hE.le k.fresh),hv2⟩,hE.os,hE.tape,hE.out,hE.size,fun j hj=>hE.heap j hj fun b hb=> ?_⟩;rw[hW]at hb;cases hb
def all2 {α β:Type} (q:α→β→Bool) (l:List α):List β→Bool:=List.rec (motive:=fun _=>List β→Bool) (fun _=>true) (fun x _ ih r=>List.rec (motive:=fun _=>Bool) false (fun y r _=>aA (q x y) (ih r)) r) l
theorem Sc {α β:Type} {q:α→β→Bool}:∀{l:List α} {r:List β},all2 q l r=true→∀x∈l,∃y,q x y=true
 |[],_,_,x,hx=>by cases hx
 |_::_,[],e,_,_=>by cases e
 |a::l,b::r,e,x,hx=>by
  have e:aA (q a b) (all2 q l r)=true:=e;obtain⟨h1,h2⟩:=au e;rcases aU.1 hx with rfl|hx;·exact⟨b,h1⟩
  ·exact Sc h2 x hx
theorem Sd {P:Program} {ext:Nat→Nat} {jh:Nat→AV→H→Option bF} {N:Nat} {tabs:List (Nat×List Value)} (mZ:P.follows .mixedOrders=true) (hprog:fZ P=true)
 (hext:oW P (cB P ext jh)) (uL:fV P (cB P ext jh)) (ht:yS tabs=true) {l:List Known} (r:List (List Nat))
 (h:all2 (fun(e:Known) R=>aA (fnOf P e.f).isSome (aA (jh e.f e.args (jQ tabs)).isNone (X5 e R ((run (cB P ext jh) (Nat.succ N)).call e.f e.args (jQ tabs))))) l r=true):∀e∈l,qw P tabs e:=fun e he=>by
 obtain⟨R,h⟩:=Sc h e he;obtain⟨h1,h2⟩:=au h;obtain⟨h3,h4⟩:=au h2;exact P9 (N:=N) mZ hprog hext uL h1 (Ev.1 h3) ht h4
theorem abu {P:Program} {ext:Nat→Nat} {jh:Nat→AV→H→Option bF} {N:Nat} (mZ:P.follows .mixedOrders=true) (hprog:fZ P=true)
 (hext:oW P (cB P ext jh)) (uL:fV P (cB P ext jh)) {l:List iR}
 (h:MX (fun(e:iR)=>aA (fnOf P e.f).isSome (aA (jh e.f e.args (qx e)).isNone (aA (UE e) (X9 e ((run (cB P ext jh) (Nat.succ N)).call e.f e.args (qx e)))))) l=true):∀e∈l,vE P e:=fun e he=>by
 obtain⟨h1,h2⟩:=au (wV h e he);obtain⟨h3,h4⟩:=au h2;obtain⟨h5,h6⟩:=au h4;exact MZ (N:=N) mZ hprog hext uL h1 (Ev.1 h3) h5 h6
theorem jR {α:Type} {p:α→Prop} {a b:List α} (h:∀e∈a,p e) (k:∀e∈b,p e):∀e∈List.append a b,p e:=fun e he=>(jk.1 he).elim (h e) (k e)
end
end Go.Proofs.YtocaiijbhepnnaaGreatDoor.Am
