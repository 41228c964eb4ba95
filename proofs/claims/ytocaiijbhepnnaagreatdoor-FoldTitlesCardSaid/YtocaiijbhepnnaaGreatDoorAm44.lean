/- The machine's soundness: drawn regions, put together; the whole machine. -/
import Derived.Test.YtocaiijbhepnnaaGreatDoorAm39
import Derived.Lib.Bytealg
namespace Go.Proofs.YtocaiijbhepnnaaGreatDoor.Am
theorem SF.refl (h:H):SF h h []:=⟨ay _,rfl,rfl,λ_ _ _=>rfl,λ_ hb=>by cases hb⟩
theorem SF.trans {h0 h1 h2:H} {W1 W2:List Nat} (e:SF h0 h1 W1) (k:SF h1 h2 W2):SF h0 h2 (W2++W1)where
 next:=bF e.next k.next
 log:=by rw[k.log,e.log,iL]
 ln:=by rw[k.ln,e.ln,bV];omega
 kept b hb hn:=by rw[k.kept b (bJ hb e.next) (λhm=>hn (iF _ hm)),e.kept b hb (λhm=>hn (iM _ hm))]
 live b hb hlt:=by
  rcases iE.1 hb with h2|h1
  ·by_cases hm:b∈W1
   ·exact e.live b hm hlt
   ·obtain⟨x,hx⟩:=k.live b h2 (bJ hlt e.next);exact⟨x,by rw[<-e.kept b hlt hm];exact hx⟩
  ·exact e.live b h1 hlt
theorem SF.toWl {Hh:Nat->H} {i:Nat} {W:List Nat} (e:SF (Hh i) (Hh (i+1)) W):SF (Hh i) (Hh (i+1)) (wl Hh i):=by
 have:wl Hh i=W:=by unfold wl;rw[e.ln,e.log,uW,List.take_left]
 rw[this];exact e
theorem Um (S:Nat->Bool):∀N,cnt S N<=N
 |0=>ay _
 |N+1=>by simp only[cnt];have:=Um S N;split<;>omega
section
variable {P:Program} {g:G}
theorem XZ (hg:jP P g) (pW:P.follows .mixedOrders=true):DR P g:=by
 intro n id ops hok cx ι en h df a w b cs p kk;have adR:∀(j:Nat) (o:Oper),ops[j]? =some o->fK n ops.toList o=true:=λj o ho=>by
  have:o∈ops.toList:=by rw[<-dN]at ho;exact pI ho
  exact dZ.1 hok o this
 have eK:(Ci g ops.toList true)=(match okD (masks [] (ops.toList.map (j6 g ops.toList))) (ops.toList.map (j6 g ops.toList)) (nat_lit 0) []with
  |true=>⟨λcx en h df=>WY (masks [] (ops.toList.map (j6 g ops.toList))) cx (ops.toList.map (j6 g ops.toList)) (nat_lit 0) [] en h df⟩
  |false=>failK):=rfl
 rw[eK];clear eK;generalize hms:masks [] (ops.toList.map (j6 g ops.toList))=ms;cases hD:okD ms (ops.toList.map (j6 g ops.toList)) (nat_lit 0) []with
 |false=>trivial
 |true=>
  dsimp only;have hDk:=Ud hD;have Ag:∀(j:Nat) (o:Oper),ops[j]? =some o->(ops.toList.map (j6 g ops.toList))[j]? =some (j6 g ops.toList o):=λj o ho=>by rw[fq,dN,ho];rfl
  have hdr:∀(j:Nat) (o:Oper),ops[j]? =some o->rG (nX g o.op)=true:=λj o ho=>(hDk j _ (Ag j o ho)).1;have hdr':∀o∈ops.toList,rG (nX g o.op)=true:=λo ho=>by obtain⟨j,hj,e⟩:=mD.1 ho;exact hdr j o (by rw[<-dN,aS hj,e])
  by_cases hf:WY ms cx (ops.toList.map (j6 g ops.toList)) 0 [] en h df= .fail;·show Out P b n kk cs ι h w _ (WY ms cx (ops.toList.map (j6 g ops.toList)) 0 [] en h df);rw[hf];trivial
  ·obtain⟨E,Hh,V,X,e1,e2,e3,s1,_,s3⟩:=IC (ops:=ops.toList) ops.toList 0 [] en h hdr' hf;show Out P b n kk cs ι h w _ (WY ms cx (ops.toList.map (j6 g ops.toList)) 0 [] en h df);rw[e3];rw[bI,jE];have st:∀(j:Nat) (o:Oper),ops[j]? =some o->StepT g cx df ops.toList E Hh V X j o:=λj o ho=>by have:=s1 j o (by rw[dN];exact ho);rwa [bI]at this
   have text:∀i,i<=ops.size->(∃ι1 a1 w1,Pre P n cx ι1 (E i) (Hh i) df a1 w1 b cs)/\∀j,j<i->X j=true->SF (Hh j) (Hh (j+1)) (wl Hh j):=by
    intro i;induction i with
    |zero=>intro _;exact⟨⟨ι,a,w,by rw[e1,e2];exact p⟩,λj hj=>by omega⟩
    |succ i ih=>
     intro hi;obtain⟨⟨ι1,a1,w1,p1⟩,hsf⟩:=ih (by omega);obtain⟨o,ho⟩:=opAt (show i<ops.size by omega);have hst:=st i o ho;have Ju:=adR i o ho;have hgd:=Uk Ju p1.env;cases hx:X i with
     |false=>
      obtain⟨_,hv,hH⟩:=hst.no hx;refine⟨⟨ι1,a1.put o.dst undef,w1,?_⟩,λj hj hxj=> ?_⟩;·rw[hst.env,hv,hH];exact⟨p1.cok,vD p1.env (yK Ju) ⟨#[],rfl,rfl⟩,by rw[put_defers];exact p1.vC,p1.wr,p1.gi,p1.rd,p1.calm⟩
      ·by_cases c:j=i
       ·subst c;rw[hx]at hxj;cases hxj
       ·exact hsf j (by omega) hxj
     |true=>
      obtain⟨h1,h2⟩:=hst.run hx;obtain⟨ι2,a2,w2,_,s⟩:=OQ (rest:=[]) (kk:=[]) hg p1 ho Ju (hgd.1 h1) h2;refine⟨⟨ι2,a2,w2,?_⟩,λj hj hxj=> ?_⟩;·rw[hst.env];exact p1.next s
      ·by_cases c:j=i
       ·subst c;obtain⟨W,e⟩:=s.ext;exact e.sf.toWl
       ·exact hsf j (by omega) hxj
   have R:Rg g n cx df ops ms E Hh V X:=by
    refine⟨st,adR,hdr,?_,?_,?_,?_,?_,?_⟩
    ·intro k j ok oj hkj hk hj hxk hxj hb;have:=s3 k j ok oj hkj (by rw[dN];exact hk) (by rw[dN];exact hj) (by rw[bI];exact hxk) (by rw[bI];exact hxj);rw[bI,bI]at this;rcases this with q|q|q
     ·exact Uc q
     ·rw[hb]at q;cases q
     ·exact QI q
    ·intro k j ok oj hkj hk hj hb;obtain⟨_,_,h3⟩:=hDk j _ (Ag j oj hj);have:=Bd h3 k (j6 g ops.toList ok) (by rw[List.nil_append,List.getElem?_take,au hkj];exact Ag k ok hk);rcases this with q|q
     ·have q:(fV ms (0+j)).testBit (0+k)=true:=q;rw[bI,bI,hb]at q;cases q
     ·exact q
    ·intro j o ho e he;obtain⟨_,h2,_⟩:=hDk j _ (Ag j o ho);have:=D5 h2 e he;have this:e<0+j:=this;omega
    ·intro j o k ho hb;have hat:=Kc (ops.toList.map (j6 g ops.toList)) [] j _ (Ag j o ho) (λe he=>by
      obtain⟨_,h2,_⟩:=hDk j _ (Ag j o ho);exact D5 h2 e he)
     rw[hms]at hat;have hat:fV ms (0+j)=nL ms (lH o):=hat;rw[bI]at hat;rw[hat]at hb;exact DZ hb
    ·intro i hi;obtain⟨⟨ι1,a1,w1,p1⟩,_⟩:=text i hi;exact⟨ι1,a1.tmps,w1,p1.env,p1.wr⟩
    ·intro i hi hx;exact(text (i+1) (by omega)).2 i (by omega) hx
   have tot:∀i,i<=ops.size->∃W,SF (Hh 0) (Hh i) W/\∀j,j<i->X j=true->∀x∈wl Hh j,x∈W:=by
    intro i;induction i with
    |zero=>intro _;exact⟨[],SF.refl _,λj hj=>by omega⟩
    |succ i ih=>
     intro hi;obtain⟨W,hW,hm⟩:=ih (by omega);cases hx:X i with
     |false=>
      obtain⟨o,ho⟩:=opAt (show i<ops.size by omega);rw[((st i o ho).no hx).2.2];refine⟨W,hW,λj hj hxj=> ?_⟩;by_cases c:j=i;·subst c;rw[hx]at hxj;cases hxj
      ·exact hm j (by omega) hxj
     |true=>
      refine⟨wl Hh i++W,hW.trans (R.sf i (by omega) hx),λj hj hxj x hxm=> ?_⟩;by_cases c:j=i;·subst c;exact iF _ hxm
      ·exact iM _ (hm j (by omega) hxj x hxm)
   obtain⟨WW,hSF,XU⟩:=tot ops.size (ay _);have L0:=Loc.draw p.wr (w.drawn+1);have k1:=L0.wr p.wr;have k0:WR ι (Hh 0) (World.bQ w (w.drawn+1)):=by rw[e2];exact k1
   have hS0:∀j,SL (Array.replicate ops.size false) j=false:=λj=>by unfold SL;by_cases c:j<ops.size<;>simp[c]
   have ahr:∀x,kU Hh (Bf Hh X) (SL (Array.replicate ops.size false)) ops.size x=if x<(Hh 0).next then(Hh 0).get x else none:=λx=>by rw[xB (i:=0) (aL _) (λj _ _ hs=>by rw[hS0]at hs;cases hs)];simp only[kU]
   have Un:∀x y,kU Hh (Bf Hh X) (SL (Array.replicate ops.size false)) ops.size x=some y->x<(Hh 0).next/\(Hh 0).get x=some y:=λx y hxy=>by
    rw[ahr]at hxy;by_cases c:x<(Hh 0).next
    ·rw[au c]at hxy;exact⟨c,hxy⟩
    ·rw[aj c]at hxy;cases hxy
   have I0:Inv n ops E Hh V X WW ι (World.bQ w (w.drawn+1)) a.defers (SL (Array.replicate ops.size false)) ι a (World.bQ w (w.drawn+1)):=by
    refine⟨p.env.size,λt ht=> ?_,rfl,λx y hxy=> ?_,λx x' y y' m m' hx hx' hm hm' hB=> ?_,λx m hm=> .inl (k0.lt hm),λ_ _=>rfl,ay _,λ_ _ _=>rfl,λx m hx hm=> ?_,rfl,rfl,rfl⟩;·rw[xw (i:=0) (aL _) (λj _ _ hs=>by rw[hS0]at hs;cases hs)];show VR ι ((gT t).f (E 0)) _;rw[e1];exact p.env.at_ t ht
    ·obtain⟨h1,h2⟩:=Un x y hxy;exact k0.blk x y trivial h1 h2
    ·obtain⟨h1,h2⟩:=Un x y hx;obtain⟨h3,h4⟩:=Un x' y' hx';exact k0.inj x x' y y' m m' trivial trivial h1 h3 h2 h4 hm hm' hB
    ·rw[k0.fresh x hx]at hm;cases hm
   obtain⟨ι2,a2,w2,S2,hs,I2,hall⟩:=XY (b:=b) (cs:=cs) (kk:=kk) (cx:=cx) hg R p.cok k0 p.gi XU ops.size (w.tape w.drawn (.order b.fn id)) (Array.replicate ops.size false) ι a (World.bQ w (w.drawn+1))
    (by simp) (λj k _ hj=>by rw[hS0]at hj;cases hj) I0 (Um _ _)
   have ahs:Region.schedule (P.follows .mixedOrders) ops (w.tape w.drawn (.order b.fn id))=Region.linearise.go .any ops ops.size (w.tape w.drawn (.order b.fn id)) (Array.replicate ops.size false) []:=by simp only[Region.schedule,pW,Bool.true_or,if_true];rfl
   have Uo:=Dz (P:=P) (b:=b) (a:=a) (k:=kk) (cs:=cs) (w:=w) (i:=id) (ops:=ops);rw[ahs]at Uo;have aa5:∀x,x<(Hh ops.size).next->kU Hh (Bf Hh X) S2 ops.size x=(Hh ops.size).get x:=λx hx=>by rw[<-R.cur (ay _) hx];exact xA λk hk _=>hall k hk
   obtain⟨_,_,_,hET,hWT⟩:=R.text ops.size (ay _);have hle:ι.le ι2:=λx m hm=>by rw[I2.old x (k0.lt hm)];exact hm
   have ahu:(Hh 0).next<=(Hh ops.size).next:=R.mono (aL _) (ay _)
   refine⟨ι2,a2,w2, .head Uo (hs.trans (.one wL)),?_,?_,?_,WW,?_⟩
   ·refine⟨I2.sz,hET.most,λt ht=> ?_,hET.rest⟩;have:=I2.env t ht;have e:xq (λt=>(gT t).f (E 0)) (wG ops) V S2 ops.size t=(gT t).f (E ops.size):=by rw[<-R.Uh ht hET.most (ay _)];exact xu λk hk _=>hall k hk
    rw[e]at this;exact this
   ·rw[I2.vC];exact p.vC.mono hle
   ·refine⟨hWT.most,λx hx=> ?_,λx y _ hx hy=> ?_,λx x' y y' m m' _ _ hx hx' hy hy' hm hm' hB=> ?_⟩
    ·cases hb:ι2 x with
     |none=>rfl
     |some m=>
      exfalso;rcases I2.dom x m hb with q|⟨k,hk,_,_,_,q⟩
      ·omega
      ·have:=R.mono (i:=k+1) (j:=ops.size) (by omega) (ay _);omega
    ·exact I2.blk x y (by rw[aa5 x hx];exact hy)
    ·exact I2.inj x x' y y' m m' (by rw[aa5 x hx];exact hy) (by rw[aa5 x' hx'];exact hy') hm hm' hB
   ·rw[<-e2];exact⟨hSF.next,I2.old,hSF.log,hSF.ln,hSF.kept,hSF.live,I2.size,I2.heap,I2.new,I2.os,I2.tape,I2.out⟩
end
theorem O5 (s:ByteArray) (c:Nat) (hc:c<256):∀(n i:Nat) (a:Nat),i+n=s.size->
 (Nat.rec (motive:=λ_=>Nat->Nat->Nat) (λ_ a=>a) (λ_ ih i a=>sN (Bool.rec a (Nat.succ a) (Nat.beq ((Str.of s).byte i) c)) λa'=>ih (Nat.succ i) a') n i a:Nat)=a+(s.data.toList.drop i).count (UInt8.ofNat c)
 |0,i,a,h=>by
  have:s.data.toList.drop i=[]:=List.drop_eq_nil_of_le (by have:s.data.toList.length=s.size:=by simp
                                                           omega)
  rw[this];rfl
 |n+1,i,a,h=>by
  have hlt:i<s.data.toList.length:=by have:s.data.toList.length=s.size:=by simp
                                      omega
  show sN (Bool.rec a (Nat.succ a) (Nat.beq ((Str.of s).byte i) c)) (λa'=>Nat.rec (motive:=λ_=>Nat->Nat->Nat) (λ_ a=>a) (λ_ ih i a=>sN (Bool.rec a (Nat.succ a) (Nat.beq ((Str.of s).byte i) c)) λa'=>ih (Nat.succ i) a') n (Nat.succ i) a')=_;rw[oq,O5 s c hc n (i+1) _ (by omega),pK hlt,List.count_cons,Str.xY s i (by simpa using hlt)];have hb:(s.data.toList[i]==UInt8.ofNat c)=Nat.beq (s.data.toList[i]).toNat c:=by
   rw[uT,dY,cZ,aY];constructor;·intro e;rw[e,yB];exact kY (by omega)
   ·intro e;rw[<-e];simp
  rw[hb];cases Nat.beq (s.data.toList[i]).toNat c;·simp
  ·simp;omega
theorem O6 (s:ByteArray) (c:Nat) (hc:c<256):∀(n i:Nat),i+n=s.size->
 (Nat.rec (motive:=λ_=>Nat->Int) (λ_=> .negSucc (nat_lit 0)) (λ_ ih i=>Bool.rec (ih (Nat.succ i)) (.ofNat i) (Nat.beq ((Str.of s).byte i) c)) n i:Int)=
  if Lib.indexByte (s.data.toList.drop i) (UInt8.ofNat c)= -1 then-1 else Lib.indexByte (s.data.toList.drop i) (UInt8.ofNat c)+i
 |0,i,h=>by
  have:s.data.toList.drop i=[]:=List.drop_eq_nil_of_le (by have:s.data.toList.length=s.size:=by simp
                                                           omega)
  rw[this];rfl
 |n+1,i,h=>by
  have hlt:i<s.data.toList.length:=by have:s.data.toList.length=s.size:=by simp
                                      omega
  show(Bool.rec (Nat.rec (motive:=λ_=>Nat->Int) (λ_=> .negSucc (nat_lit 0)) (λ_ ih i=>Bool.rec (ih (Nat.succ i)) (.ofNat i) (Nat.beq ((Str.of s).byte i) c)) n (Nat.succ i)) (.ofNat i) (Nat.beq ((Str.of s).byte i) c):Int)=_;have ih:=O6 s c hc n (i+1) (by omega);rw[pK hlt,Str.xY s i (by simpa using hlt)];have hb:(s.data.toList[i]==UInt8.ofNat c)=Nat.beq (s.data.toList[i]).toNat c:=by
   rw[uT,dY,cZ,aY];constructor;·intro e;rw[e,yB];exact kY (by omega)
   ·intro e;rw[<-e];simp
  have hge:=Lib.indexByte_ge (s.data.toList.drop (i+1)) (UInt8.ofNat c);unfold Lib.indexByte;rw[hb];cases Nat.beq (s.data.toList[i]).toNat c
  ·simp only[aZ,jq];refine Eq.trans ih ?_;generalize Lib.indexByte (s.data.toList.drop (i+1)) (UInt8.ofNat c)=z at hge;by_cases hz:z= -1
   ·subst hz;simp
   ·have:(z== -1)=false:=by simp[hz]
    rw[this];simp only[aZ,jq];rw[aj hz,aj (by omega)];omega
  ·simp
def yR (P:Program) (f:Nat) (e:Array Value->Sem Value):Prop:=
 ∃fn,P.funcs[f]? =some fn/\(fn.name== "runtime.NumGoroutine")=false/\fn.body.isNone=true/\(Extern.findNext fn).isNone=true/\Extern.find fn=some e
theorem mQ {P:Program} {f:Nat} {e:Array Value->Sem Value} (h:yR P f e) {vs:Array Value} {w w':World} {v:Value} (he:(e vs).run P w= .ok v w'):(callFunc f vs).run P w= .ok (.value v) w':=by
 obtain⟨fn,hf,hn,hb,h1,h2⟩:=h;have h1:Extern.findNext fn=none:=by
  cases hx:Extern.findNext fn with
  |none=>rfl
  |some _=>rw[hx]at h1;cases h1
 unfold callFunc;simp only[Sem.run_bind,run_program,Result.andThen_ok,hf,hn,aZ,jq,hb,if_true,run_mark,h1,h2,he,Sem.run_pure]
theorem u8_toUInt8 (c:Nat):(Int.toNat (c:Int)).toUInt8=UInt8.ofNat c:=rfl
theorem F4:∀(n t:Nat) (acc:Array Value),(∀v∈acc.toList,v.oneCell'=true)->
 (Extern.BytealgMakeNoZero.digits n t acc).size=acc.size+n/\∀v∈(Extern.BytealgMakeNoZero.digits n t acc).toList,v.oneCell'=true
 |0,_,acc,h=>⟨rfl,h⟩
 |n+1,t,acc,h=>by
  have:=F4 n (t/256) (acc.push (.int .u8 (Int.ofNat (t%256)))) (λv hv=>by
   rw[qX]at hv;rcases iE.1 hv with hv|hv;·exact h v hv
   ·rw[eG]at hv;rw[hv];rfl)
  refine⟨?_,this.2⟩;have h1:=this.1;rw[Array.size_push]at h1;show(Extern.BytealgMakeNoZero.digits n (t/256) _).size=_;omega
theorem MR {P:Program} {ps rs:Array TypeId} {t el:TypeId} (ht:rs[0]? =some t) (hu:P.underlying t=some (.slice el)) (n:Nat) (hn:n<=4000000) (w:World):
 ∃(cells:Array Value) (d:Nat),(Extern.BytealgMakeNoZero.makeNoZero ps rs #[.int .i64 (Int.ofNat n)]).run P w= .ok (.slice (some ⟨w.heap.size,0,none⟩) n cells.size) (World.grown w d (.cells cells el))/\n<=cells.size/\∀v∈cells.toList,v.oneCell'=true:=by
 have hdef:Extern.BytealgMakeNoZero.makeNoZero ps rs #[.int .i64 (Int.ofNat n)]=(do
  let some t:=rs[0]? |stuck "bytealg.MakeNoZero: no result type"
  let .slice elem<-underlying t|stuck "bytealg.MakeNoZero: slice type expected"
  if(Int.ofNat n)<0||(Int.ofNat n)>2^48 then runtimePanic (.error "makeslice: len out of range")
  let cap<-choose (.appendCap (Int.ofNat n).toNat 0 elem)
  askRoom cap;let bytes<-choose (.extern "internal/bytealg.MakeNoZero.bytes" 0);let a<-newRow elem (Extern.BytealgMakeNoZero.digits cap bytes #[])
  pure (.slice (some a) (Int.ofNat n).toNat cap)):=rfl
 obtain⟨c,hc,hcn⟩:=Cb (P:=P) n 0 el w;have hroom:∀w:World,(askRoom c).run P w= .ok () w:=λw=>by
  unfold askRoom;split;·rfl
  ·rfl
 obtain⟨x,hx⟩:∃x,(choose (.extern "internal/bytealg.MakeNoZero.bytes" 0)).run P (World.bQ w (w.drawn+1))= .ok x (World.bQ w (w.drawn+2)):=by refine⟨(Question.extern "internal/bytealg.MakeNoZero.bytes" 0).cut (w.tape (w.drawn+1) (.extern "internal/bytealg.MakeNoZero.bytes" 0)),?_⟩;rw[run_choose,if_neg (by simp[Question.forced])];rfl
 obtain⟨d1,d2⟩:=F4 c x #[] (λv hv=>by simp at hv);have hsz:(Extern.BytealgMakeNoZero.digits c x #[]).size=c:=by simpa using d1
 refine⟨_,w.drawn+2,?_,by rw[hsz];exact hcn,d2⟩;rw[hdef,ht,hsz];have h1:¬(decide ((n:Int)<0)||decide ((n:Int)>2^48))=true:=by
  have h2:(2:Int)^48=281474976710656:=by decide
  simp only[dI,iH,not_or];exact⟨by omega,by omega⟩
 have hnr:∀(w:World) (cells:Array Value),(newRow el cells).run P w= .ok ⟨w.heap.size,0,none⟩ (World.grown w w.drawn (.cells cells el)):=λw cells=>gU el cells w;simp only[Sem.run_bind,aB hu,Result.andThen_ok,mg,Int.ofNat_eq_natCast];rw[aj h1];simp only[Sem.run_bind,Result.andThen_ok,hc,hroom,hx,hnr,Sem.run_pure];rfl
theorem aa6 {P:Program} {g:G} (h1:∀f,g.ext f=1->yR P f Extern.BytealgCount.count) (h2:∀f,g.ext f=2->yR P f Extern.BytealgIndexByte.indexByte)
 (h3:∀f,g.ext f=3->yR P f Extern.AbiNoEscape.same)
 (h4:∀f,16<=g.ext f->∃ps rs t,rs[0]? =some t/\P.underlying t=some (.slice (g.ext f-16))/\yR P f (Extern.BytealgMakeNoZero.makeNoZero ps rs)):qw P g:=by
 intro f args h v h' _ e ι w vs k hG ha;unfold TU at e;split at e
 ·rename_i s c hx;obtain⟨x,xs,hv,hx1,hxs⟩:=gG ha;obtain⟨y,ys,rfl,hy1,hys⟩:=gG hxs;cases oh hys;obtain⟨b,rfl,rfl⟩:=hx1;cases hy1;have hvs:vs=#[.string b, .int .u8 (c:Int)]:=bq hv;subst hvs;cases hc:Nat.ble c (nat_lit 255)
  ·rw[hc]at e;cases e
  ·rw[hc]at e;rw[aD]at hc;cases e;have hcn:=O5 b c (by have:c<=255:=hc;omega) b.size 0 0 (by omega);refine .inl ⟨_,w,mQ (h1 f hx) (Lib.run_countString b c w),ι,[],?_,k,Ext.refl _ _ _ k.fresh⟩;rw[u8_toUInt8];have:adT (Str.of b) c (Str.of b).len (nat_lit 0)=Lib.countByte b.data.toList (UInt8.ofNat c):=by rw[Str.eY];refine Eq.trans hcn ?_;rw[List.drop_zero,bI];rfl
   rw[this];rfl
 ·rename_i s c hx;obtain⟨x,xs,hv,hx1,hxs⟩:=gG ha;obtain⟨y,ys,rfl,hy1,hys⟩:=gG hxs;cases oh hys;obtain⟨b,rfl,rfl⟩:=hx1;cases hy1;have hvs:vs=#[.string b, .int .u8 (c:Int)]:=bq hv;subst hvs;cases hc:Nat.ble c (nat_lit 255)
  ·rw[hc]at e;cases e
  ·rw[hc]at e;rw[aD]at hc;rw[frc_eq]at e;cases e;have hcn:=O6 b c (by have:c<=255:=hc;omega) b.size 0 (by omega);refine .inl ⟨_,w,mQ (h2 f hx) (Lib.run_indexByteString b c w),ι,[],?_,k,Ext.refl _ _ _ k.fresh⟩;rw[u8_toUInt8];have:adU (Str.of b) c (Str.of b).len (nat_lit 0)=Lib.indexByte b.data.toList (UInt8.ofNat c):=by rw[Str.eY];refine Eq.trans hcn ?_;rw[List.drop_zero];split<;>simp_all
   rw[this];rfl
 ·rename_i vv hx;obtain⟨x,xs,hv,hx1,hxs⟩:=gG ha;cases oh hxs;have hvs:vs=#[x]:=bq hv;subst hvs;cases e;exact .inl ⟨x,w,mQ (h3 f hx) rfl,ι,[],hx1,k,Ext.refl _ _ _ k.fresh⟩
 ·rename_i n hne;split at e
  ·rename_i hk hn hr;rw[aD]at hk hn;have hr:=H.jX.1 hr;have hn:n<=4000000:=hn;obtain⟨x,xs,hv,hx1,hxs⟩:=gG ha;cases oh hxs;cases hx1;have hvs:vs=#[.int .i64 (Int.ofNat n)]:=bq hv;subst hvs;obtain⟨ps,rs,t,hrs,hu,hex⟩:=h4 f hk;obtain⟨cells,d,hrun,hsz,hone⟩:=MR (P:=P) (ps:=ps) hrs hu n hn w;cases e;have hL:Loc ι h w (ι.add h.next ⟨w.heap.size,0,cells.size⟩) (h.new (.cells (Nat.add (Nat.sub (g.ext f) (nat_lit 16)) (nat_lit 2000000)) true (nat_lit 0) (nat_lit 0) (Fa (nat_lit 0) .nil))) (World.grown w d (.cells cells (g.ext f-16))) []:=
    Loc.yh k hr _ ⟨w.heap.size,0,cells.size⟩ (.cells cells (g.ext f-16)) (by simp[World.grown]) gH (Nat.le_refl _) gI
     ⟨cells,_,0,0,rfl,rfl,by show 0+0<=cells.size;omega,aL _,λi hi=>absurd hi (ko i),⟨λc=>(by cases c),λ_=>rfl,λ_ _=>⟨(oH ..).symm, .inl rfl⟩⟩⟩ rfl rfl rfl
   exact .inl ⟨_,_,mQ hex hrun,_,[],⟨⟨w.heap.size,0,cells.size⟩,_,cells.size,aV.add_same _ _ _,rfl,hsz,by simp, .inr ⟨rfl,by show 0+0+cells.size*1<=cells.size;omega⟩⟩,hL.wr k,hL.toExt⟩
  ·cases e
 ·cases e
theorem kr {P:Program} {g:G} (hg:jP P g) (pW:P.follows .mixedOrders=true) (hfn:OX P g) (hext:qw P g) (sU:gM P g) {N f:Nat} {x:Fn} (hf:g.fn f=some x) {args v:AV} {h h':H}
 (hno:g.iK f args h=none) (e:(run g (N+1)).call f args h= .ok v h') {ι:aV} {w:World} {vs:Array Value} (k:WR ι h w) (hG:GI ι) (ha:fQ ι args vs.toList):rz P f vs w (CR ι h w v h'):=by
 have hdr:=XZ hg pW;have ih:=TV hg hdr hfn hext sU N N none;obtain⟨hx,_⟩:=hfn f x hf;have e:(match g.iK f args h with
  |some r=>r
  |none=>(match g.fn f with
   |some fn=>enter g ⟨(run g N).call,(run g N).wE,N,none,g.pU⟩ fn args h
   |none=>TU (g.ext f) args h))= .ok v h':=e
 rw[hno,hf]at e;exact J7 hg hdr ih rfl hf hx k hG ha e
theorem rz.calls {P:Program} {f:Nat} {vs:Array Value} {w:World} {R:Value->World->Prop} (h:rz P f vs w R):Calls P f vs w λo w'=>∃v',o= .returned v'/\R v' w':=by intro cs;obtain⟨fr,v',w',hcr,hs,hl⟩:=h .normal cs (.inl rfl);obtain⟨hm,hd,hk,hfr,fn,hfn',hr⟩:=hl;exact⟨.returned v',w',fr,⟨v',rfl,hcr⟩,hs,hfr,hm,hd,hk,fn,by rw[hfr];exact hfn',hr⟩
theorem adV {P:Program} {ext:Nat->Nat}:gM P (gOf P ext):=λ_ _ _ _ _ e=>by cases e
noncomputable section
def isTrue:AV->Bool
 | .bool true=>true
 |_=>false
def step1 (m:Nat) (l:List Nat):Option (List Nat):=List.rec (motive:=λ_=>Option (List Nat)) (some []) (λx r _=>Bool.rec none (some r) (Nat.ble m x)) l
def MS (m:Nat):Nat->List Nat->Option (List Nat):=Nat.rec (motive:=λ_=>List Nat->Option (List Nat)) (step1 m)
 (λ_ ih l=>List.rec (motive:=λ_=>Option (List Nat)) (some []) (λ_ _ _=>Option.rec (motive:=λ_=>Option (List Nat)) none ih (ih l)) l)
def adW:Option (List Nat)->Bool:=Option.rec (motive:=λ_=>Bool) false (λl=>List.rec (motive:=λ_=>Bool) true (λ_ _ _=>false) l)
def D8 (m:Nat) (l:List Nat):Bool:=adW (MS m (nat_lit 20) l)
def Uq:bB->Bool:=bB.rec (motive:=λ_=>Bool) false (λv h=>aA (isTrue v) (D8 (nat_lit 64) h.log))
def adX (P:Program) (f:Nat):Bool:=
 match fnOf P f with
 |some x=>(match P.funcs[f]? with
  |some fn=>aA (fnOk x) (Bool.rec true false (fn.name== "runtime.NumGoroutine"))
  |none=>false)
 |none=>true
def gV (P:Program):Bool:=(List.range P.funcs.size).all (adX P)
theorem fnsOk_of {P:Program} {ext:Nat->Nat} {iK:Nat->AV->H->Option bB} (h:gV P=true):OX P (dL P ext iK):=by
 intro f x hx;have hx:fnOf P f=some x:=hx;have hlt:f<P.funcs.size:=by obtain⟨fn,hf,_⟩:=(mR P ext iK).fn f x hx;exact(dM.1 hf).1
 have h1:=dZ.1 h f (nO.2 hlt);unfold adX at h1;rw[hx]at h1;dsimp only at h1;cases hf:P.funcs[f]? with
 |none=>rw[hf]at h1;cases h1
 |some fn=>
  rw[hf]at h1;dsimp only at h1;obtain⟨h2,h3⟩:=ak h1;refine⟨h2,λfn' e=> ?_⟩;cases e;cases hn:(fn.name== "runtime.NumGoroutine")
  ·rfl
  ·rw[hn]at h3;cases h3
theorem Ur {m:Nat} {l r:List Nat} (h:step1 m l=some r):∀x∈l,m<=x\/x∈r:=by
 cases l with
 |nil=>intro x hx;cases hx
 |cons y l=>
  have h:(Bool.rec none (some l) (Nat.ble m y):Option (List Nat))=some r:=h;cases hb:Nat.ble m y;·rw[hb]at h;cases h
  ·rw[hb]at h;cases h;rw[aD]at hb;intro x hx;rcases aR.1 hx with rfl|hx
   ·exact .inl hb
   ·exact .inr hx
theorem II {m:Nat}:∀{k:Nat} {l r:List Nat},MS m k l=some r->∀x∈l,m<=x\/x∈r
 |0,_,_,h=>Ur h
 |k+1,l,r,h=>by
  cases l with
  |nil=>intro x hx;cases hx
  |cons y l=>
   have h:Option.rec (motive:=λ_=>Option (List Nat)) none (MS m k) (MS m k (y::l))=some r:=h;cases he:MS m k (y::l)with
   |none=>rw[he]at h;cases h
   |some r1=>
    rw[he]at h;have h:MS m k r1=some r:=h;intro x hx;rcases II he x hx with c|c;·exact .inl c
    ·exact II h x c
theorem D9 {m:Nat} {l:List Nat} (h:D8 m l=true):∀x∈l,m<=x:=by
 unfold D8 at h;cases he:MS m (nat_lit 20) l with
 |none=>rw[he]at h;cases h
 |some r=>
  rw[he]at h;cases r with
  |nil=>
   intro x hx;rcases II he x hx with c|c;·exact c
   ·cases c
  |cons _ _=>cases h
theorem X0 {r:bB} (h:Uq r=true):∃h',r= .ok (.bool true) h'/\∀x∈h'.log,64<=x:=by
 cases r with
 |fail=>cases h
 |ok v h'=>
  obtain⟨h1,h2⟩:=ak (show aA (isTrue v) (D8 (nat_lit 64) h'.log)=true from h);refine⟨h',?_,D9 h2⟩;unfold isTrue at h1;split at h1;·rfl
  ·cases h1
def Us:List (Nat×List Value)->E (Option wF) hd
 |[]=>E.rep none hd
 |(x,l)::r=>E.put (some (.cells 0 true l.length (dep l.length) (Fa (dep l.length) (tQ l)))) hd (path hd x) (Us r)
def kV (l:List (Nat×List Value)):H:=⟨Us l,nat_lit 64,nat_lit 0,[]⟩
def TabAt (w:World) (x:Nat) (l:List Value):Prop:=
 ∃arr el lo hi,w.heap[x]? =some (.cells arr el (lo,hi))/\l.length<=arr.size/\∀i,i<l.length->arr.getD i undef=l.getD i undef
def sW (w:World):aV:=λb=>if b<64 then some ⟨b,0,match w.heap[b]? with|some (.cells arr _ _)=>arr.size|_=>0⟩else none
theorem Kg:∀(l:List (Nat×List Value)),(∀p∈l,p.1<64)->∀b,b<64->∀x,E.get hd (path hd b) (Us l)=some x->
 ∃vs,(b,vs)∈l/\x= .cells 0 true vs.length (dep vs.length) (Fa (dep vs.length) (tQ vs))
 |[],_,b,_,x,h=>by have:E.get hd (path hd b) (E.rep (none:Option wF) hd)=none:=E.vg _ _ _;have h:E.get hd (path hd b) (E.rep (none:Option wF) hd)=some x:=h;rw[this]at h;cases h
 |(y,vs)::r,hl,b,hb,x,h=>by
  have h:E.get hd (path hd b) (E.put (some (.cells 0 true vs.length (dep vs.length) (Fa (dep vs.length) (tQ vs)))) hd (path hd y) (Us r))=some x:=h;have hy:=hl (y,vs) (by simp);by_cases c:y=b;·subst c;rw[E.cO]at h;cases h;exact⟨vs,by simp,rfl⟩
  ·have hne:=E.eX (some (wF.cells 0 true vs.length (dep vs.length) (Fa (dep vs.length) (tQ vs)))) 8 y b (by have:y<64:=hy;omega) (by omega) c (Us r);have h:=hne.symm.trans h;obtain⟨vs',h1,h2⟩:=Kg r (λp hp=>hl p (by simp[hp])) b hb x h;exact⟨vs',by simp[h1],h2⟩
theorem IJ {w:World} {l:List (Nat×List Value)} (hl:∀p∈l,p.1<64/\p.2.length<=4000000/\TabAt w p.1 p.2):WR (sW w) (kV l) w where
 most:=by show 64<=65536;omega
 fresh b hb:=by have hb:64<=b:=hb;unfold sW;rw[aj (by omega)]
 blk b x _ hb hx:=by
  have hb:b<64:=hb;obtain⟨vs,hm,rfl⟩:=Kg l (λp hp=>(hl p hp).1) b hb x hx;obtain⟨_,hlen,arr,el,lo,hi,h1,h2,h3⟩:=hl _ hm;refine⟨⟨b,0,arr.size⟩, .cells arr el (lo,hi),?_,h1,arr,el,lo,hi,rfl,rfl,by simpa using h2,jW hlen,λi hi=> ?_,⟨λc=>(by cases c),λ_=>rfl,λ_ c=>absurd c (by decide)⟩⟩;·unfold sW;rw[au hb,h1]
  ·have hv:=mK (sW w) vs;rw[Fa,jT vs.length (jW hlen) hv 0 i _ (by omega) hi,au (by omega),mJ];have:=gu hv i;show VR _ _ (arr.getD (0+i) undef);rw[bI,h3 i hi];exact this
 inj b b' x x' m m' _ _ hb hb' _ _ hm hm' hB:=by have hb:b<64:=hb;have hb':b'<64:=hb';unfold sW at hm hm';rw[au hb]at hm;rw[au hb']at hm';cases hm;cases hm';exact hB
theorem IK (w:World):GI (sW w):=λx hx=>⟨_,by unfold sW;rw[au hx]⟩
theorem F5 {P:Program} {ext:Nat->Nat} {iK:Nat->AV->H->Option bB} {N f:Nat} {l:List (Nat×List Value)} (pW:P.follows .mixedOrders=true) (hprog:gV P=true) (hext:qw P (dL P ext iK)) (sU:gM P (dL P ext iK))
 (hf:(fnOf P f).isSome=true) {args:AV} (hno:iK f args (kV l)=none)
 (e:Uq ((run (dL P ext iK) (Nat.succ N)).call f args (kV l))=true) {w:World} (hl:∀p∈l,p.1<64/\p.2.length<=4000000/\TabAt w p.1 p.2) {vs:Array Value} (ha:fQ (sW w) args vs.toList):
 Calls P f vs w λo w'=>o= .returned (.bool true)/\RowKit.Below w.heap.size w w':=by
 obtain⟨x,hx⟩:=tu.1 hf;obtain⟨h',hr,Ut⟩:=X0 e;have hc:=(kr (mR P ext iK) pW (fnsOk_of hprog) hext sU (N:=N) (f:=f) (x:=x) hx hno hr (vs:=vs) (IJ hl) (IK w) ha).calls;refine hc.mono λo w' ho=> ?_;obtain⟨v',rfl,ι',W,hv,_,hE⟩:=ho;have hv:v'= .bool true:=hv;subst hv;have hW:W=h'.log:=by have h1:=hE.log;have h2:(kV l).log=[]:=rfl;rw[h2,ji]at h1;exact h1.symm
 refine⟨rfl,hE.os,hE.tape,hE.out,hE.size,λk hk=>hE.heap k hk λb hb m hm=> ?_⟩;have:=Ut b (hW▸hb);unfold sW at hm;rw[aj (by omega)]at hm;cases hm
theorem Uu {P:Program} {ext:Nat->Nat} {N f:Nat} {l:List (Nat×List Value)} (pW:P.follows .mixedOrders=true) (hprog:gV P=true) (hext:qw P (gOf P ext)) (hf:(fnOf P f).isSome=true) {args:AV}
 (e:Uq ((run (gOf P ext) (Nat.succ N)).call f args (kV l))=true) {w:World} (hl:∀p∈l,p.1<64/\p.2.length<=4000000/\TabAt w p.1 p.2) {vs:Array Value} (ha:fQ (sW w) args vs.toList):
 Calls P f vs w λo w'=>o= .returned (.bool true)/\RowKit.Below w.heap.size w w':=
 F5 pW hprog hext adV hf rfl e hl ha
theorem ZU {P:Program} {ext:Nat->Nat} {N f:Nat} {l:List (Nat×List Value)} (pW:P.follows .mixedOrders=true) (hprog:gV P=true) (hext:qw P (gOf P ext)) (hf:(fnOf P f).isSome=true)
 (e:Uq ((run (gOf P ext) (Nat.succ N)).call f .nil (kV l))=true) {w:World} (hl:∀p∈l,p.1<64/\p.2.length<=4000000/\TabAt w p.1 p.2):
 Calls P f #[] w λo w'=>o= .returned (.bool true)/\RowKit.Below w.heap.size w w':=
 Uu pW hprog hext hf e hl (vs:=#[]) rfl
end
noncomputable section
def O7 (R:List Nat) (a t:Nat):Bool:=aA (Nat.ble (nat_lit 64) t) (aA (Nat.ble (Nat.succ t) (Nat.add (nat_lit 64) R.length)) (Nat.beq (fV R (Nat.sub t (nat_lit 64))) a))
def dK (R:List Nat):AV->AV->Bool
 | .bool a, .bool b=>Fh a b
 | .int k n, .int k' n'=>aA (Nat.beq (sS k) (sS k')) (eqI n n')
 | .str s, .str s'=>s.eq s'
 | .ptr a o, .ptr t o'=>aA (O7 R a t) (Nat.beq o o')
 | .nG, .nG=>true
 | .slice a o l e z, .slice t o' l' e' z'=>aA (O7 R a t) (aA (Nat.beq o o') (aA (Nat.beq l l') (aA (Nat.beq e e') (Fh z z'))))
 | .jm, .jm=>true
 | .map a, .map t=>O7 R a t
 | .qL, .qL=>true
 | .qM, .qM=>true
 | .qc, .qc=>true
 | .sH y a, .sH y' t=>aA (Nat.beq y y') (dK R a t)
 | .agg a, .agg t=>dK R a t
 | .fT a, .fT t=>dK R a t
 | .nil, .nil=>true
 | .cons a r, .cons t q=>aA (dK R a t) (dK R r q)
 |_,_=>false
def Fb (d:Nat):AV->AV
 | .ptr b o=> .ptr (Nat.add b d) o
 | .slice b o l e z=> .slice (Nat.add b d) o l e z
 | .map b=> .map (Nat.add b d)
 | .sH t x=> .sH t (Fb d x)
 | .agg x=> .agg (Fb d x)
 | .fT x=> .fT (Fb d x)
 | .cons x y=> .cons (Fb d x) (Fb d y)
 |x=>x
theorem vI {a b:Bool} (h:Fh a b=true):a=b:=by cases a<;>cases b<;>first|rfl|cases h
theorem Ea {R:List Nat} {a t:Nat} (h:O7 R a t=true):64<=t/\t<64+R.length/\R.getD (t-64) 0=a:=by obtain⟨h1,h⟩:=ak h;obtain⟨h2,h3⟩:=ak h;rw[aD]at h1 h2;have h3:=aI h3;rw[tX]at h3;exact⟨h1,h2,h3⟩
def Moved (R:List Nat) (ι1 ι2:aV) (d:Nat):Prop:=∀t,64<=t->t<64+R.length->ι2 (t+d)=ι1 (R.getD (t-64) 0)
theorem yS {R:List Nat} {ι1 ι2:aV} {d:Nat} (hm:Moved R ι1 ι2 d):∀(a t:AV),dK R a t=true->
 (∀v,(Go.Proofs.YtocaiijbhepnnaaGreatDoor.Am.R ι1 a).1 v->(Go.Proofs.YtocaiijbhepnnaaGreatDoor.Am.R ι2 (Fb d t)).1 v)/\(∀l,(Go.Proofs.YtocaiijbhepnnaaGreatDoor.Am.R ι1 a).2 l->(Go.Proofs.YtocaiijbhepnnaaGreatDoor.Am.R ι2 (Fb d t)).2 l):=by
 intro a;induction a with
 |bad=>intro t h;cases t<;>simp[dK]at h
 |unk=>intro t h;cases t<;>simp[dK]at h
 |bool b=>intro t h;cases t<;>simp only[dK,aZ]at h;obtain rfl:=vI h;exact⟨λ_ h=>h,λ_ h=>h⟩
 |int k n=>intro t h;cases t<;>simp only[dK,aZ]at h;obtain⟨h1,h2⟩:=ak h;obtain rfl:=gQ h1;obtain rfl:=Me h2;exact⟨λ_ h=>h,λ_ h=>h⟩
 |str s=>intro t h;cases t<;>simp only[dK,aZ]at h;obtain rfl:=(Str.eq_iff _ _).1 h;exact⟨λ_ h=>h,λ_ h=>h⟩
 |ptr b o=>intro t h;cases t<;>simp only[dK,aZ]at h;obtain⟨h1,h2⟩:=ak h;obtain⟨c1,c2,c3⟩:=Ea h1;obtain rfl:=aI h2;refine⟨λv ⟨m,e1,e2⟩=>⟨m,?_,e2⟩,λ_ h=>h⟩;have:=hm _ c1 c2;rw[c3]at this;exact this.trans e1
 |nG=>intro t h;cases t<;>simp only[dK,aZ]at h;exact⟨λ_ h=>h,λ_ h=>h⟩
 |slice b o l e z=>intro t h;cases t<;>simp only[dK,aZ]at h;obtain⟨h1,h⟩:=ak h;obtain⟨h2,h⟩:=ak h;obtain⟨h3,h⟩:=ak h;obtain⟨h4,h5⟩:=ak h;obtain⟨c1,c2,c3⟩:=Ea h1;obtain rfl:=aI h2;obtain rfl:=aI h3;obtain rfl:=aI h4;obtain rfl:=vI h5;refine⟨λv ⟨m,y,cap,e1,e2⟩=>⟨m,y,cap,?_,e2⟩,λ_ h=>h⟩;have:=hm _ c1 c2;rw[c3]at this;exact this.trans e1
 |jm=>intro t h;cases t<;>simp only[dK,aZ]at h;exact⟨λ_ h=>h,λ_ h=>h⟩
 |map b=>intro t h;cases t<;>simp only[dK,aZ]at h;obtain⟨c1,c2,c3⟩:=Ea h;refine⟨λv ⟨m,e1,e2⟩=>⟨m,?_,e2⟩,λ_ h=>h⟩;have:=hm _ c1 c2;rw[c3]at this;exact this.trans e1
 |qL=>intro t h;cases t<;>simp only[dK,aZ]at h;exact⟨λ_ h=>h,λ_ h=>h⟩
 |fn f x c=>intro t h;cases t<;>simp[dK]at h
 |wE l=>intro t h;cases t<;>simp[dK]at h
 |qM=>intro t h;cases t<;>simp only[dK,aZ]at h;exact⟨λ_ h=>h,λ_ h=>h⟩
 |sH y x ih=>intro t h;cases t<;>simp only[dK,aZ]at h;obtain⟨h1,h2⟩:=ak h;obtain rfl:=aI h1;exact⟨λv ⟨z,e,hz⟩=>⟨z,e,(ih _ h2).1 z hz⟩,λ_ h=>h⟩
 |qc=>intro t h;cases t<;>simp only[dK,aZ]at h;exact⟨λ_ h=>h,λ_ h=>h⟩
 |agg x ih=>intro t h;cases t<;>simp only[dK,aZ]at h;exact⟨λv ⟨xs,e,hx⟩=>⟨xs,e,(ih _ h).2 _ hx⟩,λ_ h=>h⟩
 |fT x ih=>intro t h;cases t<;>simp only[dK,aZ]at h;exact⟨λv ⟨xs,e,hx⟩=>⟨xs,e,(ih _ h).2 _ hx⟩,λ_ h=>h⟩
 |nil=>intro t h;cases t<;>simp only[dK,aZ]at h;exact⟨λ_ h=>h,λ_ h=>h⟩
 |cons x r XT ihr=>intro t h;cases t<;>simp only[dK,aZ]at h;obtain⟨h1,h2⟩:=ak h;exact⟨λ_ h=>h,λl ⟨y,ys,e,hy,hys⟩=>⟨y,ys,e,(XT _ h1).1 y hy,(ihr _ h2).2 ys hys⟩⟩
inductive TB where
 |cells (el:Nat) (l:AV)
 |smap (n c:Nat) (l:List (Str×AV))
def MU (d:Nat):TB->wF
 | .cells el l=> .cells el false (llen l) (dep (llen l)) (Fa (dep (llen l)) (Fb d l))
 | .smap n c l=> .smap n c (l.map λp=>(p.1,Fb d p.2))
def X3 (R:List Nat):List (Str×AV)->List (Str×AV)->Bool
 |[],[]=>true
 |p::r,q::s=>aA (p.1.eq q.1) (aA (dK R p.2 q.2) (X3 R r s))
 |_,_=>false
def Uv (R:List Nat):wF->TB->Bool
 | .cells el false n d t, .cells iV l=>aA (Nat.beq el iV) (aA (Nat.beq n (llen l)) (aA (Nat.ble n fH) (dK R (BN d t n (nat_lit 0)) l)))
 | .smap n c l, .smap n' c' l'=>aA (Nat.beq n n') (aA (Nat.beq c c') (X3 R l l'))
 |_,_=>false
theorem adY (d:Nat):∀a:AV,llen (Fb d a)=llen a:=by
 intro a;induction a with
 |cons x y _ ih=>exact fJ Nat.succ ih
 |_=>rfl
theorem F6 {R:List Nat} {ι1 ι2:aV} {d:Nat} (hm:Moved R ι1 ι2 d) (s:Str):∀{l l':List (Str×AV)},X3 R l l'=true->
 (nH s l=none->nH s (l'.map λp=>(p.1,Fb d p.2))=none)/\(∀v,nH s l=some v->∃v',nH s (l'.map λp=>(p.1,Fb d p.2))=some v'/\∀x,VR ι1 v x->VR ι2 v' x)
 |[],[],_=>⟨λ_=>rfl,λv h=>by cases h⟩
 |[],_::_,h=>by cases h
 |_::_,[],h=>by cases h
 |p::r,q::t,h=>by
  have h:aA (p.1.eq q.1) (aA (dK R p.2 q.2) (X3 R r t))=true:=h;obtain⟨h1,h⟩:=ak h;obtain⟨h2,h3⟩:=ak h;have h1:=(Str.eq_iff _ _).1 h1;obtain⟨i1,i2⟩:=F6 hm s h3;rw[jD,lu,lu];dsimp only;rw[h1];by_cases c:q.1=s;·rw[au c,au c];exact⟨(λh=>by cases h),(λv hv=>by cases hv;exact⟨_,rfl,(yS hm _ _ h2).1⟩)⟩
  ·rw[aj c,aj c];exact⟨i1,i2⟩
theorem X4 {R:List Nat} {ι1 ι2:aV} {d:Nat} (hm:Moved R ι1 ι2 d) {x:wF} {tb:TB} (h:Uv R x tb=true) {o:Obj} {m:Nm} (hb:BR ι1 x o m):BR ι2 (MU d tb) o m:=by
 unfold Uv at h;split at h
 ·rename_i el n dd t iV l;obtain⟨h1,h⟩:=ak h;obtain⟨h2,h⟩:=ak h;obtain⟨h3,h4⟩:=ak h;obtain rfl:=aI h1;have h2:=aI h2;rw[aD]at h3;have h3:n<=4000000:=h3;obtain⟨arr,iV,lo,hi,rfl,a1,a2,a3,a4,a5⟩:=hb;have hr:=l7 (ι:=ι1) (arr:=arr) (sh:=m.sh) n 0 (λj _ hj=>a4 j (by omega));have hr2:=(yS hm _ _ h4).2 _ hr;have hr2:fQ ι2 (Fb d l) ((List.range n).map λj=>arr.getD (m.sh+0+j) undef):=hr2;refine⟨arr,iV,lo,hi,rfl,a1,by rw[<-h2];exact a2,jW (by rw[<-h2];exact h3),λi hi=> ?_,⟨a5.1,λc=>absurd c (by have:=Di (llen l);omega),λc=>(by cases c)⟩⟩;have hi:i<n:=by rw[h2];exact hi
  have hll:=gq hr2;rw[bM,mq]at hll;rw[Fa,jT (llen l) (jW (by rw[<-h2];exact h3)) hr2 0 i _ (by simp;omega) (by omega),au (by simp;omega),mJ];have:=gu hr2 i;have e:((List.range n).map λj=>arr.getD (m.sh+0+j) undef).getD i undef=arr.getD (m.sh+i) undef:=by simp[List.getD_eq_getElem?_getD,hi]
  rw[e]at this;exact this
 ·rename_i n c l n' c' l';obtain⟨h1,h⟩:=ak h;obtain⟨h2,h3⟩:=ak h;obtain rfl:=aI h1;obtain rfl:=aI h2;obtain⟨es,e,a1,a0,a2,a3⟩:=hb;refine⟨es,e,a1,a0,a2,λs=> ?_⟩;have hx:=a3 s;obtain⟨i1,i2⟩:=F6 hm (Str.of s) h3;cases hv:nH (Str.of s) l with
  |none=>rw[i1 hv];rw[hv]at hx;exact hx
  |some v=>obtain⟨v',hv',hr⟩:=i2 v hv;rw[hv'];rw[hv]at hx;obtain⟨e1,q1,q2⟩:=hx;exact⟨e1,q1,hr _ q2⟩
 ·cases h
end
noncomputable section
def place (d:Nat):List TB->H->H:=List.rec (motive:=λ_=>H->H) (λh=>h) (λb _ ih h=>ih (h.new (MU d b)))
theorem Eb (d:Nat):∀(l:List TB) (h:H),(place d l h).next=h.next+l.length
 |[],_=>rfl
 |b::l,h=>by
  have e:place d (b::l) h=place d l (h.new (MU d b)):=rfl;rw[e,Eb d l];show h.next+1+l.length=h.next+(l.length+1)
  omega
theorem F7 (d:Nat):∀(l:List TB) (h:H),(place d l h).log=h.log/\(place d l h).ln=h.ln
 |[],_=>⟨rfl,rfl⟩
 |b::l,h=>F7 d l (h.new (MU d b))
theorem F8 (d:Nat):∀(l:List TB) (h:H),h.next+l.length<=65536->∀b,b<65536->
 (place d l h).get b=if h.next<=b/\b<h.next+l.length then(l[b-h.next]?).map (MU d)else h.get b
 |[],h,_,b,_=>by rw[aj (by simp)];rfl
 |x::l,h,hr,b,hb=>by
  have e:place d (x::l) h=place d l (h.new (MU d x)):=rfl;have hn:(h.new (MU d x)).next=h.next+1:=rfl
  simp only[bT]at hr⊢;rw[e,F8 d l _ (by rw[hn];omega) b hb,hn,H.Cc (by omega) hb];by_cases c:b=h.next;·subst c;rw[aj (by omega),au rfl,au (by omega),uR];rfl
  ·by_cases c2:h.next+1<=b/\b<h.next+1+l.length
   ·rw[au c2,au (by omega)];obtain⟨j,rfl⟩:∃j,b=h.next+1+j:=⟨b-(h.next+1),by omega⟩
    rw[show h.next+1+j-(h.next+1)=j by omega,show h.next+1+j-h.next=j+1 by omega];rfl
   ·rw[aj c2,aj c,aj (by omega)]
def IL:List Nat->Bool:=List.rec (motive:=λ_=>Bool) true (λx r ih=>Bool.rec ih false (yM x r))
theorem F9:∀{l:List Nat},IL l=true->∀(i j x:Nat),l[i]? =some x->l[j]? =some x->i=j
 |[],_,i,j,x,h,_=>by simp at h
 |y::l,h,i,j,x,hi,hj=>by
  have e:IL (y::l)=Bool.rec (IL l) false (yM y l):=rfl;rw[e]at h;cases hm:yM y l
  ·rw[hm]at h;have hn:y∉l:=λc=>by rw[mP.2 c]at hm;cases hm
   cases i with
   |zero=>
    cases j with
    |zero=>rfl
    |succ j=>
     have h1:y=x:=by simpa using hi
     have h2:l[j]? =some x:=by simpa using hj
     exact absurd (pI h2) (h1▸hn)
   |succ i=>
    cases j with
    |zero=>
     have h1:y=x:=by simpa using hj
     have h2:l[i]? =some x:=by simpa using hi
     exact absurd (pI h2) (h1▸hn)
    |succ j=>exact fJ Nat.succ (F9 h i j x (by simpa using hi) (by simpa using hj))
  ·rw[hm]at h;cases h
def O8 (R0:List Nat) (h:H):List Nat->List TB->Bool
 |[],[]=>true
 |r::rs,b::bs=>aA (aA (Nat.ble (nat_lit 64) r) (Nat.ble (Nat.succ r) h.next)) (aA (match h.get r with|some x=>Uv R0 x b|none=>false) (O8 R0 h rs bs))
 |_,_=>false
theorem Kh {R0:List Nat} {h:H}:∀{rs:List Nat} {bs:List TB},O8 R0 h rs bs=true->rs.length=bs.length/\∀(j r:Nat),rs[j]? =some r->64<=r/\r<h.next/\∃x b,h.get r=some x/\bs[j]? =some b/\Uv R0 x b=true
 |[],[],_=>⟨rfl,λj r h=>by simp at h⟩
 |[],_::_,h=>by cases h
 |_::_,[],h=>by cases h
 |r::rs,b::bs,e=>by
  have e:aA (aA (Nat.ble (nat_lit 64) r) (Nat.ble (Nat.succ r) h.next)) (aA (match h.get r with|some x=>Uv R0 x b|none=>false) (O8 R0 h rs bs))=true:=e;obtain⟨h1,e⟩:=ak e;obtain⟨h2,h3⟩:=ak e;obtain⟨h4,h5⟩:=ak h1;rw[aD]at h4 h5;obtain⟨i1,i2⟩:=Kh h3;refine⟨by simp[i1],λj r' hj=> ?_⟩;cases j with
  |zero=>
   obtain rfl:r=r':=by simpa using hj
   cases hg:h.get r with
   |none=>rw[hg]at h2;cases h2
   |some x=>rw[hg]at h2;exact⟨h4,h5,x,b,rfl,rfl,h2⟩
  |succ j=>obtain⟨q1,q2,x,y,q3,q4,q5⟩:=i2 j r' (by simpa using hj);exact⟨q1,q2,x,y,q3,by simpa using q4,q5⟩
structure Known where
 f:Nat
 args:AV
 v:AV
 bs:List TB
def Uw (e:Known) (R:List Nat):bB->Bool:=bB.rec (motive:=λ_=>Bool) false
 (λv h=>aA (dK R v e.v) (aA (IL R) (aA (O8 R h R e.bs) (D8 (nat_lit 64) h.log))))
def Ki (h:H):List (Nat×List Value)->Bool:=List.rec (motive:=λ_=>Bool) true (λp _ ih=>
 aA (match h.get p.1 with|some (.cells _ _ n d t)=>aA (Nat.beq n p.2.length) (dK [] (BN d t n (nat_lit 0)) (tQ p.2))|_=>false) ih)
def useK (tabs:List (Nat×List Value)) (e:Known) (f:Nat) (args:AV) (h:H):Option bB:=
 Bool.rec none (some (.ok (Fb (Nat.sub h.next (nat_lit 64)) e.v) (place (Nat.sub h.next (nat_lit 64)) e.bs h)))
  (aA (Nat.beq f e.f) (aA (dK [] args e.args) (aA (Nat.ble (Nat.add h.next e.bs.length) (nat_lit 65536)) (aA (Nat.ble (nat_lit 64) h.next) (Ki h tabs)))))
theorem use_inv {tabs:List (Nat×List Value)} {e:Known} {f:Nat} {args v:AV} {h h':H} (u:useK tabs e f args h=some (.ok v h')):
 f=e.f/\dK [] args e.args=true/\h.next+e.bs.length<=65536/\64<=h.next/\Ki h tabs=true/\v=Fb (h.next-64) e.v/\h'=place (h.next-64) e.bs h:=by
 unfold useK at u;cases hc:(aA (Nat.beq f e.f) (aA (dK [] args e.args) (aA (Nat.ble (Nat.add h.next e.bs.length) (nat_lit 65536)) (aA (Nat.ble (nat_lit 64) h.next) (Ki h tabs)))))
 ·rw[hc]at u;cases u
 ·rw[hc]at u;cases u;obtain⟨h1,hc⟩:=ak hc;obtain⟨h2,hc⟩:=ak hc;obtain⟨h3,hc⟩:=ak hc;obtain⟨h4,h5⟩:=ak hc;rw[aD]at h3 h4;exact⟨aI h1,h2,h3,h4,h5,rfl,rfl⟩
section
variable {P:Program} {ι:aV} {h:H} {w:World}
theorem Ux {tabs:List (Nat×List Value)} {e:Known} {R:List Nat} {v1:AV} {h1:H} (hc:Uw e R (.ok v1 h1)=true) (k:WR ι h w) (hn:64<=h.next) (hroom:h.next+e.bs.length<=65536)
 {v':Value} {w':World} (hcr:CR (sW w) (kV tabs) w v1 h1 v' w'):CR ι h w (Fb (h.next-64) e.v) (place (h.next-64) e.bs h) v' w':=by
 obtain⟨c1,hc⟩:=ak hc;obtain⟨c2,hc⟩:=ak hc;obtain⟨c3,c4⟩:=ak hc;obtain⟨hlen,hbs⟩:=Kh c3;have hnd:=F9 c2;have Ut:=D9 c4;obtain⟨ι1,W,hv,k1,E⟩:=hcr;have hW:W=h1.log:=by have q:=E.log;have q2:(kV tabs).log=[]:=rfl;rw[q2,ji]at q;exact q.symm
 have hWn:∀b∈W,sW w b=none:=λb hb=>by have:64<=b:=Ut b (hW▸hb);unfold sW;rw[aj (by omega)]
 have hold:∀i,i<w.heap.size->w'.heap[i]? =w.heap[i]? :=λi hi=>E.heap i hi λb hb m hm=>by rw[hWn b hb]at hm;cases hm
 have hnew:∀b m,64<=b->ι1 b=some m->w.heap.size<=m.B:=λb m hb hm=>by
  rcases E.new b m hb hm with q|⟨b0,hb0,m0,hm0,_⟩
  ·exact q
  ·rw[hWn b0 hb0]at hm0;cases hm0
 let ι2:aV:=λb=>if h.next<=b/\b<h.next+R.length then ι1 (R.getD (b-h.next) 0)else ι b
 have O9:∀j,j<R.length->ι2 (h.next+j)=ι1 (R.getD j 0):=λj hj=>by show(if h.next<=h.next+j/\h.next+j<h.next+R.length then ι1 (R.getD (h.next+j-h.next) 0)else ι (h.next+j))=_;rw[au (by omega),uW]
 have Kj:∀b,b<h.next\/h.next+R.length<=b->ι2 b=ι b:=λb hb=>by show(if h.next<=b/\b<h.next+R.length then ι1 (R.getD (b-h.next) 0)else ι b)=_;rw[aj (by omega)]
 have hmv:Moved R ι1 ι2 (h.next-64):=λt h1 h2=>by have:=O9 (t-64) (by omega);rw[show h.next+(t-64)=t+(h.next-64)by omega]at this;exact this
 have hle:ι.le ι2:=λb m hb=>by have:=k.lt hb;rw[Kj b (.inl this)];exact hb
 have hnx:=Eb (h.next-64) e.bs h;have hget:=F8 (h.next-64) e.bs h hroom;obtain⟨hpl,hpn⟩:=F7 (h.next-64) e.bs h;have aa7:∀j,j<R.length->∃r,R[j]? =some r/\R.getD j 0=r:=λj hj=>⟨R[j],List.getElem?_eq_getElem hj,by simp[List.getD_eq_getElem?_getD,hj]⟩
 refine⟨ι2,[],(yS hmv v1 e.v c1).1 v' hv,?_,?_⟩
 ·refine⟨by rw[hnx];exact hroom,λb hb=> ?_,λb x _ hb hx=> ?_,λb b' x x' m m' _ _ hb hb' hx hx' hm hm' hB=> ?_⟩
  ·rw[hnx]at hb;rw[Kj b (by omega)];exact k.fresh b (by omega)
  ·rw[hnx]at hb;rw[hget b (by omega)]at hx;by_cases c:h.next<=b/\b<h.next+e.bs.length
   ·rw[au c]at hx;obtain⟨r,hr,hrd⟩:=aa7 (b-h.next) (by omega);obtain⟨q1,q2,y,tb,q3,q4,q5⟩:=hbs _ r hr;rw[q4]at hx;cases hx;obtain⟨m,o,z1,z2,z3⟩:=k1.blk r y trivial q2 q3;have:=O9 (b-h.next) (by omega);rw[hrd,show h.next+(b-h.next)=b by omega]at this;exact⟨m,o,by rw[this];exact z1,z2,X4 hmv q5 z3⟩
   ·rw[aj c]at hx;have hb:b<h.next:=by omega
    obtain⟨m,o,z1,z2,z3⟩:=k.blk b x trivial hb hx;exact⟨m,o,hle _ _ z1,by rw[hold m.B (dM.1 z2).1];exact z2,z3.mono hle⟩
  ·rw[hnx]at hb hb';have nw:∀b m,h.next<=b->b<h.next+e.bs.length->ι2 b=some m->∃r,R[b-h.next]? =some r/\ι1 r=some m/\64<=r/\r<h1.next/\∃y,h1.get r=some y:=λb m c1 c2 hm=>by obtain⟨r,hr,hrd⟩:=aa7 (b-h.next) (by omega);obtain⟨q1,q2,y,tb,q3,_,_⟩:=hbs _ r hr;have:=O9 (b-h.next) (by omega);rw[hrd,show h.next+(b-h.next)=b by omega]at this;exact⟨r,hr,by rw[<-this];exact hm,q1,q2,y,q3⟩
   have od:∀b x m,b<h.next->(place (h.next-64) e.bs h).get b=some x->ι2 b=some m->∃y,h.get b=some y/\ι b=some m/\m.B<w.heap.size:=λb x m hb hx hm=>by rw[hget b (by omega),aj (by omega)]at hx;rw[Kj b (.inl hb)]at hm;obtain⟨m1,o,z1,z2,_⟩:=k.blk b x trivial hb hx;rw[hm]at z1;cases z1;exact⟨x,hx,hm,(dM.1 z2).1⟩
   rcases aF b h.next with c|c<;>rcases aF b' h.next with c'|c';·obtain⟨y,hy,hm1,_⟩:=od b x m c hx hm;obtain⟨y',hy',Ui,_⟩:=od b' x' m' c' hx' hm';exact k.inj b b' y y' m m' trivial trivial c c' hy hy' hm1 Ui hB
   ·obtain⟨_,_,_,hlt⟩:=od b x m c hx hm;obtain⟨r,_,hr1,hr2,_⟩:=nw b' m' c' (by omega) hm';have:=hnew r m' hr2 hr1;omega
   ·obtain⟨_,_,_,hlt⟩:=od b' x' m' c' hx' hm';obtain⟨r,_,hr1,hr2,_⟩:=nw b m c (by omega) hm;have:=hnew r m hr2 hr1;omega
   ·obtain⟨r,hr0,hr1,_,hr3,y,hy⟩:=nw b m c (by omega) hm;obtain⟨r',ahv,hr1',_,ahw,y',hy'⟩:=nw b' m' c' (by omega) hm';have:=k1.inj r r' y y' m m' trivial trivial hr3 ahw hy hy' hr1 hr1' hB;subst this;have:=hnd _ _ _ hr0 ahv;omega
 ·exact{
   next:=by rw[hnx];omega
   Ce:=λb hb=>Kj b (.inl hb)
   log:=by rw[hpl];rfl
   ln:=by rw[hpn];rfl
   kept:=λb hb _=>by rw[hget b (by omega),aj (by omega)]
   live:=λb hb=>by cases hb
   size:=E.size
   heap:=λi hi _=>hold i hi
   new:=λb m hb hm=>by
    by_cases c:b<h.next+R.length;·obtain⟨r,hr,hrd⟩:=aa7 (b-h.next) (by omega);obtain⟨q1,_⟩:=hbs _ r hr;have:=O9 (b-h.next) (by omega);rw[hrd,show h.next+(b-h.next)=b by omega]at this;exact .inl (hnew r m q1 (by rw[<-this];exact hm))
    ·rw[Kj b (by omega),k.fresh b hb]at hm;cases hm
   os:=E.os
   tape:=E.tape
   out:=E.out}
