/- The machine's soundness: drawn regions, put together; the whole machine. -/
import Derived.Test.YtocaiijbhepnnaaGreatDoorAm39
import Derived.Lib.Bytealg
namespace Go.Proofs.YtocaiijbhepnnaaGreatDoor.Am
theorem SF.refl (h:H):SF h h []:=⟨ay _,rfl,rfl,λ_ _ _=>rfl,λ_ hb=>by cases hb⟩
theorem SF.trans {h0 h1 h2:H} {W1 W2:List Nat} (e:SF h0 h1 W1) (k:SF h1 h2 W2):SF h0 h2 (W2++W1)where
 next:=bn e.next k.next
 log:=by rw[k.log,e.log,iJ]
 ln:=by rw[k.ln,e.ln,bT];omega
 kept b hb hn:=by rw[k.kept b (bC hb e.next) (λhm=>hn (fG _ hm)),e.kept b hb (λhm=>hn (gq _ hm))]
 live b hb hlt:=by
  rcases fZ.1 hb with h2|h1
  ·by_cases hm:b∈W1
   ·exact e.live b hm hlt
   ·obtain⟨x,hx⟩:=k.live b h2 (bC hlt e.next);exact⟨x,by rw[<-e.kept b hlt hm];exact hx⟩
  ·exact e.live b h1 hlt
theorem SF.toWl {Hh:Nat->H} {i:Nat} {W:List Nat} (e:SF (Hh i) (Hh (i+1)) W):SF (Hh i) (Hh (i+1)) (wl Hh i):=by
 have:wl Hh i=W:=by unfold wl;rw[e.ln,e.log,pJ,List.take_left]
 rw[this];exact e
theorem Vj (S:Nat->Bool):∀N,cnt S N<=N
 |0=>ay _
 |N+1=>by simp only[cnt];have:=Vj S N;split<;>omega
section
variable {P:Program} {g:G}
theorem YI (hg:jT P g) (lq:P.follows .mixedOrders=true):Ea P g:=by
 intro n id ops hok cx ι en h df a w b cs p kk;have aeR:∀(j:Nat) (o:Oper),ops[j]? =some o->gu n ops.toList o=true:=λj o ho=>by
  have:o∈ops.toList:=by rw[<-dY]at ho;exact qW ho
  exact iK.1 hok o this
 have eK:(CS g ops.toList true)=(match okD (masks [] (ops.toList.map (kr g ops.toList))) (ops.toList.map (kr g ops.toList)) (nat_lit 0) []with
  |true=>⟨λcx en h df=>XM (masks [] (ops.toList.map (kr g ops.toList))) cx (ops.toList.map (kr g ops.toList)) (nat_lit 0) [] en h df⟩
  |false=>failK):=rfl
 rw[eK];clear eK;generalize hms:masks [] (ops.toList.map (kr g ops.toList))=ms;cases hD:okD ms (ops.toList.map (kr g ops.toList)) (nat_lit 0) []with
 |false=>trivial
 |true=>
  dsimp only;have hDk:=U9 hD;have Az:∀(j:Nat) (o:Oper),ops[j]? =some o->(ops.toList.map (kr g ops.toList))[j]? =some (kr g ops.toList o):=λj o ho=>by rw[iU,dY,ho];rfl
  have hdr:∀(j:Nat) (o:Oper),ops[j]? =some o->rG (oH g o.op)=true:=λj o ho=>(hDk j _ (Az j o ho)).1;have hdr':∀o∈ops.toList,rG (oH g o.op)=true:=λo ho=>by obtain⟨j,hj,e⟩:=rJ.1 ho;exact hdr j o (by rw[<-dY,bJ hj,e])
  by_cases hf:XM ms cx (ops.toList.map (kr g ops.toList)) 0 [] en h df= .fail;·show Out P b n kk cs ι h w _ (XM ms cx (ops.toList.map (kr g ops.toList)) 0 [] en h df);rw[hf];trivial
  ·obtain⟨E,Hh,V,X,e1,e2,e3,s1,_,s3⟩:=Jp (ops:=ops.toList) ops.toList 0 [] en h hdr' hf;show Out P b n kk cs ι h w _ (XM ms cx (ops.toList.map (kr g ops.toList)) 0 [] en h df);rw[e3];rw[bL,iT];have st:∀(j:Nat) (o:Oper),ops[j]? =some o->StepT g cx df ops.toList E Hh V X j o:=λj o ho=>by have:=s1 j o (by rw[dY];exact ho);rwa [bL]at this
   have text:∀i,i<=ops.size->(∃ι1 a1 w1,Pre P n cx ι1 (E i) (Hh i) df a1 w1 b cs)/\∀j,j<i->X j=true->SF (Hh j) (Hh (j+1)) (wl Hh j):=by
    intro i;induction i with
    |zero=>intro _;exact⟨⟨ι,a,w,by rw[e1,e2];exact p⟩,λj hj=>by omega⟩
    |succ i ih=>
     intro hi;obtain⟨⟨ι1,a1,w1,p1⟩,hsf⟩:=ih (by omega);obtain⟨o,ho⟩:=opAt (show i<ops.size by omega);have hst:=st i o ho;have Ke:=aeR i o ho;have hgd:=Vh Ke p1.env;cases hx:X i with
     |false=>
      obtain⟨_,hv,hH⟩:=hst.no hx;refine⟨⟨ι1,a1.put o.dst undef,w1,?_⟩,λj hj hxj=> ?_⟩;·rw[hst.env,hv,hH];exact⟨p1.cok,vg p1.env (yM Ke) ⟨#[],rfl,rfl⟩,by rw[put_defers];exact p1.uZ,p1.wr,p1.gi,p1.rd,p1.calm⟩
      ·by_cases c:j=i
       ·subst c;rw[hx]at hxj;cases hxj
       ·exact hsf j (by omega) hxj
     |true=>
      obtain⟨h1,h2⟩:=hst.run hx;obtain⟨ι2,a2,w2,_,s⟩:=Py (rest:=[]) (kk:=[]) hg p1 ho Ke (hgd.1 h1) h2;refine⟨⟨ι2,a2,w2,?_⟩,λj hj hxj=> ?_⟩;·rw[hst.env];exact p1.next s
      ·by_cases c:j=i
       ·subst c;obtain⟨W,e⟩:=s.ext;exact e.sf.toWl
       ·exact hsf j (by omega) hxj
   have R:Rg g n cx df ops ms E Hh V X:=by
    refine⟨st,aeR,hdr,?_,?_,?_,?_,?_,?_⟩
    ·intro k j ok oj hkj hk hj hxk hxj hb;have:=s3 k j ok oj hkj (by rw[dY];exact hk) (by rw[dY];exact hj) (by rw[bL];exact hxk) (by rw[bL];exact hxj);rw[bL,bL]at this;rcases this with q|q|q
     ·exact U8 q
     ·rw[hb]at q;cases q
     ·exact RG q
    ·intro k j ok oj hkj hk hj hb;obtain⟨_,_,h3⟩:=hDk j _ (Az j oj hj);have:=BD h3 k (kr g ops.toList ok) (by rw[xE,List.getElem?_take,au hkj];exact Az k ok hk);rcases this with q|q
     ·have q:(gI ms (0+j)).testBit (0+k)=true:=q;rw[bL,bL,hb]at q;cases q
     ·exact q
    ·intro j o ho e he;obtain⟨_,h2,_⟩:=hDk j _ (Az j o ho);have:=Ei h2 e he;have this:e<0+j:=this;omega
    ·intro j o k ho hb;have hat:=KW (ops.toList.map (kr g ops.toList)) [] j _ (Az j o ho) (λe he=>by
      obtain⟨_,h2,_⟩:=hDk j _ (Az j o ho);exact Ei h2 e he)
     rw[hms]at hat;have hat:gI ms (0+j)=nV ms (lW o):=hat;rw[bL]at hat;rw[hat]at hb;exact Eh hb
    ·intro i hi;obtain⟨⟨ι1,a1,w1,p1⟩,_⟩:=text i hi;exact⟨ι1,a1.tmps,w1,p1.env,p1.wr⟩
    ·intro i hi hx;exact(text (i+1) (by omega)).2 i (by omega) hx
   have tot:∀i,i<=ops.size->∃W,SF (Hh 0) (Hh i) W/\∀j,j<i->X j=true->∀x∈wl Hh j,x∈W:=by
    intro i;induction i with
    |zero=>intro _;exact⟨[],SF.refl _,λj hj=>by omega⟩
    |succ i ih=>
     intro hi;obtain⟨W,hW,hm⟩:=ih (by omega);cases hx:X i with
     |false=>
      obtain⟨o,ho⟩:=opAt (show i<ops.size by omega);rw[((st i o ho).no hx).2.2];refine⟨W,hW,λj hj hxj=> ?_⟩;by_cases c:j=i;·subst c;rw[hx]at hxj;cases hxj
      ·exact hm j (by omega) hxj
     |true=>
      refine⟨wl Hh i++W,hW.trans (R.sf i (by omega) hx),λj hj hxj x hxm=> ?_⟩;by_cases c:j=i;·subst c;exact fG _ hxm
      ·exact gq _ (hm j (by omega) hxj x hxm)
   obtain⟨WW,hSF,YE⟩:=tot ops.size (ay _);have L0:=Loc.draw p.wr (w.drawn+1);have k1:=L0.wr p.wr;have k0:WR ι (Hh 0) (World.bR w (w.drawn+1)):=by rw[e2];exact k1
   have hS0:∀j,SL (Array.replicate ops.size false) j=false:=λj=>by unfold SL;by_cases c:j<ops.size<;>simp[c]
   have aiY:∀x,lg Hh (BF Hh X) (SL (Array.replicate ops.size false)) ops.size x=if x<(Hh 0).next then(Hh 0).get x else none:=λx=>by rw[xD (i:=0) (aL _) (λj _ _ hs=>by rw[hS0]at hs;cases hs)];simp only[lg]
   have Vk:∀x y,lg Hh (BF Hh X) (SL (Array.replicate ops.size false)) ops.size x=some y->x<(Hh 0).next/\(Hh 0).get x=some y:=λx y hxy=>by
    rw[aiY]at hxy;by_cases c:x<(Hh 0).next
    ·rw[au c]at hxy;exact⟨c,hxy⟩
    ·rw[ak c]at hxy;cases hxy
   have I0:Inv n ops E Hh V X WW ι (World.bR w (w.drawn+1)) a.defers (SL (Array.replicate ops.size false)) ι a (World.bR w (w.drawn+1)):=by
    refine⟨p.env.size,λt ht=> ?_,rfl,λx y hxy=> ?_,λx x' y y' m m' hx hx' hm hm' hB=> ?_,λx m hm=> .inl (k0.lt hm),λ_ _=>rfl,ay _,λ_ _ _=>rfl,λx m hx hm=> ?_,rfl,rfl,rfl⟩;·rw[xB (i:=0) (aL _) (λj _ _ hs=>by rw[hS0]at hs;cases hs)];show VR ι ((gT t).f (E 0)) _;rw[e1];exact p.env.at_ t ht
    ·obtain⟨h1,h2⟩:=Vk x y hxy;exact k0.blk x y trivial h1 h2
    ·obtain⟨h1,h2⟩:=Vk x y hx;obtain⟨h3,h4⟩:=Vk x' y' hx';exact k0.inj x x' y y' m m' trivial trivial h1 h3 h2 h4 hm hm' hB
    ·rw[k0.fresh x hx]at hm;cases hm
   obtain⟨ι2,a2,w2,S2,hs,I2,hall⟩:=YH (b:=b) (cs:=cs) (kk:=kk) (cx:=cx) hg R p.cok k0 p.gi YE ops.size (w.tape w.drawn (.order b.fn id)) (Array.replicate ops.size false) ι a (World.bR w (w.drawn+1))
    (by simp) (λj k _ hj=>by rw[hS0]at hj;cases hj) I0 (Vj _ _)
   have aiZ:Region.schedule (P.follows .mixedOrders) ops (w.tape w.drawn (.order b.fn id))=Region.linearise.go .any ops ops.size (w.tape w.drawn (.order b.fn id)) (Array.replicate ops.size false) []:=by simp only[Region.schedule,lq,Bool.true_or,if_true];rfl
   have Vl:=DY (P:=P) (b:=b) (a:=a) (k:=kk) (cs:=cs) (w:=w) (i:=id) (ops:=ops);rw[aiZ]at Vl;have abX:∀x,x<(Hh ops.size).next->lg Hh (BF Hh X) S2 ops.size x=(Hh ops.size).get x:=λx hx=>by rw[<-R.cur (ay _) hx];exact xC λk hk _=>hall k hk
   obtain⟨_,_,_,hET,hWT⟩:=R.text ops.size (ay _);have hle:ι.le ι2:=λx m hm=>by rw[I2.old x (k0.lt hm)];exact hm
   have ai1:(Hh 0).next<=(Hh ops.size).next:=R.mono (aL _) (ay _)
   refine⟨ι2,a2,w2, .head Vl (hs.trans (.one wM)),?_,?_,?_,WW,?_⟩
   ·refine⟨I2.sz,hET.most,λt ht=> ?_,hET.rest⟩;have:=I2.env t ht;have e:xw (λt=>(gT t).f (E 0)) (wI ops) V S2 ops.size t=(gT t).f (E ops.size):=by rw[<-R.Ve ht hET.most (ay _)];exact xA λk hk _=>hall k hk
    rw[e]at this;exact this
   ·rw[I2.uZ];exact p.uZ.mono hle
   ·refine⟨hWT.most,λx hx=> ?_,λx y _ hx hy=> ?_,λx x' y y' m m' _ _ hx hx' hy hy' hm hm' hB=> ?_⟩
    ·cases hb:ι2 x with
     |none=>rfl
     |some m=>
      exfalso;rcases I2.dom x m hb with q|⟨k,hk,_,_,_,q⟩
      ·omega
      ·have:=R.mono (i:=k+1) (j:=ops.size) (by omega) (ay _);omega
    ·exact I2.blk x y (by rw[abX x hx];exact hy)
    ·exact I2.inj x x' y y' m m' (by rw[abX x hx];exact hy) (by rw[abX x' hx'];exact hy') hm hm' hB
   ·rw[<-e2];exact⟨hSF.next,I2.old,hSF.log,hSF.ln,hSF.kept,hSF.live,I2.size,I2.heap,I2.new,I2.os,I2.tape,I2.out⟩
end
theorem PU (s:ByteArray) (c:Nat) (hc:c<256):∀(n i:Nat) (a:Nat),i+n=s.size->
 (Nat.rec (motive:=λ_=>Nat->Nat->Nat) (λ_ a=>a) (λ_ ih i a=>sN (Bool.rec a (Nat.succ a) (Nat.beq ((Str.of s).byte i) c)) λa'=>ih (Nat.succ i) a') n i a:Nat)=a+(s.data.toList.drop i).count (UInt8.ofNat c)
 |0,i,a,h=>by
  have:s.data.toList.drop i=[]:=List.drop_eq_nil_of_le (by have:s.data.toList.length=s.size:=by simp
                                                           omega)
  rw[this];rfl
 |n+1,i,a,h=>by
  have hlt:i<s.data.toList.length:=by have:s.data.toList.length=s.size:=by simp
                                      omega
  show sN (Bool.rec a (Nat.succ a) (Nat.beq ((Str.of s).byte i) c)) (λa'=>Nat.rec (motive:=λ_=>Nat->Nat->Nat) (λ_ a=>a) (λ_ ih i a=>sN (Bool.rec a (Nat.succ a) (Nat.beq ((Str.of s).byte i) c)) λa'=>ih (Nat.succ i) a') n (Nat.succ i) a')=_;rw[oN,PU s c hc n (i+1) _ (by omega),nQ hlt,List.count_cons,Str.yg s i (by simpa using hlt)];have hb:(s.data.toList[i]==UInt8.ofNat c)=Nat.beq (s.data.toList[i]).toNat c:=by
   rw[uP,eX,dK,bf];constructor;·intro e;rw[e,UInt8.toNat_ofNat'];exact mG (by omega)
   ·intro e;rw[<-e];simp
  rw[hb];cases Nat.beq (s.data.toList[i]).toNat c;·simp
  ·simp;omega
theorem PV (s:ByteArray) (c:Nat) (hc:c<256):∀(n i:Nat),i+n=s.size->
 (Nat.rec (motive:=λ_=>Nat->Int) (λ_=> .negSucc (nat_lit 0)) (λ_ ih i=>Bool.rec (ih (Nat.succ i)) (.ofNat i) (Nat.beq ((Str.of s).byte i) c)) n i:Int)=
  if Lib.indexByte (s.data.toList.drop i) (UInt8.ofNat c)= -1 then-1 else Lib.indexByte (s.data.toList.drop i) (UInt8.ofNat c)+i
 |0,i,h=>by
  have:s.data.toList.drop i=[]:=List.drop_eq_nil_of_le (by have:s.data.toList.length=s.size:=by simp
                                                           omega)
  rw[this];rfl
 |n+1,i,h=>by
  have hlt:i<s.data.toList.length:=by have:s.data.toList.length=s.size:=by simp
                                      omega
  show(Bool.rec (Nat.rec (motive:=λ_=>Nat->Int) (λ_=> .negSucc (nat_lit 0)) (λ_ ih i=>Bool.rec (ih (Nat.succ i)) (.ofNat i) (Nat.beq ((Str.of s).byte i) c)) n (Nat.succ i)) (.ofNat i) (Nat.beq ((Str.of s).byte i) c):Int)=_;have ih:=PV s c hc n (i+1) (by omega);rw[nQ hlt,Str.yg s i (by simpa using hlt)];have hb:(s.data.toList[i]==UInt8.ofNat c)=Nat.beq (s.data.toList[i]).toNat c:=by
   rw[uP,eX,dK,bf];constructor;·intro e;rw[e,UInt8.toNat_ofNat'];exact mG (by omega)
   ·intro e;rw[<-e];simp
  have hge:=Lib.indexByte_ge (s.data.toList.drop (i+1)) (UInt8.ofNat c);unfold Lib.indexByte;rw[hb];cases Nat.beq (s.data.toList[i]).toNat c
  ·simp only[bq,jv];refine Eq.trans ih ?_;generalize Lib.indexByte (s.data.toList.drop (i+1)) (UInt8.ofNat c)=z at hge;by_cases hz:z= -1
   ·subst hz;simp
   ·have:(z== -1)=false:=by simp[hz]
    rw[this];simp only[bq,jv];rw[ak hz,ak (by omega)];omega
  ·simp
def yT (P:Program) (f:Nat) (e:Array Value->Sem Value):Prop:=
 ∃fn,P.funcs[f]? =some fn/\(fn.name== "runtime.NumGoroutine")=false/\fn.body.isNone=true/\(Extern.findNext fn).isNone=true/\Extern.find fn=some e
theorem nk {P:Program} {f:Nat} {e:Array Value->Sem Value} (h:yT P f e) {vs:Array Value} {w w':World} {v:Value} (he:(e vs).run P w= .ok v w'):(callFunc f vs).run P w= .ok (.value v) w':=by
 obtain⟨fn,hf,hn,hb,h1,h2⟩:=h;have h1:Extern.findNext fn=none:=by
  cases hx:Extern.findNext fn with
  |none=>rfl
  |some _=>rw[hx]at h1;cases h1
 unfold callFunc;simp only[Sem.run_bind,run_program,Result.andThen_ok,hf,hn,bq,jv,hb,if_true,run_mark,h1,h2,he,Sem.run_pure]
theorem u8_toUInt8 (c:Nat):(Int.toNat (c:Int)).toUInt8=UInt8.ofNat c:=rfl
theorem GA:∀(n t:Nat) (acc:Array Value),(∀v∈acc.toList,v.oneCell'=true)->
 (Extern.BytealgMakeNoZero.digits n t acc).size=acc.size+n/\∀v∈(Extern.BytealgMakeNoZero.digits n t acc).toList,v.oneCell'=true
 |0,_,acc,h=>⟨rfl,h⟩
 |n+1,t,acc,h=>by
  have:=GA n (t/256) (acc.push (.int .u8 (Int.ofNat (t%256)))) (λv hv=>by
   rw[mX]at hv;rcases fZ.1 hv with hv|hv;·exact h v hv
   ·rw[dM]at hv;rw[hv];rfl)
  refine⟨?_,this.2⟩;have h1:=this.1;rw[vE]at h1;show(Extern.BytealgMakeNoZero.digits n (t/256) _).size=_;omega
theorem NK {P:Program} {ps rs:Array TypeId} {t el:TypeId} (ht:rs[0]? =some t) (hu:P.underlying t=some (.slice el)) (n:Nat) (hn:n<=4000000) (w:World):
 ∃(cells:Array Value) (d:Nat),(Extern.BytealgMakeNoZero.makeNoZero ps rs #[.int .i64 (Int.ofNat n)]).run P w= .ok (.slice (some ⟨w.heap.size,0,none⟩) n cells.size) (World.grown w d (.cells cells el))/\n<=cells.size/\∀v∈cells.toList,v.oneCell'=true:=by
 have hdef:Extern.BytealgMakeNoZero.makeNoZero ps rs #[.int .i64 (Int.ofNat n)]=(do
  let some t:=rs[0]? |stuck "bytealg.MakeNoZero: no result type"
  let .slice elem<-underlying t|stuck "bytealg.MakeNoZero: slice type expected"
  if(Int.ofNat n)<0||(Int.ofNat n)>2^48 then runtimePanic (.error "makeslice: len out of range")
  let cap<-choose (.appendCap (Int.ofNat n).toNat 0 elem)
  askRoom cap;let bytes<-choose (.extern "internal/bytealg.MakeNoZero.bytes" 0);let a<-newRow elem (Extern.BytealgMakeNoZero.digits cap bytes #[])
  pure (.slice (some a) (Int.ofNat n).toNat cap)):=rfl
 obtain⟨c,hc,hcn⟩:=CJ (P:=P) n 0 el w;have hroom:∀w:World,(askRoom c).run P w= .ok () w:=λw=>by
  unfold askRoom;split;·rfl
  ·rfl
 obtain⟨x,hx⟩:∃x,(choose (.extern "internal/bytealg.MakeNoZero.bytes" 0)).run P (World.bR w (w.drawn+1))= .ok x (World.bR w (w.drawn+2)):=by refine⟨(Question.extern "internal/bytealg.MakeNoZero.bytes" 0).cut (w.tape (w.drawn+1) (.extern "internal/bytealg.MakeNoZero.bytes" 0)),?_⟩;rw[run_choose,if_neg (by simp[Question.forced])];rfl
 obtain⟨d1,d2⟩:=GA c x #[] (λv hv=>by simp at hv);have hsz:(Extern.BytealgMakeNoZero.digits c x #[]).size=c:=by simpa using d1
 refine⟨_,w.drawn+2,?_,by rw[hsz];exact hcn,d2⟩;rw[hdef,ht,hsz];have h1:¬(decide ((n:Int)<0)||decide ((n:Int)>2^48))=true:=by
  have h2:(2:Int)^48=281474976710656:=by decide
  simp only[dG,fH,not_or];exact⟨by omega,by omega⟩
 have hnr:∀(w:World) (cells:Array Value),(newRow el cells).run P w= .ok ⟨w.heap.size,0,none⟩ (World.grown w w.drawn (.cells cells el)):=λw cells=>iy el cells w;simp only[Sem.run_bind,aC hu,Result.andThen_ok,jJ,Int.ofNat_eq_natCast];rw[ak h1];simp only[Sem.run_bind,Result.andThen_ok,hc,hroom,hx,hnr,Sem.run_pure];rfl
theorem abY {P:Program} {g:G} (h1:∀f,g.ext f=1->yT P f Extern.BytealgCount.count) (h2:∀f,g.ext f=2->yT P f Extern.BytealgIndexByte.indexByte)
 (h3:∀f,g.ext f=3->yT P f Extern.AbiNoEscape.same)
 (h4:∀f,16<=g.ext f->∃ps rs t,rs[0]? =some t/\P.underlying t=some (.slice (g.ext f-16))/\yT P f (Extern.BytealgMakeNoZero.makeNoZero ps rs)):mO P g:=by
 intro f args h v h' _ e ι w vs k hG ha;unfold U0 at e;split at e
 ·rename_i s c hx;obtain⟨x,xs,hv,hx1,hxs⟩:=gP ha;obtain⟨y,ys,rfl,hy1,hys⟩:=gP hxs;cases oL hys;obtain⟨b,rfl,rfl⟩:=hx1;cases hy1;have hvs:vs=#[.string b, .int .u8 (c:Int)]:=bG hv;subst hvs;cases hc:Nat.ble c (nat_lit 255)
  ·rw[hc]at e;cases e
  ·rw[hc]at e;rw[aH]at hc;cases e;have hcn:=PU b c (by have:c<=255:=hc;omega) b.size 0 0 (by omega);refine .inl ⟨_,w,nk (h1 f hx) (Lib.run_countString b c w),ι,[],?_,k,Ext.refl _ _ _ k.fresh⟩;rw[u8_toUInt8];have:aeT (Str.of b) c (Str.of b).len (nat_lit 0)=Lib.countByte b.data.toList (UInt8.ofNat c):=by rw[Str.fA];refine Eq.trans hcn ?_;rw[vF,bL];rfl
   rw[this];rfl
 ·rename_i s c hx;obtain⟨x,xs,hv,hx1,hxs⟩:=gP ha;obtain⟨y,ys,rfl,hy1,hys⟩:=gP hxs;cases oL hys;obtain⟨b,rfl,rfl⟩:=hx1;cases hy1;have hvs:vs=#[.string b, .int .u8 (c:Int)]:=bG hv;subst hvs;cases hc:Nat.ble c (nat_lit 255)
  ·rw[hc]at e;cases e
  ·rw[hc]at e;rw[aH]at hc;rw[frc_eq]at e;cases e;have hcn:=PV b c (by have:c<=255:=hc;omega) b.size 0 (by omega);refine .inl ⟨_,w,nk (h2 f hx) (Lib.run_indexByteString b c w),ι,[],?_,k,Ext.refl _ _ _ k.fresh⟩;rw[u8_toUInt8];have:aeU (Str.of b) c (Str.of b).len (nat_lit 0)=Lib.indexByte b.data.toList (UInt8.ofNat c):=by rw[Str.fA];refine Eq.trans hcn ?_;rw[vF];split<;>simp_all
   rw[this];rfl
 ·rename_i vv hx;obtain⟨x,xs,hv,hx1,hxs⟩:=gP ha;cases oL hxs;have hvs:vs=#[x]:=bG hv;subst hvs;cases e;exact .inl ⟨x,w,nk (h3 f hx) rfl,ι,[],hx1,k,Ext.refl _ _ _ k.fresh⟩
 ·rename_i n hne;split at e
  ·rename_i hk hn hr;rw[aH]at hk hn;have hr:=H.jZ.1 hr;have hn:n<=4000000:=hn;obtain⟨x,xs,hv,hx1,hxs⟩:=gP ha;cases oL hxs;cases hx1;have hvs:vs=#[.int .i64 (Int.ofNat n)]:=bG hv;subst hvs;obtain⟨ps,rs,t,hrs,hu,hex⟩:=h4 f hk;obtain⟨cells,d,hrun,hsz,hone⟩:=NK (P:=P) (ps:=ps) hrs hu n hn w;cases e;have hL:Loc ι h w (ι.add h.next ⟨w.heap.size,0,cells.size⟩) (h.new (.cells (Nat.add (Nat.sub (g.ext f) (nat_lit 16)) (nat_lit 2000000)) true (nat_lit 0) (nat_lit 0) (FN (nat_lit 0) .nil))) (World.grown w d (.cells cells (g.ext f-16))) []:=
    Loc.yB k hr _ ⟨w.heap.size,0,cells.size⟩ (.cells cells (g.ext f-16)) (by simp[World.grown]) gQ (Nat.le_refl _) gU
     ⟨cells,_,0,0,rfl,rfl,by show 0+0<=cells.size;omega,aL _,λi hi=>absurd hi (iM i),⟨λc=>(by cases c),λ_=>rfl,λ_ _=>⟨(oV ..).symm, .inl rfl⟩⟩⟩ rfl rfl rfl
   exact .inl ⟨_,_,nk hex hrun,_,[],⟨⟨w.heap.size,0,cells.size⟩,_,cells.size,aX.add_same _ _ _,rfl,hsz,by simp, .inr ⟨rfl,by show 0+0+cells.size*1<=cells.size;omega⟩⟩,hL.wr k,hL.toExt⟩
  ·cases e
 ·cases e
theorem kD {P:Program} {g:G} (hg:jT P g) (lq:P.follows .mixedOrders=true) (hfn:PG P g) (hext:mO P g) (sW:fO P g) {N f:Nat} {x:Fn} (hf:g.fn f=some x) {args v:AV} {h h':H}
 (hno:g.iP f args h=none) (e:(run g (N+1)).call f args h= .ok v h') {ι:aX} {w:World} {vs:Array Value} (k:WR ι h w) (hG:GI ι) (ha:gG ι args vs.toList):rz P f vs w (CR ι h w v h'):=by
 have hdr:=YI hg lq;have ih:=U2 hg hdr hfn hext sW N N none;obtain⟨hx,_⟩:=hfn f x hf;have e:(match g.iP f args h with
  |some r=>r
  |none=>(match g.fn f with
   |some fn=>enter g ⟨(run g N).call,(run g N).wG,N,none,g.pU⟩ fn args h
   |none=>U0 (g.ext f) args h))= .ok v h':=e
 rw[hno,hf]at e;exact KR hg hdr ih rfl hf hx k hG ha e
theorem rz.calls {P:Program} {f:Nat} {vs:Array Value} {w:World} {R:Value->World->Prop} (h:rz P f vs w R):Calls P f vs w λo w'=>∃v',o= .returned v'/\R v' w':=by intro cs;obtain⟨fr,v',w',hcr,hs,hl⟩:=h .normal cs (.inl rfl);obtain⟨hm,hd,hk,hfr,fn,hfn',hr⟩:=hl;exact⟨.returned v',w',fr,⟨v',rfl,hcr⟩,hs,hfr,hm,hd,hk,fn,by rw[hfr];exact hfn',hr⟩
theorem aeV {P:Program} {ext:Nat->Nat}:fO P (gOf P ext):=λ_ _ _ _ _ e=>by cases e
noncomputable section
def isTrue:AV->Bool
 | .bool true=>true
 |_=>false
def step1 (m:Nat) (l:List Nat):Option (List Nat):=List.rec (motive:=λ_=>Option (List Nat)) (some []) (λx r _=>Bool.rec none (some r) (Nat.ble m x)) l
def NM (m:Nat):Nat->List Nat->Option (List Nat):=Nat.rec (motive:=λ_=>List Nat->Option (List Nat)) (step1 m)
 (λ_ ih l=>List.rec (motive:=λ_=>Option (List Nat)) (some []) (λ_ _ _=>Option.rec (motive:=λ_=>Option (List Nat)) none ih (ih l)) l)
def aeW:Option (List Nat)->Bool:=Option.rec (motive:=λ_=>Bool) false (λl=>List.rec (motive:=λ_=>Bool) true (λ_ _ _=>false) l)
def Em (m:Nat) (l:List Nat):Bool:=aeW (NM m (nat_lit 20) l)
def Vm:bF->Bool:=bF.rec (motive:=λ_=>Bool) false (λv h=>aA (isTrue v) (Em (nat_lit 64) h.log))
def aeX (P:Program) (f:Nat):Bool:=
 match fnOf P f with
 |some x=>(match P.funcs[f]? with
  |some fn=>aA (fnOk x) (Bool.rec true false (fn.name== "runtime.NumGoroutine"))
  |none=>false)
 |none=>true
def fC (P:Program):Bool:=(List.range P.funcs.size).all (aeX P)
theorem fnsOk_of {P:Program} {ext:Nat->Nat} {iP:Nat->AV->H->Option bF} (h:fC P=true):PG P (bY P ext iP):=by
 intro f x hx;have hx:fnOf P f=some x:=hx;have hlt:f<P.funcs.size:=by obtain⟨fn,hf,_⟩:=(nu P ext iP).fn f x hx;exact(dQ.1 hf).1
 have h1:=iK.1 h f (vG.2 hlt);unfold aeX at h1;rw[hx]at h1;dsimp only at h1;cases hf:P.funcs[f]? with
 |none=>rw[hf]at h1;cases h1
 |some fn=>
  rw[hf]at h1;dsimp only at h1;obtain⟨h2,h3⟩:=aj h1;refine⟨h2,λfn' e=> ?_⟩;cases e;cases hn:(fn.name== "runtime.NumGoroutine")
  ·rfl
  ·rw[hn]at h3;cases h3
theorem Vn {m:Nat} {l r:List Nat} (h:step1 m l=some r):∀x∈l,m<=x\/x∈r:=by
 cases l with
 |nil=>intro x hx;cases hx
 |cons y l=>
  have h:(Bool.rec none (some l) (Nat.ble m y):Option (List Nat))=some r:=h;cases hb:Nat.ble m y;·rw[hb]at h;cases h
  ·rw[hb]at h;cases h;rw[aH]at hb;intro x hx;rcases aT.1 hx with rfl|hx
   ·exact .inl hb
   ·exact .inr hx
theorem Js {m:Nat}:∀{k:Nat} {l r:List Nat},NM m k l=some r->∀x∈l,m<=x\/x∈r
 |0,_,_,h=>Vn h
 |k+1,l,r,h=>by
  cases l with
  |nil=>intro x hx;cases hx
  |cons y l=>
   have h:Option.rec (motive:=λ_=>Option (List Nat)) none (NM m k) (NM m k (y::l))=some r:=h;cases he:NM m k (y::l)with
   |none=>rw[he]at h;cases h
   |some r1=>
    rw[he]at h;have h:NM m k r1=some r:=h;intro x hx;rcases Js he x hx with c|c;·exact .inl c
    ·exact Js h x c
theorem En {m:Nat} {l:List Nat} (h:Em m l=true):∀x∈l,m<=x:=by
 unfold Em at h;cases he:NM m (nat_lit 20) l with
 |none=>rw[he]at h;cases h
 |some r=>
  rw[he]at h;cases r with
  |nil=>
   intro x hx;rcases Js he x hx with c|c;·exact c
   ·cases c
  |cons _ _=>cases h
theorem YJ {r:bF} (h:Vm r=true):∃h',r= .ok (.bool true) h'/\∀x∈h'.log,64<=x:=by
 cases r with
 |fail=>cases h
 |ok v h'=>
  obtain⟨h1,h2⟩:=aj (show aA (isTrue v) (Em (nat_lit 64) h'.log)=true from h);refine⟨h',?_,En h2⟩;unfold isTrue at h1;split at h1;·rfl
  ·cases h1
def Vo:List (Nat×List Value)->E (Option wH) hd
 |[]=>E.rep none hd
 |(x,l)::r=>E.put (some (.cells 0 true l.length (dep l.length) (FN (dep l.length) (tT l)))) hd (path hd x) (Vo r)
def lu (l:List (Nat×List Value)):H:=⟨Vo l,nat_lit 64,nat_lit 0,[]⟩
def TabAt (w:World) (x:Nat) (l:List Value):Prop:=
 ∃arr el lo hi,w.heap[x]? =some (.cells arr el (lo,hi))/\l.length<=arr.size/\∀i,i<l.length->arr.getD i undef=l.getD i undef
def qy (w:World):aX:=λb=>if b<64 then some ⟨b,0,match w.heap[b]? with|some (.cells arr _ _)=>arr.size|_=>0⟩else none
theorem KY:∀(l:List (Nat×List Value)),(∀p∈l,p.1<64)->∀b,b<64->∀x,E.get hd (path hd b) (Vo l)=some x->
 ∃vs,(b,vs)∈l/\x= .cells 0 true vs.length (dep vs.length) (FN (dep vs.length) (tT vs))
 |[],_,b,_,x,h=>by have:E.get hd (path hd b) (E.rep (none:Option wH) hd)=none:=E.uV _ _ _;have h:E.get hd (path hd b) (E.rep (none:Option wH) hd)=some x:=h;rw[this]at h;cases h
 |(y,vs)::r,hl,b,hb,x,h=>by
  have h:E.get hd (path hd b) (E.put (some (.cells 0 true vs.length (dep vs.length) (FN (dep vs.length) (tT vs)))) hd (path hd y) (Vo r))=some x:=h;have hy:=hl (y,vs) (by simp);by_cases c:y=b;·subst c;rw[E.dD]at h;cases h;exact⟨vs,by simp,rfl⟩
  ·have hne:=E.fu (some (wH.cells 0 true vs.length (dep vs.length) (FN (dep vs.length) (tT vs)))) 8 y b (by have:y<64:=hy;omega) (by omega) c (Vo r);have h:=hne.symm.trans h;obtain⟨vs',h1,h2⟩:=KY r (λp hp=>hl p (by simp[hp])) b hb x h;exact⟨vs',by simp[h1],h2⟩
theorem Jt {w:World} {l:List (Nat×List Value)} (hl:∀p∈l,p.1<64/\p.2.length<=4000000/\TabAt w p.1 p.2):WR (qy w) (lu l) w where
 most:=by show 64<=65536;omega
 fresh b hb:=by have hb:64<=b:=hb;unfold qy;rw[ak (by omega)]
 blk b x _ hb hx:=by
  have hb:b<64:=hb;obtain⟨vs,hm,rfl⟩:=KY l (λp hp=>(hl p hp).1) b hb x hx;obtain⟨_,hlen,arr,el,lo,hi,h1,h2,h3⟩:=hl _ hm;refine⟨⟨b,0,arr.size⟩, .cells arr el (lo,hi),?_,h1,arr,el,lo,hi,rfl,rfl,by simpa using h2,jY hlen,λi hi=> ?_,⟨λc=>(by cases c),λ_=>rfl,λ_ c=>absurd c (by decide)⟩⟩;·unfold qy;rw[au hb,h1]
  ·have hv:=mV (qy w) vs;rw[FN,jW vs.length (jY hlen) hv 0 i _ (by omega) hi,au (by omega),lU];have:=gM hv i;show VR _ _ (arr.getD (0+i) undef);rw[bL,h3 i hi];exact this
 inj b b' x x' m m' _ _ hb hb' _ _ hm hm' hB:=by have hb:b<64:=hb;have hb':b'<64:=hb';unfold qy at hm hm';rw[au hb]at hm;rw[au hb']at hm';cases hm;cases hm';exact hB
theorem yU (w:World):GI (qy w):=λx hx=>⟨_,by unfold qy;rw[au hx]⟩
theorem GD {P:Program} {ext:Nat->Nat} {iP:Nat->AV->H->Option bF} {N f:Nat} {l:List (Nat×List Value)} (lq:P.follows .mixedOrders=true) (hprog:fC P=true) (hext:mO P (bY P ext iP)) (sW:fO P (bY P ext iP))
 (hf:(fnOf P f).isSome=true) {args:AV} (hno:iP f args (lu l)=none)
 (e:Vm ((run (bY P ext iP) (Nat.succ N)).call f args (lu l))=true) {w:World} (hl:∀p∈l,p.1<64/\p.2.length<=4000000/\TabAt w p.1 p.2) {vs:Array Value} (ha:gG (qy w) args vs.toList):
 Calls P f vs w λo w'=>o= .returned (.bool true)/\RowKit.Below w.heap.size w w':=by
 obtain⟨x,hx⟩:=tF.1 hf;obtain⟨h',hr,Vp⟩:=YJ e;have hc:=(kD (nu P ext iP) lq (fnsOk_of hprog) hext sW (N:=N) (f:=f) (x:=x) hx hno hr (vs:=vs) (Jt hl) (yU w) ha).calls;refine hc.mono λo w' ho=> ?_;obtain⟨v',rfl,ι',W,hv,_,hE⟩:=ho;have hv:v'= .bool true:=hv;subst hv;have hW:W=h'.log:=by have h1:=hE.log;have h2:(lu l).log=[]:=rfl;rw[h2,iL]at h1;exact h1.symm
 refine⟨rfl,hE.os,hE.tape,hE.out,hE.size,λk hk=>hE.heap k hk λb hb m hm=> ?_⟩;have:=Vp b (hW▸hb);unfold qy at hm;rw[ak (by omega)]at hm;cases hm
theorem Vq {P:Program} {ext:Nat->Nat} {N f:Nat} {l:List (Nat×List Value)} (lq:P.follows .mixedOrders=true) (hprog:fC P=true) (hext:mO P (gOf P ext)) (hf:(fnOf P f).isSome=true) {args:AV}
 (e:Vm ((run (gOf P ext) (Nat.succ N)).call f args (lu l))=true) {w:World} (hl:∀p∈l,p.1<64/\p.2.length<=4000000/\TabAt w p.1 p.2) {vs:Array Value} (ha:gG (qy w) args vs.toList):
 Calls P f vs w λo w'=>o= .returned (.bool true)/\RowKit.Below w.heap.size w w':=
 GD lq hprog hext aeV hf rfl e hl ha
theorem aaL {P:Program} {ext:Nat->Nat} {N f:Nat} {l:List (Nat×List Value)} (lq:P.follows .mixedOrders=true) (hprog:fC P=true) (hext:mO P (gOf P ext)) (hf:(fnOf P f).isSome=true)
 (e:Vm ((run (gOf P ext) (Nat.succ N)).call f .nil (lu l))=true) {w:World} (hl:∀p∈l,p.1<64/\p.2.length<=4000000/\TabAt w p.1 p.2):
 Calls P f #[] w λo w'=>o= .returned (.bool true)/\RowKit.Below w.heap.size w w':=
 Vq lq hprog hext hf e hl (vs:=#[]) rfl
end
noncomputable section
def PW (R:List Nat) (a t:Nat):Bool:=aA (Nat.ble (nat_lit 64) t) (aA (Nat.ble (Nat.succ t) (Nat.add (nat_lit 64) R.length)) (Nat.beq (gI R (Nat.sub t (nat_lit 64))) a))
def dU (R:List Nat):AV->AV->Bool
 | .bool a, .bool b=>FU a b
 | .int k n, .int k' n'=>aA (Nat.beq (sV k) (sV k')) (eqI n n')
 | .str s, .str s'=>s.eq s'
 | .ptr a o, .ptr t o'=>aA (PW R a t) (Nat.beq o o')
 | .nK, .nK=>true
 | .slice a o l e z, .slice t o' l' e' z'=>aA (PW R a t) (aA (Nat.beq o o') (aA (Nat.beq l l') (aA (Nat.beq e e') (FU z z'))))
 | .jq, .jq=>true
 | .map a, .map t=>PW R a t
 | .qN, .qN=>true
 | .qO, .qO=>true
 | .qd, .qd=>true
 | .sG y a, .sG y' t=>aA (Nat.beq y y') (dU R a t)
 | .agg a, .agg t=>dU R a t
 | .fV a, .fV t=>dU R a t
 | .nil, .nil=>true
 | .cons a r, .cons t q=>aA (dU R a t) (dU R r q)
 |_,_=>false
def FP (d:Nat):AV->AV
 | .ptr b o=> .ptr (Nat.add b d) o
 | .slice b o l e z=> .slice (Nat.add b d) o l e z
 | .map b=> .map (Nat.add b d)
 | .sG t x=> .sG t (FP d x)
 | .agg x=> .agg (FP d x)
 | .fV x=> .fV (FP d x)
 | .cons x y=> .cons (FP d x) (FP d y)
 |x=>x
theorem vH {a b:Bool} (h:FU a b=true):a=b:=by cases a<;>cases b<;>first|rfl|cases h
theorem Eo {R:List Nat} {a t:Nat} (h:PW R a t=true):64<=t/\t<64+R.length/\R.getD (t-64) 0=a:=by obtain⟨h1,h⟩:=aj h;obtain⟨h2,h3⟩:=aj h;rw[aH]at h1 h2;have h3:=aR h3;rw[tY]at h3;exact⟨h1,h2,h3⟩
def Moved (R:List Nat) (ι1 ι2:aX) (d:Nat):Prop:=∀t,64<=t->t<64+R.length->ι2 (t+d)=ι1 (R.getD (t-64) 0)
theorem yV {R:List Nat} {ι1 ι2:aX} {d:Nat} (hm:Moved R ι1 ι2 d):∀(a t:AV),dU R a t=true->
 (∀v,(Go.Proofs.YtocaiijbhepnnaaGreatDoor.Am.R ι1 a).1 v->(Go.Proofs.YtocaiijbhepnnaaGreatDoor.Am.R ι2 (FP d t)).1 v)/\(∀l,(Go.Proofs.YtocaiijbhepnnaaGreatDoor.Am.R ι1 a).2 l->(Go.Proofs.YtocaiijbhepnnaaGreatDoor.Am.R ι2 (FP d t)).2 l):=by
 intro a;induction a with
 |bad=>intro t h;cases t<;>simp[dU]at h
 |unk=>intro t h;cases t<;>simp[dU]at h
 |bool b=>intro t h;cases t<;>simp only[dU,bq]at h;obtain rfl:=vH h;exact⟨λ_ h=>h,λ_ h=>h⟩
 |int k n=>intro t h;cases t<;>simp only[dU,bq]at h;obtain⟨h1,h2⟩:=aj h;obtain rfl:=iq h1;obtain rfl:=Nc h2;exact⟨λ_ h=>h,λ_ h=>h⟩
 |str s=>intro t h;cases t<;>simp only[dU,bq]at h;obtain rfl:=(Str.eq_iff _ _).1 h;exact⟨λ_ h=>h,λ_ h=>h⟩
 |ptr b o=>intro t h;cases t<;>simp only[dU,bq]at h;obtain⟨h1,h2⟩:=aj h;obtain⟨c1,c2,c3⟩:=Eo h1;obtain rfl:=aR h2;refine⟨λv ⟨m,e1,e2⟩=>⟨m,?_,e2⟩,λ_ h=>h⟩;have:=hm _ c1 c2;rw[c3]at this;exact this.trans e1
 |nK=>intro t h;cases t<;>simp only[dU,bq]at h;exact⟨λ_ h=>h,λ_ h=>h⟩
 |slice b o l e z=>intro t h;cases t<;>simp only[dU,bq]at h;obtain⟨h1,h⟩:=aj h;obtain⟨h2,h⟩:=aj h;obtain⟨h3,h⟩:=aj h;obtain⟨h4,h5⟩:=aj h;obtain⟨c1,c2,c3⟩:=Eo h1;obtain rfl:=aR h2;obtain rfl:=aR h3;obtain rfl:=aR h4;obtain rfl:=vH h5;refine⟨λv ⟨m,y,cap,e1,e2⟩=>⟨m,y,cap,?_,e2⟩,λ_ h=>h⟩;have:=hm _ c1 c2;rw[c3]at this;exact this.trans e1
 |jq=>intro t h;cases t<;>simp only[dU,bq]at h;exact⟨λ_ h=>h,λ_ h=>h⟩
 |map b=>intro t h;cases t<;>simp only[dU,bq]at h;obtain⟨c1,c2,c3⟩:=Eo h;refine⟨λv ⟨m,e1,e2⟩=>⟨m,?_,e2⟩,λ_ h=>h⟩;have:=hm _ c1 c2;rw[c3]at this;exact this.trans e1
 |qN=>intro t h;cases t<;>simp only[dU,bq]at h;exact⟨λ_ h=>h,λ_ h=>h⟩
 |fn f x c=>intro t h;cases t<;>simp[dU]at h
 |wG l=>intro t h;cases t<;>simp[dU]at h
 |qO=>intro t h;cases t<;>simp only[dU,bq]at h;exact⟨λ_ h=>h,λ_ h=>h⟩
 |sG y x ih=>intro t h;cases t<;>simp only[dU,bq]at h;obtain⟨h1,h2⟩:=aj h;obtain rfl:=aR h1;exact⟨λv ⟨z,e,hz⟩=>⟨z,e,(ih _ h2).1 z hz⟩,λ_ h=>h⟩
 |qd=>intro t h;cases t<;>simp only[dU,bq]at h;exact⟨λ_ h=>h,λ_ h=>h⟩
 |agg x ih=>intro t h;cases t<;>simp only[dU,bq]at h;exact⟨λv ⟨xs,e,hx⟩=>⟨xs,e,(ih _ h).2 _ hx⟩,λ_ h=>h⟩
 |fV x ih=>intro t h;cases t<;>simp only[dU,bq]at h;exact⟨λv ⟨xs,e,hx⟩=>⟨xs,e,(ih _ h).2 _ hx⟩,λ_ h=>h⟩
 |nil=>intro t h;cases t<;>simp only[dU,bq]at h;exact⟨λ_ h=>h,λ_ h=>h⟩
 |cons x r YC ihr=>intro t h;cases t<;>simp only[dU,bq]at h;obtain⟨h1,h2⟩:=aj h;exact⟨λ_ h=>h,λl ⟨y,ys,e,hy,hys⟩=>⟨y,ys,e,(YC _ h1).1 y hy,(ihr _ h2).2 ys hys⟩⟩
inductive TB where
 |cells (el:Nat) (l:AV)
 |smap (n c:Nat) (l:List (Str×AV))
def NP (d:Nat):TB->wH
 | .cells el l=> .cells el false (llen l) (dep (llen l)) (FN (dep (llen l)) (FP d l))
 | .smap n c l=> .smap n c (l.map λp=>(p.1,FP d p.2))
def YK (R:List Nat):List (Str×AV)->List (Str×AV)->Bool
 |[],[]=>true
 |p::r,q::s=>aA (p.1.eq q.1) (aA (dU R p.2 q.2) (YK R r s))
 |_,_=>false
def Vr (R:List Nat):wH->TB->Bool
 | .cells el false n d t, .cells iY l=>aA (Nat.beq el iY) (aA (Nat.beq n (llen l)) (aA (Nat.ble n fM) (dU R (Cv d t n (nat_lit 0)) l)))
 | .smap n c l, .smap n' c' l'=>aA (Nat.beq n n') (aA (Nat.beq c c') (YK R l l'))
 |_,_=>false
theorem aeY (d:Nat):∀a:AV,llen (FP d a)=llen a:=by
 intro a;induction a with
 |cons x y _ ih=>exact dX Nat.succ ih
 |_=>rfl
theorem GH {R:List Nat} {ι1 ι2:aX} {d:Nat} (hm:Moved R ι1 ι2 d) (s:Str):∀{l l':List (Str×AV)},YK R l l'=true->
 (nM s l=none->nM s (l'.map λp=>(p.1,FP d p.2))=none)/\(∀v,nM s l=some v->∃v',nM s (l'.map λp=>(p.1,FP d p.2))=some v'/\∀x,VR ι1 v x->VR ι2 v' x)
 |[],[],_=>⟨λ_=>rfl,λv h=>by cases h⟩
 |[],_::_,h=>by cases h
 |_::_,[],h=>by cases h
 |p::r,q::t,h=>by
  have h:aA (p.1.eq q.1) (aA (dU R p.2 q.2) (YK R r t))=true:=h;obtain⟨h1,h⟩:=aj h;obtain⟨h2,h3⟩:=aj h;have h1:=(Str.eq_iff _ _).1 h1;obtain⟨i1,i2⟩:=GH hm s h3;rw[jV,lG,lG];dsimp only;rw[h1];by_cases c:q.1=s;·rw[au c,au c];exact⟨(λh=>by cases h),(λv hv=>by cases hv;exact⟨_,rfl,(yV hm _ _ h2).1⟩)⟩
  ·rw[ak c,ak c];exact⟨i1,i2⟩
theorem YL {R:List Nat} {ι1 ι2:aX} {d:Nat} (hm:Moved R ι1 ι2 d) {x:wH} {tb:TB} (h:Vr R x tb=true) {o:Obj} {m:Nm} (hb:BR ι1 x o m):BR ι2 (NP d tb) o m:=by
 unfold Vr at h;split at h
 ·rename_i el n dd t iY l;obtain⟨h1,h⟩:=aj h;obtain⟨h2,h⟩:=aj h;obtain⟨h3,h4⟩:=aj h;obtain rfl:=aR h1;have h2:=aR h2;rw[aH]at h3;have h3:n<=4000000:=h3;obtain⟨arr,iY,lo,hi,rfl,a1,a2,a3,a4,a5⟩:=hb;have hr:=mE (ι:=ι1) (arr:=arr) (sh:=m.sh) n 0 (λj _ hj=>a4 j (by omega));have hr2:=(yV hm _ _ h4).2 _ hr;have hr2:gG ι2 (FP d l) ((List.range n).map λj=>arr.getD (m.sh+0+j) undef):=hr2;refine⟨arr,iY,lo,hi,rfl,a1,by rw[<-h2];exact a2,jY (by rw[<-h2];exact h3),λi hi=> ?_,⟨a5.1,λc=>absurd c (by have:=Dy (llen l);omega),λc=>(by cases c)⟩⟩;have hi:i<n:=by rw[h2];exact hi
  have hll:=gL hr2;rw[dR,nR]at hll;rw[FN,jW (llen l) (jY (by rw[<-h2];exact h3)) hr2 0 i _ (by simp;omega) (by omega),au (by simp;omega),lU];have:=gM hr2 i;have e:((List.range n).map λj=>arr.getD (m.sh+0+j) undef).getD i undef=arr.getD (m.sh+i) undef:=by simp[List.getD_eq_getElem?_getD,hi]
  rw[e]at this;exact this
 ·rename_i n c l n' c' l';obtain⟨h1,h⟩:=aj h;obtain⟨h2,h3⟩:=aj h;obtain rfl:=aR h1;obtain rfl:=aR h2;obtain⟨es,e,a1,a0,a2,a3⟩:=hb;refine⟨es,e,a1,a0,a2,λs=> ?_⟩;have hx:=a3 s;obtain⟨i1,i2⟩:=GH hm (Str.of s) h3;cases hv:nM (Str.of s) l with
  |none=>rw[i1 hv];rw[hv]at hx;exact hx
  |some v=>obtain⟨v',hv',hr⟩:=i2 v hv;rw[hv'];rw[hv]at hx;obtain⟨e1,q1,q2⟩:=hx;exact⟨e1,q1,hr _ q2⟩
 ·cases h
end
noncomputable section
def place (d:Nat):List TB->H->H:=List.rec (motive:=λ_=>H->H) (λh=>h) (λb _ ih h=>ih (h.new (NP d b)))
theorem Ep (d:Nat):∀(l:List TB) (h:H),(place d l h).next=h.next+l.length
 |[],_=>rfl
 |b::l,h=>by
  have e:place d (b::l) h=place d l (h.new (NP d b)):=rfl;rw[e,Ep d l];show h.next+1+l.length=h.next+(l.length+1)
  omega
theorem GJ (d:Nat):∀(l:List TB) (h:H),(place d l h).log=h.log/\(place d l h).ln=h.ln
 |[],_=>⟨rfl,rfl⟩
 |b::l,h=>GJ d l (h.new (NP d b))
theorem GK (d:Nat):∀(l:List TB) (h:H),h.next+l.length<=65536->∀b,b<65536->
 (place d l h).get b=if h.next<=b/\b<h.next+l.length then(l[b-h.next]?).map (NP d)else h.get b
 |[],h,_,b,_=>by rw[ak (by simp)];rfl
 |x::l,h,hr,b,hb=>by
  have e:place d (x::l) h=place d l (h.new (NP d x)):=rfl;have hn:(h.new (NP d x)).next=h.next+1:=rfl
  simp only[dx]at hr⊢;rw[e,GK d l _ (by rw[hn];omega) b hb,hn,H.CO (by omega) hb];by_cases c:b=h.next;·subst c;rw[ak (by omega),au rfl,au (by omega),uN];rfl
  ·by_cases c2:h.next+1<=b/\b<h.next+1+l.length
   ·rw[au c2,au (by omega)];obtain⟨j,rfl⟩:∃j,b=h.next+1+j:=⟨b-(h.next+1),by omega⟩
    rw[show h.next+1+j-(h.next+1)=j by omega,show h.next+1+j-h.next=j+1 by omega];rfl
   ·rw[ak c2,ak c,ak (by omega)]
def Ju:List Nat->Bool:=List.rec (motive:=λ_=>Bool) true (λx r ih=>Bool.rec ih false (yO x r))
theorem GN:∀{l:List Nat},Ju l=true->∀(i j x:Nat),l[i]? =some x->l[j]? =some x->i=j
 |[],_,i,j,x,h,_=>by simp at h
 |y::l,h,i,j,x,hi,hj=>by
  have e:Ju (y::l)=Bool.rec (Ju l) false (yO y l):=rfl;rw[e]at h;cases hm:yO y l
  ·rw[hm]at h;have hn:y∉l:=λc=>by rw[ni.2 c]at hm;cases hm
   cases i with
   |zero=>
    cases j with
    |zero=>rfl
    |succ j=>
     have h1:y=x:=by simpa using hi
     have h2:l[j]? =some x:=by simpa using hj
     exact absurd (qW h2) (h1▸hn)
   |succ i=>
    cases j with
    |zero=>
     have h1:y=x:=by simpa using hj
     have h2:l[i]? =some x:=by simpa using hi
     exact absurd (qW h2) (h1▸hn)
    |succ j=>exact dX Nat.succ (GN h i j x (by simpa using hi) (by simpa using hj))
  ·rw[hm]at h;cases h
def PX (R0:List Nat) (h:H):List Nat->List TB->Bool
 |[],[]=>true
 |r::rs,b::bs=>aA (aA (Nat.ble (nat_lit 64) r) (Nat.ble (Nat.succ r) h.next)) (aA (match h.get r with|some x=>Vr R0 x b|none=>false) (PX R0 h rs bs))
 |_,_=>false
theorem KZ {R0:List Nat} {h:H}:∀{rs:List Nat} {bs:List TB},PX R0 h rs bs=true->rs.length=bs.length/\∀(j r:Nat),rs[j]? =some r->64<=r/\r<h.next/\∃x b,h.get r=some x/\bs[j]? =some b/\Vr R0 x b=true
 |[],[],_=>⟨rfl,λj r h=>by simp at h⟩
 |[],_::_,h=>by cases h
 |_::_,[],h=>by cases h
 |r::rs,b::bs,e=>by
  have e:aA (aA (Nat.ble (nat_lit 64) r) (Nat.ble (Nat.succ r) h.next)) (aA (match h.get r with|some x=>Vr R0 x b|none=>false) (PX R0 h rs bs))=true:=e;obtain⟨h1,e⟩:=aj e;obtain⟨h2,h3⟩:=aj e;obtain⟨h4,h5⟩:=aj h1;rw[aH]at h4 h5;obtain⟨i1,i2⟩:=KZ h3;refine⟨by simp[i1],λj r' hj=> ?_⟩;cases j with
  |zero=>
   obtain rfl:r=r':=by simpa using hj
   cases hg:h.get r with
   |none=>rw[hg]at h2;cases h2
   |some x=>rw[hg]at h2;exact⟨h4,h5,x,b,rfl,rfl,h2⟩
  |succ j=>obtain⟨q1,q2,x,y,q3,q4,q5⟩:=i2 j r' (by simpa using hj);exact⟨q1,q2,x,y,q3,by simpa using q4,q5⟩
structure Known where
 f:Nat
 args:AV
 v:AV
 bs:List TB
def Vs (e:Known) (R:List Nat):bF->Bool:=bF.rec (motive:=λ_=>Bool) false
 (λv h=>aA (dU R v e.v) (aA (Ju R) (aA (PX R h R e.bs) (Em (nat_lit 64) h.log))))
def K3 (h:H):List (Nat×List Value)->Bool:=List.rec (motive:=λ_=>Bool) true (λp _ ih=>
 aA (match h.get p.1 with|some (.cells _ _ n d t)=>aA (Nat.beq n p.2.length) (dU [] (Cv d t n (nat_lit 0)) (tT p.2))|_=>false) ih)
def useK (tabs:List (Nat×List Value)) (e:Known) (f:Nat) (args:AV) (h:H):Option bF:=
 Bool.rec none (some (.ok (FP (Nat.sub h.next (nat_lit 64)) e.v) (place (Nat.sub h.next (nat_lit 64)) e.bs h)))
  (aA (Nat.beq f e.f) (aA (dU [] args e.args) (aA (Nat.ble (Nat.add h.next e.bs.length) (nat_lit 65536)) (aA (Nat.ble (nat_lit 64) h.next) (K3 h tabs)))))
theorem use_inv {tabs:List (Nat×List Value)} {e:Known} {f:Nat} {args v:AV} {h h':H} (u:useK tabs e f args h=some (.ok v h')):
 f=e.f/\dU [] args e.args=true/\h.next+e.bs.length<=65536/\64<=h.next/\K3 h tabs=true/\v=FP (h.next-64) e.v/\h'=place (h.next-64) e.bs h:=by
 unfold useK at u;cases hc:(aA (Nat.beq f e.f) (aA (dU [] args e.args) (aA (Nat.ble (Nat.add h.next e.bs.length) (nat_lit 65536)) (aA (Nat.ble (nat_lit 64) h.next) (K3 h tabs)))))
 ·rw[hc]at u;cases u
 ·rw[hc]at u;cases u;obtain⟨h1,hc⟩:=aj hc;obtain⟨h2,hc⟩:=aj hc;obtain⟨h3,hc⟩:=aj hc;obtain⟨h4,h5⟩:=aj hc;rw[aH]at h3 h4;exact⟨aR h1,h2,h3,h4,h5,rfl,rfl⟩
section
variable {P:Program} {ι:aX} {h:H} {w:World}
theorem Vt {tabs:List (Nat×List Value)} {e:Known} {R:List Nat} {v1:AV} {h1:H} (hc:Vs e R (.ok v1 h1)=true) (k:WR ι h w) (hn:64<=h.next) (hroom:h.next+e.bs.length<=65536)
 {v':Value} {w':World} (hcr:CR (qy w) (lu tabs) w v1 h1 v' w'):CR ι h w (FP (h.next-64) e.v) (place (h.next-64) e.bs h) v' w':=by
 obtain⟨c1,hc⟩:=aj hc;obtain⟨c2,hc⟩:=aj hc;obtain⟨c3,c4⟩:=aj hc;obtain⟨hlen,hbs⟩:=KZ c3;have hnd:=GN c2;have Vp:=En c4;obtain⟨ι1,W,hv,k1,E⟩:=hcr;have hW:W=h1.log:=by have q:=E.log;have q2:(lu tabs).log=[]:=rfl;rw[q2,iL]at q;exact q.symm
 have hWn:∀b∈W,qy w b=none:=λb hb=>by have:64<=b:=Vp b (hW▸hb);unfold qy;rw[ak (by omega)]
 have hold:∀i,i<w.heap.size->w'.heap[i]? =w.heap[i]? :=λi hi=>E.heap i hi λb hb m hm=>by rw[hWn b hb]at hm;cases hm
 have hnew:∀b m,64<=b->ι1 b=some m->w.heap.size<=m.B:=λb m hb hm=>by
  rcases E.new b m hb hm with q|⟨b0,hb0,m0,hm0,_⟩
  ·exact q
  ·rw[hWn b0 hb0]at hm0;cases hm0
 let ι2:aX:=λb=>if h.next<=b/\b<h.next+R.length then ι1 (R.getD (b-h.next) 0)else ι b
 have PY:∀j,j<R.length->ι2 (h.next+j)=ι1 (R.getD j 0):=λj hj=>by show(if h.next<=h.next+j/\h.next+j<h.next+R.length then ι1 (R.getD (h.next+j-h.next) 0)else ι (h.next+j))=_;rw[au (by omega),pJ]
 have K4:∀b,b<h.next\/h.next+R.length<=b->ι2 b=ι b:=λb hb=>by show(if h.next<=b/\b<h.next+R.length then ι1 (R.getD (b-h.next) 0)else ι b)=_;rw[ak (by omega)]
 have hmv:Moved R ι1 ι2 (h.next-64):=λt h1 h2=>by have:=PY (t-64) (by omega);rw[show h.next+(t-64)=t+(h.next-64)by omega]at this;exact this
 have hle:ι.le ι2:=λb m hb=>by have:=k.lt hb;rw[K4 b (.inl this)];exact hb
 have hnx:=Ep (h.next-64) e.bs h;have hget:=GK (h.next-64) e.bs h hroom;obtain⟨hpl,hpn⟩:=GJ (h.next-64) e.bs h;have abZ:∀j,j<R.length->∃r,R[j]? =some r/\R.getD j 0=r:=λj hj=>⟨R[j],List.getElem?_eq_getElem hj,by simp[List.getD_eq_getElem?_getD,hj]⟩
 refine⟨ι2,[],(yV hmv v1 e.v c1).1 v' hv,?_,?_⟩
 ·refine⟨by rw[hnx];exact hroom,λb hb=> ?_,λb x _ hb hx=> ?_,λb b' x x' m m' _ _ hb hb' hx hx' hm hm' hB=> ?_⟩
  ·rw[hnx]at hb;rw[K4 b (by omega)];exact k.fresh b (by omega)
  ·rw[hnx]at hb;rw[hget b (by omega)]at hx;by_cases c:h.next<=b/\b<h.next+e.bs.length
   ·rw[au c]at hx;obtain⟨r,hr,hrd⟩:=abZ (b-h.next) (by omega);obtain⟨q1,q2,y,tb,q3,q4,q5⟩:=hbs _ r hr;rw[q4]at hx;cases hx;obtain⟨m,o,z1,z2,z3⟩:=k1.blk r y trivial q2 q3;have:=PY (b-h.next) (by omega);rw[hrd,show h.next+(b-h.next)=b by omega]at this;exact⟨m,o,by rw[this];exact z1,z2,YL hmv q5 z3⟩
   ·rw[ak c]at hx;have hb:b<h.next:=by omega
    obtain⟨m,o,z1,z2,z3⟩:=k.blk b x trivial hb hx;exact⟨m,o,hle _ _ z1,by rw[hold m.B (dQ.1 z2).1];exact z2,z3.mono hle⟩
  ·rw[hnx]at hb hb';have nw:∀b m,h.next<=b->b<h.next+e.bs.length->ι2 b=some m->∃r,R[b-h.next]? =some r/\ι1 r=some m/\64<=r/\r<h1.next/\∃y,h1.get r=some y:=λb m c1 c2 hm=>by obtain⟨r,hr,hrd⟩:=abZ (b-h.next) (by omega);obtain⟨q1,q2,y,tb,q3,_,_⟩:=hbs _ r hr;have:=PY (b-h.next) (by omega);rw[hrd,show h.next+(b-h.next)=b by omega]at this;exact⟨r,hr,by rw[<-this];exact hm,q1,q2,y,q3⟩
   have od:∀b x m,b<h.next->(place (h.next-64) e.bs h).get b=some x->ι2 b=some m->∃y,h.get b=some y/\ι b=some m/\m.B<w.heap.size:=λb x m hb hx hm=>by rw[hget b (by omega),ak (by omega)]at hx;rw[K4 b (.inl hb)]at hm;obtain⟨m1,o,z1,z2,_⟩:=k.blk b x trivial hb hx;rw[hm]at z1;cases z1;exact⟨x,hx,hm,(dQ.1 z2).1⟩
   rcases aN b h.next with c|c<;>rcases aN b' h.next with c'|c';·obtain⟨y,hy,hm1,_⟩:=od b x m c hx hm;obtain⟨y',hy',Vf,_⟩:=od b' x' m' c' hx' hm';exact k.inj b b' y y' m m' trivial trivial c c' hy hy' hm1 Vf hB
   ·obtain⟨_,_,_,hlt⟩:=od b x m c hx hm;obtain⟨r,_,hr1,hr2,_⟩:=nw b' m' c' (by omega) hm';have:=hnew r m' hr2 hr1;omega
   ·obtain⟨_,_,_,hlt⟩:=od b' x' m' c' hx' hm';obtain⟨r,_,hr1,hr2,_⟩:=nw b m c (by omega) hm;have:=hnew r m hr2 hr1;omega
   ·obtain⟨r,hr0,hr1,_,hr3,y,hy⟩:=nw b m c (by omega) hm;obtain⟨r',ai2,hr1',_,ai3,y',hy'⟩:=nw b' m' c' (by omega) hm';have:=k1.inj r r' y y' m m' trivial trivial hr3 ai3 hy hy' hr1 hr1' hB;subst this;have:=hnd _ _ _ hr0 ai2;omega
 ·exact{
   next:=by rw[hnx];omega
   CP:=λb hb=>K4 b (.inl hb)
   log:=by rw[hpl];rfl
   ln:=by rw[hpn];rfl
   kept:=λb hb _=>by rw[hget b (by omega),ak (by omega)]
   live:=λb hb=>by cases hb
   size:=E.size
   heap:=λi hi _=>hold i hi
   new:=λb m hb hm=>by
    by_cases c:b<h.next+R.length;·obtain⟨r,hr,hrd⟩:=abZ (b-h.next) (by omega);obtain⟨q1,_⟩:=hbs _ r hr;have:=PY (b-h.next) (by omega);rw[hrd,show h.next+(b-h.next)=b by omega]at this;exact .inl (hnew r m q1 (by rw[<-this];exact hm))
    ·rw[K4 b (by omega),k.fresh b hb]at hm;cases hm
   os:=E.os
   tape:=E.tape
   out:=E.out}
