/- The machine's soundness: append. -/
import Derived.Test.YtocaiijbhepnnaaGreatDoorAm22
namespace Go.Proofs.YtocaiijbhepnnaaGreatDoor.Am
section
variable {P:Program} {g:G} {ι:aX} {h h':H} {w:World} {D:Nat->Prop}
theorem Nk (a:Addr) (w:World):(loadCells a 0).run P w= .ok #[] w:=rfl
theorem Nl (f:Nat->Value) (j m:Nat) (h:j<=m):((List.range m).map f).take j=(List.range j).map f:=by rw[<-List.map_take,List.take_range,yx h]
theorem KD (k:WR ι h w D) {es:Nat} {x v:AV} {vx:Value} {kf:AV->Nat->bF} (hx:VR ι x vx) (hD:∀b∈aS x,D b) (e:elems es x h kf= .ok v h'):
 ∃new n l,kf new n= .ok v h'/\gG ι new l/\l.length=n*es/\(∀w2:World,(Builtin.lenOf vx).run P w2= .ok n w2)/\
  ∀w2:World,w2.heap=w.heap->∀j,j<=n->(Builtin.firstCells es j vx).run P w2= .ok (l.take (j*es)).toArray w2:=by
 unfold elems at e;split at e;·cases hx;exact⟨_,_,[],e,rfl,by simp,λ_=>rfl,λw2 _ j _=>by simp[Builtin.firstCells]⟩
 ·obtain⟨b,rfl,rfl⟩:=hx;split at e
  ·rename_i hes;obtain rfl:=aR hes;refine⟨_,_,_,e,Pn b,?_,λ_=> ?_,λw2 _ j hj=> ?_⟩
   ·rw[Str.fA,dR];simp
   ·rw[Str.fA];rfl
   ·rw[Str.fA]at hj;simp only[Builtin.firstCells,Sem.run_pure];congr 1;apply Array.ext';rw[mW,Nat.mul_one,<-List.map_take];congr 1;have:(b.extract 0 j).data=b.data.extract 0 j:=by simp[ByteArray.data_extract]
    rw[this,Array.toList_extract,List.extract_eq_take_drop];simp
  ·cases e
 ·rename_i b off len es' z;split at e
  ·rename_i el ro n d t hb;split at e
   ·rename_i h1 h2;obtain rfl:=aR h1;rw[aH]at h2;have h2:off+len*es<=n:=h2;obtain⟨m,y,cap,hm,rfl,hle,hz,hy⟩:=hx;obtain⟨arr,iY,lo,hi,hw,h1,h2',h3,h4,h5⟩:=k.cells (hD b (by simp[aS])) hm hb;have hrd:=mE (ι:=ι) (arr:=arr) (sh:=m.sh) (len*es) off (λj h1 h2=>h4 j (by omega));refine⟨_,_,_,e,hrd,by simp,λ_=>rfl,λw2 hw2 j hj=> ?_⟩;have hjl:j*es<=len*es:=mF _ hj;rw[Nl _ _ _ hjl];simp only[Builtin.firstCells];by_cases h0:j*es=0
    ·rw[h0];exact rfl
    ·have hy:y=⟨m.B,m.sh+off,none⟩/\m.sh+off+cap*es<=m.cs:=by
      rcases hy with hy|hy
      ·exfalso;apply h0;have:j=0:=by omega
       rw[this,jl]
      ·exact hy
     obtain⟨rfl,Uq⟩:=hy;exact fq (by rw[hw2];exact hw) (by omega)
   ·cases e
  ·cases e
 ·cases e
theorem KE {d:Nat} {t:E AV d}:∀(n o i:Nat),i<n->Ch (Cv d t n o) i=E.get d (path d (o+i)) t
 |0,_,_,h=>by omega
 |n+1,o,0,_=>rfl
 |n+1,o,i+1,h=>by have:=KE (t:=t) n (o+1) i (by omega);rw[show o+(i+1)=o+1+i by omega,<-this];rfl
theorem Rp {el es off len n nb d:Nat} {new v:AV} {t:E AV d} {h0:H} {l0 l:List Value} (hl0:gG ι (Cv d t (Nat.mul len es) off) l0) (hl:gG ι new l) (aiF:l0.length=len*es) (_hd:nb<=4^d)
 (e:Us el es off len n new h0 nb d t= .ok v h'):
 ∃nb' d' t',v= .slice h0.next 0 (len+n) es false/\h'=h0.new (.cells el false nb' d' t')/\nb'=l0.length+l.length/\nb'<=4^d'/\d'<12/\
  ∀i,i<nb'->VR ι (E.get d' (path d' i) t') ((l0++l).getD i undef):=by
 have hnl:=gL hl;have aiG:∀i,(l0++l).getD i undef=if i<l0.length then l0.getD i undef else l.getD (i-l0.length) undef:=λi=>by rw[aU,List.getElem?_append];split<;>rw[aU]
 unfold Us at e;split at e
 ·rename_i h1 h2 h3 h4;have h1:=aR h1;have h2:=aR h2;have h3:=aR h3;rw[aH]at h4;have h4:nb+llen new<=4000000:=h4;have h2:len*es=nb:=h2;have h1:off=0:=h1;subst h1;cases e;have hdd:nb+llen new<=4^d:=by have:=jY h4;have h3:dep (nb+llen new)=d:=h3;rwa [h3]at this
  refine⟨nb+llen new,d,XI d new nb t,rfl,rfl,by omega,hdd,by have h3:dep (nb+llen new)=d:=h3;rw[<-h3];exact Dy _,λi hi=> ?_⟩;rw[jW (nb+llen new) hdd hl nb i t (by omega) hi,aiG];by_cases c:i<l0.length;·rw[ak (by omega),au c];have:=gM hl0 i;rw[KE _ _ _ (show i<Nat.mul len es from(by omega:i<len*es)),bL]at this;exact this
  ·rw[au (by omega),ak c,aiF,h2];exact gM hl _
 ·obtain⟨hr,hm,e⟩:=qU e;cases e;have hap:=mR hl0 hl;have aiH:=gL hap;refine⟨_,_,_,rfl,rfl,by rw[<-bT];exact aiH,jY hm,Dy _,λi hi=> ?_⟩;rw[FN,jW _ (jY hm) hap 0 i _ (by omega) hi,au (by omega),lU];exact gM hap i
theorem Loc.I9 (k:WR ι h w D) (hr:h.next<65536) {b:Nat} {x0:wH} (hx0:h.get b=some x0) {m:Nm} (hm:ι b=some m) (x:wH) (m':Nm) (o:Obj) {w':World}
 (hsz:w.heap.size<=w'.heap.size) (hold:∀i,i<w.heap.size->i≠m.B->w'.heap[i]? =w.heap[i]?) (hB:m'.B=m.B\/w.heap.size<=m'.B) (ho:w'.heap[m'.B]? =some o)
 (hbr:BR (ι.add h.next m') x o m') (hos:w'.os=w.os) (KF:w'.tape=w.tape) (hout:w'.output=w.output):
 Loc ι h w (ι.add h.next m') ((h.kill b).new x) w' [b]:=by
 have hb:b<h.next:=k.lt hm;have hkn:(h.kill b).next=h.next:=rfl
 have gk:∀c,c<65536->((h.kill b).new x).get c=if c=h.next then some x else if c=b then none else h.get c:=λc hc=>by
  rw[H.CO (by rw[hkn];exact hr) hc,hkn];split;·rfl
  ·rw[H.Ut (by omega) hc]
 have hbn:((h.kill b).new x).get b=none:=by rw[gk b (by omega),ak (by omega),au rfl]
 exact{
  next:=lV _
  CP:=λc hc=>aX.tO ι m' (by omega)
  log:=rfl
  ln:=rfl
  kept:=λc hc hn=>by
   have:c≠b:=by simpa using hn
   rw[gk c (by omega),ak (by omega),ak this]
  live:=λc hc _=>by
   obtain rfl:c=b:=by simpa using hc
   exact⟨x0,hx0⟩
  size:=hsz
  heap:=λi hi hn=>hold i hi (λe=>hn b (by simp) m hm e.symm)
  new:=λc m1 hc e=>by
   by_cases hx:c=h.next
   ·subst hx;rw[aX.add_same]at e;cases e;rcases hB with hB|hB
    ·exact .inr ⟨b,by simp,m,hm,hB.symm⟩
    ·exact .inl hB
   ·rw[aX.tO ι m' hx,k.fresh c hc]at e;cases e
  os:=hos
  tape:=KF
  out:=hout
  most:=hr
  fresh:=λc hc=>by have hc':h.next+1<=c:=hc;rw[aX.tO ι m' (by omega)];exact k.fresh c (by omega)
  blk:=λc y hc hcn hy=>by
   have hcn':c<h.next+1:=hcn;rcases hc with hc|hc
   ·obtain rfl:c=b:=by simpa using hc
    rw[hbn]at hy;cases hy
   ·obtain rfl:c=h.next:=by omega
    rw[gk _ hr,au rfl]at hy;cases hy;exact⟨m',o,aX.add_same _ _ _,ho,hbr⟩
  inj1:=λc y m1 hc hcn _ hm1=>by
   have hcn':c<h.next+1:=hcn;obtain rfl:c=h.next:=by omega
   rw[aX.add_same]at hm1;cases hm1;rcases hB with hB|hB;·exact .inr ⟨b,by simp,m,hm,hB.symm,hbn⟩
   ·exact .inl hB
  inj2:=λc c' y y' m1 m2 hc hc' hcn hcn' _ _ _ _ _=>by have h1:c<h.next+1:=hcn;have h2:c'<h.next+1:=hcn';omega}
theorem Ja {n bytes:Nat} (e:Uu n bytes=true):n<=4000000/\n*bytes<=4000000:=by
 unfold Uu at e;split at e;·cases e
 ·rename_i b;rw[aH]at e;have e:n*(b+1)<=4000000:=e;refine⟨?_,e⟩;have:n*1<=n*(b+1):=Nat.mul_le_mul_left _ (by omega);omega
theorem KG (l:List Value) (i:Nat):l.toArray.getD i undef=l.getD i undef:=by rw[gV,List.getElem?_toArray,aU]
theorem size_zeroCells (z:Array Value) (n:Nat):(Builtin.zeroCells z n).size=n*z.size:=by simp[Builtin.zeroCells]
theorem DW (a b:Array Value) {i:Nat} (hi:i<a.size):(a++b).getD i undef=a.getD i undef:=by rw[gV,Array.getElem?_append_left hi,gV]
theorem Nn (k:WR ι h w D) {el:TypeId} {es bytes:Nat} {z:Value} (hzs:z.cells.size=es) {b off len es' cap n nb d:Nat} {zz ro:Bool} {t:E AV d} {m:Nm} {y:Addr} {new:AV} {l:List Value} {v:AV}
 (hm:ι b=some m) (hle:len<=cap) (hn:0<n) (hy:cap=0\/(y=⟨m.B,m.sh+off,none⟩/\m.sh+off+cap*es'<=m.cs)) (hD:∀b'∈aS (.slice b off len es' zz),D b')
 (hb:h.get b=some (.cells (el+2000000) ro nb d t)) (hnew:gG ι new l) (ho:ones new=true) (hlen:l.length=n*es) (e:Jb el es bytes off len n new h b nb d t es' ro zz= .ok v h') {R:Sem Value}
 (hin:∀w2,len+n<=cap->(storeCells (y.add (len*es)) l).run P w= .ok () w2->R.run P w= .ok (.slice (some y) (len+n) cap) w2)
 (hgrow:∀old,(∀k,(Builtin.firstCells es len (.slice (some y) len cap)).run P (World.bR w k)= .ok old (World.bR w k))->cap<len+n->
  len+n<=4000000->(len+n)*bytes<=4000000->∃c,len+n<=c/\R.run P w= .ok (.slice (some ⟨w.heap.size,0,none⟩) (len+n) c)
   (World.grown w (w.drawn+1) (.cells (old++l.toArray++Builtin.zeroCells z.cells (c-(len+n))) el))):aO P ι h w R v h':=by
 unfold Jb at e
 split at e
 ·rename_i h1 h3 h4 h5 h6
  obtain rfl:=aR h1
  have h3:off+len*es=nb:=aR h3
  obtain⟨hb1,hb2⟩:=Ja h4
  have hr:=H.jZ.1 h5
  rw[aH]at h6
  have h6:llen (kZ (Cv d t (Nat.mul len es) off) new)<=4000000:=h6
  cases e
  obtain⟨arr,el0,lo,hi,hw,a1,a2,a3,a4,a5⟩:=k.cells (hD b (by simp[aS])) hm hb
  obtain⟨hel,hfr⟩:=a5.2.2 rfl (by omega)
  rw[oV]at hel
  rw[hel]at hw
  have hrd:=mE (ι:=ι) (arr:=arr) (sh:=m.sh) (len*es) off (λj h1 h2=>a4 j (by omega))
  have abJ:gG ι (kZ (Cv d t (Nat.mul len es) off) new) ((List.range (len*es)).map (λj=>arr.getD (m.sh+off+j) undef)++l):=mR hrd hnew
  have hll:llen (kZ (Cv d t (Nat.mul len es) off) new)=((List.range (len*es)).map (λj=>arr.getD (m.sh+off+j) undef)++l).length:=gL abJ
  obtain⟨nb',hnb'⟩:∃nb',llen (kZ (Cv d t (Nat.mul len es) off) new)=nb':=⟨_,rfl⟩
  have hnb:nb'=len*es+n*es:=by
   rw[<-hnb']
   refine Eq.trans hll ?_
   rw[bT,dR,nR,hlen]
  have hd':nb'<=4^dep nb':=jY (by omega)
  have aiI:=Dy nb'
  have hget:∀i,i<nb'->VR ι (E.get (dep nb') (path (dep nb') i) (FN (dep nb') (kZ (Cv d t (Nat.mul len es) off) new))) (((List.range (len*es)).map (λj=>arr.getD (m.sh+off+j) undef)++l).getD i undef):=λi hi=>by
   rw[FN,jW nb' hd' abJ 0 i _ (by rw[<-hll,hnb'];omega) hi,au (by rw[<-hll,hnb'];omega),lU]
   exact gM abJ i
  rw[hnb']
  have hBs:m.B<w.heap.size:=(dQ.1 hw).1
  by_cases hc:len+n<=cap
  ·
   have hy:y=⟨m.B,m.sh+off,none⟩/\m.sh+off+cap*es<=m.cs:=by
    rcases hy with hy|hy
    ·omega
    ·exact hy
   obtain⟨rfl,Uq⟩:=hy
   have hcap:(len+n)*es<=cap*es:=mF _ hc
   rw[eY]at hcap
   have hst:=eF (P:=P) l (m.sh+off+len*es) 0 arr w hw (by omega) (by rw[hlen];omega) (Cu hnew ho)
   refine⟨_,World.putCells w m.B (oJ arr (m.sh+off+len*es+0) l) el (lo,hi),[b],_,hin _ hc (by rw[addr_add];exact hst),?_,Loc.I9 k hr hb hm _ ⟨m.B,m.sh+off,m.cs⟩ _ (by simp[World.putCells]) (λi _ hne=> ?_) (.inl rfl) (fJ hBs) ?_ rfl rfl rfl⟩
   ·exact⟨_,_,cap,aX.add_same _ _ _,rfl,hc,by simp, .inr ⟨rfl,Uq⟩⟩
   ·simp only[World.putCells]
    rw[jH (λe=>hne e.symm)]
   ·refine⟨_,el,lo,hi,rfl,by rw[nE];exact a1,by show m.sh+off+nb'<=m.cs;omega,hd',λi hi=> ?_,⟨λc=>(by cases c),λc=>absurd c (by omega),λ_ _=>⟨(oV ..).symm,?_⟩⟩⟩
    ·have:=(hget i hi).mono (aX.tu ⟨m.B,m.sh+off,m.cs⟩ (k.fresh _ (ay _)))
     rw[qh _ _ _ _ (by show m.sh+off+i<arr.size;omega)]
     have eq:(List.map (λj=>arr.getD (m.sh+off+j) undef) (List.range (len*es))++l).getD i undef=
      if m.sh+off+len*es+0<=m.sh+off+i/\m.sh+off+i<m.sh+off+len*es+0+l.length then l.getD (m.sh+off+i-(m.sh+off+len*es+0)) undef else arr.getD (m.sh+off+i) undef:=by
      rw[aU,List.getElem?_append]
      simp only[dR,nR]
      by_cases ci:i<len*es
      ·rw[au ci,ak (by omega)]
       simp[ci]
      ·rw[ak ci,au (by omega),show m.sh+off+i-(m.sh+off+len*es+0)=i-len*es by omega,aU]
     rw[eq]at this
     exact this
    ·rcases hfr with c|c
     ·exact .inl c
     ·exact .inr (by show hi<=m.sh+off+nb';omega)
  ·
   have hold:∀k,(Builtin.firstCells es len (.slice (some y) len cap)).run P (World.bR w k)= .ok ((List.range (len*es)).map λj=>arr.getD (m.sh+off+j) undef).toArray (World.bR w k):=λk=>by
    simp only[Builtin.firstCells]
    by_cases h0:len*es=0
    ·rw[h0];exact rfl
    ·have hy:y=⟨m.B,m.sh+off,none⟩/\m.sh+off+cap*es<=m.cs:=by
      rcases hy with hy|hy
      ·exact absurd (show len*es=0 by rw[show len=0 by omega,jl]) h0
      ·exact hy
     obtain⟨rfl,Uq⟩:=hy
     exact fq (by show w.heap[m.B]? =_;exact hw) (by omega)
   obtain⟨c,hcn,hrun⟩:=hgrow _ hold (by omega) hb1 hb2
   generalize hcells:(((List.range (len*es)).map λj=>arr.getD (m.sh+off+j) undef).toArray++l.toArray++Builtin.zeroCells z.cells (c-(len+n)))=cells at hrun
   have hcs:cells.size=c*es:=by
    rw[<-hcells,pQ,pQ,size_zeroCells,hzs]
    simp only[mZ,hlen,dR,nR]
    rw[<-eY,<-eY]
    congr 1;omega
   have Po:∀i,i<nb'->VR ι (E.get (dep nb') (path (dep nb') i) (FN (dep nb') (kZ (Cv d t (Nat.mul len es) off) new))) (cells.getD i undef):=λi hi=>by
    have:=hget i hi
    rw[<-hcells,DW _ _ (by simp only[pQ,mZ,dR,nR,hlen];omega),yI,KG]
    exact this
   have aes:nb'<=cells.size:=by
    rw[hcs,hnb,<-eY];exact mF _ hcn
   have hvr:VR (ι.add h.next ⟨w.heap.size,0,cells.size⟩) (.slice h.next 0 (len+n) es false) (.slice (some ⟨w.heap.size,0,none⟩) (len+n) c):=
    ⟨_,_,c,aX.add_same _ _ _,rfl,hcn,by simp, .inr ⟨rfl,by rw[hcs];show 0+0+c*es<=c*es;omega⟩⟩
   refine⟨_,_,[b],_,hrun,hvr,Loc.I9 k hr hb hm _ ⟨w.heap.size,0,cells.size⟩ _ (by simp[World.grown]) (λi hi _=>gQ i hi) (.inr (Nat.le_refl _)) gU ?_ rfl rfl rfl⟩
   refine⟨cells,el,0,0,rfl,rfl,by show 0+nb'<=cells.size;omega,hd',λi hi=> ?_,⟨λc=>(by cases c),λ_=>rfl,λ_ _=>⟨(oV ..).symm, .inl rfl⟩⟩⟩
   simp only[bL]
   exact(Po i hi).mono (aX.tu _ (k.fresh _ (ay _)))
 ·cases e
theorem DX (_hg:jT P g) (k:WR ι h w D) {el:TypeId} {ye:Ty} (_he:g.ty el=some ye) {s new v:AV} {vs:Value} {n:Nat} {l:List Value} {z:Value} (hzs:z.cells.size=ye.size)
 (hs:VR ι s vs) (hD:∀b∈aS s,D b) (hnew:gG ι new l) (hlen:l.length=n*ye.size) (e:yJ el ye.size ye.bytes s h new n= .ok v h') {R:Sem Value}
 (hin:∀base sLen sCap (w2:World),vs= .slice base sLen sCap->sLen+n<=sCap->(∀a,base=some a->(storeCells (a.add (sLen*ye.size)) l).run P w= .ok () w2)->(base=none->w2=w)->
  R.run P w= .ok (.slice base (sLen+n) sCap) w2)
 (hgrow:∀base sLen sCap old,vs= .slice base sLen sCap->(∀k,(Builtin.firstCells ye.size sLen (.slice base sLen sCap)).run P (World.bR w k)= .ok old (World.bR w k))->sCap<sLen+n->
  sLen+n<=4000000->(sLen+n)*ye.bytes<=4000000->∃c,sLen+n<=c/\R.run P w= .ok (.slice (some ⟨w.heap.size,0,none⟩) (sLen+n) c)
   (World.grown w (w.drawn+1) (.cells (old++l.toArray++Builtin.zeroCells z.cells (c-(sLen+n))) el))):aO P ι h w R v h':=by
 unfold yJ at e
 split at e
 ·
  have hl0:l=[]:=pV (by rw[hlen,jl])
  subst hl0
  split at e
  ·cases hs
   cases e
   exact aO.ret k (hin none 0 0 w rfl (ay _) (by simp) (λ_=>rfl)) rfl
  ·obtain⟨m,y,cap,hm,rfl,hle,hz,hy⟩:=hs
   cases e
   exact aO.ret k (hin (some y) _ cap w rfl (by omega) (λa ha=>rfl) (by simp)) ⟨m,y,cap,hm,rfl,hle,hz,hy⟩
  ·cases e
 ·rename_i n
  have hlen:l.length=(n+1)*ye.size:=hlen
  split at e
  ·
   rename_i ho
   cases hs
   split at e
   ·rename_i hby
    obtain⟨hb1,hb2⟩:=Ja hby
    obtain⟨hr,hm,e⟩:=qU e
    cases e
    obtain⟨c,hc,hrun⟩:=hgrow none 0 0 #[] rfl (λ_=>by simp[Builtin.firstCells]) (by omega) (by omega) (by rw[Nat.zero_add];exact hb2)
    rw[bL]at hrun hc
    have hcs:(#[]++l.toArray++Builtin.zeroCells z.cells (c-(n+1))).size=c*ye.size:=by
     rw[pQ,pQ,size_zeroCells,hzs]
     simp only[mZ,hlen]
     show 0+(n+1)*ye.size+(c-(n+1))*ye.size=c*ye.size
     rw[bL,<-eY]
     congr 1;omega
    refine⟨_,_,[],_,hrun,⟨_,_,c,aX.add_same _ _ _,rfl,hc,by simp, .inr ⟨rfl,?_⟩⟩,Loc.yC k hr (w.drawn+1) (l:=l) hnew hm ⟨(Builtin.zeroCells z.cells (c-(n+1))).toList,by simp⟩⟩
    rw[hcs]
    show 0+0+c*ye.size<=c*ye.size
    omega
   ·cases e
  ·
   rename_i b off len es' zz ho
   obtain⟨m,y,cap,hm,rfl,hle,hz,hy⟩:=hs
   split at e
   ·rename_i iY ro nb d t hb
    split at e
    ·rename_i hmk
     obtain rfl:=aR hmk
     exact Nn k hzs hm hle (uX n) hy hD hb hnew ho hlen e (λw2 h1 h2=>hin _ _ _ w2 rfl h1 (λa ha=>by cases ha;exact h2) (λc=>by cases c)) (λold h1 h2 h3 h4=>hgrow _ _ _ old rfl h1 h2 h3 h4)
    split at e
    ·rename_i h1 h2 h3 h4 h5 h6
     obtain rfl:=aR h1
     obtain rfl:=aR h2
     rw[aH]at h3
     have h3:off+len*ye.size<=nb:=h3
     obtain⟨hb1,hb2⟩:=Ja h4
     have hr:=H.jZ.1 h5
     obtain⟨arr,el0,lo,hi,hw,a1,a2,a3,a4,a5⟩:=k.cells (hD b (by simp[aS])) hm hb
     have hrd:=mE (ι:=ι) (arr:=arr) (sh:=m.sh) (len*ye.size) off (λj h1 h2=>a4 j (by omega))
     obtain⟨nb',d',t',rfl,rfl,hnb,hd',aiI,hget⟩:=Rp hrd hnew (by simp) a3 e
     have hkn:(Uv zz h b).next=h.next:=by cases zz<;>rfl
     rw[hkn]
     have hBs:m.B<w.heap.size:=(dQ.1 hw).1
     have hnb:nb'=len*ye.size+(n+1)*ye.size:=by rw[hnb,hlen];simp
     by_cases hc:len+(n+1)<=cap
     ·
      have hy:y=⟨m.B,m.sh+off,none⟩/\m.sh+off+cap*ye.size<=m.cs:=by
       rcases hy with hy|hy
       ·omega
       ·exact hy
      obtain⟨rfl,Uq⟩:=hy
      have hzf:zz=false:=by
       cases zz
       ·rfl
       ·have:=hz rfl;omega
      subst hzf
      have hro:ro=false:=by
       cases ro
       ·rfl
       ·cases h6
      have hcap:(len+(n+1))*ye.size<=cap*ye.size:=mF _ hc
      rw[eY]at hcap
      obtain⟨hel,hfr⟩:=a5.1 hro
      rw[hel]at hw
      have hst:=eF (P:=P) l (m.sh+off+len*ye.size) 0 arr w hw (by omega) (by rw[hlen];omega) (Cu hnew ho)
      refine⟨_,World.putCells w m.B (oJ arr (m.sh+off+len*ye.size+0) l) el (lo,hi),[b],_,hin _ _ _ _ rfl hc (λa ha=> ?_) (by simp),?_,Loc.I9 k hr hb hm _ ⟨m.B,m.sh+off,m.cs⟩ _ (by simp[World.putCells]) (λi _ hne=> ?_) (.inl rfl) (fJ hBs) ?_ rfl rfl rfl⟩
      ·cases ha
       rw[addr_add]
       exact hst
      ·exact⟨_,_,cap,aX.add_same _ _ _,rfl,hc,by simp, .inr ⟨rfl,Uq⟩⟩
      ·simp only[World.putCells]
       rw[jH (λe=>hne e.symm)]
      ·refine⟨_,el,lo,hi,rfl,by rw[nE];exact a1,by show m.sh+off+nb'<=m.cs;omega,hd',λi hi=> ?_,⟨λ_=>⟨rfl,hfr⟩,λc=>absurd c (by omega),λc=>(by cases c)⟩⟩
       have:=(hget i hi).mono (aX.tu ⟨m.B,m.sh+off,m.cs⟩ (k.fresh _ (ay _)))
       rw[qh _ _ _ _ (by show m.sh+off+i<arr.size;omega)]
       have eq:(List.map (λj=>arr.getD (m.sh+off+j) undef) (List.range (len*ye.size))++l).getD i undef=
        if m.sh+off+len*ye.size+0<=m.sh+off+i/\m.sh+off+i<m.sh+off+len*ye.size+0+l.length then l.getD (m.sh+off+i-(m.sh+off+len*ye.size+0)) undef else arr.getD (m.sh+off+i) undef:=by
        rw[aU,List.getElem?_append]
        simp only[dR,nR]
        by_cases ci:i<len*ye.size
        ·rw[au ci,ak (by omega)]
         simp[ci]
        ·rw[ak ci,au (by omega),show m.sh+off+i-(m.sh+off+len*ye.size+0)=i-len*ye.size by omega,aU]
       rw[eq]at this
       exact this
     ·
      have hold:∀k,(Builtin.firstCells ye.size len (.slice (some y) len cap)).run P (World.bR w k)= .ok ((List.range (len*ye.size)).map λj=>arr.getD (m.sh+off+j) undef).toArray (World.bR w k):=λk=>by
       simp only[Builtin.firstCells]
       by_cases h0:len*ye.size=0
       ·rw[h0];exact rfl
       ·have hy:y=⟨m.B,m.sh+off,none⟩/\m.sh+off+cap*ye.size<=m.cs:=by
         rcases hy with hy|hy
         ·exfalso
          apply h0
          have:len=0:=by omega
          rw[this,jl]
         ·exact hy
        obtain⟨rfl,Uq⟩:=hy
        exact fq (by show w.heap[m.B]? =_;exact hw) (by omega)
      obtain⟨c,hcn,hrun⟩:=hgrow _ _ _ _ rfl hold (by omega) hb1 hb2
      generalize hcells:(((List.range (len*ye.size)).map λj=>arr.getD (m.sh+off+j) undef).toArray++l.toArray++Builtin.zeroCells z.cells (c-(len+(n+1))))=cells at hrun
      have hcs:cells.size=c*ye.size:=by
       rw[<-hcells,pQ,pQ,size_zeroCells,hzs]
       simp only[mZ,hlen,dR,nR]
       rw[<-eY,<-eY]
       congr 1;omega
      have Po:∀i,i<nb'->VR ι (E.get d' (path d' i) t') (cells.getD i undef):=λi hi=>by
       have:=hget i hi
       rw[<-hcells,DW _ _ (by simp only[pQ,mZ,dR,nR,hlen];omega),yI,KG]
       exact this
      have aes:nb'<=cells.size:=by
       rw[hcs,hnb,<-eY];exact mF _ hcn
      have hvr:VR (ι.add h.next ⟨w.heap.size,0,cells.size⟩) (.slice h.next 0 (len+(n+1)) ye.size false) (.slice (some ⟨w.heap.size,0,none⟩) (len+(n+1)) c):=
       ⟨_,_,c,aX.add_same _ _ _,rfl,hcn,by simp, .inr ⟨rfl,by rw[hcs];show 0+0+c*ye.size<=c*ye.size;omega⟩⟩
      cases zz
      ·refine⟨_,_,[b],_,hrun,hvr,Loc.I9 k hr hb hm _ ⟨w.heap.size,0,cells.size⟩ _ (by simp[World.grown]) (λi hi _=>gQ i hi) (.inr (Nat.le_refl _)) gU ?_ rfl rfl rfl⟩
       refine⟨cells,el,0,0,rfl,rfl,by show 0+nb'<=cells.size;omega,hd',λi hi=> ?_,⟨λ_=>⟨rfl, .inl rfl⟩,λ_=>rfl,λc=>(by cases c)⟩⟩
       simp only[bL]
       exact(Po i hi).mono (aX.tu _ (k.fresh _ (ay _)))
      ·exact⟨_,_,[],_,hrun,hvr,Loc.zZ k hr (w.drawn+1) aes hd' Po⟩
    ·cases e
   ·cases e
  ·cases e
end
section
variable {P:Program} {g:G} {ι:aX} {h h':H} {w:World} {D:Nat->Prop}
theorem Yq (w:World):World.bR w w.drawn=w:=rfl
theorem KH {l:List Value} {n:Nat} (h:l.length=n):l.take n=l:=by rw[<-h];exact List.take_length
theorem Gn (hg:jT P g) (k:WR ι h w D) {t u ty el:TypeId} {y yu ye:Ty} (ht:g.ty t=some y) (hd:y.desc= .slice el) (hu:g.ty u=some yu) (Yp:(∃e',yu.desc= .slice e')\/yu.desc= .string)
 (he:g.ty el=some ye) {s x v:AV} {vs vx:Value} (hs:VR ι s vs) (hx:VR ι x vx) (hDs:∀b∈aS s,D b) (hDx:∀b∈aS x,D b)
 (e:Jc el ye.size ye.bytes s x h= .ok v h'):aO P ι h w (Builtin.append_ #[t,u] ty #[vs,vx]) v h':=by
 have hut:=(hg.ty _ _ ht).1;have huu:=(hg.ty _ _ hu).1;rw[hd]at hut;obtain⟨_,_,i,z,hi,hsz,hby,hz,_,hzs,_⟩:=hg.ty _ _ he;obtain⟨new,n,l,e2,hnew,hlen,hlo,hfc⟩:=KD k hx hDx e;refine DX hg k he hzs hs hDs hnew hlen e2 ?_ ?_;·intro base sLen sCap w2 hvs hc hst hno;subst hvs;refine FZ (arr:=l.toArray) hut huu Yp hi (hlo w) ?_ hc (λa ha=>by rw[hsz];exact hst a ha) hno;have:=hfc w rfl n (ay _);rw[KH hlen]at this;rw[hsz];exact this
 ·intro base sLen sCap old hvs hold hc h1 h2;subst hvs;obtain⟨c,hc1,hc2⟩:=run_append_grow' (ty:=ty) (arr:=l.toArray) (old:=old) (vx:=vx) hut huu Yp hi hz (hlo w) (λkk=>by
   have:=hfc (World.bR w kk) rfl n (ay _);rw[KH hlen]at this;rw[hsz];exact this) (λkk=>by rw[hsz];exact hold kk) hc (by omega) (by rw[hby];omega)
  exact⟨c,hc1,hc2⟩
theorem Np (hg:jT P g) (k:WR ι h w D) {t u ty el:TypeId} {y yu ye:Ty} (ht:g.ty t=some y) (hd:y.desc= .slice el) (hu:g.ty u=some yu) {ku:IntKind} (Yp:yu.desc= .int ku)
 (he:g.ty el=some ye) {s x v:AV} {vs vx:Value} (hs:VR ι s vs) (hx:VR ι x vx) (hDs:∀b∈aS s,D b)
 {k0:IntKind} {n:Nat} (hxn:x= .int k0 (.ofNat n)) (h1:Nat.mul n ye.bytes<=fM) (h2:n<=fM)
 (e:yJ el ye.size ye.bytes s h (Iw ye.zero n) n= .ok v h'):aO P ι h w (Builtin.append_ #[t,u] ty #[vs,vx]) v h':=by
 subst hxn;cases hx;have hut:=(hg.ty _ _ ht).1;have huu:=(hg.ty _ _ hu).1;rw[hd]at hut;rw[Yp]at huu;obtain⟨_,_,i,z,hi,hsz,hby,hz,hzv,hzs,_⟩:=hg.ty _ _ he;have hrep:gG ι (Iw ye.zero n) (Builtin.zeroCells z.cells n).toList:=by
  have h3:(Builtin.zeroCells z.cells n).toList=(List.replicate n z.cells.toList).flatten:=by unfold Builtin.zeroCells;rw[Ue z.cells n (n*z.cells.size) rfl]
  rw[h3,hzv];exact Iu (mV ι _) n
 have h1:n*ye.bytes<=4000000:=h1;have h2:n<=4000000:=h2;have harr:(if n*i.size=0 then(#[]:Array Value)else Builtin.zeroCells z.cells n)=(Builtin.zeroCells z.cells n).toList.toArray:=by
  rw[hsz];by_cases h0:n*ye.size=0
  ·rw[au h0];have:(Builtin.zeroCells z.cells n).size=0:=by rw[size_zeroCells,hzs,h0]
   have:=Array.eq_empty_of_size_eq_zero this;rw[this]
  ·rw[ak h0]
 refine DX hg k he hzs hs hDs hrep (by rw[iT,size_zeroCells,hzs]) e ?_ ?_;·intro base sLen sCap w2 hvs hc hst hno;subst hvs;exact DV hut huu hi hz rfl (by rw[hby];omega) h2 hc harr (λa ha=>by rw[hsz];exact hst a ha) hno
 ·intro base sLen sCap old hvs hold hc h3 h4;subst hvs;exact Ai hut huu hi hz rfl h2 (λkk=>by rw[hsz];exact hold kk) hc (by omega) (by rw[hby];omega) harr
theorem Yr (hg:jT P g) (k:WR ι h w D) {t ty el:TypeId} {y ye:Ty} {ts:Array TypeId} (hts:ts[0]? =some t) (ht:g.ty t=some y) (hd:y.desc= .slice el)
 (he:g.ty el=some ye) {s x v:AV} {vs vx:Value} (hs:VR ι s vs) (hx:VR ι x vx) (hDs:∀b∈aS s,D b) (hDx:∀b∈aS x,D b)
 (e:Uw ye.size s x h= .ok v h'):aO P ι h w (Builtin.copy_ ts ty #[vs,vx]) v h':=by
 have hut:=aC (P:=P) (hg.ty _ _ ht).1;rw[hd]at hut;obtain⟨_,_,i,z,hi,hsz,hby,hz,_,hzs,_⟩:=hg.ty _ _ he;have a0:(#[vs,vx]:Array Value)[0]? =some vs:=rfl;have a1:(#[vs,vx]:Array Value)[1]? =some vx:=rfl;unfold Uw at e;obtain⟨new,n,l,e2,hnew,hlen,hlo,hfc⟩:=KD (P:=P) k hx hDx e;clear e;split at e2;·cases hs;cases e2;refine aO.ret k (v':=goInt 0) ?_ rfl;have:=hfc w rfl 0 (aL _);have hmin:Nat.min n 0=0:=Nat.min_zero n;simp only[Builtin.copy_,hts,a0,a1,Sem.run_bind,hut,Result.andThen_ok,hlo,dL hi,hsz,hmin,this,Sem.run_pure];rfl
 ·rename_i b off len es' zz;obtain⟨m,ya,cap,hm,rfl,hle,hzc,hy⟩:=hs;split at e2
  ·rename_i hn0;obtain rfl:=aR hn0;cases e2;have hrd:=hfc w rfl 0 (aL _);have hmm:Nat.min 0 len=0:=Nat.zero_min len;have hst:(storeCells ya (l.take (0*ye.size))).run P w= .ok () w:=by rw[jl,List.take_zero];rfl
   refine aO.ret k (v':=goInt 0) ?_ rfl;simp only[Builtin.copy_,hts,a0,a1,Sem.run_bind,hut,Result.andThen_ok,hlo,dL hi,hsz,hmm,hrd,hst];rfl
  split at e2
  ·rename_i elb nb d tr h1 hb;obtain rfl:=aR h1;split at e2
   ·rename_i h2 h3;rw[aH]at h2;have h2:off+len*ye.size<=nb:=h2;rw[oN,oQ]at e2;have hmin:(if Nat.ble n len=true then n else len)=Nat.min n len:=by
     rw[jd];simp only[bf];by_cases c:n<=len;·rw[au c];exact(yx c).symm
     ·rw[ak c];exact(Nat.min_eq_right (by omega)).symm
    rw[hmin]at e2;cases e2;have hDb:=hDs b (by simp[aS]);obtain⟨arr,iY,lo,hi',hw,b1,b2,b3,b4,b5⟩:=k.cells hDb hm hb;obtain⟨hel,hfr⟩:=b5.1 rfl;have hmn:Nat.min n len<=n:=Nat.min_le_left _ _;have hml:Nat.min n len<=len:=Nat.min_le_right _ _;obtain⟨mm,hmm⟩:∃mm,Nat.min n len=mm:=⟨_,rfl⟩
    rw[hmm]at hmn hml;rw[hmm];have hms:mm*ye.size<=n*ye.size:=mF _ hmn;have amC:mm*ye.size<=len*ye.size:=mF _ hml;have hlt:(l.take (mm*ye.size)).length=mm*ye.size:=by rw[fF,hlen];omega
    have hrd:=hfc w rfl mm hmn;have htk:=Du hnew (mm*ye.size);have hst:(storeCells ya (l.take (mm*ye.size))).run P w= .ok () (World.putCells w m.B (oJ arr (m.sh+off+0) (l.take (mm*ye.size))) iY (lo,hi')):=by
     by_cases h0:mm*ye.size=0;·rw[h0,List.take_zero];show Result.ok () w=_;rw[oJ,wK hw]
     ·have hy:ya=⟨m.B,m.sh+off,none⟩/\m.sh+off+cap*ye.size<=m.cs:=by
       rcases hy with hy|hy
       ·exfalso;apply h0;have:mm=0:=by omega
        rw[this,jl]
       ·exact hy
      obtain⟨rfl,Uq⟩:=hy;exact eF (P:=P) _ (m.sh+off) 0 arr w hw (by omega) (by omega) (λv hv=>Cu hnew h3 v (List.mem_of_mem_take hv))
    refine⟨ι,World.putCells w m.B (oJ arr (m.sh+off+0) (l.take (mm*ye.size))) iY (lo,hi'),[b],goInt mm,?_,rfl,Loc.Ac k hDb hm hb hw (nE _ _ _) (λj hj=> ?_)⟩;·simp only[Builtin.copy_,hts,a0,a1,Sem.run_bind,hut,Result.andThen_ok,hlo,dL hi,hsz,hmm,hrd,hst];rfl
    ·show VR ι (E.get d (path d j) (XI d (Gb new (mm*ye.size)) off tr)) _;rw[jW nb b3 htk off j tr (by omega) hj,qh _ _ _ _ (by omega),hlt];by_cases hjo:off<=j/\j<off+mm*ye.size
     ·rw[au hjo,au (by omega),show m.sh+j-(m.sh+off+0)=j-off by omega];exact gM htk _
     ·rw[ak hjo,ak (by omega)];exact b4 j hj
   ·cases e2
  ·cases e2
 ·cases e2
end
section
variable {P:Program} {g:G} {ι:aX} {h h':H} {w:World} {D:Nat->Prop}
def aeu (ι:aX) (v:AV) (x:Next):Prop:=(∃v',x= .value v'/\VR ι v v')\/(x= .skip/\v= .fV .nil)
def F3 (P:Program) (ι:aX) (h:H) (w:World) (s:Sem Next) (v:AV) (h':H):Prop:=
 ∃ι' w' W x,s.run P w= .ok x w'/\aeu ι' v x/\Loc ι h w ι' h' w' W
theorem aO.toN {s:Sem Value} {v:AV} (e:aO P ι h w s v h'):F3 P ι h w (do pure (.value (<-s))) v h':=by obtain⟨ι',w',W,v',h1,h2,h3⟩:=e;refine⟨ι',w',W, .value v',?_, .inl ⟨v',rfl,h2⟩,h3⟩;simp only[Sem.run_bind,h1,Result.andThen_ok,Sem.run_pure]
theorem Dx.toN {s:Sem Unit} {v:AV} (e:v= .fV .nil/\Dx P ι h w s h'):F3 P ι h w (do s;pure .skip) v h':=by obtain⟨hv,ι',w',W,h1,h3⟩:=e;refine⟨ι',w',W, .skip,?_, .inr ⟨rfl,hv⟩,h3⟩;simp only[Sem.run_bind,h1,Result.andThen_ok,Sem.run_pure]
theorem iN {t:Nat} {k:Ty->Act} {en:Env} {v:AV} (e:(Jd g t k).f en h= .ok v h'):∃y,g.ty t=some y/\(k y).f en h= .ok v h':=by
 unfold Jd at e;split at e;·rename_i y hy;exact⟨y,hy,e⟩
 ·cases e
theorem Pp {b:Bool} {a:Act} {en:Env} {v:AV} (e:(onB b a).f en h= .ok v h'):b=true/\a.f en h= .ok v h':=by
 cases b;·cases e
 ·exact⟨rfl,e⟩
theorem Aj {t:Nat} {k:Nat->Option Nat->Ty->Act} {en:Env} {v:AV} (e:(Bu g t k).f en h= .ok v h'):
 ∃y el ye arr,g.ty t=some y/\g.ty el=some ye/\((y.desc= .slice el/\arr=none)\/∃n,y.desc= .array n el/\arr=some n)/\(k el arr ye).f en h= .ok v h':=by
 unfold Bu at e;split at e;·rename_i el _ _ _ _ _ hy;obtain⟨ye,he,e⟩:=iN e;exact⟨_,el,ye,none,hy,he, .inl ⟨rfl,rfl⟩,e⟩
 ·rename_i n el _ _ _ _ _ hy;obtain⟨ye,he,e⟩:=iN e;exact⟨_,el,ye,some n,hy,he, .inr ⟨n,rfl,rfl⟩,e⟩
 ·cases e
theorem Bv {t:Nat} {k:Ty->Act} {en:Env} {v:AV} (e:(mapElem g t k).f en h= .ok v h'):
 ∃y kt et ye,g.ty t=some y/\y.desc= .map kt et/\g.ty et=some ye/\(k ye).f en h= .ok v h':=by
 unfold mapElem at e;split at e;·rename_i kt et _ _ _ _ _ hy;obtain⟨ye,he,e⟩:=iN e;exact⟨_,kt,et,ye,hy,rfl,he,e⟩
 ·cases e
theorem fieldT_inv {s f:Nat} {k:Field->Ty->Act} {en:Env} {v:AV} (e:(fieldT g s f k).f en h= .ok v h'):
 ∃y fs fd yf,g.ty s=some y/\y.desc= .struct fs/\fs[f]? =some fd/\g.ty fd.type=some yf/\(k fd yf).f en h= .ok v h':=by
 unfold fieldT at e;split at e
 ·rename_i fs _ _ _ _ _ hy;split at e
  ·rename_i fd hf;obtain⟨ye,he,e⟩:=iN e;exact⟨_,fs,fd,ye,hy,rfl,hf,he,e⟩
  ·cases e
 ·cases e
theorem jP {l:List Operand} {en:Env} {x r:AV} (e:(opsL l).f en= .cons x r):∃o l',l=o::l'/\(ev o).f en=x/\(opsL l').f en=r:=by
 cases l with
 |nil=>cases e
 |cons o l'=>have e:AV.cons ((ev o).f en) ((opsL l').f en)= .cons x r:=e;injection e with e1 e2;exact⟨o,l',rfl,e1,e2⟩
theorem tQ {l:List Operand} {en:Env} (e:(opsL l).f en= .nil):l=[]:=by
 cases l with
 |nil=>rfl
 |cons o l'=>have e:AV.cons ((ev o).f en) ((opsL l').f en)= .nil:=e;cases e
theorem bG {α:Type} {a:Array α} {l:List α} (h:a.toList=l):a=l.toArray:=by cases a;cases h;rfl
theorem abK {α β:Type} (f:α->β) (x:α):([x].toArray).map f=#[f x]:=by simp
theorem abL {α β:Type} (f:α->β) (x y:α):([x,y].toArray).map f=#[f x,f y]:=by simp
theorem iF {o:Operand} {l:List Operand} {en:Env}:blks (o::l) en=aS ((ev o).f en)++blks l en:=rfl
section
variable {n:Nat} {en:Env} {a:Go.Act}
theorem Nq (hE:gH ι n en a.tmps) (hG:GI ι) (hg:jT P g) (k:WR ι h w D) {b:Builtin} {c:Call} {ty:TypeId} (hc:c.callee= .builtin b) (ho:(c.args.toList.all (aF n))=true) (hD:∀b∈blks c.args.toList en,D b) {v:AV}
 (e:(F4 g (.call c)).f en h= .ok v h'):F3 P ι h w (do let d<-resolve a.eval c ty;invoke d.target d.args) v h':=by
 have hres:(do let d<-resolve a.eval c ty;invoke d.target d.args:Sem Next)=builtin b c.argTypes ty (c.args.map λ| .const _=>true|_=>false) (c.args.map a.eval):=by
  unfold resolve;rw[hc];rfl
 rw[hres]
 clear hres
 generalize(c.args.map λ| .const _=>true|_=>false)=cs
 unfold F4 at e
 dsimp only at e
 rw[hc]at e
 dsimp only at e
 have hargs:=uY hE hG c.args.toList ho
 rw[<-mW]at hargs
 split at e
 ·
  rename_i t ts x hts hx
  have hx':=bG hx
  rw[hx']at ho hD⊢
  have hxo:aF n x=true:=by simpa using ho
  have KI:c.argTypes[0]? =some t:=by rw[bG hts];rfl
  rw[abK]
  show F3 P ι h w (do pure (.value (<-Builtin.len_ c.argTypes ty #[a.eval x]))) v h'
  refine aO.toN ?_
  split at e
  ·rename_i m el _ _ _ _ _ hy
   cases e
   have hut:=(hg.ty _ _ hy).1
   have hx0:(#[a.eval x]:Array Value)[0]? =some (a.eval x):=rfl
   refine aO.ret k (v':=goInt m) ?_ rfl
   simp only[Builtin.len_,KI,hx0,Sem.run_bind,aC hut,Result.andThen_ok,Sem.run_pure]
  ·cases e
  ·rename_i y _ _ hy
   exact abF k hg hy KI (aY hE hG x hxo) (λb' hb=>hD b' (by rw[iF];exact fG _ hb)) e
  ·cases e
 ·rename_i hne
  have e2:Nr g _ c.argTypes.toList ((opsL c.args.toList).f en) h= .ok v h':=e
  clear e hne
  have e:=e2
  clear e2
  unfold Nr at e
  split at e
  ·
   rename_i s x hl
   obtain⟨os,l1,hl1,hs1,hr1⟩:=jP hl
   obtain⟨ox,l2,hl2,hs2,hr2⟩:=jP hr1
   have hl3:=tQ hr2
   subst hl3;subst hl2
   rw[bG hl1]at ho hD⊢
   have Ke:aF n os=true/\aF n ox=true:=by simpa using ho
   have hvs:=aY hE hG os Ke.1
   have Pq:=aY hE hG ox Ke.2
   rw[hs1]at hvs;rw[hs2]at Pq
   have hDs:∀b∈aS s,D b:=λb hb=>hD b (by rw[yK,iF,hs1];exact fG _ hb)
   have hDx:∀b∈aS x,D b:=λb hb=>hD b (by rw[yK,iF,iF,hs2];exact gq _ (fG _ hb))
   split at e
   ·rename_i t u hts
    rw[bG hts,abL]
    show F3 P ι h w (do pure (.value (<-Builtin.append_ #[t,u] ty #[a.eval os,a.eval ox]))) v h'
    refine aO.toN ?_
    split at e
    ·rename_i el _ _ _ _ _ _ _ _ _ _ _ ht hu
     split at e
     ·rename_i ye he
      exact Gn hg k ht rfl hu (.inl ⟨_,rfl⟩) he hvs Pq hDs hDx e
     ·cases e
    ·rename_i el _ _ _ _ _ _ _ _ _ _ ht hu
     split at e
     ·rename_i ye he
      exact Gn hg k ht rfl hu (.inr rfl) he hvs Pq hDs hDx e
     ·cases e
    ·rename_i el _ _ _ _ _ _ _ _ _ _ _ ht hu
     split at e
     ·rename_i ye _ m he
      split at e
      ·rename_i h1 h2
       rw[aH]at h1 h2
       exact Np hg k ht rfl hu rfl he hvs Pq hDs rfl h1 h2 e
      ·cases e
     ·cases e
    ·cases e
   ·cases e
  ·
   rename_i s x hl
   obtain⟨os,l1,hl1,hs1,hr1⟩:=jP hl
   obtain⟨ox,l2,hl2,hs2,hr2⟩:=jP hr1
   have hl3:=tQ hr2
   subst hl3;subst hl2
   rw[bG hl1]at ho hD⊢
   have Ke:aF n os=true/\aF n ox=true:=by simpa using ho
   have hvs:=aY hE hG os Ke.1
   have Pq:=aY hE hG ox Ke.2
   rw[hs1]at hvs;rw[hs2]at Pq
   have hDs:∀b∈aS s,D b:=λb hb=>hD b (by rw[yK,iF,hs1];exact fG _ hb)
   have hDx:∀b∈aS x,D b:=λb hb=>hD b (by rw[yK,iF,iF,hs2];exact gq _ (fG _ hb))
   split at e
   ·rename_i t ts hts
    have KI:c.argTypes[0]? =some t:=by rw[bG hts];rfl
    rw[abL]
    show F3 P ι h w (do pure (.value (<-Builtin.copy_ c.argTypes ty #[a.eval os,a.eval ox]))) v h'
    refine aO.toN ?_
    split at e
    ·rename_i el _ _ _ _ _ ht
     split at e
     ·rename_i ye he
      exact Yr hg k KI ht rfl he hvs Pq hDs hDx e
     ·cases e
    ·cases e
   ·cases e
  ·
   rename_i x hl
   obtain⟨ox,l1,hl1,hs1,hr1⟩:=jP hl
   have hl3:=tQ hr1
   subst hl3
   rw[bG hl1]at ho hD⊢
   have Ke:aF n ox=true:=by simpa using ho
   have Pq:=aY hE hG ox Ke
   rw[hs1]at Pq
   split at e
   ·rename_i t ts hts
    have KI:c.argTypes[0]? =some t:=by rw[bG hts];rfl
    rw[abK]
    show F3 P ι h w (do pure (.value (<-Builtin.cap_ c.argTypes ty #[a.eval ox]))) v h'
    refine aO.toN ?_
    split at e
    ·rename_i el _ _ _ _ _ ht
     exact abI hg k ht rfl KI Pq e
    ·cases e
   ·cases e
  ·exact aO.toN (aaB (ts:=c.argTypes) (t:=ty) k true hargs e)
  ·exact aO.toN (aaB (ts:=c.argTypes) (t:=ty) k false hargs e)
  ·
   rename_i x hl
   obtain⟨ox,l1,hl1,hs1,hr1⟩:=jP hl
   have hl2:=tQ hr1
   subst hl2
   rw[bG hl1]at ho⊢
   have Ke:aF n ox=true:=by simpa using ho
   have Pq:=aY hE hG ox Ke
   rw[hs1]at Pq
   rw[abK]
   show F3 P ι h w (do pure (.value (<-Builtin.unsafeSliceData_ c.argTypes ty #[a.eval ox]))) v h'
   refine aO.toN ?_
   split at e
   ·cases e
    obtain⟨cap,hcap⟩:∃x,a.eval ox= .slice none x x:=⟨0,Pq⟩
    rw[hcap]
    exact aO.ret k (v':= .pointer none) rfl rfl
   ·cases e
    obtain⟨m,y,cap,hm,hv,hle,hz,hy⟩:=Pq
    rw[hv]
    obtain⟨cc,rfl⟩:∃cc,cap=cc+1:=⟨cap-1,by omega⟩
    rcases hy with hy|hy
    ·omega
    ·obtain⟨rfl,_⟩:=hy
     exact aO.ret k (v':= .pointer (some ⟨m.B,m.sh+_,none⟩)) rfl ⟨m,hm,rfl⟩
   ·cases e
  ·
   rename_i p kd m hl
   obtain⟨op,l1,hl1,hs1,hr1⟩:=jP hl
   obtain⟨on,l2,hl2,hs2,hr2⟩:=jP hr1
   have hl3:=tQ hr2
   subst hl3;subst hl2
   rw[bG hl1]at ho hD⊢
   have Ke:aF n op=true/\aF n on=true:=by simpa using ho
   have hvp:=aY hE hG op Ke.1
   have hvn:=aY hE hG on Ke.2
   rw[hs1]at hvp;rw[hs2]at hvn
   have hDp:∀b∈aS p,D b:=λb hb=>hD b (by rw[yK,iF,hs1];exact fG _ hb)
   rw[abL]
   split at e
   ·rename_i pt ts hts
    have KI:c.argTypes[0]? =some pt:=by rw[bG hts];rfl
    show F3 P ι h w (do pure (.value (<-Builtin.unsafeString_ c.argTypes ty #[a.eval op,a.eval on]))) v h'
    exact aO.toN (unsafeStr_ok hg k KI hvp hvn hDp e)
   ·cases e
  ·cases e
