/- The machine's soundness: append. -/
import Derived.Test.YtocaiijbhepnnaaGreatDoorAm22
namespace Go.Proofs.YtocaiijbhepnnaaGreatDoor.Am
section
variable {P:Program} {g:G} {ι:aV} {h h':H} {w:World} {D:Nat->Prop}
theorem Ml (a:Addr) (w:World):(loadCells a 0).run P w= .ok #[] w:=rfl
theorem Mq (f:Nat->Value) (j m:Nat) (h:j<=m):((List.range m).map f).take j=(List.range j).map f:=by rw[<-List.map_take,List.take_range,Nat.min_eq_left h]
theorem JQ (k:WR ι h w D) {es:Nat} {x v:AV} {vx:Value} {kf:AV->Nat->bB} (hx:VR ι x vx) (hD:∀b∈aM x,D b) (e:elems es x h kf= .ok v h'):
 ∃new n l,kf new n= .ok v h'/\fQ ι new l/\l.length=n*es/\(∀w2:World,(Builtin.lenOf vx).run P w2= .ok n w2)/\
  ∀w2:World,w2.heap=w.heap->∀j,j<=n->(Builtin.firstCells es j vx).run P w2= .ok (l.take (j*es)).toArray w2:=by
 unfold elems at e;split at e;·cases hx;exact⟨_,_,[],e,rfl,by simp,λ_=>rfl,λw2 _ j _=>by simp[Builtin.firstCells]⟩
 ·obtain⟨b,rfl,rfl⟩:=hx;split at e
  ·rename_i hes;obtain rfl:=aI hes;refine⟨_,_,_,e,OC b,?_,λ_=> ?_,λw2 _ j hj=> ?_⟩
   ·rw[Str.eY,bM];simp
   ·rw[Str.eY];rfl
   ·rw[Str.eY]at hj;simp only[Builtin.firstCells,Sem.run_pure];congr 1;apply Array.ext';rw[mM,Nat.mul_one,<-List.map_take];congr 1;have:(b.extract 0 j).data=b.data.extract 0 j:=by simp[ByteArray.data_extract]
    rw[this,Array.toList_extract,List.extract_eq_take_drop];simp
  ·cases e
 ·rename_i b off len es' z;split at e
  ·rename_i el ro n d t hb;split at e
   ·rename_i h1 h2;obtain rfl:=aI h1;rw[aD]at h2;have h2:off+len*es<=n:=h2;obtain⟨m,y,cap,hm,rfl,hle,hz,hy⟩:=hx;obtain⟨arr,iV,lo,hi,hw,h1,h2',h3,h4,h5⟩:=k.cells (hD b (by simp[aM])) hm hb;have hrd:=l7 (ι:=ι) (arr:=arr) (sh:=m.sh) (len*es) off (λj h1 h2=>h4 j (by omega));refine⟨_,_,_,e,hrd,by simp,λ_=>rfl,λw2 hw2 j hj=> ?_⟩;have hjl:j*es<=len*es:=l9 _ hj;rw[Mq _ _ _ hjl];simp only[Builtin.firstCells];by_cases h0:j*es=0
    ·rw[h0];exact rfl
    ·have hy:y=⟨m.B,m.sh+off,none⟩/\m.sh+off+cap*es<=m.cs:=by
      rcases hy with hy|hy
      ·exfalso;apply h0;have:j=0:=by omega
       rw[this,jU]
      ·exact hy
     obtain⟨rfl,Tf⟩:=hy;exact eU (by rw[hw2];exact hw) (by omega)
   ·cases e
  ·cases e
 ·cases e
theorem JR {d:Nat} {t:E AV d}:∀(n o i:Nat),i<n->Bw (BN d t n o) i=E.get d (path d (o+i)) t
 |0,_,_,h=>by omega
 |n+1,o,0,_=>rfl
 |n+1,o,i+1,h=>by have:=JR (t:=t) n (o+1) i (by omega);rw[show o+(i+1)=o+1+i by omega,<-this];rfl
theorem Qv {el es off len n nb d:Nat} {new v:AV} {t:E AV d} {h0:H} {l0 l:List Value} (hl0:fQ ι (BN d t (Nat.mul len es) off) l0) (hl:fQ ι new l) (ag8:l0.length=len*es) (_hd:nb<=4^d)
 (e:Ti el es off len n new h0 nb d t= .ok v h'):
 ∃nb' d' t',v= .slice h0.next 0 (len+n) es false/\h'=h0.new (.cells el false nb' d' t')/\nb'=l0.length+l.length/\nb'<=4^d'/\d'<12/\
  ∀i,i<nb'->VR ι (E.get d' (path d' i) t') ((l0++l).getD i undef):=by
 have hnl:=gq hl;have ag9:∀i,(l0++l).getD i undef=if i<l0.length then l0.getD i undef else l.getD (i-l0.length) undef:=λi=>by rw[aG,List.getElem?_append];split<;>rw[aG]
 unfold Ti at e;split at e
 ·rename_i h1 h2 h3 h4;have h1:=aI h1;have h2:=aI h2;have h3:=aI h3;rw[aD]at h4;have h4:nb+llen new<=4000000:=h4;have h2:len*es=nb:=h2;have h1:off=0:=h1;subst h1;cases e;have hdd:nb+llen new<=4^d:=by have:=jW h4;have h3:dep (nb+llen new)=d:=h3;rwa [h3]at this
  refine⟨nb+llen new,d,WT d new nb t,rfl,rfl,by omega,hdd,by have h3:dep (nb+llen new)=d:=h3;rw[<-h3];exact Di _,λi hi=> ?_⟩;rw[jT (nb+llen new) hdd hl nb i t (by omega) hi,ag9];by_cases c:i<l0.length;·rw[aj (by omega),au c];have:=gu hl0 i;rw[JR _ _ _ (show i<Nat.mul len es from(by omega:i<len*es)),bI]at this;exact this
  ·rw[au (by omega),aj c,ag8,h2];exact gu hl _
 ·obtain⟨hr,hm,e⟩:=qQ e;cases e;have hap:=mI hl0 hl;have aha:=gq hap;refine⟨_,_,_,rfl,rfl,by rw[<-bV];exact aha,jW hm,Di _,λi hi=> ?_⟩;rw[Fa,jT _ (jW hm) hap 0 i _ (by omega) hi,au (by omega),mJ];exact gu hap i
theorem Loc.Ih (k:WR ι h w D) (hr:h.next<65536) {b:Nat} {x0:wF} (hx0:h.get b=some x0) {m:Nm} (hm:ι b=some m) (x:wF) (m':Nm) (o:Obj) {w':World}
 (hsz:w.heap.size<=w'.heap.size) (hold:∀i,i<w.heap.size->i≠m.B->w'.heap[i]? =w.heap[i]?) (hB:m'.B=m.B\/w.heap.size<=m'.B) (ho:w'.heap[m'.B]? =some o)
 (hbr:BR (ι.add h.next m') x o m') (hos:w'.os=w.os) (JU:w'.tape=w.tape) (hout:w'.output=w.output):
 Loc ι h w (ι.add h.next m') ((h.kill b).new x) w' [b]:=by
 have hb:b<h.next:=k.lt hm;have hkn:(h.kill b).next=h.next:=rfl
 have gk:∀c,c<65536->((h.kill b).new x).get c=if c=h.next then some x else if c=b then none else h.get c:=λc hc=>by
  rw[H.Cc (by rw[hkn];exact hr) hc,hkn];split;·rfl
  ·rw[H.Tj (by omega) hc]
 have hbn:((h.kill b).new x).get b=none:=by rw[gk b (by omega),aj (by omega),au rfl]
 exact{
  next:=Nat.le_succ _
  Ce:=λc hc=>aV.tL ι m' (by omega)
  log:=rfl
  ln:=rfl
  kept:=λc hc hn=>by
   have:c≠b:=by simpa using hn
   rw[gk c (by omega),aj (by omega),aj this]
  live:=λc hc _=>by
   obtain rfl:c=b:=by simpa using hc
   exact⟨x0,hx0⟩
  size:=hsz
  heap:=λi hi hn=>hold i hi (λe=>hn b (by simp) m hm e.symm)
  new:=λc m1 hc e=>by
   by_cases hx:c=h.next
   ·subst hx;rw[aV.add_same]at e;cases e;rcases hB with hB|hB
    ·exact .inr ⟨b,by simp,m,hm,hB.symm⟩
    ·exact .inl hB
   ·rw[aV.tL ι m' hx,k.fresh c hc]at e;cases e
  os:=hos
  tape:=JU
  out:=hout
  most:=hr
  fresh:=λc hc=>by have hc':h.next+1<=c:=hc;rw[aV.tL ι m' (by omega)];exact k.fresh c (by omega)
  blk:=λc y hc hcn hy=>by
   have hcn':c<h.next+1:=hcn;rcases hc with hc|hc
   ·obtain rfl:c=b:=by simpa using hc
    rw[hbn]at hy;cases hy
   ·obtain rfl:c=h.next:=by omega
    rw[gk _ hr,au rfl]at hy;cases hy;exact⟨m',o,aV.add_same _ _ _,ho,hbr⟩
  inj1:=λc y m1 hc hcn _ hm1=>by
   have hcn':c<h.next+1:=hcn;obtain rfl:c=h.next:=by omega
   rw[aV.add_same]at hm1;cases hm1;rcases hB with hB|hB;·exact .inr ⟨b,by simp,m,hm,hB.symm,hbn⟩
   ·exact .inl hB
  inj2:=λc c' y y' m1 m2 hc hc' hcn hcn' _ _ _ _ _=>by have h1:c<h.next+1:=hcn;have h2:c'<h.next+1:=hcn';omega}
theorem Ii {n bytes:Nat} (e:Tk n bytes=true):n<=4000000/\n*bytes<=4000000:=by
 unfold Tk at e;split at e;·cases e
 ·rename_i b;rw[aD]at e;have e:n*(b+1)<=4000000:=e;refine⟨?_,e⟩;have:n*1<=n*(b+1):=Nat.mul_le_mul_left _ (by omega);omega
theorem JV (l:List Value) (i:Nat):l.toArray.getD i undef=l.getD i undef:=by rw[gJ,List.getElem?_toArray,aG]
theorem size_zeroCells (z:Array Value) (n:Nat):(Builtin.zeroCells z n).size=n*z.size:=by simp[Builtin.zeroCells]
theorem Dx (a b:Array Value) {i:Nat} (hi:i<a.size):(a++b).getD i undef=a.getD i undef:=by rw[gJ,Array.getElem?_append_left hi,gJ]
theorem Mr (k:WR ι h w D) {el:TypeId} {es bytes:Nat} {z:Value} (hzs:z.cells.size=es) {b off len es' cap n nb d:Nat} {zz ro:Bool} {t:E AV d} {m:Nm} {y:Addr} {new:AV} {l:List Value} {v:AV}
 (hm:ι b=some m) (hle:len<=cap) (hn:0<n) (hy:cap=0\/(y=⟨m.B,m.sh+off,none⟩/\m.sh+off+cap*es'<=m.cs)) (hD:∀b'∈aM (.slice b off len es' zz),D b')
 (hb:h.get b=some (.cells (el+2000000) ro nb d t)) (hnew:fQ ι new l) (ho:ones new=true) (hlen:l.length=n*es) (e:Ij el es bytes off len n new h b nb d t es' ro zz= .ok v h') {R:Sem Value}
 (hin:∀w2,len+n<=cap->(storeCells (y.add (len*es)) l).run P w= .ok () w2->R.run P w= .ok (.slice (some y) (len+n) cap) w2)
 (hgrow:∀old,(∀k,(Builtin.firstCells es len (.slice (some y) len cap)).run P (World.bQ w k)= .ok old (World.bQ w k))->cap<len+n->
  len+n<=4000000->(len+n)*bytes<=4000000->∃c,len+n<=c/\R.run P w= .ok (.slice (some ⟨w.heap.size,0,none⟩) (len+n) c)
   (World.grown w (w.drawn+1) (.cells (old++l.toArray++Builtin.zeroCells z.cells (c-(len+n))) el))):aH P ι h w R v h':=by
 unfold Ij at e
 split at e
 ·rename_i h1 h3 h4 h5 h6
  obtain rfl:=aI h1
  have h3:off+len*es=nb:=aI h3
  obtain⟨hb1,hb2⟩:=Ii h4
  have hr:=H.jX.1 h5
  rw[aD]at h6
  have h6:llen (kT (BN d t (Nat.mul len es) off) new)<=4000000:=h6
  cases e
  obtain⟨arr,el0,lo,hi,hw,a1,a2,a3,a4,a5⟩:=k.cells (hD b (by simp[aM])) hm hb
  obtain⟨hel,hfr⟩:=a5.2.2 rfl (by omega)
  rw[oH]at hel
  rw[hel]at hw
  have hrd:=l7 (ι:=ι) (arr:=arr) (sh:=m.sh) (len*es) off (λj h1 h2=>a4 j (by omega))
  have aaR:fQ ι (kT (BN d t (Nat.mul len es) off) new) ((List.range (len*es)).map (λj=>arr.getD (m.sh+off+j) undef)++l):=mI hrd hnew
  have hll:llen (kT (BN d t (Nat.mul len es) off) new)=((List.range (len*es)).map (λj=>arr.getD (m.sh+off+j) undef)++l).length:=gq aaR
  obtain⟨nb',hnb'⟩:∃nb',llen (kT (BN d t (Nat.mul len es) off) new)=nb':=⟨_,rfl⟩
  have hnb:nb'=len*es+n*es:=by
   rw[<-hnb']
   refine Eq.trans hll ?_
   rw[bV,bM,mq,hlen]
  have hd':nb'<=4^dep nb':=jW (by omega)
  have ahb:=Di nb'
  have hget:∀i,i<nb'->VR ι (E.get (dep nb') (path (dep nb') i) (Fa (dep nb') (kT (BN d t (Nat.mul len es) off) new))) (((List.range (len*es)).map (λj=>arr.getD (m.sh+off+j) undef)++l).getD i undef):=λi hi=>by
   rw[Fa,jT nb' hd' aaR 0 i _ (by rw[<-hll,hnb'];omega) hi,au (by rw[<-hll,hnb'];omega),mJ]
   exact gu aaR i
  rw[hnb']
  have hBs:m.B<w.heap.size:=(dM.1 hw).1
  by_cases hc:len+n<=cap
  ·
   have hy:y=⟨m.B,m.sh+off,none⟩/\m.sh+off+cap*es<=m.cs:=by
    rcases hy with hy|hy
    ·omega
    ·exact hy
   obtain⟨rfl,Tf⟩:=hy
   have hcap:(len+n)*es<=cap*es:=l9 _ hc
   rw[fD]at hcap
   have hst:=dU (P:=P) l (m.sh+off+len*es) 0 arr w hw (by omega) (by rw[hlen];omega) (BM hnew ho)
   refine⟨_,World.putCells w m.B (nY arr (m.sh+off+len*es+0) l) el (lo,hi),[b],_,hin _ hc (by rw[addr_add];exact hst),?_,Loc.Ih k hr hb hm _ ⟨m.B,m.sh+off,m.cs⟩ _ (by simp[World.putCells]) (λi _ hne=> ?_) (.inl rfl) (fF hBs) ?_ rfl rfl rfl⟩
   ·exact⟨_,_,cap,aV.add_same _ _ _,rfl,hc,by simp, .inr ⟨rfl,Tf⟩⟩
   ·simp only[World.putCells]
    rw[jF (λe=>hne e.symm)]
   ·refine⟨_,el,lo,hi,rfl,by rw[ny];exact a1,by show m.sh+off+nb'<=m.cs;omega,hd',λi hi=> ?_,⟨λc=>(by cases c),λc=>absurd c (by omega),λ_ _=>⟨(oH ..).symm,?_⟩⟩⟩
    ·have:=(hget i hi).mono (aV.sZ ⟨m.B,m.sh+off,m.cs⟩ (k.fresh _ (ay _)))
     rw[qg _ _ _ _ (by show m.sh+off+i<arr.size;omega)]
     have eq:(List.map (λj=>arr.getD (m.sh+off+j) undef) (List.range (len*es))++l).getD i undef=
      if m.sh+off+len*es+0<=m.sh+off+i/\m.sh+off+i<m.sh+off+len*es+0+l.length then l.getD (m.sh+off+i-(m.sh+off+len*es+0)) undef else arr.getD (m.sh+off+i) undef:=by
      rw[aG,List.getElem?_append]
      simp only[bM,mq]
      by_cases ci:i<len*es
      ·rw[au ci,aj (by omega)]
       simp[ci]
      ·rw[aj ci,au (by omega),show m.sh+off+i-(m.sh+off+len*es+0)=i-len*es by omega,aG]
     rw[eq]at this
     exact this
    ·rcases hfr with c|c
     ·exact .inl c
     ·exact .inr (by show hi<=m.sh+off+nb';omega)
  ·
   have hold:∀k,(Builtin.firstCells es len (.slice (some y) len cap)).run P (World.bQ w k)= .ok ((List.range (len*es)).map λj=>arr.getD (m.sh+off+j) undef).toArray (World.bQ w k):=λk=>by
    simp only[Builtin.firstCells]
    by_cases h0:len*es=0
    ·rw[h0];exact rfl
    ·have hy:y=⟨m.B,m.sh+off,none⟩/\m.sh+off+cap*es<=m.cs:=by
      rcases hy with hy|hy
      ·exact absurd (show len*es=0 by rw[show len=0 by omega,jU]) h0
      ·exact hy
     obtain⟨rfl,Tf⟩:=hy
     exact eU (by show w.heap[m.B]? =_;exact hw) (by omega)
   obtain⟨c,hcn,hrun⟩:=hgrow _ hold (by omega) hb1 hb2
   generalize hcells:(((List.range (len*es)).map λj=>arr.getD (m.sh+off+j) undef).toArray++l.toArray++Builtin.zeroCells z.cells (c-(len+n)))=cells at hrun
   have hcs:cells.size=c*es:=by
    rw[<-hcells,pQ,pQ,size_zeroCells,hzs]
    simp only[qZ,hlen,bM,mq]
    rw[<-fD,<-fD]
    congr 1;omega
   have OD:∀i,i<nb'->VR ι (E.get (dep nb') (path (dep nb') i) (Fa (dep nb') (kT (BN d t (Nat.mul len es) off) new))) (cells.getD i undef):=λi hi=>by
    have:=hget i hi
    rw[<-hcells,Dx _ _ (by simp only[pQ,qZ,bM,mq,hlen];omega),yF,JV]
    exact this
   have adt:nb'<=cells.size:=by
    rw[hcs,hnb,<-fD];exact l9 _ hcn
   have ZL:VR (ι.add h.next ⟨w.heap.size,0,cells.size⟩) (.slice h.next 0 (len+n) es false) (.slice (some ⟨w.heap.size,0,none⟩) (len+n) c):=
    ⟨_,_,c,aV.add_same _ _ _,rfl,hcn,by simp, .inr ⟨rfl,by rw[hcs];show 0+0+c*es<=c*es;omega⟩⟩
   refine⟨_,_,[b],_,hrun,ZL,Loc.Ih k hr hb hm _ ⟨w.heap.size,0,cells.size⟩ _ (by simp[World.grown]) (λi hi _=>gH i hi) (.inr (Nat.le_refl _)) gI ?_ rfl rfl rfl⟩
   refine⟨cells,el,0,0,rfl,rfl,by show 0+nb'<=cells.size;omega,hd',λi hi=> ?_,⟨λc=>(by cases c),λ_=>rfl,λ_ _=>⟨(oH ..).symm, .inl rfl⟩⟩⟩
   simp only[bI]
   exact(OD i hi).mono (aV.sZ _ (k.fresh _ (ay _)))
 ·cases e
theorem Dy (_hg:jP P g) (k:WR ι h w D) {el:TypeId} {ye:Ty} (_he:g.ty el=some ye) {s new v:AV} {vs:Value} {n:Nat} {l:List Value} {z:Value} (hzs:z.cells.size=ye.size)
 (hs:VR ι s vs) (hD:∀b∈aM s,D b) (hnew:fQ ι new l) (hlen:l.length=n*ye.size) (e:yG el ye.size ye.bytes s h new n= .ok v h') {R:Sem Value}
 (hin:∀base sLen sCap (w2:World),vs= .slice base sLen sCap->sLen+n<=sCap->(∀a,base=some a->(storeCells (a.add (sLen*ye.size)) l).run P w= .ok () w2)->(base=none->w2=w)->
  R.run P w= .ok (.slice base (sLen+n) sCap) w2)
 (hgrow:∀base sLen sCap old,vs= .slice base sLen sCap->(∀k,(Builtin.firstCells ye.size sLen (.slice base sLen sCap)).run P (World.bQ w k)= .ok old (World.bQ w k))->sCap<sLen+n->
  sLen+n<=4000000->(sLen+n)*ye.bytes<=4000000->∃c,sLen+n<=c/\R.run P w= .ok (.slice (some ⟨w.heap.size,0,none⟩) (sLen+n) c)
   (World.grown w (w.drawn+1) (.cells (old++l.toArray++Builtin.zeroCells z.cells (c-(sLen+n))) el))):aH P ι h w R v h':=by
 unfold yG at e
 split at e
 ·
  have hl0:l=[]:=tN (by rw[hlen,jU])
  subst hl0
  split at e
  ·cases hs
   cases e
   exact aH.ret k (hin none 0 0 w rfl (ay _) (by simp) (λ_=>rfl)) rfl
  ·obtain⟨m,y,cap,hm,rfl,hle,hz,hy⟩:=hs
   cases e
   exact aH.ret k (hin (some y) _ cap w rfl (by omega) (λa ha=>rfl) (by simp)) ⟨m,y,cap,hm,rfl,hle,hz,hy⟩
  ·cases e
 ·rename_i n
  have hlen:l.length=(n+1)*ye.size:=hlen
  split at e
  ·
   rename_i ho
   cases hs
   split at e
   ·rename_i hby
    obtain⟨hb1,hb2⟩:=Ii hby
    obtain⟨hr,hm,e⟩:=qQ e
    cases e
    obtain⟨c,hc,hrun⟩:=hgrow none 0 0 #[] rfl (λ_=>by simp[Builtin.firstCells]) (by omega) (by omega) (by rw[Nat.zero_add];exact hb2)
    rw[bI]at hrun hc
    have hcs:(#[]++l.toArray++Builtin.zeroCells z.cells (c-(n+1))).size=c*ye.size:=by
     rw[pQ,pQ,size_zeroCells,hzs]
     simp only[qZ,hlen]
     show 0+(n+1)*ye.size+(c-(n+1))*ye.size=c*ye.size
     rw[bI,<-fD]
     congr 1;omega
    refine⟨_,_,[],_,hrun,⟨_,_,c,aV.add_same _ _ _,rfl,hc,by simp, .inr ⟨rfl,?_⟩⟩,Loc.yj k hr (w.drawn+1) (l:=l) hnew hm ⟨(Builtin.zeroCells z.cells (c-(n+1))).toList,by simp⟩⟩
    rw[hcs]
    show 0+0+c*ye.size<=c*ye.size
    omega
   ·cases e
  ·
   rename_i b off len es' zz ho
   obtain⟨m,y,cap,hm,rfl,hle,hz,hy⟩:=hs
   split at e
   ·rename_i iV ro nb d t hb
    split at e
    ·rename_i hmk
     obtain rfl:=aI hmk
     exact Mr k hzs hm hle (ru n) hy hD hb hnew ho hlen e (λw2 h1 h2=>hin _ _ _ w2 rfl h1 (λa ha=>by cases ha;exact h2) (λc=>by cases c)) (λold h1 h2 h3 h4=>hgrow _ _ _ old rfl h1 h2 h3 h4)
    split at e
    ·rename_i h1 h2 h3 h4 h5 h6
     obtain rfl:=aI h1
     obtain rfl:=aI h2
     rw[aD]at h3
     have h3:off+len*ye.size<=nb:=h3
     obtain⟨hb1,hb2⟩:=Ii h4
     have hr:=H.jX.1 h5
     obtain⟨arr,el0,lo,hi,hw,a1,a2,a3,a4,a5⟩:=k.cells (hD b (by simp[aM])) hm hb
     have hrd:=l7 (ι:=ι) (arr:=arr) (sh:=m.sh) (len*ye.size) off (λj h1 h2=>a4 j (by omega))
     obtain⟨nb',d',t',rfl,rfl,hnb,hd',ahb,hget⟩:=Qv hrd hnew (by simp) a3 e
     have hkn:(Tm zz h b).next=h.next:=by cases zz<;>rfl
     rw[hkn]
     have hBs:m.B<w.heap.size:=(dM.1 hw).1
     have hnb:nb'=len*ye.size+(n+1)*ye.size:=by rw[hnb,hlen];simp
     by_cases hc:len+(n+1)<=cap
     ·
      have hy:y=⟨m.B,m.sh+off,none⟩/\m.sh+off+cap*ye.size<=m.cs:=by
       rcases hy with hy|hy
       ·omega
       ·exact hy
      obtain⟨rfl,Tf⟩:=hy
      have hzf:zz=false:=by
       cases zz
       ·rfl
       ·have:=hz rfl;omega
      subst hzf
      have hro:ro=false:=by
       cases ro
       ·rfl
       ·cases h6
      have hcap:(len+(n+1))*ye.size<=cap*ye.size:=l9 _ hc
      rw[fD]at hcap
      obtain⟨hel,hfr⟩:=a5.1 hro
      rw[hel]at hw
      have hst:=dU (P:=P) l (m.sh+off+len*ye.size) 0 arr w hw (by omega) (by rw[hlen];omega) (BM hnew ho)
      refine⟨_,World.putCells w m.B (nY arr (m.sh+off+len*ye.size+0) l) el (lo,hi),[b],_,hin _ _ _ _ rfl hc (λa ha=> ?_) (by simp),?_,Loc.Ih k hr hb hm _ ⟨m.B,m.sh+off,m.cs⟩ _ (by simp[World.putCells]) (λi _ hne=> ?_) (.inl rfl) (fF hBs) ?_ rfl rfl rfl⟩
      ·cases ha
       rw[addr_add]
       exact hst
      ·exact⟨_,_,cap,aV.add_same _ _ _,rfl,hc,by simp, .inr ⟨rfl,Tf⟩⟩
      ·simp only[World.putCells]
       rw[jF (λe=>hne e.symm)]
      ·refine⟨_,el,lo,hi,rfl,by rw[ny];exact a1,by show m.sh+off+nb'<=m.cs;omega,hd',λi hi=> ?_,⟨λ_=>⟨rfl,hfr⟩,λc=>absurd c (by omega),λc=>(by cases c)⟩⟩
       have:=(hget i hi).mono (aV.sZ ⟨m.B,m.sh+off,m.cs⟩ (k.fresh _ (ay _)))
       rw[qg _ _ _ _ (by show m.sh+off+i<arr.size;omega)]
       have eq:(List.map (λj=>arr.getD (m.sh+off+j) undef) (List.range (len*ye.size))++l).getD i undef=
        if m.sh+off+len*ye.size+0<=m.sh+off+i/\m.sh+off+i<m.sh+off+len*ye.size+0+l.length then l.getD (m.sh+off+i-(m.sh+off+len*ye.size+0)) undef else arr.getD (m.sh+off+i) undef:=by
        rw[aG,List.getElem?_append]
        simp only[bM,mq]
        by_cases ci:i<len*ye.size
        ·rw[au ci,aj (by omega)]
         simp[ci]
        ·rw[aj ci,au (by omega),show m.sh+off+i-(m.sh+off+len*ye.size+0)=i-len*ye.size by omega,aG]
       rw[eq]at this
       exact this
     ·
      have hold:∀k,(Builtin.firstCells ye.size len (.slice (some y) len cap)).run P (World.bQ w k)= .ok ((List.range (len*ye.size)).map λj=>arr.getD (m.sh+off+j) undef).toArray (World.bQ w k):=λk=>by
       simp only[Builtin.firstCells]
       by_cases h0:len*ye.size=0
       ·rw[h0];exact rfl
       ·have hy:y=⟨m.B,m.sh+off,none⟩/\m.sh+off+cap*ye.size<=m.cs:=by
         rcases hy with hy|hy
         ·exfalso
          apply h0
          have:len=0:=by omega
          rw[this,jU]
         ·exact hy
        obtain⟨rfl,Tf⟩:=hy
        exact eU (by show w.heap[m.B]? =_;exact hw) (by omega)
      obtain⟨c,hcn,hrun⟩:=hgrow _ _ _ _ rfl hold (by omega) hb1 hb2
      generalize hcells:(((List.range (len*ye.size)).map λj=>arr.getD (m.sh+off+j) undef).toArray++l.toArray++Builtin.zeroCells z.cells (c-(len+(n+1))))=cells at hrun
      have hcs:cells.size=c*ye.size:=by
       rw[<-hcells,pQ,pQ,size_zeroCells,hzs]
       simp only[qZ,hlen,bM,mq]
       rw[<-fD,<-fD]
       congr 1;omega
      have OD:∀i,i<nb'->VR ι (E.get d' (path d' i) t') (cells.getD i undef):=λi hi=>by
       have:=hget i hi
       rw[<-hcells,Dx _ _ (by simp only[pQ,qZ,bM,mq,hlen];omega),yF,JV]
       exact this
      have adt:nb'<=cells.size:=by
       rw[hcs,hnb,<-fD];exact l9 _ hcn
      have ZL:VR (ι.add h.next ⟨w.heap.size,0,cells.size⟩) (.slice h.next 0 (len+(n+1)) ye.size false) (.slice (some ⟨w.heap.size,0,none⟩) (len+(n+1)) c):=
       ⟨_,_,c,aV.add_same _ _ _,rfl,hcn,by simp, .inr ⟨rfl,by rw[hcs];show 0+0+c*ye.size<=c*ye.size;omega⟩⟩
      cases zz
      ·refine⟨_,_,[b],_,hrun,ZL,Loc.Ih k hr hb hm _ ⟨w.heap.size,0,cells.size⟩ _ (by simp[World.grown]) (λi hi _=>gH i hi) (.inr (Nat.le_refl _)) gI ?_ rfl rfl rfl⟩
       refine⟨cells,el,0,0,rfl,rfl,by show 0+nb'<=cells.size;omega,hd',λi hi=> ?_,⟨λ_=>⟨rfl, .inl rfl⟩,λ_=>rfl,λc=>(by cases c)⟩⟩
       simp only[bI]
       exact(OD i hi).mono (aV.sZ _ (k.fresh _ (ay _)))
      ·exact⟨_,_,[],_,hrun,ZL,Loc.zM k hr (w.drawn+1) adt hd' OD⟩
    ·cases e
   ·cases e
  ·cases e
end
section
variable {P:Program} {g:G} {ι:aV} {h h':H} {w:World} {D:Nat->Prop}
theorem XF (w:World):World.bQ w w.drawn=w:=rfl
theorem JW {l:List Value} {n:Nat} (h:l.length=n):l.take n=l:=by rw[<-h];exact List.take_length
theorem FP (hg:jP P g) (k:WR ι h w D) {t u ty el:TypeId} {y yu ye:Ty} (ht:g.ty t=some y) (hd:y.desc= .slice el) (hu:g.ty u=some yu) (XE:(∃e',yu.desc= .slice e')\/yu.desc= .string)
 (he:g.ty el=some ye) {s x v:AV} {vs vx:Value} (hs:VR ι s vs) (hx:VR ι x vx) (hDs:∀b∈aM s,D b) (ZM:∀b∈aM x,D b)
 (e:Ik el ye.size ye.bytes s x h= .ok v h'):aH P ι h w (Builtin.append_ #[t,u] ty #[vs,vx]) v h':=by
 have hut:=(hg.ty _ _ ht).1;have huu:=(hg.ty _ _ hu).1;rw[hd]at hut;obtain⟨_,_,i,z,hi,hsz,hby,hz,_,hzs,_⟩:=hg.ty _ _ he;obtain⟨new,n,l,e2,hnew,hlen,hlo,hfc⟩:=JQ k hx ZM e;refine Dy hg k he hzs hs hDs hnew hlen e2 ?_ ?_;·intro base sLen sCap w2 hvs hc hst hno;subst hvs;refine Fv (arr:=l.toArray) hut huu XE hi (hlo w) ?_ hc (λa ha=>by rw[hsz];exact hst a ha) hno;have:=hfc w rfl n (ay _);rw[JW hlen]at this;rw[hsz];exact this
 ·intro base sLen sCap old hvs hold hc h1 h2;subst hvs;obtain⟨c,hc1,hc2⟩:=run_append_grow' (ty:=ty) (arr:=l.toArray) (old:=old) (vx:=vx) hut huu XE hi hz (hlo w) (λkk=>by
   have:=hfc (World.bQ w kk) rfl n (ay _);rw[JW hlen]at this;rw[hsz];exact this) (λkk=>by rw[hsz];exact hold kk) hc (by omega) (by rw[hby];omega)
  exact⟨c,hc1,hc2⟩
theorem Ms (hg:jP P g) (k:WR ι h w D) {t u ty el:TypeId} {y yu ye:Ty} (ht:g.ty t=some y) (hd:y.desc= .slice el) (hu:g.ty u=some yu) {ku:IntKind} (XE:yu.desc= .int ku)
 (he:g.ty el=some ye) {s x v:AV} {vs vx:Value} (hs:VR ι s vs) (hx:VR ι x vx) (hDs:∀b∈aM s,D b)
 {k0:IntKind} {n:Nat} (hxn:x= .int k0 (.ofNat n)) (h1:Nat.mul n ye.bytes<=fH) (h2:n<=fH)
 (e:yG el ye.size ye.bytes s h (Hg ye.zero n) n= .ok v h'):aH P ι h w (Builtin.append_ #[t,u] ty #[vs,vx]) v h':=by
 subst hxn;cases hx;have hut:=(hg.ty _ _ ht).1;have huu:=(hg.ty _ _ hu).1;rw[hd]at hut;rw[XE]at huu;obtain⟨_,_,i,z,hi,hsz,hby,hz,hzv,hzs,_⟩:=hg.ty _ _ he;have hrep:fQ ι (Hg ye.zero n) (Builtin.zeroCells z.cells n).toList:=by
  have h3:(Builtin.zeroCells z.cells n).toList=(List.replicate n z.cells.toList).flatten:=by unfold Builtin.zeroCells;rw[SK z.cells n (n*z.cells.size) rfl]
  rw[h3,hzv];exact Hf (mK ι _) n
 have h1:n*ye.bytes<=4000000:=h1;have h2:n<=4000000:=h2;have harr:(if n*i.size=0 then(#[]:Array Value)else Builtin.zeroCells z.cells n)=(Builtin.zeroCells z.cells n).toList.toArray:=by
  rw[hsz];by_cases h0:n*ye.size=0
  ·rw[au h0];have:(Builtin.zeroCells z.cells n).size=0:=by rw[size_zeroCells,hzs,h0]
   have:=Array.eq_empty_of_size_eq_zero this;rw[this]
  ·rw[aj h0]
 refine Dy hg k he hzs hs hDs hrep (by rw[jE,size_zeroCells,hzs]) e ?_ ?_;·intro base sLen sCap w2 hvs hc hst hno;subst hvs;exact Dw hut huu hi hz rfl (by rw[hby];omega) h2 hc harr (λa ha=>by rw[hsz];exact hst a ha) hno
 ·intro base sLen sCap old hvs hold hc h3 h4;subst hvs;exact zW hut huu hi hz rfl h2 (λkk=>by rw[hsz];exact hold kk) hc (by omega) (by rw[hby];omega) harr
theorem XG (hg:jP P g) (k:WR ι h w D) {t ty el:TypeId} {y ye:Ty} {ts:Array TypeId} (hts:ts[0]? =some t) (ht:g.ty t=some y) (hd:y.desc= .slice el)
 (he:g.ty el=some ye) {s x v:AV} {vs vx:Value} (hs:VR ι s vs) (hx:VR ι x vx) (hDs:∀b∈aM s,D b) (ZM:∀b∈aM x,D b)
 (e:Tn ye.size s x h= .ok v h'):aH P ι h w (Builtin.copy_ ts ty #[vs,vx]) v h':=by
 have hut:=aB (P:=P) (hg.ty _ _ ht).1;rw[hd]at hut;obtain⟨_,_,i,z,hi,hsz,hby,hz,_,hzs,_⟩:=hg.ty _ _ he;have a0:(#[vs,vx]:Array Value)[0]? =some vs:=rfl;have a1:(#[vs,vx]:Array Value)[1]? =some vx:=rfl;unfold Tn at e;obtain⟨new,n,l,e2,hnew,hlen,hlo,hfc⟩:=JQ (P:=P) k hx ZM e;clear e;split at e2;·cases hs;cases e2;refine aH.ret k (v':=goInt 0) ?_ rfl;have:=hfc w rfl 0 (aL _);have hmin:Nat.min n 0=0:=Nat.min_zero n;simp only[Builtin.copy_,hts,a0,a1,Sem.run_bind,hut,Result.andThen_ok,hlo,dz hi,hsz,hmin,this,Sem.run_pure];rfl
 ·rename_i b off len es' zz;obtain⟨m,ya,cap,hm,rfl,hle,hzc,hy⟩:=hs;split at e2
  ·rename_i hn0;obtain rfl:=aI hn0;cases e2;have hrd:=hfc w rfl 0 (aL _);have hmm:Nat.min 0 len=0:=Nat.zero_min len;have hst:(storeCells ya (l.take (0*ye.size))).run P w= .ok () w:=by rw[jU,List.take_zero];rfl
   refine aH.ret k (v':=goInt 0) ?_ rfl;simp only[Builtin.copy_,hts,a0,a1,Sem.run_bind,hut,Result.andThen_ok,hlo,dz hi,hsz,hmm,hrd,hst];rfl
  split at e2
  ·rename_i elb nb d tr h1 hb;obtain rfl:=aI h1;split at e2
   ·rename_i h2 h3;rw[aD]at h2;have h2:off+len*ye.size<=nb:=h2;rw[oq,oC]at e2;have hmin:(if Nat.ble n len=true then n else len)=Nat.min n len:=by
     rw[iY];simp only[aY];by_cases c:n<=len;·rw[au c];exact(Nat.min_eq_left c).symm
     ·rw[aj c];exact(Nat.min_eq_right (by omega)).symm
    rw[hmin]at e2;cases e2;have ZA:=hDs b (by simp[aM]);obtain⟨arr,iV,lo,hi',hw,b1,b2,b3,b4,b5⟩:=k.cells ZA hm hb;obtain⟨hel,hfr⟩:=b5.1 rfl;have hmn:Nat.min n len<=n:=Nat.min_le_left _ _;have hml:Nat.min n len<=len:=Nat.min_le_right _ _;obtain⟨mm,hmm⟩:∃mm,Nat.min n len=mm:=⟨_,rfl⟩
    rw[hmm]at hmn hml;rw[hmm];have hms:mm*ye.size<=n*ye.size:=l9 _ hmn;have ak1:mm*ye.size<=len*ye.size:=l9 _ hml;have hlt:(l.take (mm*ye.size)).length=mm*ye.size:=by rw[jh,hlen];omega
    have hrd:=hfc w rfl mm hmn;have htk:=Db hnew (mm*ye.size);have hst:(storeCells ya (l.take (mm*ye.size))).run P w= .ok () (World.putCells w m.B (nY arr (m.sh+off+0) (l.take (mm*ye.size))) iV (lo,hi')):=by
     by_cases h0:mm*ye.size=0;·rw[h0,List.take_zero];show Result.ok () w=_;rw[nY,wJ hw]
     ·have hy:ya=⟨m.B,m.sh+off,none⟩/\m.sh+off+cap*ye.size<=m.cs:=by
       rcases hy with hy|hy
       ·exfalso;apply h0;have:mm=0:=by omega
        rw[this,jU]
       ·exact hy
      obtain⟨rfl,Tf⟩:=hy;exact dU (P:=P) _ (m.sh+off) 0 arr w hw (by omega) (by omega) (λv hv=>BM hnew h3 v (List.mem_of_mem_take hv))
    refine⟨ι,World.putCells w m.B (nY arr (m.sh+off+0) (l.take (mm*ye.size))) iV (lo,hi'),[b],goInt mm,?_,rfl,Loc.zO k ZA hm hb hw (ny _ _ _) (λj hj=> ?_)⟩;·simp only[Builtin.copy_,hts,a0,a1,Sem.run_bind,hut,Result.andThen_ok,hlo,dz hi,hsz,hmm,hrd,hst];rfl
    ·show VR ι (E.get d (path d j) (WT d (FD new (mm*ye.size)) off tr)) _;rw[jT nb b3 htk off j tr (by omega) hj,qg _ _ _ _ (by omega),hlt];by_cases hjo:off<=j/\j<off+mm*ye.size
     ·rw[au hjo,au (by omega),show m.sh+j-(m.sh+off+0)=j-off by omega];exact gu htk _
     ·rw[aj hjo,aj (by omega)];exact b4 j hj
   ·cases e2
  ·cases e2
 ·cases e2
end
section
variable {P:Program} {g:G} {ι:aV} {h h':H} {w:World} {D:Nat->Prop}
def adu (ι:aV) (v:AV) (x:Next):Prop:=(∃v',x= .value v'/\VR ι v v')\/(x= .skip/\v= .fT .nil)
def Fw (P:Program) (ι:aV) (h:H) (w:World) (s:Sem Next) (v:AV) (h':H):Prop:=
 ∃ι' w' W x,s.run P w= .ok x w'/\adu ι' v x/\Loc ι h w ι' h' w' W
theorem aH.toN {s:Sem Value} {v:AV} (e:aH P ι h w s v h'):Fw P ι h w (do pure (.value (<-s))) v h':=by obtain⟨ι',w',W,v',h1,h2,h3⟩:=e;refine⟨ι',w',W, .value v',?_, .inl ⟨v',rfl,h2⟩,h3⟩;simp only[Sem.run_bind,h1,Result.andThen_ok,Sem.run_pure]
theorem Dh.toN {s:Sem Unit} {v:AV} (e:v= .fT .nil/\Dh P ι h w s h'):Fw P ι h w (do s;pure .skip) v h':=by obtain⟨hv,ι',w',W,h1,h3⟩:=e;refine⟨ι',w',W, .skip,?_, .inr ⟨rfl,hv⟩,h3⟩;simp only[Sem.run_bind,h1,Result.andThen_ok,Sem.run_pure]
theorem iI {t:Nat} {k:Ty->Act} {en:Env} {v:AV} (e:(Il g t k).f en h= .ok v h'):∃y,g.ty t=some y/\(k y).f en h= .ok v h':=by
 unfold Il at e;split at e;·rename_i y hy;exact⟨y,hy,e⟩
 ·cases e
theorem OE {b:Bool} {a:Act} {en:Env} {v:AV} (e:(onB b a).f en h= .ok v h'):b=true/\a.f en h= .ok v h':=by
 cases b;·cases e
 ·exact⟨rfl,e⟩
theorem zX {t:Nat} {k:Nat->Option Nat->Ty->Act} {en:Env} {v:AV} (e:(AZ g t k).f en h= .ok v h'):
 ∃y el ye arr,g.ty t=some y/\g.ty el=some ye/\((y.desc= .slice el/\arr=none)\/∃n,y.desc= .array n el/\arr=some n)/\(k el arr ye).f en h= .ok v h':=by
 unfold AZ at e;split at e;·rename_i el _ _ _ _ _ hy;obtain⟨ye,he,e⟩:=iI e;exact⟨_,el,ye,none,hy,he, .inl ⟨rfl,rfl⟩,e⟩
 ·rename_i n el _ _ _ _ _ hy;obtain⟨ye,he,e⟩:=iI e;exact⟨_,el,ye,some n,hy,he, .inr ⟨n,rfl,rfl⟩,e⟩
 ·cases e
theorem A9 {t:Nat} {k:Ty->Act} {en:Env} {v:AV} (e:(mapElem g t k).f en h= .ok v h'):
 ∃y kt et ye,g.ty t=some y/\y.desc= .map kt et/\g.ty et=some ye/\(k ye).f en h= .ok v h':=by
 unfold mapElem at e;split at e;·rename_i kt et _ _ _ _ _ hy;obtain⟨ye,he,e⟩:=iI e;exact⟨_,kt,et,ye,hy,rfl,he,e⟩
 ·cases e
theorem fieldT_inv {s f:Nat} {k:Field->Ty->Act} {en:Env} {v:AV} (e:(fieldT g s f k).f en h= .ok v h'):
 ∃y fs fd yf,g.ty s=some y/\y.desc= .struct fs/\fs[f]? =some fd/\g.ty fd.type=some yf/\(k fd yf).f en h= .ok v h':=by
 unfold fieldT at e;split at e
 ·rename_i fs _ _ _ _ _ hy;split at e
  ·rename_i fd hf;obtain⟨ye,he,e⟩:=iI e;exact⟨_,fs,fd,ye,hy,rfl,hf,he,e⟩
  ·cases e
 ·cases e
theorem jL {l:List Operand} {en:Env} {x r:AV} (e:(opsL l).f en= .cons x r):∃o l',l=o::l'/\(ev o).f en=x/\(opsL l').f en=r:=by
 cases l with
 |nil=>cases e
 |cons o l'=>have e:AV.cons ((ev o).f en) ((opsL l').f en)= .cons x r:=e;injection e with e1 e2;exact⟨o,l',rfl,e1,e2⟩
theorem tO {l:List Operand} {en:Env} (e:(opsL l).f en= .nil):l=[]:=by
 cases l with
 |nil=>rfl
 |cons o l'=>have e:AV.cons ((ev o).f en) ((opsL l').f en)= .nil:=e;cases e
theorem bq {α:Type} {a:Array α} {l:List α} (h:a.toList=l):a=l.toArray:=by cases a;cases h;rfl
theorem aaS {α β:Type} (f:α->β) (x:α):([x].toArray).map f=#[f x]:=by simp
theorem aaT {α β:Type} (f:α->β) (x y:α):([x,y].toArray).map f=#[f x,f y]:=by simp
theorem iA {o:Operand} {l:List Operand} {en:Env}:blks (o::l) en=aM ((ev o).f en)++blks l en:=rfl
section
variable {n:Nat} {en:Env} {a:Go.Act}
theorem Mt (hE:fU ι n en a.tmps) (hG:GI ι) (hg:jP P g) (k:WR ι h w D) {b:Builtin} {c:Call} {ty:TypeId} (hc:c.callee= .builtin b) (ho:(c.args.toList.all (aC n))=true) (hD:∀b∈blks c.args.toList en,D b) {v:AV}
 (e:(Fx g (.call c)).f en h= .ok v h'):Fw P ι h w (do let d<-resolve a.eval c ty;invoke d.target d.args) v h':=by
 have hres:(do let d<-resolve a.eval c ty;invoke d.target d.args:Sem Next)=builtin b c.argTypes ty (c.args.map λ| .const _=>true|_=>false) (c.args.map a.eval):=by
  unfold resolve;rw[hc];rfl
 rw[hres]
 clear hres
 generalize(c.args.map λ| .const _=>true|_=>false)=cs
 unfold Fx at e
 dsimp only at e
 rw[hc]at e
 dsimp only at e
 have hargs:=vB hE hG c.args.toList ho
 rw[<-mM]at hargs
 split at e
 ·
  rename_i t ts x hts hx
  have hx':=bq hx
  rw[hx']at ho hD⊢
  have hxo:aC n x=true:=by simpa using ho
  have JX:c.argTypes[0]? =some t:=by rw[bq hts];rfl
  rw[aaS]
  show Fw P ι h w (do pure (.value (<-Builtin.len_ c.argTypes ty #[a.eval x]))) v h'
  refine aH.toN ?_
  split at e
  ·rename_i m el _ _ _ _ _ hy
   cases e
   have hut:=(hg.ty _ _ hy).1
   have hx0:(#[a.eval x]:Array Value)[0]? =some (a.eval x):=rfl
   refine aH.ret k (v':=goInt m) ?_ rfl
   simp only[Builtin.len_,JX,hx0,Sem.run_bind,aB hut,Result.andThen_ok,Sem.run_pure]
  ·cases e
  ·rename_i y _ _ hy
   exact aaN k hg hy JX (aX hE hG x hxo) (λb' hb=>hD b' (by rw[iA];exact iF _ hb)) e
  ·cases e
 ·rename_i hne
  have e2:Mv g _ c.argTypes.toList ((opsL c.args.toList).f en) h= .ok v h':=e
  clear e hne
  have e:=e2
  clear e2
  unfold Mv at e
  split at e
  ·
   rename_i s x hl
   obtain⟨os,l1,hl1,hs1,hr1⟩:=jL hl
   obtain⟨ox,l2,hl2,hs2,hr2⟩:=jL hr1
   have hl3:=tO hr2
   subst hl3;subst hl2
   rw[bq hl1]at ho hD⊢
   have Ju:aC n os=true/\aC n ox=true:=by simpa using ho
   have hvs:=aX hE hG os Ju.1
   have OG:=aX hE hG ox Ju.2
   rw[hs1]at hvs;rw[hs2]at OG
   have hDs:∀b∈aM s,D b:=λb hb=>hD b (by rw[yH,iA,hs1];exact iF _ hb)
   have ZM:∀b∈aM x,D b:=λb hb=>hD b (by rw[yH,iA,iA,hs2];exact iM _ (iF _ hb))
   split at e
   ·rename_i t u hts
    rw[bq hts,aaT]
    show Fw P ι h w (do pure (.value (<-Builtin.append_ #[t,u] ty #[a.eval os,a.eval ox]))) v h'
    refine aH.toN ?_
    split at e
    ·rename_i el _ _ _ _ _ _ _ _ _ _ _ ht hu
     split at e
     ·rename_i ye he
      exact FP hg k ht rfl hu (.inl ⟨_,rfl⟩) he hvs OG hDs ZM e
     ·cases e
    ·rename_i el _ _ _ _ _ _ _ _ _ _ ht hu
     split at e
     ·rename_i ye he
      exact FP hg k ht rfl hu (.inr rfl) he hvs OG hDs ZM e
     ·cases e
    ·rename_i el _ _ _ _ _ _ _ _ _ _ _ ht hu
     split at e
     ·rename_i ye _ m he
      split at e
      ·rename_i h1 h2
       rw[aD]at h1 h2
       exact Ms hg k ht rfl hu rfl he hvs OG hDs rfl h1 h2 e
      ·cases e
     ·cases e
    ·cases e
   ·cases e
  ·
   rename_i s x hl
   obtain⟨os,l1,hl1,hs1,hr1⟩:=jL hl
   obtain⟨ox,l2,hl2,hs2,hr2⟩:=jL hr1
   have hl3:=tO hr2
   subst hl3;subst hl2
   rw[bq hl1]at ho hD⊢
   have Ju:aC n os=true/\aC n ox=true:=by simpa using ho
   have hvs:=aX hE hG os Ju.1
   have OG:=aX hE hG ox Ju.2
   rw[hs1]at hvs;rw[hs2]at OG
   have hDs:∀b∈aM s,D b:=λb hb=>hD b (by rw[yH,iA,hs1];exact iF _ hb)
   have ZM:∀b∈aM x,D b:=λb hb=>hD b (by rw[yH,iA,iA,hs2];exact iM _ (iF _ hb))
   split at e
   ·rename_i t ts hts
    have JX:c.argTypes[0]? =some t:=by rw[bq hts];rfl
    rw[aaT]
    show Fw P ι h w (do pure (.value (<-Builtin.copy_ c.argTypes ty #[a.eval os,a.eval ox]))) v h'
    refine aH.toN ?_
    split at e
    ·rename_i el _ _ _ _ _ ht
     split at e
     ·rename_i ye he
      exact XG hg k JX ht rfl he hvs OG hDs ZM e
     ·cases e
    ·cases e
   ·cases e
  ·
   rename_i x hl
   obtain⟨ox,l1,hl1,hs1,hr1⟩:=jL hl
   have hl3:=tO hr1
   subst hl3
   rw[bq hl1]at ho hD⊢
   have Ju:aC n ox=true:=by simpa using ho
   have OG:=aX hE hG ox Ju
   rw[hs1]at OG
   split at e
   ·rename_i t ts hts
    have JX:c.argTypes[0]? =some t:=by rw[bq hts];rfl
    rw[aaS]
    show Fw P ι h w (do pure (.value (<-Builtin.cap_ c.argTypes ty #[a.eval ox]))) v h'
    refine aH.toN ?_
    split at e
    ·rename_i el _ _ _ _ _ ht
     exact aaQ hg k ht rfl JX OG e
    ·cases e
   ·cases e
  ·exact aH.toN (ZK (ts:=c.argTypes) (t:=ty) k true hargs e)
  ·exact aH.toN (ZK (ts:=c.argTypes) (t:=ty) k false hargs e)
  ·
   rename_i x hl
   obtain⟨ox,l1,hl1,hs1,hr1⟩:=jL hl
   have hl2:=tO hr1
   subst hl2
   rw[bq hl1]at ho⊢
   have Ju:aC n ox=true:=by simpa using ho
   have OG:=aX hE hG ox Ju
   rw[hs1]at OG
   rw[aaS]
   show Fw P ι h w (do pure (.value (<-Builtin.unsafeSliceData_ c.argTypes ty #[a.eval ox]))) v h'
   refine aH.toN ?_
   split at e
   ·cases e
    obtain⟨cap,hcap⟩:∃x,a.eval ox= .slice none x x:=⟨0,OG⟩
    rw[hcap]
    exact aH.ret k (v':= .pointer none) rfl rfl
   ·cases e
    obtain⟨m,y,cap,hm,hv,hle,hz,hy⟩:=OG
    rw[hv]
    obtain⟨cc,rfl⟩:∃cc,cap=cc+1:=⟨cap-1,by omega⟩
    rcases hy with hy|hy
    ·omega
    ·obtain⟨rfl,_⟩:=hy
     exact aH.ret k (v':= .pointer (some ⟨m.B,m.sh+_,none⟩)) rfl ⟨m,hm,rfl⟩
   ·cases e
  ·
   rename_i p kd m hl
   obtain⟨op,l1,hl1,hs1,hr1⟩:=jL hl
   obtain⟨on,l2,hl2,hs2,hr2⟩:=jL hr1
   have hl3:=tO hr2
   subst hl3;subst hl2
   rw[bq hl1]at ho hD⊢
   have Ju:aC n op=true/\aC n on=true:=by simpa using ho
   have hvp:=aX hE hG op Ju.1
   have hvn:=aX hE hG on Ju.2
   rw[hs1]at hvp;rw[hs2]at hvn
   have hDp:∀b∈aM p,D b:=λb hb=>hD b (by rw[yH,iA,hs1];exact iF _ hb)
   rw[aaT]
   split at e
   ·rename_i pt ts hts
    have JX:c.argTypes[0]? =some pt:=by rw[bq hts];rfl
    show Fw P ι h w (do pure (.value (<-Builtin.unsafeString_ c.argTypes ty #[a.eval op,a.eval on]))) v h'
    exact aH.toN (unsafeStr_ok hg k JX hvp hvn hDp e)
   ·cases e
  ·cases e
