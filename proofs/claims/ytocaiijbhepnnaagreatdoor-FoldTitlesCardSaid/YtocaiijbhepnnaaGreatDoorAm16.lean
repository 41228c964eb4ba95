/- The machine's soundness: operations on cells: new rows, loads, stores. -/
import Derived.Test.YtocaiijbhepnnaaGreatDoorAm11
import Derived.Laws.Append
namespace Go.Proofs.YtocaiijbhepnnaaGreatDoor.Am
def aH (P:Program) (ι:aV) (h:H) (w:World) (s:Sem Value) (v:AV) (h':H):Prop:=
 ∃ι' w' W v',s.run P w= .ok v' w'/\VR ι' v v'/\Loc ι h w ι' h' w' W
def Dh (P:Program) (ι:aV) (h:H) (w:World) (s:Sem Unit) (h':H):Prop:=
 ∃ι' w' W,s.run P w= .ok () w'/\Loc ι h w ι' h' w' W
section
variable {P:Program} {g:G} {ι:aV} {h h':H} {w:World} {D:Nat->Prop}
theorem aH.ret (k:WR ι h w D) {s:Sem Value} {v:AV} {v':Value} (hr:s.run P w= .ok v' w) (hv:VR ι v v'):aH P ι h w s v h:=
 ⟨ι,w,[],v',hr,hv,Loc.refl k⟩
theorem aH.sQ (k:WR ι h w D) {s:Sem Value} {x v:AV} {v':Value} (he:sQ x h= .ok v h') (hr:s.run P w= .ok v' w) (hv:VR ι x v'):aH P ι h w s v h':=by obtain⟨rfl,rfl,_⟩:=pz he;exact aH.ret k hr hv
theorem jW {n:Nat} (hn:n<=4000000):n<=4^dep n:=by
 unfold dep;have c:∀a b:Nat,Nat.ble a b=true->a<=b:=λa b e=>by rwa [aD]at e
 cases h1:Nat.ble n (nat_lit 4)
 ·cases h2:Nat.ble n (nat_lit 16)
  ·cases h3:Nat.ble n (nat_lit 64)
   ·cases h4:Nat.ble n (nat_lit 256)
    ·cases h5:Nat.ble n (nat_lit 1024)
     ·cases h6:Nat.ble n (nat_lit 4096)
      ·cases h7:Nat.ble n (nat_lit 65536)
       ·show n<=4^11;omega
       ·exact c _ _ h7
      ·exact c _ _ h6
     ·exact c _ _ h5
    ·exact c _ _ h4
   ·exact c _ _ h3
  ·exact c _ _ h2
 ·cases h2:Nat.ble n (nat_lit 1)
  ·exact c _ _ h1
  ·exact c _ _ h2
theorem Di (n:Nat):dep n<12:=by
 unfold dep;have c:∀(b:Bool) (x y:Nat),x<12->y<12->(Bool.rec x y b:Nat)<12:=λb x y hx hy=>by cases b<;>assumption
 repeat first|omega|(apply c)|(show(_:Nat)<12;decide)
theorem qQ {el:Nat} {cs v:AV} {k:Nat->H->bB} (e:row el cs h k= .ok v h'):
 h.next<65536/\llen cs<=4000000/\k h.next (h.new (.cells el false (llen cs) (dep (llen cs)) (Fa (dep (llen cs)) cs)))= .ok v h':=by
 unfold row at e;rw[oq]at e;unfold adn at e;cases h1:h.room;·rw[h1]at e;cases e
 ·rw[h1]at e;cases h2:Nat.ble (llen cs) fH
  ·rw[h2]at e;cases e
  ·rw[h2]at e;rw[oq]at e;rw[aD]at h2;exact⟨H.jX.1 h1,h2,e⟩
def World.grown (w:World) (n:Nat) (o:Obj):World:={w with heap:=w.heap.push o,drawn:=n}
theorem gH {n:Nat} {o:Obj} (i:Nat) (hi:i<w.heap.size):(World.grown w n o).heap[i]? =w.heap[i]? :=by simp[World.grown,Array.getElem?_push,Nat.ne_of_lt hi]
theorem gI {n:Nat} {o:Obj}:(World.grown w n o).heap[w.heap.size]? =some o:=by simp[World.grown]
theorem Loc.zM (k:WR ι h w D) (hr:h.next<65536) {el nb d:Nat} {t:E AV d} {cells:Array Value} (n:Nat) (hn:nb<=cells.size) (hd:nb<=4^d)
 (hc:∀i,i<nb->VR ι (E.get d (path d i) t) (cells.getD i undef)):
 Loc ι h w (ι.add h.next ⟨w.heap.size,0,cells.size⟩) (h.new (.cells el false nb d t)) (World.grown w n (.cells cells el)) []:=by
 refine Loc.yh k hr _ ⟨w.heap.size,0,cells.size⟩ (.cells cells el) (by simp[World.grown]) gH (Nat.le_refl _) gI ?_ rfl rfl rfl;refine⟨cells,el,0,0,rfl,rfl,by simpa using hn,hd,λi hi=> ?_,⟨λ_=>⟨rfl, .inl rfl⟩,λ_=>rfl,λc=>(by cases c)⟩⟩;have:=hc i hi;simp only[bI];exact this.mono (aV.sZ _ (k.fresh _ (ay _)))
theorem Loc.yj (k:WR ι h w D) (hr:h.next<65536) {el:Nat} {cs:AV} {l:List Value} {cells:Array Value} (n:Nat) (hl:fQ ι cs l) (hm:llen cs<=4000000) (hp:∃r,cells.toList=l++r):
 Loc ι h w (ι.add h.next ⟨w.heap.size,0,cells.size⟩) (h.new (.cells el false (llen cs) (dep (llen cs)) (Fa (dep (llen cs)) cs))) (World.grown w n (.cells cells el)) []:=by
 obtain⟨r,hp⟩:=hp;have hlen:=gq hl;have hs:cells.size=l.length+r.length:=by rw[<-jE,hp,bV]
 refine Loc.zM k hr n (by omega) (jW hm) λi hi=> ?_;rw[Fa,jT (llen cs) (jW hm) hl 0 i _ (by omega) hi,au (by omega)];have:=gu hl i;rw[mJ];have e:cells.getD i undef=l.getD i undef:=by rw[gJ,<-dN,hp,pF (by omega),aG]
 rw[e];exact this
theorem gU (el:TypeId) (cells:Array Value) (w:World):(newRow el cells).run P w= .ok ⟨w.heap.size,0,none⟩ (World.grown w w.drawn (.cells cells el)):=by simp[newRow,World.grown]
theorem BZ {m:Nm} (b:m.sh=0):VR (ι.add h.next m) (.ptr h.next 0) (.pointer (some ⟨m.B,0,none⟩)):=
 ⟨m,aV.add_same _ _ _,by rw[b]⟩
theorem lg {b:Nat} {f:(el:Nat)->Bool->(n d:Nat)->E AV d->bB} {v:AV} (e:AU h b f= .ok v h'):∃el ro n d t,h.get b=some (.cells el ro n d t)/\f el ro n d t= .ok v h':=by
 unfold AU at e;cases hb:h.get b with
 |none=>rw[hb]at e;cases e
 |some x=>rw[hb]at e;cases x<;>first|(cases e;done)|exact⟨_,_,_,_,_,rfl,e⟩
theorem qR {f:H->Nat->Nat->bB} {a v:AV} (e:L9 f a h= .ok v h'):∃b o,a= .ptr b o/\f h b o= .ok v h':=by
 unfold L9 at e;cases ha:toP a with
 |none=>rw[ha]at e;cases e
 | «at» b o=>rw[ha]at e;exact⟨b,o,toP_at ha,e⟩
theorem WR.lt (k:WR ι h w D) {b:Nat} {m:Nm} (e:ι b=some m):b<h.next:=by
 rcases aF b h.next with c|c;·exact c
 ·rw[k.fresh b c]at e;cases e
theorem WR.cells (k:WR ι h w D) {b:Nat} (hD:D b) {m:Nm} (e:ι b=some m) {el:Nat} {ro:Bool} {n d:Nat} {t:E AV d} (hb:h.get b=some (.cells el ro n d t)):
 ∃arr iV lo hi,w.heap[m.B]? =some (.cells arr iV (lo,hi))/\arr.size=m.cs/\m.sh+n<=m.cs/\n<=4^d/\
  (∀i,i<n->VR ι (E.get d (path d i) t) (arr.getD (m.sh+i) undef))/\((ro=false->iV=el/\(lo=hi\/m.cs<=lo))/\(12<=d->m.sh=0)/\(ro=true->2000000<=el->iV=el-2000000/\(lo=hi\/hi<=m.sh+n))):=by
 obtain⟨m',o,h1,h2,h3⟩:=k.blk b _ hD (k.lt e) hb;rw[e]at h1;cases h1;obtain⟨arr,iV,lo,hi,rfl,r⟩:=h3;exact⟨arr,iV,lo,hi,h2,r⟩
theorem Xp (hg:jP P g) (k:WR ι h w D) {t:TypeId} {y:Ty} (ht:g.ty t=some y) {a v:AV} {va:Value} (ha:VR ι a va) (hD:∀b∈aM a,D b)
 (e:(qd y.agg y.size).f a h= .ok v h'):aH P ι h w (Instr.loadAt t va) v h':=by
 obtain⟨hd,hag,i,z,hi,hs,_,_,_⟩:=hg.ty _ _ ht;cases hy:y.agg
 ·rw[hy]at e;have e:L9 Sz a h= .ok v h':=e;obtain⟨b,o,rfl,e⟩:=qR e;obtain⟨m,hm,rfl⟩:=ha;obtain⟨el,ro,n,d,tr,hb,e⟩:=lg e;obtain⟨arr,iV,lo,hi',hw,h1,h2,_,h4,_⟩:=k.cells (hD b (by simp[aM])) hm hb;cases hlt:Nat.ble (Nat.succ o) n
  ·rw[hlt]at e;cases e
  ·rw[hlt]at e;rw[aD]at hlt;have hlt:o<n:=hlt;refine aH.sQ k e ?_ (h4 o hlt);simp only[Instr.loadAt,Instr.sureAddr,Sem.run_bind,Sem.run_pure,Result.andThen_ok,loadVar,zN hd,<-hag,hy,aZ,jq];exact AX hw (by omega)
 ·rw[hy]at e;have e:L9 (SA y.size) a h= .ok v h':=e;obtain⟨b,o,rfl,e⟩:=qR e;obtain⟨m,hm,rfl⟩:=ha;obtain⟨el,ro,n,d,tr,hb,e⟩:=lg e;obtain⟨arr,iV,lo,hi',hw,h1,h2,_,h4,_⟩:=k.cells (hD b (by simp[aM])) hm hb;cases hlt:Nat.ble (Nat.add o y.size) n
  ·rw[hlt]at e;cases e
  ·rw[hlt]at e;rw[aD]at hlt;have hlt:o+y.size<=n:=hlt;cases e;refine aH.ret k (v':= .agg (((List.range y.size).map λj=>arr.getD (m.sh+o+j) undef).toArray)) ?_ ⟨_,rfl,?_⟩
   ·simp only[Instr.loadAt,Instr.sureAddr,Sem.run_bind,Sem.run_pure,Result.andThen_ok,loadVar,zN hd,<-hag,hy,if_true,dz hi,hs];rw[eU hw (by omega)];rfl
   ·exact l7 y.size o λj h1 h2=>h4 j (by omega)
end
section
variable {P:Program} {g:G} {ι:aV} {h h':H} {w:World} {D:Nat->Prop}
theorem Loc.zO (k:WR ι h w D) {b:Nat} (hD:D b) {m:Nm} (hm:ι b=some m) {el n d:Nat} {t t':E AV d} (hb:h.get b=some (.cells el false n d t))
 {arr arr':Array Value} {iV lo hi:Nat} (hw:w.heap[m.B]? =some (.cells arr iV (lo,hi))) (hsz:arr'.size=arr.size)
 (hv:∀i,i<n->VR ι (E.get d (path d i) t') (arr'.getD (m.sh+i) undef)):
 Loc ι h w ι (h.set b (.cells el false n d t')) (World.putCells w m.B arr' iV (lo,hi)) [b]:=by
 obtain⟨akW,el0,lo0,hi0,hw0,h1,h2,h3,_,h5⟩:=k.cells hD hm hb;rw[hw]at hw0;cases hw0;have hB:m.B<w.heap.size:=(dM.1 hw).1;refine Loc.mkSet k (k.lt hm) hb m hm (.cells arr' iV (lo,hi)) (by simp[World.putCells]) (λi _ hne=> ?_) (fF hB) ?_ rfl rfl rfl;·simp only[World.putCells];rw[jF (λe=>hne e.symm)]
 ·exact⟨arr',iV,lo,hi,rfl,by omega,h2,h3,hv,h5⟩
theorem tq (arr:Array Value) {i:Nat} (v:Value) (hi:i<arr.size):(arr.setIfInBounds i v).getD i undef=v:=by simp[Array.getD,hi]
theorem getD_set_ne (arr:Array Value) {i j:Nat} (v:Value) (hij:i≠j):(arr.setIfInBounds i v).getD j undef=arr.getD j undef:=by rw[gJ,jF hij,gJ]
theorem SB {x:Value} (hx:x.cells=#[x]):x.cells.size=1:=by rw[hx];rfl
theorem SC (hg:jP P g) (k:WR ι h w D) {t:TypeId} {y:Ty} (ht:g.ty t=some y) {a x v:AV} {va vx:Value} (ha:VR ι a va) (hx:VR ι x vx) (hD:∀b∈aM a,D b)
 (e:(Dj y.agg y.size).f a x h= .ok v h'):v= .fT .nil/\Dh P ι h w (Instr.storeAt t va vx) h':=by
 obtain⟨hd,hag,i,z,hi,hs,_,_,_⟩:=hg.ty _ _ ht;unfold Dj at e;have two:(Bool.rec (Bz (Nat.beq y.size (nat_lit 1))) true y.agg:Bool)=false->y.size=1:=λc=>by
  cases hy:y.agg
  ·rw[hy]at c;cases hc:Nat.beq y.size (nat_lit 1)
   ·rw[hc]at c;cases c
   ·exact aI hc
  ·rw[hy]at c;cases c
 cases hc:(Bool.rec (Bz (Nat.beq y.size (nat_lit 1))) true y.agg:Bool)
 ·have h1:=two hc;rw[hc]at e;have e:L9 (SE x) a h= .ok v h':=e;obtain⟨b,o,rfl,e⟩:=qR e;obtain⟨m,hm,rfl⟩:=ha;obtain⟨el,ro,n,d,tr,hb,e⟩:=lg e;have ZA:=hD b (by simp[aM]);obtain⟨arr,iV,lo,hi',hw,h1',h2,h3,h4,h5⟩:=k.cells ZA hm hb;cases ho:one x
  ·rw[ho]at e;cases e
  rw[ho]at e;cases hlt:Nat.ble (Nat.succ o) n;·rw[hlt]at e;cases e
  rw[hlt]at e;cases hro:ro
  ·subst hro;cases e;rw[aD]at hlt;have hlt:o<n:=hlt;obtain⟨hone,hcs,_⟩:=Md hx ho;refine⟨rfl,ι,World.putCells w m.B (arr.setIfInBounds (m.sh+o) vx) iV (lo,hi'),[b],?_,?_⟩
   ·simp only[Instr.storeAt,Instr.sureAddr,Sem.run_bind,Sem.run_pure,Result.andThen_ok,storeVar,dz hi,hs,h1,hcs];have:=dU (P:=P) [vx] (m.sh+o) 0 arr w hw (by have:=(h5.1 rfl).2;omega) (by simp;omega) (by simpa using hone);simpa[nY]using this
   ·refine Loc.zO k ZA hm hb hw (by simp) λj hj=> ?_;by_cases hjo:j=o
    ·subst hjo;rw[E.cO,tq _ _ (by omega)];exact hx
    ·rw[E.eX _ _ _ _ (by omega) (by omega) (λc=>hjo c.symm),getD_set_ne _ _ (by omega)];exact h4 j hj
  ·rw[hro]at e;cases e
 ·rw[hc]at e;cases h0:Nat.beq y.size (nat_lit 0)
  ·rw[h0]at e;have e:L9 (SG y.size x) a h= .ok v h':=e;obtain⟨b,o,rfl,e⟩:=qR e;obtain⟨m,hm,rfl⟩:=ha;obtain⟨el,ro,n,d,tr,hb,e⟩:=lg e;have ZA:=hD b (by simp[aM]);obtain⟨arr,iV,lo,hi',hw,h1',h2,h3,h4,h5⟩:=k.cells ZA hm hb;cases ho:ones (cellsOf x)
   ·rw[ho]at e;cases e
   rw[ho]at e;cases hl:Nat.beq (llen (cellsOf x)) y.size;·rw[hl]at e;cases e
   rw[hl]at e;cases hlt:Nat.ble (Nat.add o y.size) n;·rw[hlt]at e;cases e
   rw[hlt]at e;cases hro:ro
   ·subst hro;cases e;rw[aD]at hlt;have hlt:o+y.size<=n:=hlt;have hl:=aI hl;obtain⟨l,hlr,hlx⟩:=wU hx;have hlen:=gq hlr;have hys:y.size≠0:=λc=>by rw[c]at h0;cases h0
    rcases hlx with hlx|hlx
    ·refine⟨rfl,ι,World.putCells w m.B (nY arr (m.sh+o) l) iV (lo,hi'),[b],?_,?_⟩
     ·have hcz:vx.cells.size=y.size:=by rw[<-jE,<-hlx];omega
      simp only[Instr.storeAt,Instr.sureAddr,Sem.run_bind,Sem.run_pure,Result.andThen_ok,storeVar,dz hi,hs];rw[if_neg (by simp[hcz]),<-hlx];exact dU (P:=P) l (m.sh+o) 0 arr w hw (by have:=(h5.1 rfl).2;omega) (by omega) (BM hlr ho)
     ·refine Loc.zO k ZA hm hb hw (ny _ _ _) λj hj=> ?_;rw[jT n h3 hlr o j tr (by omega) hj,qg _ _ _ _ (by omega)];by_cases hjo:o<=j/\j<o+l.length
      ·rw[au hjo,au (by omega),show m.sh+j-(m.sh+o)=j-o by omega];exact gu hlr _
      ·rw[aj hjo,aj (by omega)];exact h4 j hj
    ·rw[hlx]at hlen;simp at hlen;omega
   ·rw[hro]at e;cases e
  ·rw[h0]at e;cases e
theorem SH (hg:jP P g) (k:WR ι h w D) {t:TypeId} {y:Ty} (ht:g.ty t=some y) {v:AV}
 (e:(row t y.zero h λb h'=> .ok (.ptr b (nat_lit 0)) h')= .ok v h'):aH P ι h w (Instr.alloc t true (.tuple #[])) v h':=by
 obtain⟨hd,hag,i,z,hi,hs,_,hz,hzv,_⟩:=hg.ty _ _ ht;obtain⟨hr,hm,e⟩:=qQ e;cases e;refine⟨_,_,[],_,?_,BZ (m:=⟨w.heap.size,0,z.cells.size⟩) rfl,Loc.yj k hr w.drawn (l:=z.cells.toList) (cells:=z.cells) (by rw[hzv];exact mK ι _) hm ⟨[],by simp⟩⟩;simp only[Instr.alloc,newVar,Sem.run_bind,lq hi hz,Result.andThen_ok,gU,Sem.run_pure]
theorem Ql (hg:jP P g) (k:WR ι h w D) {t:TypeId} {y:Ty} (ht:g.ty t=some y) {v:AV}
 (e:(aaI t y.zero h λb h'=> .ok (.ptr b (nat_lit 0)) h')= .ok v h'):aH P ι h w (Instr.alloc t true (.tuple #[])) v h':=by
 obtain⟨hd,hag,i,z,hi,hs,_,hz,hzv,_⟩:=hg.ty _ _ ht;unfold aaI at e;split at e
 ·rename_i hr hm;cases e;have hr:=H.jX.1 hr;rw[aD]at hm;have hm:llen y.zero<=4000000:=hm;have hl:fQ ι y.zero z.cells.toList:=by rw[hzv];exact mK ι _
  have hlen:=gq hl;have hd:llen y.zero<=4^12:=by omega
  refine⟨_,_,[],_,?_,BZ (m:=⟨w.heap.size,0,z.cells.size⟩) rfl,Loc.zM (cells:=z.cells) k hr w.drawn (by rw[hlen];simp) hd λi hi=> ?_⟩;·simp only[Instr.alloc,newVar,Sem.run_bind,lq ‹_› hz,Result.andThen_ok,gU,Sem.run_pure]
  ·rw[Fa,jT (llen y.zero) hd hl 0 i _ (by omega) hi,au (by omega),mJ];have:=gu hl i;rw[gJ,<-dN,<-aG];exact this
 ·cases e
theorem aaJ (k:WR ι h w D) {t:TypeId} {x v:AV} {vx:Value} (hx:VR ι x vx)
 (e:(row t (cellsOf x) h λb h'=> .ok (.ptr b (nat_lit 0)) h')= .ok v h'):aH P ι h w (Instr.box t vx) v h':=by
 obtain⟨hr,hm,e⟩:=qQ e;cases e;obtain⟨l,hl,hlx⟩:=wU hx;refine⟨_,_,[],_,?_,BZ (m:=⟨w.heap.size,0,vx.cells.size⟩) rfl,Loc.yj k hr w.drawn (l:=l) (cells:=vx.cells) hl hm ?_⟩;·simp only[Instr.box,newVar,Sem.run_bind,gU,Result.andThen_ok,Sem.run_pure]
 ·rcases hlx with hlx|hlx
  ·exact⟨[],by rw[hlx];simp⟩
  ·exact⟨vx.cells.toList,by rw[hlx];rfl⟩
theorem ag6 {a:AV} (h1:isL a=true):a= .nil\/∃x y,a= .cons x y/\isL y=true:=by cases a<;>first|(cases h1;done)|exact .inl rfl|exact .inr ⟨_,_,rfl,h1⟩
theorem Oz (hg:jP P g) (k:WR ι h w D) {t:TypeId} {y:Ty} (ht:g.ty t=some y) {cs v:AV} {off:Nat} {xs:Array Value} (hx:fQ ι cs xs.toList)
 (e:JB y.agg y.size off cs h= .ok v h'):aH P ι h w (part t xs off) v h':=by
 obtain⟨hd,hag,i,z,hi,hs,_⟩:=hg.ty _ _ ht;unfold JB at e;split at e
 ·rename_i hy;split at e
  ·rename_i hle;cases e;rw[aD]at hle;refine aH.ret k (v':= .agg (xs.extract off (off+y.size))) ?_ ⟨_,rfl,?_⟩
   ·simp only[part,Sem.run_bind,zN hd,<-hag,hy,Result.andThen_ok,if_true,dz hi,hs,Sem.run_pure]
   ·have:=Db (Dc hx off) y.size;rw[Array.toList_extract,List.extract_eq_take_drop];rw[uW];exact this
  ·cases e
 ·rename_i hy;obtain⟨e1,e2,hv⟩:=pz e;subst e2;have hl:=gu hx off;rw[<-e1]at hl;have hlt:off<xs.size:=by
   rcases aF off xs.size with c|c;·exact c
   ·exfalso;apply hv;have:∀(a:AV) (l:List Value),fQ ι a l->∀o,l.length<=o->Bw a o= .bad:=iW (λ_ _=>rfl) (λa t x xs _ _ ih o ho=>by
     cases o with
     |zero=>simp at ho
     |succ o=>exact ih o (by simpa using ho))
    exact this cs _ hx off (by simpa using c)
  refine aH.ret k (v':=xs.toList.getD off undef) ?_ hl;simp only[part,Sem.run_bind,zN hd,<-hag,hy,Result.andThen_ok,aZ,jq];rw[l6 hlt];simp[hlt]
end
theorem Xq:∀(l:List Value) (arr:Array Value) (o:Nat),o+l.length<=arr.size->(nY arr o l).toList=arr.toList.take o++l++arr.toList.drop (o+l.length):=by
 intro l arr o ho;apply yw;intro i;have hs:(nY arr o l).size=arr.size:=ny _ _ _;have hsl:arr.toList.length=arr.size:=by simp
 rcases aF i arr.size with hi|hi
 ·have h1:(nY arr o l).toList[i]? =some ((nY arr o l).getD i undef):=by rw[dN,gJ,l6 (by omega)];rfl
  rw[h1,qg o i l arr hi];have hta:(arr.toList.take o).length=o:=by rw[jh];omega
  by_cases h2:o<=i/\i<o+l.length;·rw[au h2,pF (by rw[bV,hta];omega),pG (by omega),hta,aG,aS (by omega)];rfl
  ·rw[aj h2];have h3:arr[i]? =some (arr.getD i undef):=by rw[gJ,l6 hi];rfl
   rcases aF i o with h4|h4;·rw[iL,pF (by omega),List.getElem?_take_of_lt h4,dN,h3]
   ·rw[pG (by rw[bV,hta];omega),bV,hta,List.getElem?_drop,dN,show o+l.length+(i-(o+l.length))=i by omega,h3]
 ·rw[wV (by simp;omega),wV];simp only[bV,jh,gP];omega
theorem foldl_layA (o:Nat):∀(l:List Value) (j:Nat) (arr:Array Value),(l.zipIdx j).foldl (λcs (c,i)=>cs.setIfInBounds (o+i) c) arr=nY arr (o+j) l
 |[],_,_=>rfl
 |v::r,j,arr=>by rw[List.zipIdx_cons,pE,foldl_layA o r (j+1)];rfl
section
variable {P:Program} {g:G} {ι:aV} {h h':H} {w:World} {D:Nat->Prop}
theorem SI {cs v:AV} {off:Nat} {arr:Array Value} {l:List Value} (hc:fQ ι cs arr.toList) (hv:fQ ι v l) (ho:off+l.length<=arr.size):fQ ι (qh cs off v) (nY arr off l).toList:=by rw[Xq l arr off ho];unfold qh;rw[iL];have hl:=gq hv;refine mI (Db hc off) (mI hv ?_);rw[<-hl];exact Dc hc _
theorem fill_ok {n:Nat} {en:Env} {a:Go.Act} (hE:fU ι n en a.tmps) (hG:GI ι) {pl:Nat->Option (Nat×Nat)}:∀(ps:List (Nat×Operand)) (cs:AV) (arr:Array Value),
 (ps.all λp=>aC n p.2)=true->fQ ι cs arr.toList->isL (fillA pl en ps cs)=true->
 ∃arr',Instr.fill pl arr (ps.map λp=>(p.1,a.eval p.2))=some arr'/\fQ ι (fillA pl en ps cs) arr'.toList
 |[],cs,arr,_,hc,_=>⟨arr,rfl,hc⟩
 |(i,x)::r,cs,arr,hp,hc,hL=>by
  simp only[uX,aQ]at hp;have e:fillA pl en ((i,x)::r) cs=match pl i with
   |some (off,size)=>match Nat.beq (llen (cellsOf ((ev x).f en))) size,Nat.ble (Nat.add off size) (llen cs),Bz (Nat.beq size (nat_lit 0))with
    |true,true,true=>fillA pl en r (qh cs off (cellsOf ((ev x).f en)))
    |_,_,_=> .bad
   |none=> .bad:=rfl
  rw[e]at hL⊢;split at hL
  ·rename_i off size hpl;split at hL
   ·rename_i h1 h2 h3;have h1:=aI h1;rw[aD]at h2;rw[uU]at h3;obtain⟨l,hl,hlx⟩:=wU (aX hE hG x hp.1);have hlen:=gq hl;have hcl:=gq hc;have hsz:size≠0:=λc=>by rw[c]at h3;cases h3
    have h2:off+size<=llen cs:=h2;rcases hlx with hlx|hlx
    ·have hcz:(a.eval x).cells.size=size:=by rw[<-jE,<-hlx];omega
     have ho:off+l.length<=arr.size:=by rw[<-jE];omega
     obtain⟨arr',h4,h5⟩:=fill_ok hE hG (pl:=pl) r (qh cs off (cellsOf ((ev x).f en))) (nY arr off l) hp.2 (SI hc hl ho) hL;refine⟨arr',?_,h5⟩;rw[jD,Instr.fill,hpl];simp only;rw[aj (by rw[hcz];simp;rw[<-jE];omega)];have:(a.eval x).cells.zipIdx.foldl (λcs (c,j)=>cs.setIfInBounds (off+j) c) arr=nY arr off l:=by rw[<-Array.foldl_toList,Array.toList_zipIdx,<-hlx];exact foldl_layA off l 0 arr
     rw[this];exact h4
    ·rw[hlx]at hlen;simp at hlen;omega
   ·cases hL
  ·cases hL
theorem flat_get (z:List Value):∀(m i:Nat),i<m*z.length->((List.replicate m z).flatten)[i]? =z[i%z.length]?
 |0,i,hi=>by simp at hi
 |m+1,i,hi=>by
  rw[List.replicate_succ,List.flatten_cons];rcases aF i z.length with c|c;·rw[pF c,kY c]
  ·rw[pG c,flat_get z m (i-z.length) (by rw[fD]at hi;omega)];rw[<-Nat.mod_eq_sub_mod c]
theorem flat_len (z:List Value) (m:Nat):((List.replicate m z).flatten).length=m*z.length:=by rw[List.length_flatten];simp
theorem SK (zero:Array Value) (m n:Nat) (hn:n=m*zero.size):((Array.range n).map (λi=>zero[i%zero.size]!)).toList=(List.replicate m zero.toList).flatten:=by
 apply yw;intro i;rcases aF i n with c|c
 ·have hz:0<zero.size:=by
   rcases jG zero.size with e|e;·rw[e]at hn;omega
   ·exact e
  rw[flat_get _ _ _ (by rw[jE];omega),jE,dN];have hm:i%zero.size<zero.size:=Nat.mod_lt _ hz;rw[dN,Array.getElem?_map,Array.getElem?_range,au c];simp[hm]
 ·rw[wV (by simp;omega),wV (by rw[flat_len,jE];omega)]
theorem FL (hg:jP P g) {t:TypeId} {y:Ty} (ht:g.ty t=some y) (m:Nat):∃i z,P.info? t=some i/\i.size=y.size/\i.bytes=y.bytes/\i.zero=some z/\z.cells.size=y.size/\
 fQ ι (Hg y.zero m) ((Array.range (m*y.size)).map (λi=>z.cells[i%z.cells.size]!)).toList:=by
 obtain⟨_,_,i,z,hi,hs,hb,hz,hzv,hzs,_⟩:=hg.ty _ _ ht;refine⟨i,z,hi,hs,hb,hz,hzs,?_⟩;rw[SK z.cells m _ (by rw[hzs]),hzv];exact Hf (mK ι _) m
theorem sI (hg:jP P g) (w:World):∀(fs:List Field),(fs.all λf=>(g.ty f.type).isSome)=true->
 (fs.mapM λf=>do pure (f.offset,<-sizeOf f.type):Sem (List (Nat×Nat))).run P w= .ok (fs.map λf=>(f.offset,match g.ty f.type with|some z=>z.size|none=>0)) w
 |[],_=>rfl
 |f::r,hf=>by simp only[uX,aQ]at hf;obtain⟨y,hy⟩:=tu.1 hf.1;obtain⟨_,_,i,z,hi,hs,_⟩:=hg.ty _ _ hy;rw[List.mapM_cons];simp only[Sem.run_bind,dz hi,Result.andThen_ok,Sem.run_pure,sI hg w r hf.2,jD,hy,hs]
theorem SN (hg:jP P g) (k:WR ι h w D) {n:Nat} {en:Env} {a:Go.Act} (hE:fU ι n en a.tmps) (hG:GI ι) {t:TypeId} {y:Ty} (ht:g.ty t=some y) {ps:Array (Nat×Operand)} {v:AV}
 (hp:(ps.toList.all λp=>aC n p.2)=true) (hpl:JC g y.desc=true)
 (e:yx (fillA (placesOf g y) en ps.toList y.zero) h= .ok v h'):aH P ι h w (Instr.build t (ps.map λp=>(p.1,a.eval p.2))) v h':=by
 obtain⟨hd,hag,i,z,hi,hs,_,hz,hzv,_⟩:=hg.ty _ _ ht;unfold yx at e;split at e
 ·rename_i hL;cases e;obtain⟨arr',h1,h2⟩:=fill_ok hE hG (pl:=placesOf g y) ps.toList y.zero z.cells hp (by rw[hzv];exact mK ι _) hL;refine aH.ret k (v':= .agg arr') ?_ ⟨_,rfl,h2⟩;simp only[Instr.build,Sem.run_bind,lq hi hz,Result.andThen_ok,aB hd,mM];cases hdd:y.desc with
  |struct fs=>
   rw[hdd]at hpl;simp only;have hm:=sI hg w fs.toList hpl;have hma:(fs.mapM λf=>do pure (f.offset,<-sizeOf f.type):Sem (Array (Nat×Nat))).run P w= .ok (fs.map λf=>(f.offset,match g.ty f.type with|some z=>z.size|none=>0)) w:=by rw[Array.mapM_eq_mapM_toList];rw[map_eq_pure_bind];simp only[Sem.run_bind,hm,Result.andThen_ok,Sem.run_pure];congr 1;apply Array.ext';simp
   simp only[Sem.run_bind,hma,Result.andThen_ok];have Mf:placesOf g y=λi=>(fs.map λf=>(f.offset,match g.ty f.type with|some z=>z.size|none=>0))[i]? :=by
    funext i;unfold placesOf;rw[hdd];simp only[Array.getElem?_map];cases hfi:fs[i]? with
    |none=>rfl
    |some fd=>
     have hmem:fd∈fs.toList:=by rw[<-dN]at hfi;exact pI hfi
     have:=dZ.1 hpl fd hmem;obtain⟨y',hy'⟩:=tu.1 this;simp[hy']
   rw[<-Mf,h1];rfl
  |array len el=>
   rw[hdd]at hpl;obtain⟨y',hy'⟩:=tu.1 hpl;obtain⟨_,_,i',z',hi',hs',_⟩:=hg.ty _ _ hy';simp only[Sem.run_bind,dz hi',Result.andThen_ok];have Mf:placesOf g y=λi=>some (i*i'.size,i'.size):=by funext i;unfold placesOf;rw[hdd];simp only[hy',hs'];rfl
   rw[<-Mf,h1];rfl
  |_=>rw[hdd]at hpl;cases hpl
 ·cases e
theorem fields_ok (hg:jP P g) (k:WR ι h w D) {s:TypeId} {y yf:Ty} {fs:Array Field} {f:Nat} {fd:Field} (hs:g.ty s=some y) (hd:y.desc= .struct fs) (hf:fs[f]? =some fd) (hy:g.ty fd.type=some yf)
 {cs v:AV} {vx:Value} (hx:VR ι (.agg cs) vx) (e:JB yf.agg yf.size fd.offset cs h= .ok v h'):aH P ι h w (Instr.field s vx f) v h':=by
 obtain⟨xs,rfl,hxs⟩:=hx;obtain⟨ι',w',W,v',h1,h2⟩:=Oz hg k hy hxs e;refine⟨ι',w',W,v',?_,h2⟩;simp only[Instr.field,Sem.run_bind,aB (hg.ty _ _ hs).1,hd,Result.andThen_ok,hf,asAgg,Sem.run_pure,h1]
theorem fieldAddr_ok (hg:jP P g) (k:WR ι h w D) {s:TypeId} {y yf:Ty} {fs:Array Field} {f:Nat} {fd:Field} (hs:g.ty s=some y) (hd:y.desc= .struct fs) (hf:fs[f]? =some fd) (hy:g.ty fd.type=some yf) (hz:yf.size≠0)
 {x v:AV} {vx:Value} (hx:VR ι x vx) (e:L9 (fieldA fd.offset) x h= .ok v h'):aH P ι h w (Instr.fieldAt s vx f) v h':=by
 obtain⟨b,o,rfl,e⟩:=qR e;cases e;obtain⟨m,hm,rfl⟩:=hx;obtain⟨_,_,i,z,hi,hsz,_⟩:=hg.ty _ _ hy;refine aH.ret k (v':= .pointer (some ⟨m.B,m.sh+(o+fd.offset),none⟩)) ?_ ⟨m,hm,rfl⟩;simp only[Instr.fieldAt,Sem.run_bind,aB (hg.ty _ _ hs).1,hd,Result.andThen_ok,hf,Instr.sureAddr,Sem.run_pure,fieldPlace,dz hi,hsz];rw[aj hz];simp only[Sem.run_pure,Result.andThen_ok,addr_add,l8]
end
section
variable {P:Program} {g:G} {ι:aV} {h h':H} {w:World} {D:Nat->Prop}
theorem Ca {f:Nat->bB} {i v:AV} (e:onN f i= .ok v h'):∃kd n,i= .int kd (Int.ofNat n)/\f n= .ok v h':=by
 unfold onN at e;cases hi:toI i with
 |none=>rw[hi]at e;cases e
 |nn kd n=>rw[hi]at e;exact⟨kd,n,toI_nn hi,e⟩
 |ng kd n=>rw[hi]at e;cases e
theorem Xr (hg:jP P g) (k:WR ι h w D) {t el:TypeId} {y ye:Ty} (ht:g.ty t=some y) (hd:y.desc= .slice el) (he:g.ty el=some ye) {x i v:AV} {vx vi:Value} (hx:VR ι x vx) (hi:VR ι i vi)
 (e:SQ ye.size x i h= .ok v h'):aH P ι h w (Instr.indexAt t vx vi) v h':=by
 unfold SQ at e;cases hl:toL x with
 |none=>rw[hl]at e;cases e
 |nil=>rw[hl]at e;cases e
 | «at» b off len es z=>
   rw[hl]at e;obtain⟨kd,n,ei,e1⟩:=Ca e;clear e;subst ei;have e:=e1;clear e1;obtain rfl:=toL_at hl;obtain⟨m,ya,cap,hm,rfl,hcap,_,hy⟩:=hx;cases hi;cases hlt:Nat.ble (Nat.succ n) len;·rw[hlt]at e;cases e
   ·rw[hlt]at e;cases e;rw[aD]at hlt;have hlt:n<len:=hlt;obtain⟨_,_,i',z',hi',hs',_⟩:=hg.ty _ _ he;rcases hy with hy|⟨hy,_⟩
    ·omega
    ·subst hy;refine aH.ret k (v':= .pointer (some ⟨m.B,m.sh+(off+n*ye.size),none⟩)) ?_ ⟨m,hm,rfl⟩;have hb:(0:Int)<=Int.ofNat n/\Int.ofNat n<(len:Int):=⟨by simp,by simp;omega⟩
     simp only[Instr.indexAt,asIntOf,Sem.run_bind,Sem.run_pure,Result.andThen_ok,aB (hg.ty _ _ ht).1,hd];rw[au hb];simp only[Sem.run_bind,dz hi',Result.andThen_ok,Sem.run_pure,addr_add,hs'];simp[Nat.add_assoc]
theorem Xt (hg:jP P g) (k:WR ι h w D) {t el:TypeId} {len:Nat} {y ye:Ty} (ht:g.ty t=some y) (hd:y.desc= .array len el) (he:g.ty el=some ye) {x i v:AV} {vx vi:Value} (hx:VR ι x vx) (hi:VR ι i vi)
 (e:SS len ye.size x i h= .ok v h'):aH P ι h w (Instr.indexAt t vx vi) v h':=by
 unfold SS at e;cases hl:toP x with
 |none=>rw[hl]at e;cases e
 | «at» b off=>
   rw[hl]at e;obtain⟨kd,n,ei,e1⟩:=Ca e;clear e;subst ei;have e:=e1;clear e1;obtain rfl:=toP_at hl;obtain⟨m,hm,rfl⟩:=hx;cases hi;cases hlt:Nat.ble (Nat.succ n) len;·rw[hlt]at e;cases e
   ·rw[hlt]at e;cases e;rw[aD]at hlt;have hlt:n<len:=hlt;obtain⟨_,_,i',z',hi',hs',_⟩:=hg.ty _ _ he;refine aH.ret k (v':= .pointer (some ⟨m.B,m.sh+(off+n*ye.size),none⟩)) ?_ ⟨m,hm,rfl⟩;have hb:(0:Int)<=Int.ofNat n/\Int.ofNat n<(len:Int):=⟨by simp,by simp;omega⟩
    simp only[Instr.indexAt,asIntOf,Sem.run_bind,Sem.run_pure,Result.andThen_ok,aB (hg.ty _ _ ht).1,hd,Instr.sureAddr];rw[au hb];simp only[Sem.run_bind,dz hi',Result.andThen_ok,Sem.run_pure,addr_add,hs'];simp[Nat.add_assoc]
theorem aaK (s:ByteArray) (n:Nat) (hn:n<s.size):s[n]? =some (s.data.toList[n]'(by simpa using hn)):=by rw[ByteArray.getElem?_lt' s n hn];rfl
theorem Qm (hg:jP P g) (k:WR ι h w D) {t:TypeId} {y:Ty} (ht:g.ty t=some y) (hd:y.desc= .string) {x i v:AV} {vx vi:Value} (hx:VR ι x vx) (hi:VR ι i vi)
 (e:Dk x i h= .ok v h'):aH P ι h w (Instr.index t vx vi) v h':=by
 unfold Dk at e;cases hl:toS x with
 |none=>rw[hl]at e;cases e
 |some s=>
  rw[hl]at e;obtain⟨kd,n,ei,e1⟩:=Ca e;clear e;subst ei;have e:=e1;clear e1;obtain rfl:=toS_some hl;obtain⟨b,rfl,rfl⟩:=hx;cases hi;cases hlt:Nat.ble (Nat.succ n) (Str.of b).len;·rw[hlt]at e;cases e
  ·rw[hlt]at e;simp only[oq]at e;cases e;rw[aD,Str.eY]at hlt;have hlt:n<b.size:=hlt;refine aH.ret k (v':= .int .u8 (b.data.toList[n]'(by simpa using hlt)).toNat) ?_ (by rw[Str.xY b n hlt];rfl);simp only[Instr.index,asIntOf,Sem.run_bind,Sem.run_pure,Result.andThen_ok,aB (hg.ty _ _ ht).1,hd];have:(0:Int)<=Int.ofNat n:=by simp
   rw[au this];have e2:(Int.ofNat n).toNat=n:=rfl;rw[e2,aaK b n hlt];rfl
theorem Qn (hg:jP P g) (k:WR ι h w D) {t el:TypeId} {len:Nat} {y ye:Ty} (ht:g.ty t=some y) (hd:y.desc= .array len el) (he:g.ty el=some ye) {x i v:AV} {vx vi:Value} (hx:VR ι x vx) (hi:VR ι i vi)
 (e:Mg len ye.agg ye.size x i h= .ok v h'):aH P ι h w (Instr.index t vx vi) v h':=by
 unfold Mg at e;obtain⟨kd,n,ei,e1⟩:=Ca e;clear e;subst ei;have e:=e1;clear e1;cases hi;split at e
 ·rename_i cs;split at e
  ·rename_i hlt;rw[aD]at hlt;have hlt:n<len:=hlt;obtain⟨xs,rfl,hxs⟩:=hx;obtain⟨ι',w',W,v',h1,h2⟩:=Oz hg k he hxs e;obtain⟨_,_,i',z',hi',hs',_⟩:=hg.ty _ _ he;refine⟨ι',w',W,v',?_,h2⟩;have hb:(0:Int)<=Int.ofNat n/\Int.ofNat n<(len:Int):=⟨by simp,by simp;omega⟩
   simp only[Instr.index,asIntOf,Sem.run_bind,Sem.run_pure,Result.andThen_ok,aB (hg.ty _ _ ht).1,hd];rw[au hb];simp only[Sem.run_bind,dz hi',Result.andThen_ok,hs'];exact h1
  ·cases e
 ·cases e
theorem zQ {f:Nat->bB} {i v:AV} (e:Dl .fail f i= .ok v h'):∃kd n,i= .int kd (Int.ofNat n)/\f n= .ok v h':=by
 unfold Dl at e;split at e;·exact⟨_,_,rfl,e⟩
 ·cases e
section
variable {n:Nat} {en:Env} {a:Go.Act}
theorem jo (hE:fU ι n en a.tmps) (hG:GI ι) {x:Option Operand} (hx:(match x with|some o=>aC n o|none=>true)=true) {d:Nat} {f:Nat->bB} {v:AV} (e:qj en x d f= .ok v h'):
 ∃m,f m= .ok v h'/\((x=none/\m=d)\/∃o kd,x=some o/\a.eval o= .int kd (Int.ofNat m)):=by
 unfold qj at e;split at e;·exact⟨d,e, .inl ⟨rfl,rfl⟩⟩
 ·rename_i o;obtain⟨kd,m,ho,e⟩:=zQ e;have:=aX hE hG o hx;rw[ho]at this;exact⟨m,e, .inr ⟨o,kd,rfl,this⟩⟩
end
theorem zR {kd:IntKind} {m y:Nat} (c:BoundsCode) (hm:m<=y) (w:World):(Instr.sliceBound (.int kd (Int.ofNat m)) y c).run P w= .ok m w:=by
 have hb:(0:Int)<=Int.ofNat m/\Int.ofNat m<=(y:Int):=⟨by simp,by simp;omega⟩
 simp only[Instr.sliceBound,asIntOf,Sem.run_bind,Sem.run_pure,Result.andThen_ok];rw[au hb];rfl
theorem qU {ρ:Operand->Value} {isS:Bool} {len cap l u m:Nat} {lo hi mx:Option Operand}
 (hm:(mx=none/\m=cap)\/∃o kd,mx=some o/\ρ o= .int kd (Int.ofNat m))
 (hu:(hi=none/\u=len)\/∃o kd,hi=some o/\ρ o= .int kd (Int.ofNat u))
 (hl:(lo=none/\l=0)\/∃o kd,lo=some o/\ρ o= .int kd (Int.ofNat l))
 (hmh:mx.isSome=true->hi.isSome=true) (h1:l<=u) (h2:u<=m) (h3:m<=cap) (w:World):
 (Instr.sliceBounds isS len cap (lo.map ρ) (hi.map ρ) (mx.map ρ)).run P w= .ok (l,u,m) w:=by
 rcases hm with⟨rfl,rfl⟩|⟨om,km,rfl,hm⟩ <;> rcases hu with⟨rfl,rfl⟩|⟨ou,ku,rfl,hu⟩ <;> rcases hl with⟨rfl,rfl⟩|⟨ol,kl,rfl,hl⟩ <;>
 first
  |(exfalso;simp at hmh;done)
  |(simp only[Instr.sliceBounds,Option.map_none,Option.map_some,Sem.run_bind,Sem.run_pure,Result.andThen_ok, *,zR _ h1,zR _ h2,zR _ h3])
section
variable {n:Nat} {en:Env} {a:Go.Act}
theorem SV (hE:fU ι n en a.tmps) (hG:GI ι) (hg:jP P g) (k:WR ι h w D) {t el:TypeId} {y ye:Ty} (ht:g.ty t=some y) (hd:y.desc= .slice el) (he:g.ty el=some ye) {x:Operand} {lo hi mx:Option Operand} {v:AV}
 (hx:aC n x=true) (hlo:(match lo with|some o=>aC n o|none=>true)=true) (hhi:(match hi with|some o=>aC n o|none=>true)=true) (hmx:(match mx with|some o=>aC n o|none=>true)=true)
 (hmh:aaL hi mx=true)
 (e:(Dm ye.size (ev x) lo hi mx).f en h= .ok v h'):aH P ι h w (Instr.sliceAt t (a.eval x) (lo.map a.eval) (hi.map a.eval) (mx.map a.eval)) v h':=by
 have hv:=aX hE hG x hx;have adp:mx.isSome=true->hi.isSome=true:=by cases mx<;>cases hi<;>simp_all [aaL]
 obtain⟨_,_,i',z',hi',hs',_⟩:=hg.ty _ _ he;have e:(match(ev x).f en with
  | .slice b off len es' z=>qj en mx len λm=>qj en hi len λu=>qj en lo (nat_lit 0) λl=>
   match Nat.ble l u,Nat.ble u m,Nat.ble m len,Nat.beq ye.size es' with
   |true,true,true,true=> .ok (.slice b (Nat.add off (Nat.mul l ye.size)) (Nat.sub u l) ye.size (mxz mx z m l)) h
   |_,_,_,_=> .fail
  | .jm=>qj en mx (nat_lit 0) λm=>qj en hi (nat_lit 0) λu=>qj en lo (nat_lit 0) λl=>
   match Nat.add m (Nat.add u l)with
   |0=> .ok .jm h
   |_=> .fail
  |_=>bB.fail)= .ok v h':=e
 generalize hxe:(ev x).f en=xa at e hv;generalize hxv:a.eval x=xv at hv;have wW:=aB (hg.ty _ _ ht).1;rw[hd]at wW;split at e
 ·rename_i b off len es' z;obtain⟨m,e1,hm⟩:=jo hE hG hmx e;clear e;obtain⟨u,e2,hu⟩:=jo hE hG hhi e1;clear e1;obtain⟨l,e3,hl⟩:=jo hE hG hlo e2;clear e2;obtain⟨mm,ya,cap,hmm,rfl,hcap,hz,hy⟩:=hv;split at e3
  ·rename_i h1 h2 h3 h4;cases e3;rw[aD]at h1 h2 h3;have h4:=aI h4;subst h4;let m':=match mx with|none=>cap|some _=>m
   have hm':(mx=none/\m'=cap)\/∃o kd,mx=some o/\a.eval o= .int kd (Int.ofNat m'):=by
    rcases hm with⟨rfl,_⟩|⟨o,kd,rfl,ho⟩
    ·exact .inl ⟨rfl,rfl⟩
    ·exact .inr ⟨o,kd,rfl,ho⟩
   have hmc:u<=m'/\m'<=cap:=by
    rcases hm with⟨rfl,rfl⟩|⟨o,kd,rfl,ho⟩
    ·exact⟨by show u<=cap;omega,ay _⟩
    ·exact⟨h2,by show m<=cap;omega⟩
   have hrb:=qU (P:=P) (isS:=true) hm' hu hl adp h1 hmc.1 hmc.2 w;refine aH.ret k (v':= .slice (if m'=l then some ya else(some ya).map (·.add (l*ye.size))) (u-l) (m'-l)) ?_ ?_;·simp only[Instr.sliceAt,Sem.run_bind,wW,Result.andThen_ok,Instr.slice,hrb,dz hi',hs',Sem.run_pure]
   ·refine⟨mm,(if m'=l then ya else ya.add (l*ye.size)),m'-l,hmm,by split<;>rfl,(by have:=hmc.1;show u-l<=m'-l;omega),?_,?_⟩
    ·intro hz';rcases hm with⟨rfl,rfl⟩|⟨o,kd,rfl,ho⟩
     ·have:=hz hz';show cap-l=0;omega
     ·have:=aI hz';show m-l=0;omega
    ·rcases hy with hy|⟨hy,hb⟩
     ·left;omega
     ·by_cases hml:m'=l
      ·left;omega
      ·right;rw[aj hml,hy,addr_add];refine⟨by rw[l8];rfl,?_⟩;have h5:l*ye.size+(m'-l)*ye.size<=cap*ye.size:=by rw[<-fD];exact l9 _ (by omega)
       show mm.sh+(off+l*ye.size)+(m'-l)*ye.size<=mm.cs;omega
  ·cases e3
 ·obtain⟨m,e1,hm⟩:=jo hE hG hmx e;clear e;obtain⟨u,e2,hu⟩:=jo hE hG hhi e1;clear e1;obtain⟨l,e3,hl⟩:=jo hE hG hlo e2;clear e2;split at e3
  ·rename_i h0;cases e3;have h0:m+(u+l)=0:=h0;have ea:m=0:=by omega
   have eb:u=0:=by omega
   have ec:l=0:=by omega
   subst ea;subst eb;subst ec;cases hv;have hrb:=qU (P:=P) (isS:=true) hm hu hl adp (ay _) (ay _) (ay _) w;refine aH.ret k (v':= .slice none 0 0) ?_ rfl;simp only[Instr.sliceAt,Sem.run_bind,wW,Result.andThen_ok,Instr.slice,hrb,dz hi',hs',Sem.run_pure];rfl
  ·cases e3
 ·cases e
end
end
section
variable {P:Program} {g:G} {ι:aV} {h h':H} {w:World} {D:Nat->Prop}
section
variable {n:Nat} {en:Env} {a:Go.Act}
theorem JD (hE:fU ι n en a.tmps) (hG:GI ι) (hg:jP P g) (k:WR ι h w D) {t:TypeId} {y:Ty} (ht:g.ty t=some y) (hd:y.desc= .string) {x:Operand} {lo hi:Option Operand} {v:AV}
 (hx:aC n x=true) (hlo:(match lo with|some o=>aC n o|none=>true)=true) (hhi:(match hi with|some o=>aC n o|none=>true)=true)
 (e:(ql (ev x) lo hi).f en h= .ok v h'):aH P ι h w (Instr.sliceAt t (a.eval x) (lo.map a.eval) (hi.map a.eval) none) v h':=by
 have hv:=aX hE hG x hx;unfold ql at e;dsimp only at e;generalize hxe:(ev x).f en=xa at e hv;generalize hxv:a.eval x=xv at hv;have wW:=aB (hg.ty _ _ ht).1;rw[hd]at wW;split at e
 ·rename_i s;obtain⟨u,e2,hu⟩:=jo hE hG hhi e;clear e;obtain⟨l,e3,hl⟩:=jo hE hG hlo e2;clear e2;obtain⟨b,rfl,hs⟩:=hv;subst hs;split at e3
  ·rename_i h1 h2;cases e3;rw[aD]at h1 h2;rw[Str.eY]at h2;rw[Str.eY]at hu;have hrb:=qU (P:=P) (ρ:=a.eval) (isS:=false) (mx:=none) (m:=b.size) (.inl ⟨rfl,rfl⟩) hu hl (by simp) h1 h2 (ay _) w;refine aH.ret k (v':= .string (b.extract l u)) ?_ ⟨_,rfl,Str.aav b l u h1 h2⟩;simp only[Instr.sliceAt,Sem.run_bind,wW,Result.andThen_ok,Instr.slice,Option.isSome_none,aZ,jq,Sem.run_pure];rw[Option.map_none]at hrb;rw[hrb];rfl
  ·cases e3
 ·cases e
theorem JE (hE:fU ι n en a.tmps) (hG:GI ι) (hg:jP P g) (k:WR ι h w D) {t el:TypeId} {na:Nat} {y ye:Ty} (ht:g.ty t=some y) (hd:y.desc= .array na el) (he:g.ty el=some ye) {x:Operand} {lo hi mx:Option Operand} {v:AV}
 (hx:aC n x=true) (hlo:(match lo with|some o=>aC n o|none=>true)=true) (hhi:(match hi with|some o=>aC n o|none=>true)=true)
 (hD:∀b∈aM ((ev x).f en),D b)
 (e:(nA ye.size na (ev x) lo hi mx).f en h= .ok v h'):aH P ι h w (Instr.sliceAt t (a.eval x) (lo.map a.eval) (hi.map a.eval) (mx.map a.eval)) v h':=by
 have hv:=aX hE hG x hx;unfold nA at e;dsimp only at e;generalize hxe:(ev x).f en=xa at e hv hD;generalize hxv:a.eval x=xv at hv;have wW:=aB (hg.ty _ _ ht).1;rw[hd]at wW;obtain⟨_,_,i',z',hi',hs',_⟩:=hg.ty _ _ he;split at e
 ·rename_i b off;split at e
  ·cases e
  ·obtain⟨el0,ro,nb,d,tr,hb,e1⟩:=lg e;clear e;obtain⟨u,e2,hu⟩:=jo hE hG hhi e1;clear e1;obtain⟨l,e3,hl⟩:=jo hE hG hlo e2;clear e2;obtain⟨mm,hmm,rfl⟩:=hv;split at e3
   ·rename_i h1 h2 h3;cases e3;rw[aD]at h1 h2 h3;have h3:off+na*ye.size<=nb:=h3;obtain⟨arr,iV,lo',akX,hw,hb1,hb2,_⟩:=k.cells (hD b (by simp[aM])) hmm hb;have hrb:=qU (P:=P) (ρ:=a.eval) (isS:=false) (mx:=none) (m:=na) (.inl ⟨rfl,rfl⟩) hu hl (by simp) h1 h2 (ay _) w;refine aH.ret k (v':= .slice (some (if na=l then⟨mm.B,mm.sh+off,none⟩else(⟨mm.B,mm.sh+off,none⟩:Addr).add (l*ye.size))) (u-l) (na-l)) ?_ ?_
    ·simp only[Instr.sliceAt,Sem.run_bind,wW,Result.andThen_ok,Instr.sureAddr,Sem.run_pure,hrb,dz hi',hs']
    ·refine⟨mm,_,na-l,hmm,rfl,(by show u-l<=na-l;omega),by simp,?_⟩;by_cases hml:na=l
     ·left;omega
     ·right;rw[aj hml,addr_add];refine⟨by rw[l8];rfl,?_⟩;have h5:l*ye.size+(na-l)*ye.size<=na*ye.size:=by rw[<-fD];exact l9 _ (by omega)
      show mm.sh+(off+l*ye.size)+(na-l)*ye.size<=mm.cs;omega
   ·cases e3
 ·cases e
theorem Fp (hE:fU ι n en a.tmps) (hG:GI ι) (hg:jP P g) (k:WR ι h w D) {t el:TypeId} {y ye:Ty} (ht:g.ty t=some y) (hd:y.desc= .slice el) (he:g.ty el=some ye) {len:Nat} {ps:Array (Nat×Operand)} {v:AV}
 (hp:(ps.toList.all λp=>aC n p.2)=true)
 (e:(match Nat.ble (Nat.mul len ye.size) (nat_lit 100000),fillA (λi=>some (Nat.mul i ye.size,ye.size)) en ps.toList (Hg ye.zero len)with
  |true,cs=>(match isL cs with
   |true=>row el cs h λb h'=> .ok (match len with|0=> .slice b (nat_lit 0) (nat_lit 0) ye.size true|_=> .slice b (nat_lit 0) len ye.size false) h'
   |false=> .fail)
  |false,_=> .fail)= .ok v h'):aH P ι h w (Instr.buildSlice t len (ps.map λp=>(p.1,a.eval p.2))) v h':=by
 have wW:=aB (hg.ty _ _ ht).1;rw[hd]at wW;obtain⟨i,z,hi,hs,_,hz,hzs,hrep⟩:=FL (ι:=ι) hg he len;split at e
 ·rename_i h1;rw[aD]at h1;have h1:len*ye.size<=100000:=h1;split at e
  ·rename_i hL;obtain⟨arr',h2,h3⟩:=fill_ok hE hG (pl:=λi=>some (Nat.mul i ye.size,ye.size)) ps.toList (Hg ye.zero len) ((Array.range (len*ye.size)).map (λi=>z.cells[i%z.cells.size]!)) hp hrep hL;obtain⟨hr,hm,e⟩:=qQ e;cases e;refine⟨_,_,[], .slice (some ⟨w.heap.size,0,none⟩) len len,?_,?_,Loc.yj k hr w.drawn (l:=arr'.toList) (cells:=arr') h3 hm ⟨[],by simp⟩⟩
   ·have harr:len*ye.size=0->(Array.range (len*ye.size)).map (λi=>(#[]:Array Value)[i%(#[]:Array Value).size]!)=(Array.range (len*ye.size)).map (λi=>z.cells[i%z.cells.size]!):=λh0=>by rw[h0];simp
    have h2':Instr.fill (λi=>some (i*ye.size,ye.size)) ((Array.range (len*ye.size)).map (λi=>z.cells[i%z.cells.size]!)) (ps.toList.map λp=>(p.1,a.eval p.2))=some arr':=h2;simp only[Instr.buildSlice,Sem.run_bind,wW,Result.andThen_ok,dz hi,hs];rw[aj (by omega)];simp only[mM];by_cases h0:len*ye.size=0;·rw[au h0];simp only[Sem.run_bind,Sem.run_pure,Result.andThen_ok];rw[harr h0,h2'];simp only[Sem.run_bind,gU,Result.andThen_ok,Sem.run_pure]
    ·rw[aj h0];simp only[Sem.run_bind,lq hi hz,Sem.run_pure,Result.andThen_ok];rw[h2'];simp only[Sem.run_bind,gU,Result.andThen_ok,Sem.run_pure]
   ·have hsz:arr'.size=len*ye.size:=by
     have:=gq h3;have hf:∀(pl:Nat->Option (Nat×Nat)) (l:List (Nat×Value)) (c c':Array Value),Instr.fill pl c l=some c'->c'.size=c.size:=by
      intro pl l;induction l with
      |nil=>intro c c' h;cases h;rfl
      |cons p r ih=>
       intro c c' hc;obtain⟨pi,pv⟩:=p;unfold Instr.fill at hc;split at hc;·cases hc
       ·split at hc
        ·cases hc
        ·rw[ih _ _ hc,<-Array.foldl_toList,Array.toList_zipIdx];rw[foldl_layA _ _ 0,ny]
     rw[hf _ _ _ _ h2];simp
    have hnm:=aV.add_same ι h.next ⟨w.heap.size,0,arr'.size⟩;split;·exact⟨_,_,0,hnm,rfl,ay _,λ_=>rfl, .inl rfl⟩
    ·exact⟨_,_,len,hnm,rfl,ay _,by simp, .inr ⟨rfl,by show 0+0+len*ye.size<=arr'.size;omega⟩⟩
  ·cases e
 ·cases e
end
theorem Hz (hg:jP P g) (k:WR ι h w D) {t el:TypeId} {y ye:Ty} (ht:g.ty t=some y) (hd:y.desc= .slice el) (he:g.ty el=some ye) {l c v:AV} {vl vc:Value} (hl:VR ι l vl) (hc:VR ι c vc)
 (e:wX el ye l c h= .ok v h'):aH P ι h w (Instr.makeSlice t vl vc) v h':=by
 have wW:=aB (hg.ty _ _ ht).1;rw[hd]at wW;unfold wX at e;obtain⟨kl,n,el1,e1⟩:=zQ e;clear e;obtain⟨kc,m,ec1,e2⟩:=zQ e1;clear e1;subst el1;subst ec1;cases hl;cases hc;obtain⟨i,z,hi,hs,hby,hz,hzs,hrep⟩:=FL (ι:=ι) hg he m;split at e2
 ·rename_i h1 h2 h3;rw[aD]at h1 h2 h3;have h2:m*ye.bytes<=4000000:=h2;have h3:m<=4000000:=h3;obtain⟨hr,hm,e⟩:=qQ e2;cases e;have hwl:IntKind.i64.wrap (n:Int)=n:=by rw[IntKind.wrap_i64];omega
  have hwc:IntKind.i64.wrap (m:Int)=m:=by rw[IntKind.wrap_i64];omega
  have hnm:=aV.add_same ι h.next ⟨w.heap.size,0,((Array.range (m*ye.size)).map (λi=>z.cells[i%z.cells.size]!)).size⟩;refine⟨_,_,[], .slice (some ⟨w.heap.size,0,none⟩) n m,?_,?_,Loc.yj k hr w.drawn (cells:=(Array.range (m*ye.size)).map (λi=>z.cells[i%z.cells.size]!)) hrep hm ⟨[],by simp⟩⟩
  ·have harr:m*ye.size=0->(Array.range (m*ye.size)).map (λi=>(#[]:Array Value)[i%(#[]:Array Value).size]!)=(Array.range (m*ye.size)).map (λi=>z.cells[i%z.cells.size]!):=λh0=>by rw[h0];simp
   have hb1:¬((m:Int)<0):=by omega
   have hb2:¬((ye.bytes:Int)*(m:Int)>2^48):=by
    have:(ye.bytes:Int)*(m:Int)=((m*ye.bytes:Nat):Int):=by rw[kX];simp
    rw[this];omega
   have hb3:¬((n:Int)<0):=by omega
   have hb4:¬((n:Int)>(m:Int)):=by omega
   have hroom:∀w:World,(askRoom (m*ye.bytes)).run P w= .ok () w:=λw=>by unfold askRoom;rw[aj (by unfold roomBytes;omega)];rfl
   have e0:(Int.ofNat n)=(n:Int):=rfl;have e0':(Int.ofNat m)=(m:Int):=rfl;simp only[Instr.makeSlice,Sem.run_bind,wW,Result.andThen_ok,asInt,asIntOf,Sem.run_pure,qV hi,e0,e0',hwl,hwc,hby];rw[aj (by simp only[hb1,hb2,hb3,hb4];simp)];simp only[Sem.run_bind,Result.andThen_ok,mg,hroom,dz hi,hs];by_cases h0:m*ye.size=0;·rw[au h0];simp only[Sem.run_bind,Sem.run_pure,Result.andThen_ok,gU,harr h0]
   ·rw[aj h0];simp only[Sem.run_bind,lq hi hz,Sem.run_pure,Result.andThen_ok,gU]
  ·exact⟨_,_,m,hnm,rfl,h1,by simp, .inr ⟨rfl,by simp⟩⟩
 ·cases e2
