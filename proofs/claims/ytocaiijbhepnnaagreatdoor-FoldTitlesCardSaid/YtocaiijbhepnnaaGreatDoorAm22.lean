/- The machine's soundness: pointers of no type, and back; bytes that become a string's. -/
import Derived.Test.YtocaiijbhepnnaaGreatDoorAm20
import Derived.Lib.UnsafeStr
namespace Go.Proofs.YtocaiijbhepnnaaGreatDoor.Am
section
variable {P:Program} {w:World}
theorem FM {e:TypeId} {count off n:Nat} (h0:P.cellsOf e≠0) (h1:off%P.cellsOf e=0) (h2:off/P.cellsOf e+n<=count):liesAt P P.depth e count off e n=true:=by have hd:P.depth=(2*(P.types.size+Made.depth)+1)+1:=rfl;rw[hd];simp only[liesAt,dI];left;rw[hd];simp[rowAt,h0,h1,h2,sameLayout]
theorem yD {t:TypeId} {i:TypeInfo} (hi:P.info? t=some i):P.cellsOf t=i.size:=by simp[Program.cellsOf,hi]
theorem yE {b:Nat} {arr:Array Value} {el:TypeId} {fr:Nat×Nat} (hw:w.heap[b]? =some (.cells arr el fr)):w.shape? b=some (el,arr.size):=by simp only[World.shape?,hw]
theorem Dt {b o:Nat} {arr:Array Value} {el:TypeId} {fr:Nat×Nat} (hw:w.heap[b]? =some (.cells arr el fr)):(Conv.seenAt ⟨b,o,none⟩).run P w= .ok ⟨b,o,none⟩ w:=by simp[Conv.seenAt,viewAt,yE hw]
theorem JM {t:TypeId} {i:TypeInfo} (hi:P.info? t=some i):(sizeOf t).run P w= .ok i.size w:=by simp[sizeOf,typeInfo,hi]
theorem toUnsafe_run {src dst t:TypeId} (hsrc:P.underlying src=some (.pointer t)) (hdst:P.underlying dst=some .unsafePointer) {i:TypeInfo} (hi:P.info? t=some i) (hsz:i.size≠0)
 {b o:Nat} {arr:Array Value} {el:TypeId} {fr:Nat×Nat} (hw:w.heap[b]? =some (.cells arr el fr)) (ho:o<arr.size):
 (convert src dst (.pointer (some ⟨b,o,none⟩))).run P w= .ok (.pointer (some ⟨b,o,none⟩)) w:=by
 have hc:(cellsIn b).run P w= .ok (some arr.size) w:=by simp[cellsIn,yE hw]
 simp[convert,Conv.unsafePointer,aB hsrc,aB hdst,Dt hw,hc,JM hi,hsz,Nat.not_le.2 ho]
theorem Ie {src dst u:TypeId} (hsrc:P.underlying src=some .unsafePointer) (hdst:P.underlying dst=some (.pointer u)) {i:TypeInfo} (hi:P.info? u=some i) (hsz:i.size≠0)
 {b:Nat} {arr:Array Value} {fr:Nat×Nat} (hw:w.heap[b]? =some (.cells arr u fr)) (ho:i.size<=arr.size):
 (convert src dst (.pointer (some ⟨b,0,none⟩))).run P w= .ok (.pointer (some ⟨b,0,none⟩)) w:=by
 have hl:liesAt P P.depth u (arr.size/P.cellsOf u) 0 u 1=true:=by have hc:=yD hi;refine FM (by rw[hc];exact hsz) (Nat.zero_mod _) ?_;rw[hc,Nat.zero_div,bI];exact Nat.div_pos ho (by omega)
 have hv:(variablesAt ⟨b,0,none⟩ u 1).run P w= .ok true w:=by simp[variablesAt,yE hw,hl]
 simp[convert,Conv.unsafePointer,aB hsrc,aB hdst,Dt hw,hv,JM hi,hsz]
theorem wK {src dst t:TypeId} (h:(P.underlying src=some (.pointer t)/\P.underlying dst=some .unsafePointer)\/(P.underlying src=some .unsafePointer/\P.underlying dst=some (.pointer t))):
 (convert src dst (.pointer none)).run P w= .ok (.pointer none) w:=by
 rcases h with⟨h1,h2⟩|⟨h1,h2⟩<;>simp[convert,Conv.unsafePointer,aB h1,aB h2]
theorem FN:∀(ns:List Int) (a:Addr) (acc:ByteArray),(∀j n,ns[j]? =some n->w.cell? (a.add j)=some (.int .u8 n))->
 (loadBytes a acc ns.length).run P w= .ok (ns.foldl (λr n=>r.push (UInt8.ofNat n.toNat)) acc) w
 |[],a,acc,_=>by simp[loadBytes]
 |x::l,a,acc,h=>by
  have h0:w.cell? a=some (.int .u8 x):=by have:=h 0 x rfl;simpa[Addr.add]using this
  have ih:=FN l (a.add 1) (acc.push (UInt8.ofNat x.toNat)) (λj y hy=>by
   have:=h (j+1) y (by simpa using hy);have e:(a.add 1).add j=a.add (j+1):=by
    unfold Addr.add;by_cases hj:j=0;·subst hj;simp
    ·simp[hj];omega
   rw[e];exact this)
  have hx:x.toNat.toUInt8=UInt8.ofNat x.toNat:=rfl;simp only[bT,loadBytes,Sem.run_bind,run_load,h0,Result.andThen,hx];exact ih
theorem freeze_put {b o n:Nat} (hn:n≠0) {arr:Array Value} {el:TypeId} {lo hi:Nat} (hw:w.heap[b]? =some (.cells arr el (lo,hi))):∃lo' hi',w.freeze ⟨b,o,none⟩ n=World.putCells w b arr el (lo',hi')/\
 ∀B,o+n<=B->(lo=hi\/hi<=B)->lo'=hi'\/hi'<=B:=by
 unfold World.freeze;rw[aj hn];by_cases hlh:lo=hi;·refine⟨o,o+n,jv hw _ (arr':=arr) (iV:=el) (fr':=(o,o+n)) (by simp[hlh]),λB h1 _=> .inr h1⟩
 ·refine⟨min lo o,max hi (o+n),jv hw _ (arr':=arr) (iV:=el) (fr':=(min lo o,max hi (o+n))) (by simp[hlh]),λB h1 h2=> .inr ?_⟩;rcases h2 with h2|h2
  ·exact absurd h2 hlh
  ·omega
theorem unsafeStr_def (ts:Array TypeId) (ty:TypeId) (a:Addr) (x:Value):Builtin.unsafeString_ ts ty #[.pointer (some a),x]=(do
 let n<-asInt x
 let some pt:=ts[0]? |stuck "unsafe.String: no argument types"
 if n<0 then runtimePanic (.error "unsafe.String: len out of range")
 if n>IntKind.i64.max then unsupported (.unsafePointer "String: a length above the largest int")
 if n=0 then pure (.string .empty)
 else if<-variablesAt a (<-elemOf pt) n.toNat then do
  let s<-loadBytes a .empty n.toNat
  freeze a n.toNat
  pure (.string s)
 else unsupported (.unsafePointer "String: not so many bytes at ptr")):=rfl
theorem unsafeStr_defN (ts:Array TypeId) (ty:TypeId) (x:Value):Builtin.unsafeString_ ts ty #[.pointer none,x]=(do
 let n<-asInt x
 let some _:=ts[0]? |stuck "unsafe.String: no argument types"
 if n<0 then runtimePanic (.error "unsafe.String: len out of range")
 if n>IntKind.i64.max then unsupported (.unsafePointer "String: a length above the largest int")
 if n=0 then pure (.string .empty)
 else runtimePanic (.error "unsafe.String: ptr is nil and len is not zero")):=rfl
theorem unsafeStr_zero {pt ty:TypeId} {ts:Array TypeId} (hts:ts[0]? =some pt) (p:Option Addr) (k:IntKind):(Builtin.unsafeString_ ts ty #[.pointer p, .int k 0]).run P w= .ok (.string .empty) w:=by
 have hmax:IntKind.i64.max=0x7fffffffffffffff:=rfl;cases p with
 |none=>rw[unsafeStr_defN];simp[asInt,asIntOf,hmax,hts]
 |some a=>rw[unsafeStr_def];simp[asInt,asIntOf,hmax,hts]
theorem unsafeStr_run {pt u ty:TypeId} {ts:Array TypeId} (hts:ts[0]? =some pt) (hpt:P.underlying pt=some (.pointer u)) {i:TypeInfo} (hi:P.info? u=some i) (hsz:i.size=1)
 {b o:Nat} {arr:Array Value} {lo hi':Nat} (hw:w.heap[b]? =some (.cells arr u (lo,hi'))) {ns:List Int} {k:IntKind} (hn:ns≠[]) (ho:o+ns.length<=arr.size) (hm:ns.length<=4000000)
 (hc:∀j n,ns[j]? =some n->arr.getD (o+j) undef= .int .u8 n):
 ∃lo2 hi2,(Builtin.unsafeString_ ts ty #[.pointer (some ⟨b,o,none⟩), .int k (Int.ofNat ns.length)]).run P w= .ok (.string (ns.foldl (λr n=>r.push (UInt8.ofNat n.toNat)) .empty)) (World.putCells w b arr u (lo2,hi2))/\
  ∀B,o+ns.length<=B->(lo=hi'\/hi'<=B)->lo2=hi2\/hi2<=B:=by
 have hl0:ns.length≠0:=by cases ns<;>simp at hn⊢
 have hl:liesAt P P.depth u (arr.size/P.cellsOf u) o u ns.length=true:=by have hc:=yD hi;rw[hsz]at hc;refine FM (by rw[hc];decide) (by rw[hc];exact Nat.mod_one _) ?_;rw[hc,Nat.div_one,Nat.div_one];exact ho
 have hv:(variablesAt ⟨b,o,none⟩ u ns.length).run P w= .ok true w:=by simp[variablesAt,yE hw,hl]
 have hld:=FN (P:=P) (w:=w) ns ⟨b,o,none⟩ .empty (λj n hj=>by
  have hlt:j<ns.length:=(pJ.1 hj).1;have:=hc j n hj;rw[addr_add,xV hw,l6 (by omega)];simp[Array.getD,show o+j<arr.size by omega]at this;rw[this])
 have hel:(elemOf pt).run P w= .ok u w:=by simp[elemOf,aB hpt]
 obtain⟨lo2,hi2,hf,hB⟩:=freeze_put (o:=o) hl0 hw;refine⟨lo2,hi2,?_,hB⟩;have h1:¬((ns.length:Int)<0):=by omega
 rw[unsafeStr_def];simp[asInt,asIntOf,hts,h1,hel,hv,hld,hf,hl0];omega
end
section
variable {P:Program} {g:G} {ι:aV} {h h':H} {w:World} {D:Nat->Prop}
theorem XC (hg:jP P g) (k:WR ι h w D) {s d:TypeId} {ys yd:Ty} (hs:g.ty s=some ys) (hd:g.ty d=some yd) {x v:AV} {vx:Value} (hx:VR ι x vx) (hD:∀b∈aM x,D b)
 (e:JN g (Nat.beq s d) ys.desc yd.desc x h= .ok v h'):aH P ι h w (convert s d vx) v h':=by
 have BD:=aB (hg.ty _ _ hs).1
 have hud:=aB (hg.ty _ _ hd).1
 unfold JN at e
 split at e
 ·
  rename_i el b off l es z hdd
  split at e
  ·rename_i hsd hsrc hel
   obtain rfl:=aI hsd
   rw[hs]at hd
   cases hd
   rw[hdd]at hsrc
   cases hsrc
   split at e
   ·rename_i el1 ro n dd t hb
    split at e
    ·cases e
    rename_i hlow
    have hlow:¬2000000<=el1:=λc=>by
     have c2:Nat.ble (nat_lit 2000000) el1=true:=aD▸c
     rw[hlow]at c2;cases c2
    cases e
    obtain⟨m,y,cap,hm,rfl,hle,hz,hy⟩:=hx
    have hy:y=⟨m.B,m.sh+off,none⟩/\m.sh+off+cap*es<=m.cs:=by
     rcases hy with hy|hy
     ·omega
     ·exact hy
    obtain⟨rfl,Tf⟩:=hy
    obtain⟨arr,iV,lo,hi,hw,h1,h2,h3,h4,h5⟩:=k.cells (hD b (by simp[aM])) hm hb
    obtain⟨lo',hi',hrun,hlo⟩:=oF (P:=P) (o:=m.sh+off) hw
    have hB:m.B<w.heap.size:=(dM.1 hw).1
    have hue:=aB (P:=P) (hg.ty _ _ hel).1
    refine⟨ι,World.putCells w m.B arr iV (lo',hi'),[b],_,?_,⟨m,_,cap,hm,rfl,hle,hz, .inr ⟨rfl,Tf⟩⟩,?_⟩
    ·simp only[convert,Sem.run_bind,BD,hdd,Result.andThen_ok,hue,beq_self_eq_true]
     simp only[hrun,Result.andThen_ok,Sem.run_pure]
    ·refine Loc.mkSet k (k.lt hm) hb m hm (.cells arr iV (lo',hi')) (by simp[World.putCells]) (λi _ hne=> ?_) (fF hB) ?_ rfl rfl rfl
     ·simp only[World.putCells]
      rw[jF (λe=>hne e.symm)]
     ·refine⟨arr,iV,lo',hi',rfl,h1,h2,h3,h4,λhro=> ?_,h5.2.1,λ_ hel=>absurd hel (by omega)⟩
      obtain⟨ha,hb⟩:=h5.1 hro
      exact⟨ha, .inr (by have:=hlo (by rcases hb with c|c;exact .inl c;exact .inr (by omega));omega)⟩
   ·cases e
  ·cases e
 ·rename_i kd k0 n hdd
  cases hx
  rw[frc_eq,AQ]at e
  cases e
  refine aH.ret k (v':= .int kd (kd.wrap n)) ?_ rfl
  simp only[convert,Sem.run_bind,BD,hud,hdd,Result.andThen_ok]
  cases ys.desc<;>rfl
 ·rename_i s0 hdd
  obtain⟨b,rfl,rfl⟩:=hx
  cases e
  refine aH.ret k (v':= .string b) ?_ ⟨b,rfl,rfl⟩
  simp only[convert,Sem.run_bind,BD,hud,hdd,Result.andThen_ok]
  cases ys.desc<;>rfl
 ·rename_i k0 n hdd
  cases hx
  cases e
  refine aH.ret k (v':= .string (Utf8.encode n)) ?_ ⟨_,rfl,XB n⟩
  simp only[convert,Sem.run_bind,BD,hud,hdd,Result.andThen_ok]
  cases ys.desc<;>rfl
 ·rename_i hdd
  split at e
  ·rename_i el hsrc
   split at e
   ·rename_i el0 hel
    cases hx
    cases e
    have hue:=aB (P:=P) (hg.ty _ _ hel).1
    refine aH.ret k (v':= .string .empty) ?_ ⟨_,rfl,rfl⟩
    simp only[convert,Sem.run_bind,BD,hud,hdd,hsrc,Result.andThen_ok,hue]
    rfl
   ·cases e
  ·cases e
 ·rename_i b off len z hdd
  split at e
  ·rename_i el hsrc
   split at e
   ·rename_i el0 el1 ro n dd t hel hb
    split at e
    ·rename_i hle
     rw[aD]at hle
     have hle:off+len<=n:=hle
     obtain⟨m,y,cap,hm,rfl,hlc,hz,hy⟩:=hx
     obtain⟨arr,iV,lo,hi,hw,h1,h2,h3,h4,h5⟩:=k.cells (hD b (by simp[aM])) hm hb
     have hue:=aB (P:=P) (hg.ty _ _ hel).1
     have hrd:=l7 (ι:=ι) (arr:=arr) (sh:=m.sh) len off (λj h1 h2=>h4 j (by omega))
     unfold Tg at e
     split at e
     ·rename_i s0 hbs
      cases e
      obtain⟨ns,hns,rfl⟩:=tK hrd .empty s0 hbs
      refine aH.ret k ?_ ⟨_,rfl,rfl⟩
      simp only[convert,Sem.run_bind,BD,hud,hdd,hsrc,Result.andThen_ok,hue]
      by_cases hl0:len=0
      ·subst hl0
       have:ns=[]:=by
        cases ns with
        |nil=>rfl
        |cons _ _=>simp at hns
       subst this
       refine run_bytesToString w y 0 cap [] ?_
       exact rfl
      ·have hy:y=⟨m.B,m.sh+off,none⟩/\m.sh+off+cap*1<=m.cs:=by
        rcases hy with hy|hy
        ·omega
        ·exact hy
       obtain⟨rfl,Tf⟩:=hy
       refine run_bytesToString w _ len cap ns ?_
       rw[eU hw (by omega),hns]
     ·cases e
    ·cases e
   ·cases e
  ·cases e
 ·rename_i el s0 hdd
  obtain⟨b,rfl,rfl⟩:=hx
  split at e
  ·rename_i el0 hel
   obtain⟨hr,hm,e⟩:=qQ e
   cases e
   have hue:=aB (P:=P) (hg.ty _ _ hel).1
   obtain⟨c,hc,hcn⟩:=Cb (P:=P) b.size 0 el w
   have hw2:(World.grown w (w.drawn+1) (.cells (b.data.map (λc=>Value.int .u8 (c.toNat:Int))++Array.replicate (c-b.size) (.int .u8 0)) el)).heap[w.heap.size]? =some (.cells (b.data.map (λc=>Value.int .u8 (c.toNat:Int))++Array.replicate (c-b.size) (.int .u8 0)) el (0,0)):=gI
   obtain⟨lo',hi',hrun,hlo⟩:=oF (P:=P) (o:=0) hw2
   have hL:=OC (ι:=ι) b
   have hsz:(b.data.map (λc=>Value.int .u8 (c.toNat:Int))++Array.replicate (c-b.size) (Value.int .u8 0)).size=c:=by
    simp only[pQ,Array.size_map,Array.size_replicate]
    have:b.data.size=b.size:=rfl
    omega
   refine⟨_,(World.putCells (World.grown w (w.drawn+1) (.cells (b.data.map (λc=>Value.int .u8 (c.toNat:Int))++Array.replicate (c-b.size) (.int .u8 0)) el)) w.heap.size (b.data.map (λc=>Value.int .u8 (c.toNat:Int))++Array.replicate (c-b.size) (.int .u8 0)) el (lo',hi')),[], .slice (some ⟨w.heap.size,0,none⟩) b.size c,?_,?_,Loc.yh k hr _ ⟨w.heap.size,0,c⟩ (.cells (b.data.map (λc=>Value.int .u8 (c.toNat:Int))++Array.replicate (c-b.size) (.int .u8 0)) el (lo',hi')) ?_ ?_ (Nat.le_refl _) (fF (by simp[World.grown])) ?_ rfl rfl rfl⟩
   ·have hnr:∀(w:World) (cells:Array Value),(newRow el cells).run P w= .ok ⟨w.heap.size,0,none⟩ (World.grown w w.drawn (.cells cells el)):=λw cells=>gU el cells w
    simp only[convert,Sem.run_bind,BD,hud,hdd,Result.andThen_ok,hue]
    have:(Conv.stringToBytes el b).run P w= .ok (.slice (some ⟨w.heap.size,0,none⟩) b.size c) (World.putCells (World.grown w (w.drawn+1) (.cells (b.data.map (λc=>Value.int .u8 (c.toNat:Int))++Array.replicate (c-b.size) (.int .u8 0)) el)) w.heap.size (b.data.map (λc=>Value.int .u8 (c.toNat:Int))++Array.replicate (c-b.size) (.int .u8 0)) el (lo',hi')):=by
     simp only[Conv.stringToBytes,Sem.run_bind,hc,Result.andThen_ok,hnr]
     have:(World.grown (World.bQ w (w.drawn+1)) (World.bQ w (w.drawn+1)).drawn (.cells (b.data.map (λc=>Value.int .u8 (c.toNat:Int))++Array.replicate (c-b.size) (.int .u8 0)) el))=World.grown w (w.drawn+1) (.cells (b.data.map (λc=>Value.int .u8 (c.toNat:Int))++Array.replicate (c-b.size) (.int .u8 0)) el):=rfl
     rw[this]
     have:(⟨(World.bQ w (w.drawn+1)).heap.size,0,none⟩:Addr)=⟨w.heap.size,0,none⟩:=rfl
     rw[this,hrun]
     rfl
    cases ys.desc<;>exact this
   ·refine⟨_,_,c,aV.add_same _ _ _,by rw[Str.eY],by rw[Str.eY];exact hcn,by simp, .inr ⟨rfl,by show 0+0+c*1<=c;omega⟩⟩
   ·simp[World.putCells,World.grown]
   ·intro i hi
    simp only[World.putCells]
    rw[jF (by omega)]
    exact gH i hi
   ·have hlen:=gq hL
    have hbl:b.data.toList.length=b.size:=by simp
    rw[bM,hbl]at hlen
    refine⟨_,el,lo',hi',rfl,hsz,?_,jW hm,λi hi=> ?_,⟨λ_=>⟨rfl, .inr ?_⟩,λ_=>rfl,λc=>(by cases c)⟩⟩
    ·show 0+llen _<=c
     omega
    ·rw[Fa,jT _ (jW hm) (by exact hL) 0 i _ (by rw[bM,hbl];omega) hi,au (by rw[bM,hbl];omega)]
     have:=gu hL i
     rw[mJ]
     have e:(b.data.map (λc=>Value.int .u8 (c.toNat:Int))++Array.replicate (c-b.size) (Value.int .u8 0)).getD (0+i) undef=(b.data.toList.map λc=>Value.int .u8 (c.toNat:Int)).getD i undef:=by
      rw[gJ,<-dN,pR,mM,pF (by rw[bM,hbl];omega),aG,bI]
     rw[e]
     exact this.mono (aV.sZ _ (k.fresh _ (ay _)))
    ·have:=hlo (.inl rfl)
     show c<=lo'
     omega
  ·cases e
 ·rename_i hdd
  split at e
  ·rename_i t hsrc
   cases hx
   cases e
   exact aH.ret k (v':= .pointer none) (wK (.inl ⟨by rw[(hg.ty _ _ hs).1,hsrc],by rw[(hg.ty _ _ hd).1,hdd]⟩)) rfl
  ·cases e
 ·rename_i b off hdd
  split at e
  ·rename_i t hsrc
   split at e
   ·rename_i y el ro n dd tr hy hb
    split at e
    ·rename_i h1 h2
     cases e
     rw[aD]at h1
     obtain⟨m,hm,rfl⟩:=hx
     obtain⟨arr,iV,lo,hi,hw,a1,a2,a3,a4,a5⟩:=k.cells (hD b (by simp[aM])) hm hb
     obtain⟨_,_,i,z,hi',hsz,_⟩:=hg.ty _ _ hy
     refine aH.ret k (toUnsafe_run (by rw[(hg.ty _ _ hs).1,hsrc]) (by rw[(hg.ty _ _ hd).1,hdd]) hi' ?_ hw ?_) ⟨m,hm,rfl⟩
     ·rw[hsz];intro c;rw[c]at h2;cases h2
     ·have h1:off+1<=n:=h1;omega
    ·cases e
   ·cases e
  ·cases e
 ·rename_i u hdd
  split at e
  ·rename_i hsrc
   cases hx
   cases e
   exact aH.ret k (v':= .pointer none) (wK (.inr ⟨by rw[(hg.ty _ _ hs).1,hsrc],by rw[(hg.ty _ _ hd).1,hdd]⟩)) rfl
  ·cases e
 ·rename_i u b hdd
  split at e
  ·rename_i hsrc
   split at e
   ·rename_i y el n dd tr hy hb
    split at e
    ·rename_i h1 h2 h3 h4
     cases e
     obtain rfl:=aI h1
     rw[aD]at h2 h3
     obtain⟨m,hm,rfl⟩:=hx
     obtain⟨arr,iV,lo,hi,hw,a1,a2,a3,a4,a5⟩:=k.cells (hD b (by simp[aM])) hm hb
     obtain⟨_,_,i,z,hi',hsz,_⟩:=hg.ty _ _ hy
     have hsh:=a5.2.1 h2
     rw[(a5.1 rfl).1]at hw
     have:=Ie (P:=P) (src:=s) (dst:=d) (by rw[(hg.ty _ _ hs).1,hsrc]) (by rw[(hg.ty _ _ hd).1,hdd]) hi' (by rw[hsz];intro c;rw[c]at h4;cases h4) hw (by rw[hsz];omega)
     rw[hsh]
     exact aH.ret k this ⟨m,hm,by rw[hsh]⟩
    ·cases e
   ·cases e
  ·cases e
 ·cases e
theorem unsafeStr_ok (hg:jP P g) (k:WR ι h w D) {pt ty:TypeId} {ts:Array TypeId} (hts:ts[0]? =some pt) {p v:AV} {vp vn:Value} {kd:IntKind} {n:Nat} (hp:VR ι p vp) (hn:VR ι (.int kd (.ofNat n)) vn) (hD:∀b∈aM p,D b)
 (e:unsafeStrA g pt p n h= .ok v h'):aH P ι h w (Builtin.unsafeString_ ts ty #[vp,vn]) v h':=by
 cases hn;unfold unsafeStrA at e;split at e
 ·rename_i u _ _ _ _ _ hpt;have adr:=(hg.ty _ _ hpt).1;split at e
  ·cases hp;cases e;exact aH.ret k (v':= .string .empty) (unsafeStr_zero hts _ kd) ⟨.empty,rfl,rfl⟩
  ·obtain⟨m,hm,rfl⟩:=hp;cases e;exact aH.ret k (v':= .string .empty) (unsafeStr_zero hts _ kd) ⟨.empty,rfl,rfl⟩
  ·rename_i kk b off;split at e
   ·rename_i sz _ _ _ _ el nn dd tr hu hb;split at e
    ·rename_i h1 h2 h3 h4;obtain rfl:=aI h1;rw[aD]at h2 h4;have h3:=aI h3;have h2:off+(kk+1)<=nn:=h2;have h4:kk+1<=4000000:=h4;split at e
     ·rename_i s hbs;cases e;obtain⟨m,hm,rfl⟩:=hp;obtain⟨arr,iV,lo,hi,hw,a1,a2,a3,a4,a5⟩:=k.cells (hD b (by simp[aM])) hm hb;obtain⟨hel,hfr⟩:=a5.2.2 rfl (Nat.le_add_left _ _);have hel:iV=u:=hel.trans (oH ..);rw[hel]at hw;have hrd:=l7 (ι:=ι) (arr:=arr) (sh:=m.sh) (kk+1) off (λj h1 h2=>a4 j (by omega));obtain⟨ns,hns,rfl⟩:=tK hrd .empty s hbs;obtain⟨_,_,i,z,hi',hsz,_⟩:=hg.ty _ _ hu;have hlen:ns.length=kk+1:=by have:=fJ List.length hns;simpa using this.symm
      have hB:m.B<w.heap.size:=(dM.1 hw).1;obtain⟨lo2,hi2,hrun,hbd⟩:=unsafeStr_run (P:=P) (ty:=ty) (k:=kd) (o:=m.sh+off) hts adr hi' (by rw[hsz];exact h3) hw (ns:=ns) (by intro c;rw[c]at hlen;cases hlen) (by omega) (by omega) (λj x hj=>by
       have hlt:j<ns.length:=(pJ.1 hj).1;have:=fJ (λl:List Value=>l[j]?) hns;simp only[fq,hj,zV (show j<kk+1 by omega),Option.map_some]at this;exact bW this)
      rw[hlen]at hrun;refine⟨ι,_,[b],_,hrun,⟨_,rfl,rfl⟩,?_⟩;refine Loc.mkSet k (k.lt hm) hb m hm (.cells arr u (lo2,hi2)) (by simp[World.putCells]) (λi _ hne=> ?_) (fF hB) ?_ rfl rfl rfl;·simp only[World.putCells];rw[jF (λe=>hne e.symm)]
      ·exact⟨arr,u,lo2,hi2,rfl,a1,a2,a3,a4,⟨λc=>(by cases c),a5.2.1,λ_ _=>⟨(oH ..).symm,hbd _ (by omega) hfr⟩⟩⟩
     ·cases e
    ·cases e
   ·rename_i sz _ _ _ _ el nn dd tr hu hb;split at e
    ·rename_i h1 h2 h3 h4 h5;obtain rfl:=aI h1;rw[aD]at h2 h4;have h3:=aI h3;have h2:off+(kk+1)<=nn:=h2;have h4:kk+1<=4000000:=h4;have h5:¬2000000<=el:=λc=>by have c2:Nat.ble (nat_lit 2000000) el=true:=aD▸c;rw[h5]at c2;cases c2
     split at e
     ·rename_i s hbs;cases e;obtain⟨m,hm,rfl⟩:=hp;obtain⟨arr,iV,lo,hi,hw,a1,a2,a3,a4,a5⟩:=k.cells (hD b (by simp[aM])) hm hb;rw[(a5.1 rfl).1]at hw;have hrd:=l7 (ι:=ι) (arr:=arr) (sh:=m.sh) (kk+1) off (λj h1 h2=>a4 j (by omega));obtain⟨ns,hns,rfl⟩:=tK hrd .empty s hbs;obtain⟨_,_,i,z,hi',hsz,_⟩:=hg.ty _ _ hu;have hlen:ns.length=kk+1:=by have:=fJ List.length hns;simpa using this.symm
      have hB:m.B<w.heap.size:=(dM.1 hw).1;obtain⟨lo2,hi2,hrun,_⟩:=unsafeStr_run (P:=P) (ty:=ty) (k:=kd) (o:=m.sh+off) hts adr hi' (by rw[hsz];exact h3) hw (ns:=ns) (by intro c;rw[c]at hlen;cases hlen) (by omega) (by omega) (λj x hj=>by
       have hlt:j<ns.length:=(pJ.1 hj).1;have:=fJ (λl:List Value=>l[j]?) hns;simp only[fq,hj,zV (show j<kk+1 by omega),Option.map_some]at this;exact bW this)
      rw[hlen]at hrun;refine⟨ι,_,[b],_,hrun,⟨_,rfl,rfl⟩,?_⟩;refine Loc.mkSet k (k.lt hm) hb m hm (.cells arr el (lo2,hi2)) (by simp[World.putCells]) (λi _ hne=> ?_) (fF hB) ?_ rfl rfl rfl;·simp only[World.putCells];rw[jF (λe=>hne e.symm)]
      ·exact⟨arr,el,lo2,hi2,rfl,a1,a2,a3,a4,⟨λc=>(by cases c),a5.2.1,λ_ hel=>absurd hel h5⟩⟩
     ·cases e
    ·cases e
   ·cases e
  ·cases e
 ·cases e
theorem aaP (gt:Bool) {a b:AV} {x y:Value} (ha:VR ι a x) (hb:VR ι b y) (hv:ZJ gt a b≠.bad):
 ∃z,(∀w:World,((if gt then Builtin.max2 else Builtin.min2) x y).run P w= .ok z w)/\VR ι (ZJ gt a b) z:=by
 cases gt
 ·have hv:iD (λk a b=> .int k (.ofNat (Bool.rec b a (Nat.ble a b)))) (λk a b=> .int k (Bool.rec b a (decide (a<=b)))) a b≠.bad:=hv;show ∃z,_/\VR ι (iD (λk a b=> .int k (.ofNat (Bool.rec b a (Nat.ble a b)))) (λk a b=> .int k (Bool.rec b a (decide (a<=b)))) a b) z;obtain⟨k,i,j,rfl,rfl,h⟩:=Ho rfl hv;cases ha;cases hb;refine⟨.int k (if j<i then j else i),λw=>rfl,?_⟩;have e:iD (λk a b=> .int k (.ofNat (Bool.rec b a (Nat.ble a b)))) (λk a b=> .int k (Bool.rec b a (decide (a<=b)))) (.int k i) (.int k j)= .int k (if j<i then j else i):=by
   rcases h with⟨m,n,rfl,rfl,h⟩|h
   ·rw[h,oC,iY];simp only[aY];by_cases c:m<=n
    ·rw[au c,aj (by omega)];rfl
    ·rw[aj c,au (by omega)];rfl
   ·rw[h,oC];simp only[aY];by_cases c:i<=j
    ·rw[au c,aj (by omega)]
    ·rw[aj c,au (by omega)]
  rw[e];rfl
 ·have hv:iD (λk a b=> .int k (.ofNat (Bool.rec a b (Nat.ble a b)))) (λk a b=> .int k (Bool.rec a b (decide (a<=b)))) a b≠.bad:=hv;show ∃z,_/\VR ι (iD (λk a b=> .int k (.ofNat (Bool.rec a b (Nat.ble a b)))) (λk a b=> .int k (Bool.rec a b (decide (a<=b)))) a b) z;obtain⟨k,i,j,rfl,rfl,h⟩:=Ho rfl hv;cases ha;cases hb;refine⟨.int k (if j>i then j else i),λw=>rfl,?_⟩;have e:iD (λk a b=> .int k (.ofNat (Bool.rec a b (Nat.ble a b)))) (λk a b=> .int k (Bool.rec a b (decide (a<=b)))) (.int k i) (.int k j)= .int k (if j>i then j else i):=by
   rcases h with⟨m,n,rfl,rfl,h⟩|h
   ·rw[h,oC,iY];simp only[aY];by_cases c:m<=n
    ·rw[au c];by_cases c':(n:Int)>m
     ·rw[au c'];rfl
     ·rw[aj c'];obtain rfl:m=n:=by omega
      rfl
    ·rw[aj c,aj (by omega)];rfl
   ·rw[h,oC];simp only[aY];by_cases c:i<=j
    ·rw[au c];by_cases c':j>i
     ·rw[au c']
     ·rw[aj c'];obtain rfl:i=j:=by omega
      rfl
    ·rw[aj c,aj (by omega)]
  rw[e];rfl
theorem XD (gt:Bool) (b:AV):ZJ gt .bad b= .bad:=by cases gt<;>rfl
noncomputable def Du (gt:Bool):AV->AV->AV:=Dv (λa=>a) (λy _ ih a=>ih (ZJ gt a y))
theorem Mj (gt:Bool):∀(l:AV) (vs:List Value),fQ ι l vs->Du gt l .bad= .bad:=
 iW rfl (λa t x xs _ _ ih=>by show Du gt t (ZJ gt .bad a)= .bad;rw[XD];exact ih)
theorem Qu (gt:Bool):∀(l:AV) (vs:List Value),fQ ι l vs->∀(a:AV) (x:Value),VR ι a x->Du gt l a≠.bad->
 ∃z,(∀w:World,(vs.foldlM (if gt then Builtin.max2 else Builtin.min2) x).run P w= .ok z w)/\VR ι (Du gt l a) z:=by
 refine iW ?_ ?_;·intro a x ha hv;exact⟨x,λw=>rfl,ha⟩
 ·intro b t y ys hb ht ih a x ha hv;have hv:Du gt t (ZJ gt a b)≠.bad:=hv;have h2:ZJ gt a b≠.bad:=λc=>hv (by rw[c];exact Mj gt t ys ht);obtain⟨z,hz,hr⟩:=aaP (P:=P) gt ha hb h2;obtain⟨u,hu,hr2⟩:=ih _ z hr hv;refine⟨u,λw=> ?_,hr2⟩;rw[List.foldlM_cons,Sem.run_bind,hz,Result.andThen_ok];exact hu w
theorem ZK (k:WR ι h w D) (gt:Bool) {l v:AV} {vs:Array Value} {ts:Array TypeId} {t:TypeId} (hl:fQ ι l vs.toList) (e:sQ (mmA gt l) h= .ok v h'):
 aH P ι h w (if gt then Builtin.max_ ts t vs else Builtin.min_ ts t vs) v h':=by
 obtain⟨e1,e2,hv⟩:=pz e;subst e2;subst e1;unfold mmA at hv⊢;split at hv
 ·rename_i x r;obtain⟨y,ys,hy,hx,hr⟩:=gG hl;obtain⟨z,hz,hrel⟩:=Qu (P:=P) gt r ys hr x y hx hv;refine aH.ret k (v':=z) ?_ hrel;cases gt
  ·have:=hz w;simp only[aZ,jq,Builtin.min_,hy]at this⊢;exact this
  ·have:=hz w;simp only[if_true,Builtin.max_,hy]at this⊢;exact this
 ·exact absurd rfl hv
noncomputable def ads (x:AV) (h:H):bB:=
 match x with
 | .jm=> .ok (.int .i64 (.ofNat (nat_lit 0))) h
 | .slice _ _ _ _ true=> .ok (.int .i64 (.ofNat (nat_lit 0))) h
 |_=> .fail
theorem aaQ (hg:jP P g) (k:WR ι h w D) {t ty el:TypeId} {y:Ty} (ht:g.ty t=some y) (hd:y.desc= .slice el) {x v:AV} {vx:Value} {ts:Array TypeId} (hts:ts[0]? =some t) (hx:VR ι x vx)
 (e:ads x h=bB.ok v h'):
 aH P ι h w (Builtin.cap_ ts ty #[vx]) v h':=by
 have hut:=(hg.ty _ _ ht).1;have hx0:(#[vx]:Array Value)[0]? =some vx:=rfl;rw[hd]at hut;unfold ads at e;split at e;·cases hx;cases e;refine aH.ret k (v':=goInt 0) ?_ rfl;simp only[Builtin.cap_,hts,hx0,Sem.run_bind,aB hut,Result.andThen_ok,Sem.run_pure];rfl
 ·obtain⟨m,ya,cap,_,rfl,_,hz,_⟩:=hx;cases e;cases hz rfl;refine aH.ret k (v':=goInt 0) ?_ rfl;simp only[Builtin.cap_,hts,hx0,Sem.run_bind,aB hut,Result.andThen_ok,Sem.run_pure];rfl
 ·cases e
theorem JO (_k:WR ι h w D) (hg:jP P g) {x v:AV} {vx:Value} (hx:VR ι x vx) (e:sQ (nC g x) h= .ok v h') (o:Oper) (ρ:Operand->Value) (xo:Operand) (ho:o.op= .nilCheck xo) (hxo:ρ xo=vx):
 (execOp ρ o).run P w= .ok (.value vx) w/\VR ι v vx/\h'=h:=by
 obtain⟨e1,e2,hv⟩:=pz e;rw[<-e1]at hv;unfold nC at e1;unfold execOp;rw[ho];dsimp only;rw[hxo];split at e1;·obtain⟨m,hm,rfl⟩:=hx;exact⟨rfl,e1▸⟨m,hm,rfl⟩,e2⟩
 ·rename_i f a c;cases hb:Ig g a c with
  |false=>rw[hb]at e1;exact absurd e1 hv
  |true=>
   rw[hb]at e1;have e1:v=AV.fn f a c:=e1;rcases hx with⟨xs,ys,rfl,h1,h2⟩|⟨y,nm,rfl,h1,h2⟩
   ·exact⟨rfl,e1▸.inl ⟨xs,ys,rfl,h1,h2⟩,e2⟩
   ·refine⟨?_,e1▸.inr ⟨y,nm,rfl,h1,h2⟩,e2⟩;unfold Ig at hb;split at hb
    ·split at hb
     ·split at hb
      ·rename_i t x _ s _ f' hf';obtain⟨u,rfl,_⟩:=h1;obtain⟨b,hb1,hb2⟩:=h2;have hb3:nm.toUTF8=b:=by injection hb1
       have hm:=(FH (hg.pU _ _ _ hf') (hb2.trans (by rw[hb3])) (P.types.size+Made.depth-1) u w).2;have hpos:P.types.size+Made.depth-1+1=P.types.size+Made.depth:=by
        have:0<Made.depth:=by decide
        omega
       rw[hpos]at hm;simp[hm,Sem.run_bind]
      ·cases hb
     ·cases hb
    ·exact h1.elim
    ·exact h1.elim
    ·cases hb
 ·obtain⟨m,hm,rfl⟩:=hx;exact⟨rfl,e1▸⟨m,hm,rfl⟩,e2⟩
 ·obtain⟨y,rfl,h1⟩:=hx;exact⟨rfl,e1▸⟨y,rfl,h1⟩,e2⟩
 ·exact absurd e1 hv
end
section
variable {P:Program} {g:G} {ι:aV} {h h':H} {w:World} {D:Nat->Prop}
section
variable {t u ty e:TypeId} {i:TypeInfo} {z:Value} {du:TypeDesc} {base:Option Addr} {sLen sCap n:Nat} {vx:Value} {arr old:Array Value}
theorem Fv (ht:P.underlying t=some (.slice e)) (hu:P.underlying u=some du) (XE:(∃e',du= .slice e')\/du= .string) (hi:P.info? e=some i)
 (hlen:(Builtin.lenOf vx).run P w= .ok n w) (happ:(Builtin.firstCells i.size n vx).run P w= .ok arr w) (hc:sLen+n<=sCap)
 {w2:World} (hst:∀a,base=some a->(storeCells (a.add (sLen*i.size)) arr.toList).run P w= .ok () w2) (hno:base=none->w2=w):
 (Builtin.append_ #[t,u] ty #[.slice base sLen sCap,vx]).run P w= .ok (.slice base (sLen+n) sCap) w2:=by
 cases base with
 |none=>rw[hno rfl];rcases XE with⟨e',rfl⟩|rfl<;>simp[Builtin.append_,aB ht,aB hu,dz hi,hlen,hc,happ]
 |some a=>have hs:=hst a rfl;rcases XE with⟨e',rfl⟩|rfl<;>simp[Builtin.append_,aB ht,aB hu,dz hi,hlen,hc,happ,hs]
theorem run_append_grow' (ht:P.underlying t=some (.slice e)) (hu:P.underlying u=some du) (XE:(∃e',du= .slice e')\/du= .string) (hi:P.info? e=some i) (hz:i.zero=some z)
 (hlen:(Builtin.lenOf vx).run P w= .ok n w) (happ:∀k,(Builtin.firstCells i.size n vx).run P (World.bQ w k)= .ok arr (World.bQ w k))
 (hold:∀k,(Builtin.firstCells i.size sLen (.slice base sLen sCap)).run P (World.bQ w k)= .ok old (World.bQ w k)) (hc:sCap<sLen+n)
 (h63:sLen+n<=0x7fffffffffffffff) (hfit:(sLen+n)*i.bytes<=0x800000000000):
 ∃c,sLen+n<=c/\(Builtin.append_ #[t,u] ty #[.slice base sLen sCap,vx]).run P w= .ok (.slice (some ⟨w.heap.size,0,none⟩) (sLen+n) c)
  (World.grown w (w.drawn+1) (.cells (old++arr++Builtin.zeroCells z.cells (c-(sLen+n))) e)):=by
 obtain⟨c,hc1,hc2⟩:=Cb (P:=P) (sLen+n) sCap e w;refine⟨c,hc2,?_⟩;have hf:=growslice_fits (bytes:=i.bytes) hc hfit;have n1:¬(0x7fffffffffffffff<((sLen:Int)+(n:Int))):=by omega
 have n2:¬(281474976710656<Builtin.nextslicecap (sLen+n) sCap*i.bytes):=by omega
 have n3:¬(sLen+n<=sCap):=by omega
 have ho:=hold (w.drawn+1);have ha:=happ (w.drawn+1);rcases XE with⟨e',rfl⟩|rfl<;>simp[-run_choose,Builtin.append_,aB ht,aB hu,dz hi,hlen,n1,n2,n3,qV hi,hc1,lq hi hz,ho,ha,newRow]<;>exact⟨rfl,rfl⟩
theorem Dw {k0:IntKind} {m:Int} (ht:P.underlying t=some (.slice e)) {ki:IntKind} (hu:P.underlying u=some (.int ki)) (hi:P.info? e=some i) (hz:i.zero=some z)
 (hm:m=(n:Int)) (hfit:n*i.bytes<=0x800000000000) (hn:n<=4000000) (hc:sLen+n<=sCap) (harr:(if n*i.size=0 then(#[]:Array Value)else Builtin.zeroCells z.cells n)=arr)
 {w2:World} (hst:∀a,base=some a->(storeCells (a.add (sLen*i.size)) arr.toList).run P w= .ok () w2) (hno:base=none->w2=w):
 (Builtin.append_ #[t,u] ty #[.slice base sLen sCap, .int k0 m]).run P w= .ok (.slice base (sLen+n) sCap) w2:=by
 subst hm;have hw:IntKind.i64.wrap (n:Int)=n:=by rw[IntKind.wrap_i64];omega
 have n1:¬((n:Int)<0):=by omega
 have n2:¬(281474976710656<(n:Int)*(i.bytes:Int)):=by
  have:(n:Int)*(i.bytes:Int)=((n*i.bytes:Nat):Int):=by simp
  omega
 cases base with
 |none=>rw[hno rfl];by_cases h0:n*i.size=0<;>simp[Builtin.append_,aB ht,aB hu,dz hi,qV hi,asInt,asIntOf,hw,n1,n2,hc,lq hi hz]
 |some a=>
  have hs:=hst a rfl;by_cases h0:n*i.size=0;·rw[au h0]at harr;subst harr;simp[Builtin.append_,aB ht,aB hu,dz hi,qV hi,asInt,asIntOf,hw,n1,n2,hc,h0];rw[hs];rfl
  ·rw[aj h0]at harr;subst harr;simp[Builtin.append_,aB ht,aB hu,dz hi,qV hi,asInt,asIntOf,hw,n1,n2,hc,h0,lq hi hz,hs]
theorem zW {k0:IntKind} {m:Int} (ht:P.underlying t=some (.slice e)) {ki:IntKind} (hu:P.underlying u=some (.int ki)) (hi:P.info? e=some i) (hz:i.zero=some z)
 (hm:m=(n:Int)) (hn:n<=4000000)
 (hold:∀k,(Builtin.firstCells i.size sLen (.slice base sLen sCap)).run P (World.bQ w k)= .ok old (World.bQ w k)) (hc:sCap<sLen+n)
 (h63:sLen+n<=0x7fffffffffffffff) (hfit:(sLen+n)*i.bytes<=0x800000000000) (harr:(if n*i.size=0 then(#[]:Array Value)else Builtin.zeroCells z.cells n)=arr):
 ∃c,sLen+n<=c/\(Builtin.append_ #[t,u] ty #[.slice base sLen sCap, .int k0 m]).run P w= .ok (.slice (some ⟨w.heap.size,0,none⟩) (sLen+n) c)
  (World.grown w (w.drawn+1) (.cells (old++arr++Builtin.zeroCells z.cells (c-(sLen+n))) e)):=by
 subst hm;obtain⟨c,hc1,hc2⟩:=Cb (P:=P) (sLen+n) sCap e w;refine⟨c,hc2,?_⟩;have hf:=growslice_fits (bytes:=i.bytes) hc hfit;have hw:IntKind.i64.wrap (n:Int)=n:=by rw[IntKind.wrap_i64];omega
 have m1:¬((n:Int)<0):=by omega
 have m2:¬(281474976710656<(n:Int)*(i.bytes:Int)):=by
  have:(n:Int)*(i.bytes:Int)=((n*i.bytes:Nat):Int):=by simp
  have h2:n*i.bytes<=(sLen+n)*i.bytes:=l9 _ (by omega);omega
 have n1:¬(0x7fffffffffffffff<((sLen:Int)+(n:Int))):=by omega
 have n2:¬(281474976710656<Builtin.nextslicecap (sLen+n) sCap*i.bytes):=by omega
 have n3:¬(sLen+n<=sCap):=by omega
 have ho:=hold (w.drawn+1);by_cases h0:n*i.size=0;·rw[au h0]at harr;subst harr;simp[-run_choose,Builtin.append_,aB ht,aB hu,dz hi,qV hi,asInt,asIntOf,hw,m1,m2,n1,n2,n3,hc1,h0,lq hi hz,ho,newRow]<;>exact⟨rfl,rfl⟩
 ·rw[aj h0]at harr;subst harr;simp[-run_choose,Builtin.append_,aB ht,aB hu,dz hi,qV hi,asInt,asIntOf,hw,m1,m2,n1,n2,n3,hc1,h0,lq hi hz,ho,newRow]<;>exact⟨rfl,rfl⟩
