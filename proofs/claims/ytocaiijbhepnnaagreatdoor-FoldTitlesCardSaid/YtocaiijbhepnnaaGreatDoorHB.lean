/- FoldTitles, walked: the document's runes, edges. -/
import Derived.Test.YtocaiijbhepnnaaGreatDoorGC
set_option maxRecDepth 100000
namespace Go.Proofs.YtocaiijbhepnnaaGreatDoor.foldTitles
open Go.Shelf Go.RowKit Go.Lib Go.Proofs.YtocaiijbhepnnaaGreatDoor.Am
section
variable {α:Type} (enc:α->List Value)
def YO (l:List α):List Value:=l.flatMap enc
theorem Lg {s:Nat} (h:∀a,(enc a).length=s) (d:α):∀(l:List α) (k i:Nat),k<l.length->i<s->(YO enc l)[k*s+i]? =(enc (l.getD k d))[i]?
 |[],k,_,hk,_=>absurd hk (ko k)
 |a::l,0,i,_,hi=>by show(enc a++YO enc l)[0*s+i]? =_;rw[jU,bI,pF (by rw[h];exact hi)];rfl
 |a::l,k+1,i,hk,hi=>by have ih:=Lg h d l k i (by simpa using hk) hi;show(enc a++YO enc l)[(k+1)*s+i]? =_;rw[fD,Nat.one_mul,pG (by rw[h];omega),h,show k*s+s+i-s=k*s+i by omega,ih];rfl
end
structure ae1 {α:Type} (enc:α->List Value) (s:Nat) (d:α) (w:World) (A:Option Addr) (n:Nat) (l:List α):Prop where
 len:l.length=n
 small:n<=100000
 at_:0<n->∃g,A=some ⟨g,0,none⟩/\g<w.heap.size/\∀j,j<n->∀i u,i<s->(enc (l.getD j d))[i]? =some u->w.cell? ⟨g,j*s+i,none⟩=some u
theorem Rx {α:Type} {enc:α->List Value} {s:Nat} (hs:∀a,(enc a).length=s) (d:α) {w:World} {base n c:Nat} {A:Option Addr} {T:TypeId} {l:List α} (hn:l.length=n) (h:w.ownsRow base T s (.slice A n c) n (YO enc l)) (hm:n<=100000):ae1 enc s d w A n l:=by refine⟨hn,hm,λh0=> ?_⟩;obtain⟨g,rfl⟩:=uz h h0;refine⟨g,rfl,(dO h (g:=g) rfl).2.1,λj hj i u hi hu=> ?_⟩;have c:=yZ (g:=g) h rfl (j*s+i) u (by rw[Lg enc hs d l j i (by omega) hi];exact hu);rw[iQ,bI]at c;exact c
section
open Folds (dec bn bL)
abbrev RN:=Nat×Nat×Nat
end
theorem VI {zs:List Int} {k:Nat} (h:k<zs.length):zs.getD k 0∈zs:=by rw[aG,aS h];exact iN h
theorem EM {zs:List Int} {x:Int} (h:∀j,j<zs.length->¬zs.getD j 0=x):¬x∈zs:=λhm=>by obtain⟨j,hj,he⟩:=mD.1 hm;exact h j hj (by rw[aG,aS hj];exact he)
theorem YP (zs:List Int) (x:Int) (A:Option Addr) (n c:Nat) (W:World) (hR:dx W A n zs):
 Calls Tryz.prog 183 #[.slice A n c, .int .i64 x] W λe w'=>e= .returned (.bool (decide (x∈zs)))/\w'=W:=by
 have hsm:=hR.small;have HR:=ah hR;clear hR;go_enter Tryz.func183,Tryz.ntmps183;go_wp2;go_loopw [5] (λi wr=>∃k:Nat,k<=n/\i= .int .i64 k/\(∀j,j<k->¬zs.getD j 0=x)/\wr=W) (λi _=>n-(RowKit.intOf i).toNat);case atStart=>exact⟨0,aL _,rfl,(λj hj=>absurd hj (ko j)),rfl⟩
 case round=>
  obtain⟨k,hk,rfl,hlo,rfl⟩:=hrel;have mY:=ah hlo;clear hlo;by_cases hlt:k<n
  ·obtain⟨g,o,rfl,hg,hc⟩:=HR.out.at_ (by omega);have hck:=hc k hlt;have HM:=ah (VI (zs:=zs) (k:=k) (by rw[HR.out.len];exact hlt));obtain⟨y,hy⟩:∃y,zs.getD k 0=y:=⟨_,rfl⟩
   rw[hy]at hck HM;have HY:=ah hy;have hk0:(0:Int)<=k:=by omega
   have hk1:(k:Int)<n:=by omega
   clear hc hy hg;have hwk:wrap64 ((k:Int)+1)=((k+1:Nat):Int):=by unfold wrap64;omega
   have Fg:=ah hwk;clear hwk;by_cases hyx:y=x;·subst hyx;go_wp2;go_ret;exact⟨by rw[aO HM.out];rfl,rfl⟩
   ·have HNX:=ah (show ∀j,j<k+1->¬zs.getD j 0=x from λj hj=>by
     rcases aF j k with c|c;·exact mY.out j c
     ·obtain rfl:j=k:=by omega
      rw[HY.out];exact hyx)
    have hyb:(y==x)=false:=dH.2 hyx;go_wp2;exact⟨⟨k+1,hlt,by first|rw[Fg.out]|rfl,HNX.out,by first|rfl|trivial⟩,by first|(rw[Fg.out];simp[RowKit.intOf];omega)|(simp[RowKit.intOf];omega)⟩
  ·obtain rfl:k=n:=by omega
   have HN:=ah (EM (zs:=zs) (x:=x) (λj hj=>mY.out j (by rw[<-HR.out.len];exact hj)));go_wp2;go_ret;exact⟨by rw[aP HN.out];rfl,rfl⟩
theorem YQ (zs:List Int) (x:Int) (A:Option Addr) (n c:Nat) (W:World) (hR:dx W A n zs):
 Calls Tryz.prog 281 #[.slice A n c, .int .i64 x] W λe w'=>e= .returned (.bool (decide (x∈zs)))/\w'=W:=by
 have hsm:=hR.small;have HR:=ah hR;clear hR;go_enter Tryz.func281,Tryz.ntmps281;go_wp2;go_loopw [5] (λi wr=>∃k:Nat,k<=n/\i= .int .i64 k/\(∀j,j<k->¬zs.getD j 0=x)/\wr=W) (λi _=>n-(RowKit.intOf i).toNat);case atStart=>exact⟨0,aL _,rfl,(λj hj=>absurd hj (ko j)),rfl⟩
 case round=>
  obtain⟨k,hk,rfl,hlo,rfl⟩:=hrel;have mY:=ah hlo;clear hlo;by_cases hlt:k<n
  ·obtain⟨g,o,rfl,hg,hc⟩:=HR.out.at_ (by omega);have hck:=hc k hlt;have HM:=ah (VI (zs:=zs) (k:=k) (by rw[HR.out.len];exact hlt));obtain⟨y,hy⟩:∃y,zs.getD k 0=y:=⟨_,rfl⟩
   rw[hy]at hck HM;have HY:=ah hy;have hk0:(0:Int)<=k:=by omega
   have hk1:(k:Int)<n:=by omega
   clear hc hy hg;have hwk:wrap64 ((k:Int)+1)=((k+1:Nat):Int):=by unfold wrap64;omega
   have Fg:=ah hwk;clear hwk;by_cases hyx:y=x;·subst hyx;go_wp2;go_ret;exact⟨by rw[aO HM.out];rfl,rfl⟩
   ·have HNX:=ah (show ∀j,j<k+1->¬zs.getD j 0=x from λj hj=>by
     rcases aF j k with c|c;·exact mY.out j c
     ·obtain rfl:j=k:=by omega
      rw[HY.out];exact hyx)
    have hyb:(y==x)=false:=dH.2 hyx;go_wp2;exact⟨⟨k+1,hlt,by first|rw[Fg.out]|rfl,HNX.out,by first|rfl|trivial⟩,by first|(rw[Fg.out];simp[RowKit.intOf];omega)|(simp[RowKit.intOf];omega)⟩
  ·obtain rfl:k=n:=by omega
   have HN:=ah (EM (zs:=zs) (x:=x) (λj hj=>mY.out j (by rw[<-HR.out.len];exact hj)));go_wp2;go_ret;exact⟨by rw[aP HN.out];rfl,rfl⟩
structure IA (W:World) (v:Value) (m:Nat) (zs:List Int) (w:World):Prop where
 aN:Below W.heap.size W w
 own:w.ownsRow W.heap.size 3 1 v m (dF zs)
section
variable {W w w':World} {m:Nat} {v:Value} {zs:List Int}
theorem IA.nil (W:World):IA W (.slice none 0 0) 0 [] W:=⟨aK _ _,⟨rfl, .inl ⟨rfl,rfl⟩⟩⟩
theorem IA.below (h:IA W v m zs w) (hb:Below w.heap.size w w'):IA W v m zs w':=⟨h.aN.trans (hb.mono h.aN.size),own_below hb h.own⟩
theorem IA.kE (h:IA W v m zs w) {o:Obj}:(w.alloc o).ownsRow W.heap.size 3 1 v m (dF zs):=dX h.own
theorem IA.grow (h:IA W v m zs w) {o:Obj} {v':Value} {x:Int} (ho:w'.ownsRow W.heap.size 3 1 v' (m+1) (dF zs++[.int .i64 x])) (hg:(w.alloc o).grownBy w' v.ownBlock):IA W v' (m+1) (zs++[x]) w':=by have h':=h.below ((aK _ w).alloc (ay _) o);exact⟨h'.aN.grown hg h'.aN.size (λk hk=>(dO h'.own hk).1),by rw[qD];exact ho⟩
end
theorem VJ (t:List UInt8) {k:Nat} (h:k<(marks t).length):(jR t).take k++[(jR t).getD k 0]=(jR t).take (k+1):=by
 have h':k<(jR t).length:=by unfold jR;rw[bM];exact h
 rw[List.take_add_one,aS h',aG,aS h'];rfl
theorem sj (t:List UInt8):(jR t).length=(marks t).length:=by unfold jR;rw[bM]
def jJ (t:List UInt8):List Int:=jR t++[(t.length:Int)]
def jO (zs:List Int) (W:World) (e:Ending) (w':World):Prop:=∃A n c,e= .returned (.slice A n c)/\dx w' A n zs/\Below W.heap.size W w'
theorem NK {m:Nat} (h:m<=100000):m+1<=maxLen/\(m+1)*8<=0x800000000000:=⟨by simp only[maxLen];omega,by omega⟩
structure FB (W:World) (fo le wo:Bool) (w:World):Prop where
 aN:Below W.heap.size W w
 o:w.heap[W.heap.size]? =some (.cells #[.bool fo, .bool le, .bool wo] 28 (0,0))
section
variable {W1 w w':World} {vo v':Value} {acc:List (Nat×Nat)}
