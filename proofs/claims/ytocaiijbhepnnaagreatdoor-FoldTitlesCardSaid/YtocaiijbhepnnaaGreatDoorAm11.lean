/- The machine's soundness, fourth part: lists of values, stores, new rows. -/
import Derived.Test.YtocaiijbhepnnaaGreatDoorAm8
import Derived.Laws.Strings
import Derived.Laws.Concat
import Derived.Laws.BitsAllLaws
import Derived.Laws.BitsLemmas
import Derived.Laws.Shifts
namespace Go.Proofs.YtocaiijbhepnnaaGreatDoor.Am
theorem dU {P:Program} {b:Nat} {el:TypeId} {lo hi:Nat}:∀(l:List Value) (o i:Nat) (arr:Array Value) (w:World),w.heap[b]? =some (.cells arr el (lo,hi))->
 (lo=hi\/arr.size<=lo\/hi<=o)->o+i+l.length<=arr.size->(∀v∈l,v.oneCell'=true)->
 (storeCells ⟨b,o,none⟩ l i).run P w= .ok () (World.putCells w b (nY arr (o+i) l) el (lo,hi))
 |[],o,i,arr,w,h,_,_,_=>by simp[storeCells,nY,wJ h]
 |v::r,o,i,arr,w,h,hf,hs,h1=>by
  have hsz:o+i<arr.size:=by simp at hs;omega
  have hfz:w.frozen? ⟨b,o+i,none⟩=false:=by simp only[World.frozen?,h];simp only[Bool.and_eq_false_iff,decide_eq_false_iff_not];rcases hf with hf|hf|hf<;>omega
  simp only[storeCells,Sem.run_bind,addr_add];rw[run_store P w _ _ _ (h1 v (by simp)),xV h,l6 hsz];simp only[hfz,aZ,jq,Result.andThen_ok];rw[Mc h];have hb:b<w.heap.size:=(dM.1 h).1;rw[dU r o (i+1) (arr.setIfInBounds (o+i) v) _ (fF hb) (by simpa using hf) (by simp at hs⊢;omega) (λu hu=>h1 u (by simp[hu]))];rw[G9];rfl
theorem pz {v v':AV} {h h':H} (e:sQ v h= .ok v' h'):v'=v/\h'=h/\v≠.bad:=by cases v<;>simp only[sQ,frc_eq]at e<;>first|(cases e;exact⟨rfl,rfl,by simp⟩)|cases e
theorem Ol {v v':AV} {h h':H} (e:He v h= .ok v' h'):v'=v/\h'=h:=by cases v<;>simp only[He,frc_eq]at e<;>first|(cases e;exact⟨rfl,rfl⟩)|cases e
section
variable {ι:aV}
theorem oh {l:List Value} (h:fQ ι .nil l):l=[]:=h
theorem gG {a t:AV} {l:List Value} (h:fQ ι (.cons a t) l):∃x xs,l=x::xs/\VR ι a x/\fQ ι t xs:=h
theorem iW {Q:AV->List Value->Prop} (h0:Q .nil []) (h1:∀a t x xs,VR ι a x->fQ ι t xs->Q t xs->Q (.cons a t) (x::xs)):∀(a:AV) (l:List Value),fQ ι a l->Q a l:=by
 intro a;induction a with
 |nil=>intro l h;cases oh h;exact h0
 |cons h t _ iht=>intro l hl;obtain⟨x,xs,rfl,hx,hxs⟩:=gG hl;exact h1 h t x xs hx hxs (iht xs hxs)
 |_=>intro l h;exact h.elim
theorem gq {a:AV} {l:List Value} (h:fQ ι a l):llen a=l.length:=
 iW (ι:=ι) (Q:=λa l=>llen a=l.length) rfl (λ_ _ _ _ _ _ ih=>fJ Nat.succ ih) a l h
theorem gu {a:AV} {l:List Value} (h:fQ ι a l) (i:Nat):VR ι (Bw a i) (l.getD i undef):=by
 refine iW (ι:=ι) (Q:=λa l=>∀i,VR ι (Bw a i) (l.getD i undef)) (λi=>trivial) (λa t x xs hx _ ih i=> ?_) a l h i;cases i with
 |zero=>exact hx
 |succ i=>exact ih i
theorem mI {a b:AV} {l k:List Value} (h:fQ ι a l) (h':fQ ι b k):fQ ι (kT a b) (l++k):=
 iW (ι:=ι) (Q:=λa l=>fQ ι (kT a b) (l++k)) h' (λ_ _ _ _ hx _ ih=>⟨_,_,rfl,hx,ih⟩) a l h
theorem Db {a:AV} {l:List Value} (h:fQ ι a l) (n:Nat):fQ ι (FD a n) (l.take n):=by
 refine iW (ι:=ι) (Q:=λa l=>∀n,fQ ι (FD a n) (l.take n)) (λn=>by simp;rfl) (λa t x xs hx _ ih n=> ?_) a l h n;cases n with
 |zero=>rfl
 |succ n=>exact⟨_,_,rfl,hx,ih n⟩
theorem Dc {a:AV} {l:List Value} (h:fQ ι a l) (n:Nat):fQ ι (FE a n) (l.drop n):=by
 refine iW (ι:=ι) (Q:=λa l=>∀n,fQ ι (FE a n) (l.drop n)) (λn=>by simp;rfl) (λa t x xs hx hxs ih n=> ?_) a l h n;cases n with
 |zero=>exact⟨_,_,rfl,hx,hxs⟩
 |succ n=>exact ih n
theorem Hf {a:AV} {l:List Value} (h:fQ ι a l):∀n,fQ ι (Hg a n) ((List.replicate n l).flatten)
 |0=>rfl
 |n+1=>by rw[List.replicate_succ,List.flatten_cons];exact mI h (Hf h n)
theorem Md {v:AV} {x:Value} (h:VR ι v x) (h1:one v=true):x.oneCell'=true/\x.cells=#[x]/\cellsOf v= .cons v .nil:=by
 cases v<;>simp only[one,aZ]at h1;case unk=>refine⟨h,?_,rfl⟩;have h:x.oneCell'=true:=h;cases x<;>first|rfl|cases h
 case bool=>cases h;exact⟨rfl,rfl,rfl⟩
 case int=>cases h;exact⟨rfl,rfl,rfl⟩
 case str=>obtain⟨b,rfl,_⟩:=h;exact⟨rfl,rfl,rfl⟩
 case ptr=>obtain⟨m,_,rfl⟩:=h;exact⟨rfl,rfl,rfl⟩
 case nG=>cases h;exact⟨rfl,rfl,rfl⟩
 case slice=>obtain⟨m,y,cap,_,rfl,_⟩:=h;exact⟨rfl,rfl,rfl⟩
 case jm=>cases h;exact⟨rfl,rfl,rfl⟩
 case map=>obtain⟨m,_,rfl⟩:=h;exact⟨rfl,rfl,rfl⟩
 case qL=>cases h;exact⟨rfl,rfl,rfl⟩
 case fn=>rcases h with⟨xs,ys,rfl,_⟩|⟨y,nm,rfl,_⟩<;>exact⟨rfl,rfl,rfl⟩
 case wE=>obtain⟨m,_,rfl⟩:=h;exact⟨rfl,rfl,rfl⟩
 case qM=>cases h;exact⟨rfl,rfl,rfl⟩
 case sH=>obtain⟨y,rfl,_⟩:=h;exact⟨rfl,rfl,rfl⟩
 case qc=>cases h;exact⟨rfl,rfl,rfl⟩
theorem BM {a:AV} {l:List Value} (h:fQ ι a l) (h1:ones a=true):∀v∈l,v.oneCell'=true:=by
 refine iW (ι:=ι) (Q:=λa l=>ones a=true->∀v∈l,v.oneCell'=true) (λ_ v hv=>by cases hv) (λa t x xs hx _ ih h1=> ?_) a l h h1;have:one a=true/\ones t=true:=by
  have h1':Bool.rec false (ones t) (one a)=true:=h1;cases ho:one a;·rw[ho]at h1';cases h1'
  ·rw[ho]at h1';exact⟨rfl,h1'⟩
 intro v hv;rcases aR.1 hv with rfl|hv;·exact(Md hx this.1).1
 ·exact ih this.2 v hv
theorem wU {v:AV} {x:Value} (h:VR ι v x):∃l,fQ ι (cellsOf v) l/\(l=x.cells.toList\/l=[]):=by
 cases v;case agg cs=>obtain⟨xs,rfl,hx⟩:=h;exact⟨_,hx, .inl rfl⟩
 case bad=>exact⟨[],rfl, .inr rfl⟩
 case fT=>exact⟨[],rfl, .inr rfl⟩
 case nil=>exact h.elim
 case cons=>exact h.elim
 all_goals
  obtain⟨_,hc,_⟩:=Md h rfl;rw[hc];exact⟨_,⟨_,_,rfl,h,rfl⟩, .inl rfl⟩
end
theorem l7 {ι:aV} {d:Nat} {t:E AV d} {arr:Array Value} {sh:Nat}:∀(n i:Nat),(∀j,i<=j->j<i+n->VR ι (E.get d (path d j) t) (arr.getD (sh+j) undef))->
 fQ ι (BN d t n i) ((List.range n).map λj=>arr.getD (sh+i+j) undef)
 |0,i,_=>rfl
 |n+1,i,h=>by
  rw[List.range_succ_eq_map,jD,List.map_map];refine⟨_,_,rfl,(by have:=h i (by omega) (by omega);rw[dG];exact this),?_⟩;have:=l7 (sh:=sh) n (i+1) (λj h1 h2=>h j (by omega) (by omega));have e:((λj=>arr.getD (sh+i+j) undef)∘Nat.succ)=λj=>arr.getD (sh+(i+1)+j) undef:=by funext j;simp only[Function.comp];rw[show sh+i+Nat.succ j=sh+(i+1)+j by omega]
  rw[e];exact this
theorem jT {ι:aV} {d:Nat} (n:Nat) (hn:n<=4^d) {a:AV} {l:List Value} (h:fQ ι a l):∀(o i:Nat) (t:E AV d),o+l.length<=n->i<n->
 E.get d (path d i) (WT d a o t)=if o<=i/\i<o+l.length then Bw a (i-o)else E.get d (path d i) t:=by
 refine iW (ι:=ι) (Q:=λa l=>∀(o i:Nat) (t:E AV d),o+l.length<=n->i<n->
  E.get d (path d i) (WT d a o t)=if o<=i/\i<o+l.length then Bw a (i-o)else E.get d (path d i) t) ?_ ?_ a l h
 ·intro o i t _ _;rw[aj (by simp)];rfl
 ·intro a r x xs _ _ ih o i t ho hi;have e:WT d (.cons a r) o t=WT d r (o+1) (E.put a d (path d o) t):=rfl;simp only[bT]at ho⊢;rw[e,ih (o+1) i _ (by omega) hi];by_cases h1:i=o
  ·subst h1;rw[aj (by omega),au (by omega),uR];exact E.cO _ _ _ _
  ·by_cases h2:o+1<=i/\i<o+1+xs.length
   ·rw[au h2,au (by omega)];obtain⟨k,rfl⟩:∃k,i=o+1+k:=⟨i-(o+1),by omega⟩
    rw[show o+1+k-(o+1)=k by omega,show o+1+k-o=k+1 by omega];rfl
   ·rw[aj h2,aj (by omega)];exact E.eX _ _ _ _ (by omega) (by omega) (λe=>h1 e.symm) _
def fG (l:List UInt8):Nat:=l.foldl (λv b=>v*256+b.toNat) 0
theorem foldl_valL:∀(l:List UInt8) (v:Nat),l.foldl (λv b=>v*256+b.toNat) v=v*256^l.length+fG l
 |[],v=>by simp[fG]
 |b::r,v=>by have e:fG (b::r)=r.foldl (λv b=>v*256+b.toNat) (0*256+b.toNat):=rfl;rw[pE,foldl_valL r,e,foldl_valL r];simp only[bT,Nat.pow_succ,jU,bI];rw[fD,Nat.mul_assoc,kX 256,l8]
theorem iX (b:UInt8) (r:List UInt8):fG (b::r)=b.toNat*256^r.length+fG r:=by rw[fG,pE,foldl_valL];simp
theorem jK (l r:List UInt8):fG (l++r)=fG l*256^r.length+fG r:=by rw[fG,List.foldl_append,foldl_valL];rfl
theorem jV:∀l:List UInt8,fG l<256^l.length
 |[]=>by simp[fG]
 |b::r=>by
  rw[iX,bT,Nat.pow_succ];have h1:=jV r;have h2:b.toNat<=255:=by have:=b.toNat_lt;omega
  have h3:b.toNat*256^r.length<=255*256^r.length:=l9 _ h2;omega
theorem Jz:∀{l r:List UInt8},l.length=r.length->fG l=fG r->l=r
 |[],[],_,_=>rfl
 |a::l,b::r,hl,hv=>by
  simp only[bT,Nat.add_right_cancel_iff]at hl;rw[iX,iX,hl]at hv;have h1:=jV l;have h2:=jV r;rw[hl]at h1;have hp:0<256^r.length:=Nat.pow_pos (by omega);have e1:(a.toNat*256^r.length+fG l)/256^r.length=a.toNat:=by rw[kX,xW hp,xX h1];omega
  have e2:(b.toNat*256^r.length+fG r)/256^r.length=b.toNat:=by rw[kX,xW hp,xX h2];omega
  have hab:a.toNat=b.toNat:=by rw[<-e1,<-e2,hv]
  have:a=b:=UInt8.toNat_inj.1 hab;subst this;rw[Jz hl (by omega)]
 |[],_::_,h,_=>by cases h
 |_::_,[],h,_=>by cases h
namespace Str
theorem go_eq:∀(l:List UInt8) (n v:Nat),go l n v=⟨n+l.length,v*256^l.length+fG l⟩
 |[],n,v=>by simp[go,fG]
 |b::r,n,v=>by
  have:go (b::r) n v=go r (n+1) (v*256+b.toNat):=oq _ _;rw[this,go_eq r,iX,bT];congr 1;·omega
  ·rw[Nat.pow_succ,fD,Nat.mul_assoc,kX 256,l8]
theorem of_eq (b:ByteArray):of b=⟨b.data.toList.length,fG b.data.toList⟩:=by unfold of;rw[go_eq];simp
theorem eY (b:ByteArray):(of b).len=b.size:=by rw[of_eq];rfl
theorem zJ (b:ByteArray):(of b).val=fG b.data.toList:=by rw[of_eq]
theorem Sj {a b:ByteArray} (h:of a=of b):a=b:=by rw[of_eq,of_eq]at h;injection h with h1 h2;have:=Jz h1 h2;cases a;cases b;congr 1;exact Array.toList_inj.1 this
theorem Sk (a b:ByteArray):(of a).eq (of b)=decide (a=b):=by
 have h:(of a).eq (of b)=true↔of a=of b:=by
  unfold Str.eq;cases h1:Nat.beq (of a).len (of b).len;·simp only[aZ,false_iff];intro e;rw[e,qN]at h1;cases h1
  ·have h1':=aI h1;show Nat.beq _ _=true↔_;rw[Nat.beq_eq];constructor
   ·intro h2;rcases ha:of a with⟨x,y⟩;rcases hb:of b with⟨z,t⟩
    rw[ha,hb]at h1' h2;simp only at h1' h2;rw[h1',h2]
   ·intro h2;rw[h2]
 rw[dY,h,aY];exact⟨Sj,λe=>by rw[e]⟩
theorem xY (b:ByteArray) (i:Nat) (hi:i<b.size):(of b).byte i=(b.data.toList[i]'(by simpa using hi)).toNat:=by
 have hi':i<b.data.toList.length:=by simpa using hi
 have hsp:b.data.toList=b.data.toList.take i++b.data.toList[i]::b.data.toList.drop (i+1):=by rw[List.getElem_cons_drop,qO]
 show((of b).val>>>(8*((of b).len-1-i)))%256=_;rw[eY,zJ,BO,Nat.pow_mul];have hd:(b.data.toList.drop (i+1)).length=b.size-1-i:=by rw[gP];show b.data.toList.length-_=_;have:b.data.toList.length=b.size:=rfl;omega
 have hv:=jK (b.data.toList.take i) (b.data.toList[i]::b.data.toList.drop (i+1));rw[<-hsp,iX,bT,hd]at hv;rw[hv];have hlt:=jV (b.data.toList.drop (i+1));rw[hd]at hlt;show(_/256^_)%256=_;have hp:0<256^(b.size-1-i):=Nat.pow_pos (by omega);rw[Nat.pow_succ,kX (256^(b.size-1-i)) 256,<-Nat.mul_assoc,<-l8,<-fD,kX _ (256^(b.size-1-i)),xW hp,xX hlt,dG];have:=(b.data.toList[i]).toNat_lt;omega
theorem aau (a b:ByteArray):(of a).app (of b)=of (a++b):=by
 have hl:(a++b).data.toList=a.data.toList++b.data.toList:=by rw[ByteArray.data_append];simp
 rw[of_eq (a++b),hl,jK,bV];unfold app;rw[eY,eY,zJ,zJ];show(⟨a.size+b.size,(fG a.data.toList)<<<(8*b.size)+fG b.data.toList⟩:Str)=_;rw[Nat.shiftLeft_eq,Nat.pow_mul];rfl
theorem aav (b:ByteArray) (x y:Nat) (h:x<=y) (hy:y<=b.size):(of b).sub x y=of (b.extract x y):=by
 have hl:(b.extract x y).data.toList=(b.data.toList.take y).drop x:=by rw[ByteArray.data_extract,Array.toList_extract,List.extract_eq_take_drop];rw[List.drop_take]
 have hlen:b.data.toList.length=b.size:=rfl;have h1:((b.data.toList.take y).drop x).length=y-x:=by rw[gP,jh];omega
 rw[of_eq (b.extract x y),hl,h1];unfold sub;rw[eY,zJ];show(⟨y-x,(fG b.data.toList>>>(8*(b.size-y)))%2^(8*(y-x))⟩:Str)=_;congr 1;rw[BO,Nat.pow_mul,Nat.pow_mul];have e1:fG b.data.toList=fG (b.data.toList.take y)*256^(b.size-y)+fG (b.data.toList.drop y):=by have:=jK (b.data.toList.take y) (b.data.toList.drop y);rw[qO,gP,hlen]at this;exact this
 have hlt:=jV (b.data.toList.drop y);rw[gP,hlen]at hlt;have hp:0<256^(b.size-y):=Nat.pow_pos (by omega);show(_/256^_)%256^_=_;rw[e1,kX,xW hp,xX hlt,dG];have e2:=jK ((b.data.toList.take y).take x) ((b.data.toList.take y).drop x);rw[qO,h1]at e2;have hlt2:=jV ((b.data.toList.take y).drop x);rw[h1]at hlt2;rw[e2,kX,Nat.mul_add_mod,kY hlt2]
end Str
theorem FH {P:Program} {t:Nat} {s:Str} {f:Nat} {nm:String} (h:zK P t s=some f) (hs:s=Str.of nm.toUTF8) (n:Nat) (v:Value) (w:World):
 (method (n+1) t v nm).run P w= .ok (f,v) w/\(nilAhead (n+1) t v nm).run P w= .ok (some false) w:=by
 unfold zK at h;split at h
 ·rename_i i d hi hd;split at h
  ·rename_i m hm;have hf:i.methods.find? (λm=>m.name==nm)=some m:=by rw[<-hm];congr 1;funext m';rw[dY,cZ,hs,Str.Sk,aY];exact⟨λc=>by rw[c],λc=>String.toByteArray_inj.1 c⟩
   have hti:∀w,(typeInfo t).run P w= .ok i w:=λw=>by simp[typeInfo,hi]
   have hun:∀w,(underlying t).run P w= .ok d w:=λw=>run_underlying hd w;split at h
   ·rename_i hp hfn;cases h;constructor
    ·simp only[method,Sem.run_bind,hti,Result.andThen_ok,hf,hp,hfn,follow,Sem.run_pure,receiverAt,hun,Place.get]
    ·simp only[nilAhead,Sem.run_bind,hti,Result.andThen_ok,hf,hp,hfn,followBlind,Sem.run_pure]
   ·cases h
   ·rename_i dd _ _ f' d2 hp hfn hno;cases h;cases dd with
    |pointer e=>exact absurd rfl (hno e)
    |_=>
     constructor;·simp only[method,Sem.run_bind,hti,Result.andThen_ok,hf,hp,hfn,follow,Sem.run_pure,receiverAt,hun,Place.get]
     ·simp only[nilAhead,Sem.run_bind,hti,Result.andThen_ok,hf,hp,hfn,followBlind,Sem.run_pure,hun]
   ·cases h
  ·cases h
 ·cases h
theorem Hl (k:IntKind) (n:Int) (h0: -(Qi k:Int)<=n) (h1:n<=(Jt k:Int)):k.wrap n=n:=by
 cases k;case i64=>rw[IntKind.wrap_i64];have e0:Qi .i64=0x8000000000000000:=rfl;have e1:Jt .i64=0x7fffffffffffffff:=rfl;rw[e0]at h0;rw[e1]at h1;omega
 case i32=>rw[IntKind.wrap_i32];have e0:Qi .i32=2147483648:=rfl;have e1:Jt .i32=2147483647:=rfl;rw[e0]at h0;rw[e1]at h1;omega
 case i16=>have e0:Qi .i16=32768:=rfl;have e1:Jt .i16=32767:=rfl;rw[e0]at h0;rw[e1]at h1;simp[IntKind.wrap,IntKind.bits,IntKind.signed];omega
 case i8=>have e0:Qi .i8=128:=rfl;have e1:Jt .i8=127:=rfl;rw[e0]at h0;rw[e1]at h1;simp[IntKind.wrap,IntKind.bits,IntKind.signed];omega
 case u64=>rw[IntKind.wrap_u64];have e0:Qi .u64=0:=rfl;have e1:Jt .u64=0xffffffffffffffff:=rfl;rw[e0]at h0;rw[e1]at h1;omega
 case u32=>rw[IntKind.wrap_u32];have e0:Qi .u32=0:=rfl;have e1:Jt .u32=4294967295:=rfl;rw[e0]at h0;rw[e1]at h1;omega
 case u16=>rw[IntKind.wrap_u16];have e0:Qi .u16=0:=rfl;have e1:Jt .u16=65535:=rfl;rw[e0]at h0;rw[e1]at h1;omega
 case u8=>rw[IntKind.wrap_u8];have e0:Qi .u8=0:=rfl;have e1:Jt .u8=255:=rfl;rw[e0]at h0;rw[e1]at h1;omega
theorem Sl (k:IntKind) (m:Nat):wrN k m=k.wrap m:=by
 have e:wrN k m=Bool.rec (motive:=λ_=>Int) (k.wrap (.ofNat m)) (.ofNat m) (Nat.ble m (Jt k)):=rfl;rw[e];cases h:Nat.ble m (Jt k);·rfl
 ·have h':m<=Jt k:=by rw[aD]at h;exact h
  exact(Hl k m (by omega) (by omega)).symm
theorem AQ (k:IntKind) (n:Int):wr k n=k.wrap n:=by
 cases n with
 |ofNat m=>exact Sl k m
 |negSucc m=>
  have e:wr k (.negSucc m)=Bool.rec (motive:=λ_=>Int) (k.wrap (.negSucc m)) (.negSucc m) (Nat.ble (Nat.succ m) (Qi k)):=rfl;rw[e];cases h:Nat.ble (Nat.succ m) (Qi k);·rfl
  ·have h':m+1<=Qi k:=by rw[aD]at h;exact h
   exact(Hl k (.negSucc m) (by omega) (by omega)).symm
theorem gQ {k k':IntKind} (h:Nat.beq (sS k) (sS k')=true):k=k':=by have:=aI h;cases k<;>cases k'<;>first|rfl|(simp[sS]at this)
theorem toI_nn {x:AV} {k:IntKind} {n:Nat} (h:toI x= .nn k n):x= .int k n:=by
 cases x<;>simp only[toI]at h<;>first|cases h|skip
 rename_i k' i;cases i<;>simp at h;obtain⟨rfl,rfl⟩:=h;rfl
theorem toI_ng {x:AV} {k:IntKind} {n:Nat} (h:toI x= .ng k n):x= .int k (.negSucc n):=by
 cases x<;>simp only[toI]at h<;>first|cases h|skip
 rename_i k' i;cases i<;>simp at h;obtain⟨rfl,rfl⟩:=h;rfl
theorem toS_some {x:AV} {s:Str} (h:toS x= .some s):x= .str s:=by
 cases x<;>simp only[toS]at h<;>first|cases h|skip
 rfl
theorem toB_t {x:AV} (h:toB x= .t):x= .bool true:=by
 cases x<;>simp only[toB]at h<;>first|cases h|skip
 rename_i b;cases b<;>simp at h;rfl
theorem toB_f {x:AV} (h:toB x= .f):x= .bool false:=by
 cases x<;>simp only[toB]at h<;>first|cases h|skip
 rename_i b;cases b<;>simp at h;rfl
theorem toP_at {x:AV} {b o:Nat} (h:toP x= .at b o):x= .ptr b o:=by cases x<;>simp only[toP]at h<;>cases h;rfl
theorem toL_at {x:AV} {b o l es:Nat} {z:Bool} (h:toL x= .at b o l es z):x= .slice b o l es z:=by cases x<;>simp only[toL]at h<;>cases h;rfl
theorem Ho {f:IntKind->Nat->Nat->AV} {s:IntKind->Int->Int->AV} {x y v:AV} (h:iD f s x y=v) (hv:v≠.bad):
 ∃k a b,x= .int k a/\y= .int k b/\((∃m n:Nat,a=m/\b=n/\v=f k m n)\/v=s k a b):=by
 unfold iD at h;cases hx:toI x with
 |none=>rw[hx]at h;exact absurd h.symm hv
 |nn k a=>
  rw[hx]at h;cases hy:toI y with
  |none=>rw[hy]at h;exact absurd h.symm hv
  |nn k' b=>
   rw[hy]at h;cases hk:Nat.beq (sS k) (sS k')with
   |false=>simp only[hk]at h;exact absurd h.symm hv
   |true=>simp only[hk]at h;obtain rfl:=gQ hk;exact⟨k,a,b,toI_nn hx,toI_nn hy, .inl ⟨a,b,rfl,rfl,h.symm⟩⟩
  |ng k' b=>
   rw[hy]at h;cases hk:Nat.beq (sS k) (sS k')with
   |false=>simp only[hk]at h;exact absurd h.symm hv
   |true=>simp only[hk]at h;obtain rfl:=gQ hk;exact⟨k,a, .negSucc b,toI_nn hx,toI_ng hy, .inr h.symm⟩
 |ng k a=>
  rw[hx]at h;cases hy:toI y with
  |none=>rw[hy]at h;exact absurd h.symm hv
  |nn k' b=>
   rw[hy]at h;cases hk:Nat.beq (sS k) (sS k')with
   |false=>simp only[hk]at h;exact absurd h.symm hv
   |true=>simp only[hk]at h;obtain rfl:=gQ hk;exact⟨k, .negSucc a,b,toI_ng hx,toI_nn hy, .inr h.symm⟩
  |ng k' b=>
   rw[hy]at h;cases hk:Nat.beq (sS k) (sS k')with
   |false=>simp only[hk]at h;exact absurd h.symm hv
   |true=>simp only[hk]at h;obtain rfl:=gQ hk;exact⟨k, .negSucc a, .negSucc b,toI_ng hx,toI_ng hy, .inr h.symm⟩
theorem FI {f:IntKind->Nat->Nat->AV} {x y v:AV} (h:zL f x y=v) (hv:v≠.bad):∃k k' m n,x= .int k (Int.ofNat m)/\y= .int k' (Int.ofNat n)/\v=f k m n:=by
 unfold zL at h;cases hx:toI x with
 |none=>rw[hx]at h;exact absurd h.symm hv
 |ng k a=>rw[hx]at h;exact absurd h.symm hv
 |nn k a=>
  rw[hx]at h;cases hy:toI y with
  |none=>rw[hy]at h;exact absurd h.symm hv
  |ng k' b=>rw[hy]at h;exact absurd h.symm hv
  |nn k' b=>rw[hy]at h;exact⟨k,k',a,b,toI_nn hx,toI_nn hy,h.symm⟩
section
variable {P:Program} {ι:aV}
def qP (P:Program) (ι:aV) (op:BinOp) (t:TypeId) (xo yo:Operand) (x y:Value) (v:AV):Prop:=
 ∀w:World,∃v',(do eqGuard op t xo yo x y;binOp op t x y:Sem Value).run P w= .ok v' w/\VR ι v v'
theorem uS (op:BinOp) (t:TypeId) (xo yo:Operand) (k k':IntKind) (a b:Int):eqGuard op t xo yo (.int k a) (.int k' b)=pure ():=by unfold eqGuard;cases op<;>rfl
theorem Qj (op:BinOp) (t:TypeId) (xo yo:Operand) (a b:ByteArray):eqGuard op t xo yo (.string a) (.string b)=pure ():=by unfold eqGuard;cases op<;>rfl
def jf (op:BinOp) (k:IntKind) (a b:Int):Sem Value:=
 match op with
 | .add| .sub| .mul=>Op.intArith op k a b
 | .quo| .rem=>Op.intDiv op k a b
 | .and| .or| .xor| .andNot=>Op.intBits op k a b
 |_=>Op.intCmp op a b
theorem Om {op:BinOp} {t:TypeId} {xo yo:Operand} {k:IntKind} {a b:Int} {v:AV} {v':Value} (hs:op≠.shl) (hs':op≠.shr)
 (h:∀w,(jf op k a b).run P w= .ok v' w) (hv:VR ι v v'):qP P ι op t xo yo (.int k a) (.int k b) v:=by
 intro w;refine⟨v',?_,hv⟩;rw[uS];simp only[Sem.run_bind,Sem.run_pure,Result.andThen_ok];have:binOp op t (.int k a) (.int k b)=jf op k a b:=by cases op<;>first|exact absurd rfl hs|exact absurd rfl hs'|simp[binOp,jf]
 rw[this];exact h w
theorem eZ {op:BinOp} {t:TypeId} {xo yo:Operand} {f:IntKind->Nat->Nat->AV} {s:IntKind->Int->Int->AV} {x y v:AV} {vx vy:Value} (hx:VR ι x vx) (hy:VR ι y vy)
 (h:iD f s x y=v) (hv:v≠.bad) (hs:op≠.shl) (hs':op≠.shr)
 (hf:∀k (m n:Nat),f k m n≠.bad->∃v',(∀w:World,(jf op k m n).run P w= .ok v' w)/\VR ι (f k m n) v')
 (hsl:∀k (a b:Int),s k a b≠.bad->∃v',(∀w:World,(jf op k a b).run P w= .ok v' w)/\VR ι (s k a b) v'):qP P ι op t xo yo vx vy v:=by
 obtain⟨k,a,b,ex,ey,h'⟩:=Ho h hv;clear h;subst ex;subst ey;have ex:vx= .int k a:=hx;have ey:vy= .int k b:=hy;rw[ex,ey];rcases h' with h'|h';·obtain⟨m,n,ha,hb,h'⟩:=h';rw[h']at hv⊢;rw[ha,hb];obtain⟨v',h1,h2⟩:=hf k m n hv;exact Om hs hs' h1 h2
 ·rw[h']at hv⊢;obtain⟨v',h1,h2⟩:=hsl k a b hv;exact Om hs hs' h1 h2
theorem Oo {k:IntKind} {a b:Int}:∃v',(∀w:World,(jf .add k a b).run P w= .ok v' w)/\VR ι (mk k (a+b)) v':=
 ⟨_,λw=>rfl,by rw[mk,AQ];rfl⟩
theorem Oq {k:IntKind} {a b:Int}:∃v',(∀w:World,(jf .sub k a b).run P w= .ok v' w)/\VR ι (mk k (a-b)) v':=
 ⟨_,λw=>rfl,by rw[mk,AQ];rfl⟩
theorem Ot {k:IntKind} {a b:Int}:∃v',(∀w:World,(jf .mul k a b).run P w= .ok v' w)/\VR ι (mk k (a*b)) v':=
 ⟨_,λw=>rfl,by rw[mk,AQ];rfl⟩
theorem Dg (k:IntKind) (n:Nat):WU k n=mk k n:=by rw[WU,mk,Sl,AQ]
theorem jr {op:BinOp} {k:IntKind} {a b:Int} {r:Bool} (h:∀w:World,(jf op k a b).run P w= .ok (.bool r) w) (r':Bool) (e:r'=r):∃v',(∀w:World,(jf op k a b).run P w= .ok v' w)/\VR ι (.bool r') v':=
 ⟨_,h,by rw[e];rfl⟩
theorem uT (a b:Nat):Nat.beq a b=decide (a=b):=by rw[dY,Nat.beq_eq,aY]
theorem iY (a b:Nat):Nat.ble a b=decide (a<=b):=by rw[dY,aD,aY]
theorem uU (b:Bool):Bz b= !b:=by cases b<;>rfl
theorem Xh (a b:Bool):Fh a b=(a==b):=by cases a<;>cases b<;>rfl
theorem aaw (k:IntKind):∃j,j<=k.bits/\Jt k+1=2^j:=by
 cases k;·exact⟨7,by decide,by decide⟩
 ·exact⟨15,by decide,by decide⟩
 ·exact⟨31,by decide,by decide⟩
 ·exact⟨63,by decide,by decide⟩
 ·exact⟨8,by decide,by decide⟩
 ·exact⟨16,by decide,by decide⟩
 ·exact⟨32,by decide,by decide⟩
 ·exact⟨64,by decide,by decide⟩
theorem Hq (op:BinOp) (f:Nat->Nat->Nat) (hf:∀j a b:Nat,a<2^j->b<2^j->f a b<2^j)
 (hop:∀(k:IntKind) (a b:Nat),a<2^k.bits->b<2^k.bits->∀w:World,(jf op k a b).run P w= .ok (.int k (k.wrap ((f a b:Nat):Int))) w) (k:IntKind) (a b:Nat) (h:Hr f k a b≠.bad):
 ∃v',(∀w:World,(jf op k a b).run P w= .ok v' w)/\VR ι (Hr f k a b) v':=by
 unfold Hr at h⊢;cases h1:Nat.ble a (Jt k);·rw[h1]at h;exact absurd rfl h
 ·cases h2:Nat.ble b (Jt k)
  ·rw[h1,h2]at h;exact absurd rfl h
  ·rw[aD]at h1 h2;obtain⟨j,hj,hm⟩:=aaw k;have hp:2^j<=2^k.bits:=Nat.pow_le_pow_right (by decide) hj;have hr:=hf j a b (by omega) (by omega);refine⟨_,hop k a b (by omega) (by omega),?_⟩;rw[Hl k _ (by omega) (by omega)];rfl
theorem Ht (k:IntKind) (a b:Nat) (ha:a<2^k.bits) (hb:b<2^k.bits) (w:World):(jf .and k a b).run P w= .ok (.int k (k.wrap ((Nat.land a b:Nat):Int))) w:=by simp only[jf,Op.intBits,BitVec.ofInt_natCast,BitVec.toNat_and,BitVec.toNat_ofNat,kY ha,kY hb];rfl
theorem JA (k:IntKind) (a b:Nat) (ha:a<2^k.bits) (hb:b<2^k.bits) (w:World):(jf .or k a b).run P w= .ok (.int k (k.wrap ((Nat.lor a b:Nat):Int))) w:=by simp only[jf,Op.intBits,BitVec.ofInt_natCast,BitVec.toNat_or,BitVec.toNat_ofNat,kY ha,kY hb];rfl
theorem Hu (k:IntKind) (a b:Nat) (ha:a<2^k.bits) (hb:b<2^k.bits) (w:World):(jf .xor k a b).run P w= .ok (.int k (k.wrap ((Nat.xor a b:Nat):Int))) w:=by simp only[jf,Op.intBits,BitVec.ofInt_natCast,BitVec.toNat_xor,BitVec.toNat_ofNat,kY ha,kY hb];rfl
end
theorem FJ (l:List UInt8) (n:Nat) (_:n<=l.length):fG l/256^(l.length-n)=fG (l.take n):=by have e:=jK (l.take n) (l.drop n);rw[qO,gP]at e;have hlt:=jV (l.drop n);rw[gP]at hlt;have hp:0<256^(l.length-n):=Nat.pow_pos (by omega);rw[e,kX,xW hp,xX hlt,dG]
theorem Hw {a b m x y:Nat} (h:a<b) (hx:x<m):a*m+x<b*m+y:=by have:(a+1)*m<=b*m:=l9 _ h;rw[fD]at this;omega
theorem xZ:∀(x y:List UInt8),x.length<=y.length->Op.bytesLess x y=decide (fG x<fG (y.take x.length)+(if x.length<y.length then 1 else 0))
 |[],[],_=>by simp[Op.bytesLess,fG]
 |[],_::_,_=>by simp[Op.bytesLess,fG]
 |_::_,[],h=>by simp at h
 |a::x,b::y,h=>by
  have h':x.length<=y.length:=by simpa using h
  have hk:(y.take x.length).length=x.length:=by rw[jh];omega
  have hx:=jV x;have hy:=jV (y.take x.length);rw[hk]at hy;rw[Op.bytesLess,xZ x y h',bT,List.take_succ_cons,iX,iX,hk,bT];have e:(if x.length+1<y.length+1 then 1 else 0:Nat)=(if x.length<y.length then 1 else 0):=by simp
  rw[e];rcases kZ a.toNat b.toNat with c|c|c;·have h1:a<b:=uV.2 c;have h2:=Hw (y:=fG (y.take x.length)) c hx;rw[aO h1,Bool.true_or];exact(aO (by omega)).symm
  ·have h1:a=b:=UInt8.toNat_inj.1 c;subst h1;have:¬a<a:=by rw[uV];omega
   rw[aP this,Bool.false_or];simp only[BEq.rfl,Bool.true_and];rw[dY,aY,aY];omega
  ·have h1:¬a<b:=by rw[uV];omega
   have h3:(a==b)=false:=by rw[dH];intro e;rw[e]at c;omega
   have h2:=Hw (y:=fG x) c hy;rw[aP h1,h3,Bool.false_or,Bool.false_and];refine(aP ?_).symm;split<;>omega
theorem x9:∀(x y:List UInt8),y.length<x.length->Op.bytesLess x y=decide (fG (x.take y.length)<fG y)
 |x,[],_=>by cases x<;>simp[Op.bytesLess,fG]
 |[],_::_,h=>by simp at h
 |a::x,b::y,h=>by
  have h':y.length<x.length:=by simpa using h
  have hk:(x.take y.length).length=y.length:=by rw[jh];omega
  have hx:=jV (x.take y.length);have hy:=jV y;rw[hk]at hx;rw[Op.bytesLess,x9 x y h',bT,List.take_succ_cons,iX,iX,hk];rcases kZ a.toNat b.toNat with c|c|c;·have h1:a<b:=uV.2 c;have h2:=Hw (y:=fG y) c hx;rw[aO h1,Bool.true_or];exact(aO (by omega)).symm
  ·have h1:a=b:=UInt8.toNat_inj.1 c;subst h1;have:¬a<a:=by rw[uV];omega
   rw[aP this,Bool.false_or];simp only[BEq.rfl,Bool.true_and];rw[dY,aY,aY];omega
  ·have h1:¬a<b:=by rw[uV];omega
   have h3:(a==b)=false:=by rw[dH];intro e;rw[e]at c;omega
   have h2:=Hw (y:=fG (x.take y.length)) c hy;rw[aP h1,h3,Bool.false_or,Bool.false_and];exact(aP (by omega)).symm
theorem Str.adg (a b:ByteArray):(Str.of a).lt (Str.of b)=Op.bytesLess a.toList b.toList:=by
 rw[ByteArray.toList_eq,ByteArray.toList_eq];have la:a.data.toList.length=a.size:=rfl;have lb:b.data.toList.length=b.size:=rfl;have e:(Str.of a).lt (Str.of b)=Bool.rec (motive:=λ_=>Bool)
  (Nat.ble (Nat.succ ((Str.of a).val>>>(8*((Str.of a).len-(Str.of b).len)))) (Str.of b).val)
  (Nat.ble (Nat.succ (Str.of a).val) ((Str.of b).val>>>(8*((Str.of b).len-(Str.of a).len))+(Bool.rec (motive:=λ_=>Nat) 0 1 (Nat.ble (Nat.succ (Str.of a).len) (Str.of b).len))))
  (Nat.ble (Str.of a).len (Str.of b).len):=rfl
 rw[e,Str.eY,Str.eY,Str.zJ,Str.zJ,BO,BO,Nat.pow_mul,Nat.pow_mul];cases h:Nat.ble a.size b.size
 ·have h':b.size<a.size:=by
   have:¬a.size<=b.size:=by rw[<-aD,h];simp
   omega
  rw[x9 _ _ (by rw[la,lb];exact h'),lb];have:=FJ a.data.toList b.size (by rw[la];omega);rw[la]at this;show Nat.ble _ _=_;rw[iY];show decide (Nat.succ (_/256^_)<=_)=_;rw[this];rfl
 ·rw[aD]at h;rw[xZ _ _ (by rw[la,lb];exact h),la,lb];have:=FJ b.data.toList a.size (by rw[lb];omega);rw[lb]at this;show Nat.ble _ _=_;rw[iY];show decide (Nat.succ _<=(_/256^_)+_)=_;rw[this];cases h2:Nat.ble (Nat.succ a.size) b.size
  ·have:¬a.size<b.size:=by
    intro c;have:Nat.ble (Nat.succ a.size) b.size=true:=by rw[aD];exact c
    rw[this]at h2;cases h2
   rw[aj this];rfl
  ·rw[aD]at h2;have h3:a.size<b.size:=h2;rw[au h3];rfl
section
variable {P:Program} {ι:aV} {g:G}
theorem BQ {f:Str->Str->AV} {k:AV->AV->AV} {x y v:AV} (h:str2 f k x y=v) (hv:v≠.bad):
 (∃a b,x= .str a/\y= .str b/\v=f a b)\/(toS x= .none/\v=k x y):=by
 unfold str2 at h;cases hx:toS x with
 |none=>rw[hx]at h;exact .inr ⟨rfl,h.symm⟩
 |some a=>
  rw[hx]at h;cases hy:toS y with
  |none=>rw[hy]at h;exact absurd h.symm hv
  |some b=>rw[hy]at h;exact .inl ⟨a,b,toS_some hx,toS_some hy,h.symm⟩
theorem Hy {f k:AV->AV->AV} {x y v:AV} (h:orI f k x y=v):v=f x y\/(toI x= .none/\v=k x y):=by
 unfold orI at h;cases hx:toI x with
 |none=>rw[hx]at h;exact .inr ⟨rfl,h.symm⟩
 |nn k a=>rw[hx]at h;exact .inl h.symm
 |ng k a=>rw[hx]at h;exact .inl h.symm
theorem BU {op:BinOp} {t:TypeId} {xo yo:Operand} {a b:ByteArray} {v:AV} {v':Value} (h:∀w:World,(Op.stringOp op a b).run P w= .ok v' w) (hs:op≠.shl) (hs':op≠.shr) (hv:VR ι v v'):
 qP P ι op t xo yo (.string a) (.string b) v:=by
 intro w;refine⟨v',?_,hv⟩;rw[Qj];simp only[Sem.run_bind,Sem.run_pure,Result.andThen_ok];have:binOp op t (.string a) (.string b)=Op.stringOp op a b:=by cases op<;>first|exact absurd rfl hs|exact absurd rfl hs'|simp[binOp]
 rw[this];exact h w
theorem toList_beq (a b:ByteArray):(a.toList==b.toList)=decide (a=b):=by
 rw[dY,cZ,aY,ByteArray.toList_eq,ByteArray.toList_eq];constructor;·intro h;cases a;cases b;congr 1;exact Array.toList_inj.1 h
 ·intro h;rw[h]
def ag1 (P:Program) (t:TypeId):EK->Prop
 | .none=>True
 | .bool=>P.underlying t=some .bool
 | .ptr=>∃el i,P.underlying t=some (.pointer el)/\P.info? el=some i/\i.size≠0
 | .slice=>∃el,P.underlying t=some (.slice el)
 | .map=>∃a b,P.underlying t=some (.map a b)
 | .func=>∃a b c,P.underlying t=some (.func a b c)
 | .iface=>∃ms,P.underlying t=some (.interface ms)
 | .two=>Eq2 P t
theorem aax (hg:jP P g) (t:TypeId):ag1 P t (eqK g t):=by
 unfold eqK;split;·rename_i hd;exact(hg.ty _ _ hd).1
 ·rename_i el s b ag z zv hd;split
  ·rename_i y hy;cases hz:Nat.beq y.size (nat_lit 0)
   ·obtain⟨_,_,i,z,hi,hs,_⟩:=hg.ty _ _ hy;refine⟨el,i,(hg.ty _ _ hd).1,hi,?_⟩;rw[hs];intro c;rw[c]at hz;cases hz
   ·trivial
  ·trivial
 ·rename_i hd;exact⟨_,(hg.ty _ _ hd).1⟩
 ·rename_i hd;exact⟨_,_,(hg.ty _ _ hd).1⟩
 ·rename_i hd;exact⟨_,_,_,(hg.ty _ _ hd).1⟩
 ·rename_i hd;exact⟨_,(hg.ty _ _ hd).1⟩
 ·split
  ·rename_i h2;exact hg.eq2 _ h2
  ·trivial
theorem Me {a b:Int} (h:eqI a b=true):a=b:=by cases a<;>cases b<;>first|(cases h;done)|(have h:=aI h;subst h;rfl)
theorem Ou {a b:Bool}:aaz a b=(a&&b):=by cases a<;>rfl
theorem Ov (a b:Int):eqI a b=(a==b):=by rw[dY,cZ];refine⟨Me,λh=> ?_⟩;subst h;cases a<;>exact qN _
def Ow (P:Program) (t:TypeId) (xo yo:Operand) (x y:Value) (r:Bool):Prop:=
 ∀w:World,(eqGuard .eql t xo yo x y).run P w= .ok () w/\(eqGuard .neq t xo yo x y).run P w= .ok () w/\(Op.equal t x y).run P w= .ok r w/\
  binOp .eql t x y=(do pure (.bool (<-Op.equal t x y)))/\binOp .neq t x y=(do pure (.bool (!(<-Op.equal t x y))))
theorem Qk:∃d,∀t x y,Op.equal t x y=Op.equalIn (d+2) t x y:=⟨9998,λ_ _ _=>rfl⟩
theorem yc {t:TypeId} {k:IntKind} (h:P.underlying t=some (.int k)) {cs:Array Value} {off:Nat} {v:Value} (hv:cs[off]? =some v) (w:World):(part t cs off).run P w= .ok v w:=by simp only[part,isAgg,Sem.run_bind,aB h,Result.andThen_ok,hv,Sem.run_pure,aZ,jq]
theorem FK {t:TypeId} {k k':IntKind} (h:P.underlying t=some (.int k)) {a b:Int} {d:Nat} (w:World):(Op.equalIn (d+1) t (.int k' a) (.int k' b)).run P w= .ok (a==b) w:=by rw[Op.equalIn];simp[aB h]
theorem aaA {t:TypeId} (h2:Eq2 P t) {k l:IntKind} {a b a' b':Int} {xo yo:Operand}:Ow P t xo yo (.agg #[.int k a, .int l b]) (.agg #[.int k a', .int l b']) (a==a'&&b==b'):=by
 obtain⟨f0,f1,k0,k1,hd,h0,h1,o0,o1,n0,n1,hs,hq⟩:=h2;obtain⟨n,hn⟩:=Qk;refine λw=>⟨?_,?_,?_,rfl,rfl⟩
 ·simp[eqGuard,hq]
 ·simp[eqGuard,hq]
 ·rw[hn,Op.equalIn];have p1:=yc h0 (cs:=#[.int k a, .int l b]) (off:=f0.offset) (v:= .int k a) (by rw[o0];rfl) w;have p2:=yc h0 (cs:=#[.int k a', .int l b']) (off:=f0.offset) (v:= .int k a') (by rw[o0];rfl) w;have p3:=yc h1 (cs:=#[.int k a, .int l b]) (off:=f1.offset) (v:= .int l b) (by rw[o1];rfl) w;have p4:=yc h1 (cs:=#[.int k a', .int l b']) (off:=f1.offset) (v:= .int l b') (by rw[o1];rfl) w;have e1:=FK h0 (k':=k) (a:=a) (b:=a') (d:=n) w;have e2:=FK h1 (k':=l) (a:=b) (b:=b') (d:=n) w;generalize(a==a')=u at e1⊢;generalize(b==b')=v at e2⊢;simp only[aB hd,Sem.run_bind,run_program,Result.andThen_ok,List.forIn_toArray,List.forIn_cons,List.forIn_nil];cases u<;>cases v<;>simp[hs,n0,n1,p1,p2,p3,p4,e1,e2]
theorem Sm:∃d,∀t x y,Op.equal t x y=Op.equalIn (d+1) t x y:=⟨9999,λ_ _ _=>rfl⟩
set_option maxHeartbeats 800000 in
theorem Ox (hg:jP P g) {t:TypeId} {xo yo:Operand} {c:Bool} (hc:c=true->(∃v,xo= .const v)\/∃v,yo= .const v) {f:Bool->AV} {x y v:AV} {vx vy:Value}
 (hx:VR ι x vx) (hy:VR ι y vy) (h:Fj (eqK g t) c f x y=v) (hv:v≠.bad):∃r,v=f r/\Ow P t xo yo vx vy r:=by
 have hk:=aax hg t;obtain⟨n,hn⟩:=Sm;generalize eqK g t=e at h hk;cases e with
 |none=>exact absurd h.symm hv
 |two=>
  simp only[Fj]at h;split at h
  ·rename_i k a l b k' a' l' b';rw[Ou,Ou]at h;cases hk1:Nat.beq (sS k) (sS k')<;>cases hk2:Nat.beq (sS l) (sS l')<;>rw[hk1,hk2]at h<;>first|(exact absurd h.symm hv;done)|skip
   obtain rfl:=gQ hk1;obtain rfl:=gQ hk2;obtain⟨xs,rfl,hxs⟩:=hx;obtain⟨ys,rfl,hys⟩:=hy;obtain⟨_,_,e0,rfl,ag2⟩:=gG hxs;obtain⟨_,_,q0,rfl,ag3⟩:=gG ag2;rw[q0,oh ag3]at e0;obtain⟨_,_,e1,rfl,ag4⟩:=gG hys;obtain⟨_,_,q1,rfl,ag5⟩:=gG ag4;rw[q1,oh ag5]at e1;obtain rfl:xs=#[.int k a, .int l b]:=by cases xs;simp only at e0;rw[e0]
   obtain rfl:ys=#[.int k a', .int l b']:=by cases ys;simp only at e1;rw[e1]
   refine⟨_,h.symm,?_⟩;rw[Ov,Ov];exact aaA hk
  ·exact absurd h.symm hv
 |bool=>
  simp only[Fj]at h;split at h;·rename_i a b;cases hx;cases hy;rw[Xh]at h;refine⟨_,h.symm,λw=>⟨rfl,rfl,?_,rfl,rfl⟩⟩;rw[hn,Op.equalIn];simp[aB hk]
  ·exact absurd h.symm hv
 |ptr=>
  obtain⟨el,i,hd,hi,hs⟩:=hk;simp only[Fj]at h;split at h;·cases hx;cases hy;refine⟨_,h.symm,λw=>⟨rfl,rfl,?_,rfl,rfl⟩⟩;rw[hn,Op.equalIn];simp[aB hd]
  ·cases hx;obtain⟨m,hm,rfl⟩:=hy;refine⟨_,h.symm,λw=>⟨rfl,rfl,?_,rfl,rfl⟩⟩;rw[hn,Op.equalIn];simp[aB hd]
  ·cases hy;obtain⟨m,hm,rfl⟩:=hx;refine⟨_,h.symm,λw=>⟨rfl,rfl,?_,rfl,rfl⟩⟩;rw[hn,Op.equalIn];simp[aB hd]
  ·rename_i a i' b j;obtain⟨m,hm,rfl⟩:=hx;obtain⟨m',hm',rfl⟩:=hy;cases hab:Nat.beq a b
   ·rw[hab]at h;exact absurd h.symm hv
   ·rw[hab]at h;obtain rfl:=aI hab;rw[hm]at hm';cases hm';refine⟨_,h.symm,λw=>⟨rfl,rfl,?_,rfl,rfl⟩⟩;rw[hn,Op.equalIn];simp only[Sem.run_bind,aB hd,Result.andThen_ok,dz hi,ne_eq,hs,not_false_eq_true,if_true,sameAddr,BEq.rfl];have e:((⟨m.B,m.sh+i',none⟩:Addr)==⟨m.B,m.sh+j,none⟩)=Nat.beq i' j:=by rw[uT,dY,cZ,aY];simp
    rw[e];rfl
  ·exact absurd h.symm hv
 |slice=>
  obtain⟨el,hd⟩:=hk;simp only[Fj]at h;split at h;·cases hx;cases hy;refine⟨_,h.symm,λw=>⟨rfl,rfl,?_,rfl,rfl⟩⟩;rw[hn,Op.equalIn];simp[aB hd]
  ·cases hx;obtain⟨m,y,cap,hm,rfl,_⟩:=hy;refine⟨_,h.symm,λw=>⟨rfl,rfl,?_,rfl,rfl⟩⟩;rw[hn,Op.equalIn];simp[aB hd]
  ·cases hy;obtain⟨m,y,cap,hm,rfl,_⟩:=hx;refine⟨_,h.symm,λw=>⟨rfl,rfl,?_,rfl,rfl⟩⟩;rw[hn,Op.equalIn];simp[aB hd]
  ·exact absurd h.symm hv
 |map=>
  obtain⟨ka,el,hd⟩:=hk;simp only[Fj]at h;split at h;·cases hx;cases hy;refine⟨_,h.symm,λw=>⟨rfl,rfl,?_,rfl,rfl⟩⟩;rw[hn,Op.equalIn];simp[aB hd]
  ·cases hx;obtain⟨m,hm,rfl⟩:=hy;refine⟨_,h.symm,λw=>⟨rfl,rfl,?_,rfl,rfl⟩⟩;rw[hn,Op.equalIn];simp[aB hd]
  ·cases hy;obtain⟨m,hm,rfl⟩:=hx;refine⟨_,h.symm,λw=>⟨rfl,rfl,?_,rfl,rfl⟩⟩;rw[hn,Op.equalIn];simp[aB hd]
  ·exact absurd h.symm hv
 |func=>
  obtain⟨ka,kb,kc,hd⟩:=hk;simp only[Fj]at h;split at h;·cases hx;cases hy;refine⟨_,h.symm,λw=>⟨rfl,rfl,?_,rfl,rfl⟩⟩;rw[hn,Op.equalIn];simp[aB hd]
  ·cases hx;rcases hy with⟨xs,ys,rfl,_⟩|⟨y,nm,rfl,_⟩
   ·refine⟨_,h.symm,λw=>⟨rfl,rfl,?_,rfl,rfl⟩⟩;rw[hn,Op.equalIn];simp[aB hd]
   ·refine⟨_,h.symm,λw=>⟨rfl,rfl,?_,rfl,rfl⟩⟩;rw[hn,Op.equalIn];simp[aB hd]
  ·cases hy;rcases hx with⟨xs,ys,rfl,_⟩|⟨y,nm,rfl,_⟩
   ·refine⟨_,h.symm,λw=>⟨rfl,rfl,?_,rfl,rfl⟩⟩;rw[hn,Op.equalIn];simp[aB hd]
   ·refine⟨_,h.symm,λw=>⟨rfl,rfl,?_,rfl,rfl⟩⟩;rw[hn,Op.equalIn];simp[aB hd]
  ·cases hx;obtain⟨m,hm,rfl⟩:=hy;refine⟨_,h.symm,λw=>⟨rfl,rfl,?_,rfl,rfl⟩⟩;rw[hn,Op.equalIn];simp[aB hd]
  ·cases hy;obtain⟨m,hm,rfl⟩:=hx;refine⟨_,h.symm,λw=>⟨rfl,rfl,?_,rfl,rfl⟩⟩;rw[hn,Op.equalIn];simp[aB hd]
  ·exact absurd h.symm hv
 |iface=>
  obtain⟨ms,hd⟩:=hk;simp only[Fj]at h;split at h
  ·cases hx;cases hy;cases c
   ·exact absurd h.symm hv
   ·have hc':=hc rfl;refine⟨_,h.symm,λw=>⟨?_,?_,?_,rfl,rfl⟩⟩
    ·rcases hc' with⟨_,rfl⟩|⟨_,rfl⟩<;>simp[eqGuard]
    ·rcases hc' with⟨_,rfl⟩|⟨_,rfl⟩<;>simp[eqGuard]
    ·rw[hn,Op.equalIn];simp[aB hd]
  ·cases hx;obtain⟨z,rfl,_⟩:=hy;refine⟨_,h.symm,λw=>⟨rfl,rfl,?_,rfl,rfl⟩⟩;rw[hn,Op.equalIn];simp[aB hd]
  ·cases hy;obtain⟨z,rfl,_⟩:=hx;refine⟨_,h.symm,λw=>⟨rfl,rfl,?_,rfl,rfl⟩⟩;rw[hn,Op.equalIn];simp[aB hd]
  ·exact absurd h.symm hv
theorem aaB {t:TypeId} {xo yo:Operand} {vx vy:Value} {r:Bool} (h:Ow P t xo yo vx vy r):qP P ι .eql t xo yo vx vy (rT r):=by intro w;obtain⟨h1,_,h2,h3,_⟩:=h w;refine⟨.bool r,?_,rfl⟩;simp only[Sem.run_bind,h1,Result.andThen_ok,h3,h2,Sem.run_pure]
theorem aaC {t:TypeId} {xo yo:Operand} {vx vy:Value} {r:Bool} (h:Ow P t xo yo vx vy r):qP P ι .neq t xo yo vx vy (rF r):=by intro w;obtain⟨_,h1,h2,_,h3⟩:=h w;refine⟨.bool (!r),?_,by rw[rF,uU];rfl⟩;simp only[Sem.run_bind,h1,Result.andThen_ok,h3,h2,Sem.run_pure]
theorem Xi (k:IntKind) (m n:Nat) (h:Sn k m n≠.bad):∃v',(∀w:World,(jf .quo k m n).run P w= .ok v' w)/\VR ι (Sn k m n) v':=by
 unfold Sn at h⊢;cases h0:Nat.beq n (nat_lit 0)
 ·have:(n:Int)≠0:=by
   intro c;have:n=0:=by omega
   rw[this]at h0;cases h0
  refine⟨.int k (k.wrap ((m:Int).tdiv n)),λw=>by simp only[jf,Op.intDiv];rw[aj this];rfl,?_⟩;show VR ι (WU k (m/n)) _;rw[Dg,mk,AQ];rfl
 ·rw[h0]at h;exact absurd rfl h
theorem Xj (k:IntKind) (m n:Nat) (h:Sq k m n≠.bad):∃v',(∀w:World,(jf .rem k m n).run P w= .ok v' w)/\VR ι (Sq k m n) v':=by
 unfold Sq at h⊢;cases h0:Nat.beq n (nat_lit 0)
 ·have:(n:Int)≠0:=by
   intro c;have:n=0:=by omega
   rw[this]at h0;cases h0
  exact⟨.int k ((m:Int).tmod n),λw=>by simp only[jf,Op.intDiv];rw[aj this];rfl,rfl⟩
 ·rw[h0]at h;exact absurd rfl h
theorem Xk {t:TypeId} {xo yo:Operand} {x y v:AV} {vx vy:Value} (hx:VR ι x vx) (hy:VR ι y vy) (h:zL aaD x y=v) (hv:v≠.bad):qP P ι .shl t xo yo vx vy v:=by
 obtain⟨k,k',m,n,rfl,rfl,h'⟩:=FI h hv;clear h;have ex:vx= .int k m:=hx;have ey:vy= .int k' n:=hy;rw[ex,ey];intro w;rw[h']at hv⊢;unfold aaD at hv⊢;cases h0:Nat.ble n k.bits;·rw[h0]at hv;exact absurd rfl hv
 ·rw[aD]at h0;refine⟨.int k (k.wrap ((m:Int)*2^n)),?_,?_⟩
  ·rw[uS];have:binOp .shl t (.int k m) (.int k' n)=Op.shift .shl k m k' n:=by simp[binOp]
   rw[this,shift_shl _ _ _ _ (by omega) (by omega)];simp
  ·show VR ι (WU k (m*2^n)) _;rw[Dg,mk,AQ];have:((m*2^n:Nat):Int)=(m:Int)*2^n:=by simp
   rw[this];rfl
theorem Xl {t:TypeId} {xo yo:Operand} {x y v:AV} {vx vy:Value} (hx:VR ι x vx) (hy:VR ι y vy) (h:zL aaE x y=v) (hv:v≠.bad):qP P ι .shr t xo yo vx vy v:=by
 obtain⟨k,k',m,n,rfl,rfl,h'⟩:=FI h hv;clear h;have ex:vx= .int k m:=hx;have ey:vy= .int k' n:=hy;rw[ex,ey];intro w;rw[h']at hv⊢;unfold aaE at hv⊢;cases h0:Nat.ble n k.bits;·rw[h0]at hv;exact absurd rfl hv
 ·rw[aD]at h0;refine⟨.int k ((m:Int)/2^n),?_,?_⟩
  ·rw[uS];have:binOp .shr t (.int k m) (.int k' n)=Op.shift .shr k m k' n:=by simp[binOp]
   rw[this,shift_shr _ _ _ _ (by omega) (by omega)];simp
  ·show VR ι (.int k ((m/2^n:Nat):Int)) _;have:((m/2^n:Nat):Int)=(m:Int)/2^n:=by simp
   rw[this];rfl
theorem Sr {t:TypeId} {xo yo:Operand} {x y v:AV} {vx vy:Value} (hx:VR ι x vx) (hy:VR ι y vy) (h:aaF x y=v) (hv:v≠.bad):qP P ι .shr t xo yo vx vy v:=by
 unfold aaF at h;split at h
 ·rename_i k a k' n;have ex:vx= .int k (.negSucc a):=hx;have ey:vy= .int k' (.ofNat n):=hy;rw[ex,ey];intro w;subst h;unfold adi at hv⊢;cases h0:Nat.ble n k.bits
  ·rw[h0]at hv;exact absurd rfl hv
  ·rw[aD]at h0;refine⟨.int k ((Int.negSucc a).fdiv (2^n)),?_,rfl⟩;rw[uS];have:binOp .shr t (.int k (.negSucc a)) (.int k' (.ofNat n))=Op.shift .shr k (.negSucc a) k' (.ofNat n):=by simp[binOp]
   rw[this];have hneg:¬((Int.ofNat n)<0):=by show ¬((n:Int)<0);omega
   have hmin:min (Int.ofNat n).toNat k.bits=n:=Nat.min_eq_left h0;simp only[Op.shift,aj hneg,hmin,Sem.run_bind,Sem.run_pure,Result.andThen_ok]
 ·exact Xl hx hy h hv
theorem Sv {x y:Operand} (h:(Bool.rec (Xm y) true (Xm x):Bool)=true):(∃v,x= .const v)\/∃v,y= .const v:=by cases x<;>cases y<;>simp[Xm]at h⊢
theorem Oy {α:Prop} {k:IntKind} {a b:Int} (h:yg k a b≠.bad):α:=absurd rfl h
theorem dec_lt (a b:Nat):Nat.ble (Nat.succ a) b=decide ((a:Int)<b):=by rw[iY,dY,aY,aY];omega
theorem bL (a b:Nat):Nat.ble a b=decide ((a:Int)<=b):=by rw[iY,dY,aY,aY];omega
theorem Sw (a b:Nat):Nat.beq a b=((a:Int)==b):=by rw[uT,dY,aY,cZ];omega
theorem Xn (hg:jP P g) {op:BinOp} {t:TypeId} {xo yo:Operand} {x y v:AV} {vx vy:Value} (hx:VR ι x vx) (hy:VR ι y vy)
 (h:(Sy op (Bool.rec (Xm yo) true (Xm xo)) (eqK g t)).f x y=v) (hv:v≠.bad):qP P ι op t xo yo vx vy v:=by
 cases op with
 |add=>
  rcases Hy h with h1|⟨_,h1⟩<;>clear h
  ·exact eZ hx hy h1.symm hv (by simp) (by simp) (λk m n _=>by
    have e:adj k m n=mk k ((m:Int)+n):=Dg k (m+n);rw[e];exact Oo) (λk a b _=>Oo)
  ·rcases BQ h1.symm hv with⟨a,b,ex,ey,h⟩|⟨_,h⟩<;>clear h1
   ·subst ex;subst ey;obtain⟨a,rfl,rfl⟩:=hx;obtain⟨b,rfl,rfl⟩:=hy;unfold adk at h;rw[Str.eY,Str.eY]at h;cases hl:Nat.ble (Nat.add a.size b.size) (nat_lit 0x4000000000000000)
    ·rw[hl]at h;exact absurd h hv
    ·rw[hl]at h;rw[aD]at hl;have hl':a.size+b.size<=0x4000000000000000:=hl;refine BU (v':= .string (a++b)) (λw=>run_string_add_sum w a b (by omega)) (by simp) (by simp) ?_;rw[h];exact⟨a++b,rfl,Str.aau a b⟩
   ·exact absurd h hv
 |sub=>
  have h:iD Xo (λk a b=>mk k (Int.sub a b)) x y=v:=h;exact eZ hx hy h hv (by simp) (by simp) (λk m n _=>by
   have e:Xo k m n=mk k ((m:Int)-n):=by
    unfold Xo;cases hb:Nat.ble n m;·rfl
    ·show WU k (m-n)=_;rw[aD]at hb;rw[Dg];congr 1;omega
   rw[e];exact Oq) (λk a b _=>Oq)
 |mul=>
  have h:iD aaG (λk a b=>mk k (Int.mul a b)) x y=v:=h;exact eZ hx hy h hv (by simp) (by simp) (λk m n _=>by
   have e:aaG k m n=mk k ((m:Int)*n):=Dg k (m*n);rw[e];exact Ot) (λk a b _=>Ot)
 |quo=>have h:iD Sn (yg) x y=v:=h;exact eZ hx hy h hv (by simp) (by simp) Xi (λk a b hs=>Oy hs)
 |rem=>have h:iD Sq (yg) x y=v:=h;exact eZ hx hy h hv (by simp) (by simp) Xj (λk a b hs=>Oy hs)
 |and=>have h:iD (Hr Nat.land) adl x y=v:=h;exact eZ hx hy h hv (by simp) (by simp) (Hq .and Nat.land (λj a b _ hb=>Nat.and_lt_two_pow a hb) Ht) (λk a b _=>⟨_,λw=>rfl,rfl⟩)
 |or=>have h:iD (Hr Nat.lor) orS x y=v:=h;exact eZ hx hy h hv (by simp) (by simp) (Hq .or Nat.lor (λj a b ha hb=>Nat.or_lt_two_pow ha hb) JA) (λk a b _=>⟨_,λw=>rfl,rfl⟩)
 |xor=>have h:iD (Hr Nat.xor) aaH x y=v:=h;exact eZ hx hy h hv (by simp) (by simp) (Hq .xor Nat.xor (λj a b ha hb=>Nat.xor_lt_two_pow ha hb) Hu) (λk a b _=>⟨_,λw=>rfl,rfl⟩)
 |shl=>exact Xk hx hy h hv
 |shr=>exact Sr hx hy h hv
 |andNot=>have h:iD (λk a b=>BX k (.ofNat a) (.ofNat b)) BX x y=v:=h;exact eZ hx hy h hv (by simp) (by simp) (λk m n _=>⟨_,λw=>rfl,rfl⟩) (λk a b _=>⟨_,λw=>rfl,rfl⟩)
 |eql=>
  rcases Hy h with h1|⟨_,h1⟩<;>clear h;·exact eZ hx hy h1.symm hv (by simp) (by simp) (λk m n _=>jr (λw=>rfl) _ (Sw m n)) (λk a b _=>jr (λw=>rfl) _ (by rw[dY,aY,cZ]))
  ·rcases BQ h1.symm hv with⟨a,b,ex,ey,h⟩|⟨_,h⟩<;>clear h1
   ·subst ex;subst ey;obtain⟨a,rfl,rfl⟩:=hx;obtain⟨b,rfl,rfl⟩:=hy;refine BU (v':= .bool (a.toList==b.toList)) (λw=>rfl) (by simp) (by simp) ?_;rw[h,sEq,Str.Sk,toList_beq];rfl
   ·obtain⟨r,h1,h2⟩:=Ox hg Sv hx hy h.symm hv;rw[h1];exact aaB h2
 |neq=>
  rcases Hy h with h1|⟨_,h1⟩<;>clear h;·exact eZ hx hy h1.symm hv (by simp) (by simp) (λk m n _=>jr (λw=>rfl) _ (by rw[uU,Sw];rfl)) (λk a b _=>jr (λw=>rfl) _ (by rw[uU];rfl))
  ·rcases BQ h1.symm hv with⟨a,b,ex,ey,h⟩|⟨_,h⟩<;>clear h1
   ·subst ex;subst ey;obtain⟨a,rfl,rfl⟩:=hx;obtain⟨b,rfl,rfl⟩:=hy;refine BU (v':= .bool !(a.toList==b.toList)) (λw=>rfl) (by simp) (by simp) ?_;rw[h,sNe,Str.Sk,toList_beq,uU];rfl
   ·obtain⟨r,h1,h2⟩:=Ox hg Sv hx hy h.symm hv;rw[h1];exact aaC h2
 |lss=>
  rcases Hy h with h1|⟨_,h1⟩<;>clear h;·exact eZ hx hy h1.symm hv (by simp) (by simp) (λk m n _=>jr (λw=>rfl) _ (dec_lt m n)) (λk a b _=>jr (λw=>rfl) _ rfl)
  ·rcases BQ h1.symm hv with⟨a,b,ex,ey,h⟩|⟨_,h⟩<;>clear h1
   ·subst ex;subst ey;obtain⟨a,rfl,rfl⟩:=hx;obtain⟨b,rfl,rfl⟩:=hy;refine BU (v':= .bool (Op.bytesLess a.toList b.toList)) (λw=>rfl) (by simp) (by simp) ?_;rw[h,sLt,Str.adg];rfl
   ·exact absurd h hv
 |leq=>have h:iD leF (λ_ a b=> .bool (decide (a<=b))) x y=v:=h;exact eZ hx hy h hv (by simp) (by simp) (λk m n _=>jr (λw=>rfl) _ (bL m n)) (λk a b _=>jr (λw=>rfl) _ rfl)
 |gtr=>have h:iD gtF (λ_ a b=> .bool (decide (b<a))) x y=v:=h;exact eZ hx hy h hv (by simp) (by simp) (λk m n _=>jr (λw=>rfl) _ (dec_lt n m)) (λk a b _=>jr (λw=>rfl) _ rfl)
 |geq=>have h:iD geF (λ_ a b=> .bool (decide (b<=a))) x y=v:=h;exact eZ hx hy h hv (by simp) (by simp) (λk m n _=>jr (λw=>rfl) _ (bL n m)) (λk a b _=>jr (λw=>rfl) _ rfl)
theorem uop_ok {op:UnOp} {x v:AV} {vx:Value} (hx:VR ι x vx) (h:(uop op).f x=v) (hv:v≠.bad):∃v',(∀w:World,(Op.unary op vx).run P w= .ok v' w)/\VR ι v v':=by
 have h':uop1 op x=v:=h;unfold uop1 at h';split at h';·cases hx;exact⟨_,λw=>rfl,by rw[<-h',uU];rfl⟩
 ·rename_i k n;cases hx;refine⟨.int k (k.wrap (0-n)),λw=>rfl,?_⟩;rw[<-h',mk,AQ];rfl
 ·rename_i k n;cases hx;exact⟨_,λw=>rfl,by rw[<-h'];rfl⟩
 ·exact absurd h'.symm hv
