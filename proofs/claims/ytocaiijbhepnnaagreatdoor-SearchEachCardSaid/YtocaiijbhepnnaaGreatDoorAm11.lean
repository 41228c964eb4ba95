/- The machine's soundness, fourth part: lists of values, stores, new rows. -/
import Derived.Test.YtocaiijbhepnnaaGreatDoorAm8
import Derived.Laws.Strings
import Derived.Laws.Concat
import Derived.Laws.BitsAllLaws
import Derived.Laws.BitsLemmas
import Derived.Laws.Bits64
import Derived.Laws.Shifts
namespace Go.Proofs.YtocaiijbhepnnaaGreatDoor.Am
theorem eY {P:Program} {b:Nat} {el:TypeId} {lo hi:Nat}:∀(l:List Value) (o i:Nat) (arr:Array Value) (w:World),w.heap[b]? =some (.cells arr el (lo,hi))→
 (lo=hi∨arr.size≤lo∨hi≤o)→o+i+l.length≤arr.size→(∀v∈l,v.oneCell'=true)→
 (storeCells ⟨b,o,none⟩ l i).run P w= .ok () (World.putCells w b (p8 arr (o+i) l) el (lo,hi))
 |[],o,i,arr,w,h,_,_,_=>by simp[storeCells,p8,yg h]
 |v::r,o,i,arr,w,h,hf,hs,h1=>by
  have hsz:o+i<arr.size:=by simp at hs;omega
  have hfz:w.frozen? ⟨b,o+i,none⟩=false:=by simp only[World.frozen?,h];simp only[Bool.and_eq_false_iff,zq];rcases hf with hf|hf|hf<;>omega
  simp only[storeCells,Sem.run_bind,addr_add];rw[run_store P w _ _ _ (h1 v (by simp)),zu h,nA hsz];simp only[hfz,bn,jy,Result.andThen_ok];rw[Pf h];have hb:b<w.heap.size:=(dH.1 h).1;rw[eY r o (i+1) (arr.setIfInBounds (o+i) v) _ (gM hb) (by simpa using hf) (by simp at hs⊢;omega) (fun u hu=>h1 u (by simp[hu]))];rw[JJ];rfl
theorem qK {v v':AV} {h h':H} (e:uJ v h= .ok v' h'):v'=v∧h'=h∧v≠.bad:=by cases v<;>simp only[uJ,frc_eq]at e<;>first|(cases e;exact⟨rfl,rfl,by simp⟩)|cases e
theorem Rl {v v':AV} {h h':H} (e:JK v h= .ok v' h'):v'=v∧h'=h:=by cases v<;>simp only[JK,frc_eq]at e<;>first|(cases e;exact⟨rfl,rfl⟩)|cases e
section
variable {ι:bg}
theorem qc {l:List Value} (h:iC ι .nil l):l=[]:=h
theorem iI {a t:AV} {l:List Value} (h:iC ι (.cons a t) l):∃x xs,l=x::xs∧VR ι a x∧iC ι t xs:=h
theorem jA {Q:AV→List Value→Prop} (h0:Q .nil []) (h1:∀a t x xs,VR ι a x→iC ι t xs→Q t xs→Q (.cons a t) (x::xs)):∀(a:AV) (l:List Value),iC ι a l→Q a l:=by
 intro a;induction a with
 |nil=>intro l h;cases qc h;exact h0
 |cons h t _ iht=>intro l hl;obtain⟨x,xs,rfl,hx,hxs⟩:=iI hl;exact h1 h t x xs hx hxs (iht xs hxs)
 |_=>intro l h;exact h.elim
theorem iG {a:AV} {l:List Value} (h:iC ι a l):llen a=l.length:=
 jA (ι:=ι) (Q:=fun a l=>llen a=l.length) rfl (fun _ _ _ _ _ _ ih=>eT Nat.succ ih) a l h
theorem iH {a:AV} {l:List Value} (h:iC ι a l) (i:Nat):VR ι (DV a i) (l.getD i undef):=by
 refine jA (ι:=ι) (Q:=fun a l=>∀i,VR ι (DV a i) (l.getD i undef)) (fun i=>trivial) (fun a t x xs hx _ ih i=> ?_) a l h i;cases i with
 |zero=>exact hx
 |succ i=>exact ih i
theorem nQ {a b:AV} {l k:List Value} (h:iC ι a l) (h':iC ι b k):iC ι (l9 a b) (l++k):=
 jA (ι:=ι) (Q:=fun a l=>iC ι (l9 a b) (l++k)) h' (fun _ _ _ _ hx _ ih=>⟨_,_,rfl,hx,ih⟩) a l h
theorem EU {a:AV} {l:List Value} (h:iC ι a l) (n:Nat):iC ι (Il a n) (l.take n):=by
 refine jA (ι:=ι) (Q:=fun a l=>∀n,iC ι (Il a n) (l.take n)) (fun n=>by simp;rfl) (fun a t x xs hx _ ih n=> ?_) a l h n;cases n with
 |zero=>rfl
 |succ n=>exact⟨_,_,rfl,hx,ih n⟩
theorem EX {a:AV} {l:List Value} (h:iC ι a l) (n:Nat):iC ι (Im a n) (l.drop n):=by
 refine jA (ι:=ι) (Q:=fun a l=>∀n,iC ι (Im a n) (l.drop n)) (fun n=>by simp;rfl) (fun a t x xs hx hxs ih n=> ?_) a l h n;cases n with
 |zero=>exact⟨_,_,rfl,hx,hxs⟩
 |succ n=>exact ih n
theorem JL {a:AV} {l:List Value} (h:iC ι a l):∀n,iC ι (JM a n) ((List.replicate n l).flatten)
 |0=>rfl
 |n+1=>by rw[List.replicate_succ,List.flatten_cons];exact nQ h (JL h n)
theorem Pg {v:AV} {x:Value} (h:VR ι v x) (h1:one v=true):x.oneCell'=true∧x.cells=#[x]∧cellsOf v= .cons v .nil:=by
 cases v<;>simp only[one,bn]at h1;case unk=>refine⟨h,?_,rfl⟩;have h:x.oneCell'=true:=h;cases x<;>first|rfl|cases h
 case bool=>cases h;exact⟨rfl,rfl,rfl⟩
 case int=>cases h;exact⟨rfl,rfl,rfl⟩
 case str=>obtain⟨b,rfl,_⟩:=h;exact⟨rfl,rfl,rfl⟩
 case ptr=>obtain⟨m,_,rfl⟩:=h;exact⟨rfl,rfl,rfl⟩
 case oK=>cases h;exact⟨rfl,rfl,rfl⟩
 case slice=>obtain⟨m,y,cap,_,rfl,_⟩:=h;exact⟨rfl,rfl,rfl⟩
 case jO=>cases h;exact⟨rfl,rfl,rfl⟩
 case map=>obtain⟨m,_,rfl⟩:=h;exact⟨rfl,rfl,rfl⟩
 case sF=>cases h;exact⟨rfl,rfl,rfl⟩
 case fn=>rcases h with⟨xs,ys,rfl,_⟩|⟨y,nm,rfl,_⟩<;>exact⟨rfl,rfl,rfl⟩
 case xY=>obtain⟨m,_,rfl⟩:=h;exact⟨rfl,rfl,rfl⟩
 case sG=>cases h;exact⟨rfl,rfl,rfl⟩
 case uy=>obtain⟨y,rfl,_⟩:=h;exact⟨rfl,rfl,rfl⟩
 case qX=>cases h;exact⟨rfl,rfl,rfl⟩
theorem Ec {a:AV} {l:List Value} (h:iC ι a l) (h1:ones a=true):∀v∈l,v.oneCell'=true:=by
 refine jA (ι:=ι) (Q:=fun a l=>ones a=true→∀v∈l,v.oneCell'=true) (fun _ v hv=>by cases hv) (fun a t x xs hx _ ih h1=> ?_) a l h h1;have:one a=true∧ones t=true:=by
  have h1':Bool.rec false (ones t) (one a)=true:=h1;cases ho:one a;·rw[ho]at h1';cases h1'
  ·rw[ho]at h1';exact⟨rfl,h1'⟩
 intro v hv;rcases aU.1 hv with rfl|hv;·exact(Pg hx this.1).1
 ·exact ih this.2 v hv
theorem yG {v:AV} {x:Value} (h:VR ι v x):∃l,iC ι (cellsOf v) l∧(l=x.cells.toList∨l=[]):=by
 cases v;case agg cs=>obtain⟨xs,rfl,hx⟩:=h;exact⟨_,hx, .inl rfl⟩
 case bad=>exact⟨[],rfl, .inr rfl⟩
 case ig=>exact⟨[],rfl, .inr rfl⟩
 case nil=>exact h.elim
 case cons=>exact h.elim
 all_goals
  obtain⟨_,hc,_⟩:=Pg h rfl;rw[hc];exact⟨_,⟨_,_,rfl,h,rfl⟩, .inl rfl⟩
end
theorem nC {ι:bg} {d:Nat} {t:E AV d} {arr:Array Value} {sh:Nat}:∀(n i:Nat),(∀j,i≤j→j<i+n→VR ι (E.get d (path d j) t) (arr.getD (sh+j) undef))→
 iC ι (Ed d t n i) ((List.range n).map fun j=>arr.getD (sh+i+j) undef)
 |0,i,_=>rfl
 |n+1,i,h=>by
  rw[List.range_succ_eq_map,kT,List.map_map];refine⟨_,_,rfl,(by have:=h i (by omega) (by omega);rw[cZ];exact this),?_⟩;have:=nC (sh:=sh) n (i+1) (fun j h1 h2=>h j (by omega) (by omega));have e:((fun j=>arr.getD (sh+i+j) undef)∘Nat.succ)=fun j=>arr.getD (sh+(i+1)+j) undef:=by funext j;simp only[Function.comp];rw[show sh+i+Nat.succ j=sh+(i+1)+j by omega]
  rw[e];exact this
theorem kU {ι:bg} {d:Nat} (n:Nat) (hn:n≤4^d) {a:AV} {l:List Value} (h:iC ι a l):∀(o i:Nat) (t:E AV d),o+l.length≤n→i<n→
 E.get d (path d i) (wrL d a o t)=if o≤i∧i<o+l.length then DV a (i-o)else E.get d (path d i) t:=by
 refine jA (ι:=ι) (Q:=fun a l=>∀(o i:Nat) (t:E AV d),o+l.length≤n→i<n→
  E.get d (path d i) (wrL d a o t)=if o≤i∧i<o+l.length then DV a (i-o)else E.get d (path d i) t) ?_ ?_ a l h
 ·intro o i t _ _;rw[aj (by simp)];rfl
 ·intro a r x xs _ _ ih o i t ho hi;have e:wrL d (.cons a r) o t=wrL d r (o+1) (E.put a d (path d o) t):=rfl;simp only[bJ]at ho⊢;rw[e,ih (o+1) i _ (by omega) hi];by_cases h1:i=o
  ·subst h1;rw[aj (by omega),ak (by omega),qd];exact E.dX _ _ _ _
  ·by_cases h2:o+1≤i∧i<o+1+xs.length
   ·rw[ak h2,ak (by omega)];obtain⟨k,rfl⟩:∃k,i=o+1+k:=⟨i-(o+1),by omega⟩
    rw[show o+1+k-(o+1)=k by omega,show o+1+k-o=k+1 by omega];rfl
   ·rw[aj h2,aj (by omega)];exact E.fP _ _ _ _ (by omega) (by omega) (fun e=>h1 e.symm) _
def gN (l:List UInt8):Nat:=l.foldl (fun v b=>v*256+b.toNat) 0
theorem foldl_valL:∀(l:List UInt8) (v:Nat),l.foldl (fun v b=>v*256+b.toNat) v=v*256^l.length+gN l
 |[],v=>by simp[gN]
 |b::r,v=>by have e:gN (b::r)=r.foldl (fun v b=>v*256+b.toNat) (0*256+b.toNat):=rfl;rw[nR,foldl_valL r,e,foldl_valL r];simp only[bJ,Nat.pow_succ,ko,bK];rw[fD,Nat.mul_assoc,jT 256,mh]
theorem jB (b:UInt8) (r:List UInt8):gN (b::r)=b.toNat*256^r.length+gN r:=by rw[gN,nR,foldl_valL];simp
theorem kG (l r:List UInt8):gN (l++r)=gN l*256^r.length+gN r:=by rw[gN,List.foldl_append,foldl_valL];rfl
theorem kV:∀l:List UInt8,gN l<256^l.length
 |[]=>by simp[gN]
 |b::r=>by
  rw[jB,bJ,Nat.pow_succ];have h1:=kV r;have h2:b.toNat≤255:=by have:=b.toNat_lt;omega
  have h3:b.toNat*256^r.length≤255*256^r.length:=nD _ h2;omega
theorem LP:∀{l r:List UInt8},l.length=r.length→gN l=gN r→l=r
 |[],[],_,_=>rfl
 |a::l,b::r,hl,hv=>by
  simp only[bJ,Nat.add_right_cancel_iff]at hl;rw[jB,jB,hl]at hv;have h1:=kV l;have h2:=kV r;rw[hl]at h1;have hp:0<256^r.length:=Nat.pow_pos (by omega);have e1:(a.toNat*256^r.length+gN l)/256^r.length=a.toNat:=by rw[jT,zw hp,zx h1];omega
  have e2:(b.toNat*256^r.length+gN r)/256^r.length=b.toNat:=by rw[jT,zw hp,zx h2];omega
  have hab:a.toNat=b.toNat:=by rw[←e1,←e2,hv]
  have:a=b:=UInt8.toNat_inj.1 hab;subst this;rw[LP hl (by omega)]
 |[],_::_,h,_=>by cases h
 |_::_,[],h,_=>by cases h
namespace Str
theorem go_eq:∀(l:List UInt8) (n v:Nat),go l n v=⟨n+l.length,v*256^l.length+gN l⟩
 |[],n,v=>by simp[go,gN]
 |b::r,n,v=>by
  have:go (b::r) n v=go r (n+1) (v*256+b.toNat):=qg _ _;rw[this,go_eq r,jB,bJ];congr 1;·omega
  ·rw[Nat.pow_succ,fD,Nat.mul_assoc,jT 256,mh]
theorem of_eq (b:ByteArray):of b=⟨b.data.toList.length,gN b.data.toList⟩:=by unfold of;rw[go_eq];simp
theorem fQ (b:ByteArray):(of b).len=b.size:=by rw[of_eq];rfl
theorem BI (b:ByteArray):(of b).val=gN b.data.toList:=by rw[of_eq]
theorem Wi {a b:ByteArray} (h:of a=of b):a=b:=by rw[of_eq,of_eq]at h;injection h with h1 h2;have:=LP h1 h2;cases a;cases b;congr 1;exact Array.toList_inj.1 this
theorem Wj (a b:ByteArray):(of a).eq (of b)=decide (a=b):=by
 have h:(of a).eq (of b)=true↔of a=of b:=by
  unfold Str.eq;cases h1:Nat.beq (of a).len (of b).len;·simp only[bn,false_iff];intro e;rw[e,sH]at h1;cases h1
  ·have h1':=aO h1;show Nat.beq _ _=true↔_;rw[Nat.beq_eq];constructor
   ·intro h2;rcases ha:of a with⟨x,y⟩;rcases hb:of b with⟨z,t⟩
    rw[ha,hb]at h1' h2;simp only at h1' h2;rw[h1',h2]
   ·intro h2;rw[h2]
 rw[fA,h,bI];exact⟨Wi,fun e=>by rw[e]⟩
theorem zy (b:ByteArray) (i:Nat) (hi:i<b.size):(of b).byte i=(b.data.toList[i]'(by simpa using hi)).toNat:=by
 have hi':i<b.data.toList.length:=by simpa using hi
 have hsp:b.data.toList=b.data.toList.take i++b.data.toList[i]::b.data.toList.drop (i+1):=by rw[List.getElem_cons_drop,nE]
 show((of b).val>>>(8*((of b).len-1-i)))%256=_;rw[fQ,BI,Ee,Nat.pow_mul];have hd:(b.data.toList.drop (i+1)).length=b.size-1-i:=by rw[dQ];show b.data.toList.length-_=_;have:b.data.toList.length=b.size:=rfl;omega
 have hv:=kG (b.data.toList.take i) (b.data.toList[i]::b.data.toList.drop (i+1));rw[←hsp,jB,bJ,hd]at hv;rw[hv];have hlt:=kV (b.data.toList.drop (i+1));rw[hd]at hlt;show(_/256^_)%256=_;have hp:0<256^(b.size-1-i):=Nat.pow_pos (by omega);rw[Nat.pow_succ,jT (256^(b.size-1-i)) 256,←Nat.mul_assoc,←mh,←fD,jT _ (256^(b.size-1-i)),zw hp,zx hlt,cZ];have:=(b.data.toList[i]).toNat_lt;omega
theorem aei (a b:ByteArray):(of a).app (of b)=of (a++b):=by
 have hl:(a++b).data.toList=a.data.toList++b.data.toList:=by rw[ByteArray.data_append];simp
 rw[of_eq (a++b),hl,kG,bf];unfold app;rw[fQ,fQ,BI,BI];show(⟨a.size+b.size,(gN a.data.toList)<<<(8*b.size)+gN b.data.toList⟩:Str)=_;rw[Nat.shiftLeft_eq,Nat.pow_mul];rfl
theorem aej (b:ByteArray) (x y:Nat) (h:x≤y) (hy:y≤b.size):(of b).sub x y=of (b.extract x y):=by
 have hl:(b.extract x y).data.toList=(b.data.toList.take y).drop x:=by rw[ByteArray.data_extract,Array.toList_extract,List.extract_eq_take_drop];rw[List.drop_take]
 have hlen:b.data.toList.length=b.size:=rfl;have h1:((b.data.toList.take y).drop x).length=y-x:=by rw[dQ,gH];omega
 rw[of_eq (b.extract x y),hl,h1];unfold sub;rw[fQ,BI];show(⟨y-x,(gN b.data.toList>>>(8*(b.size-y)))%2^(8*(y-x))⟩:Str)=_;congr 1;rw[Ee,Nat.pow_mul,Nat.pow_mul];have e1:gN b.data.toList=gN (b.data.toList.take y)*256^(b.size-y)+gN (b.data.toList.drop y):=by have:=kG (b.data.toList.take y) (b.data.toList.drop y);rw[nE,dQ,hlen]at this;exact this
 have hlt:=kV (b.data.toList.drop y);rw[dQ,hlen]at hlt;have hp:0<256^(b.size-y):=Nat.pow_pos (by omega);show(_/256^_)%256^_=_;rw[e1,jT,zw hp,zx hlt,cZ];have e2:=kG ((b.data.toList.take y).take x) ((b.data.toList.take y).drop x);rw[nE,h1]at e2;have hlt2:=kV ((b.data.toList.take y).drop x);rw[h1]at hlt2;rw[e2,jT,Nat.mul_add_mod,mq hlt2]
end Str
theorem Io {P:Program} {t:Nat} {s:Str} {f:Nat} {nm:String} (h:BJ P t s=some f) (hs:s=Str.of nm.toUTF8) (n:Nat) (v:Value) (w:World):
 (method (n+1) t v nm).run P w= .ok (f,v) w∧(nilAhead (n+1) t v nm).run P w= .ok (some false) w:=by
 unfold BJ at h;split at h
 ·rename_i i d hi hd;split at h
  ·rename_i m hm;have hf:i.methods.find? (fun m=>m.name==nm)=some m:=by rw[←hm];congr 1;funext m';rw[fA,bL,hs,Str.Wj,bI];exact⟨fun c=>by rw[c],fun c=>String.toByteArray_inj.1 c⟩
   have hti:∀w,(typeInfo t).run P w= .ok i w:=fun w=>by simp[typeInfo,hi]
   have hun:∀w,(underlying t).run P w= .ok d w:=fun w=>run_underlying hd w;split at h
   ·rename_i hp hfn;cases h;constructor
    ·simp only[method,Sem.run_bind,hti,Result.andThen_ok,hf,hp,hfn,follow,Sem.run_pure,receiverAt,hun,Place.get]
    ·simp only[nilAhead,Sem.run_bind,hti,Result.andThen_ok,hf,hp,hfn,followBlind,Sem.run_pure]
   ·cases h
   ·rename_i dd _ _ f' d2 hp hfn hno;cases h;cases dd with
    |pointer e=>exact absurd rfl (hno e)
    |_=>
     constructor;·simp only[method,Sem.run_bind,hti,Result.andThen_ok,hf,hp,hfn,follow,Sem.run_pure,receiverAt,hun,Place.get]
     ·simp only[nilAhead,Sem.run_bind,hti,Result.andThen_ok,hf,hp,hfn,followBlind,Sem.run_pure,hun]
   ·cases h
  ·cases h
 ·cases h
theorem JN (k:IntKind) (n:Int) (h0: -(TV k:Int)≤n) (h1:n≤(Lx k:Int)):k.wrap n=n:=by
 cases k;case i64=>rw[IntKind.wrap_i64];have e0:TV .i64=9223372036854775808:=rfl;have e1:Lx .i64=9223372036854775807:=rfl;rw[e0]at h0;rw[e1]at h1;omega
 case i32=>rw[IntKind.wrap_i32];have e0:TV .i32=2147483648:=rfl;have e1:Lx .i32=2147483647:=rfl;rw[e0]at h0;rw[e1]at h1;omega
 case i16=>have e0:TV .i16=32768:=rfl;have e1:Lx .i16=32767:=rfl;rw[e0]at h0;rw[e1]at h1;simp[IntKind.wrap,IntKind.bits,IntKind.signed];omega
 case i8=>have e0:TV .i8=128:=rfl;have e1:Lx .i8=127:=rfl;rw[e0]at h0;rw[e1]at h1;simp[IntKind.wrap,IntKind.bits,IntKind.signed];omega
 case u64=>rw[IntKind.wrap_u64];have e0:TV .u64=0:=rfl;have e1:Lx .u64=18446744073709551615:=rfl;rw[e0]at h0;rw[e1]at h1;omega
 case u32=>rw[IntKind.wrap_u32];have e0:TV .u32=0:=rfl;have e1:Lx .u32=4294967295:=rfl;rw[e0]at h0;rw[e1]at h1;omega
 case u16=>rw[IntKind.wrap_u16];have e0:TV .u16=0:=rfl;have e1:Lx .u16=65535:=rfl;rw[e0]at h0;rw[e1]at h1;omega
 case u8=>rw[IntKind.wrap_u8];have e0:TV .u8=0:=rfl;have e1:Lx .u8=255:=rfl;rw[e0]at h0;rw[e1]at h1;omega
theorem Wm (k:IntKind) (m:Nat):wrN k m=k.wrap m:=by
 have e:wrN k m=Bool.rec (motive:=fun _=>Int) (k.wrap (.ofNat m)) (.ofNat m) (Nat.ble m (Lx k)):=rfl;rw[e];cases h:Nat.ble m (Lx k);·rfl
 ·have h':m≤Lx k:=by rw[aI]at h;exact h
  exact(JN k m (by omega) (by omega)).symm
theorem CY (k:IntKind) (n:Int):wr k n=k.wrap n:=by
 cases n with
 |ofNat m=>exact Wm k m
 |negSucc m=>
  have e:wr k (.negSucc m)=Bool.rec (motive:=fun _=>Int) (k.wrap (.negSucc m)) (.negSucc m) (Nat.ble (Nat.succ m) (TV k)):=rfl;rw[e];cases h:Nat.ble (Nat.succ m) (TV k);·rfl
  ·have h':m+1≤TV k:=by rw[aI]at h;exact h
   exact(JN k (.negSucc m) (by omega) (by omega)).symm
theorem iT {k k':IntKind} (h:Nat.beq (uK k) (uK k')=true):k=k':=by have:=aO h;cases k<;>cases k'<;>first|rfl|(simp[uK]at this)
theorem toI_nn {x:AV} {k:IntKind} {n:Nat} (h:toI x= .nn k n):x= .int k n:=by
 cases x<;>simp only[toI]at h<;>first|cases h|skip
 rename_i k' i;cases i<;>simp at h;obtain⟨rfl,rfl⟩:=h;rfl
theorem toI_ng {x:AV} {k:IntKind} {n:Nat} (h:toI x= .ng k n):x= .int k (.negSucc n):=by
 cases x<;>simp only[toI]at h<;>first|cases h|skip
 rename_i k' i;cases i<;>simp at h;obtain⟨rfl,rfl⟩:=h;rfl
theorem toS_some {x:AV} {s:Str} (h:toS x= .some s):x= .str s:=by
 cases x<;>simp only[toS]at h<;>first|cases h|skip
 rfl
theorem toB_t {x:AV} (h:toB x= .t):x= .bool true:=by
 cases x<;>simp only[toB]at h<;>first|cases h|skip
 rename_i b;cases b<;>simp at h;rfl
theorem toB_f {x:AV} (h:toB x= .f):x= .bool false:=by
 cases x<;>simp only[toB]at h<;>first|cases h|skip
 rename_i b;cases b<;>simp at h;rfl
theorem toP_at {x:AV} {b o:Nat} (h:toP x= .at b o):x= .ptr b o:=by cases x<;>simp only[toP]at h<;>cases h;rfl
theorem toL_at {x:AV} {b o l es:Nat} {z:Bool} (h:toL x= .at b o l es z):x= .slice b o l es z:=by cases x<;>simp only[toL]at h<;>cases h;rfl
theorem JO {f:IntKind→Nat→Nat→AV} {s:IntKind→Int→Int→AV} {x y v:AV} (h:jd f s x y=v) (hv:v≠.bad):
 ∃k a b,x= .int k a∧y= .int k b∧((∃m n:Nat,a=m∧b=n∧v=f k m n)∨v=s k a b):=by
 unfold jd at h;cases hx:toI x with
 |none=>rw[hx]at h;exact absurd h.symm hv
 |nn k a=>
  rw[hx]at h;cases hy:toI y with
  |none=>rw[hy]at h;exact absurd h.symm hv
  |nn k' b=>
   rw[hy]at h;cases hk:Nat.beq (uK k) (uK k')with
   |false=>simp only[hk]at h;exact absurd h.symm hv
   |true=>simp only[hk]at h;obtain rfl:=iT hk;exact⟨k,a,b,toI_nn hx,toI_nn hy, .inl ⟨a,b,rfl,rfl,h.symm⟩⟩
  |ng k' b=>
   rw[hy]at h;cases hk:Nat.beq (uK k) (uK k')with
   |false=>simp only[hk]at h;exact absurd h.symm hv
   |true=>simp only[hk]at h;obtain rfl:=iT hk;exact⟨k,a, .negSucc b,toI_nn hx,toI_ng hy, .inr h.symm⟩
 |ng k a=>
  rw[hx]at h;cases hy:toI y with
  |none=>rw[hy]at h;exact absurd h.symm hv
  |nn k' b=>
   rw[hy]at h;cases hk:Nat.beq (uK k) (uK k')with
   |false=>simp only[hk]at h;exact absurd h.symm hv
   |true=>simp only[hk]at h;obtain rfl:=iT hk;exact⟨k, .negSucc a,b,toI_ng hx,toI_nn hy, .inr h.symm⟩
  |ng k' b=>
   rw[hy]at h;cases hk:Nat.beq (uK k) (uK k')with
   |false=>simp only[hk]at h;exact absurd h.symm hv
   |true=>simp only[hk]at h;obtain rfl:=iT hk;exact⟨k, .negSucc a, .negSucc b,toI_ng hx,toI_ng hy, .inr h.symm⟩
theorem Ip {f:IntKind→Nat→Nat→AV} {x y v:AV} (h:BK f x y=v) (hv:v≠.bad):∃k k' m n,x= .int k (Int.ofNat m)∧y= .int k' (Int.ofNat n)∧v=f k m n:=by
 unfold BK at h;cases hx:toI x with
 |none=>rw[hx]at h;exact absurd h.symm hv
 |ng k a=>rw[hx]at h;exact absurd h.symm hv
 |nn k a=>
  rw[hx]at h;cases hy:toI y with
  |none=>rw[hy]at h;exact absurd h.symm hv
  |ng k' b=>rw[hy]at h;exact absurd h.symm hv
  |nn k' b=>rw[hy]at h;exact⟨k,k',a,b,toI_nn hx,toI_nn hy,h.symm⟩
section
variable {P:Program} {ι:bg}
def sI (P:Program) (ι:bg) (op:BinOp) (t:TypeId) (xo yo:Operand) (x y:Value) (v:AV):Prop:=
 ∀w:World,∃v',(do eqGuard op t xo yo x y;binOp op t x y:Sem Value).run P w= .ok v' w∧VR ι v v'
theorem vZ (op:BinOp) (t:TypeId) (xo yo:Operand) (k k':IntKind) (a b:Int):eqGuard op t xo yo (.int k a) (.int k' b)=pure ():=by unfold eqGuard;cases op<;>rfl
theorem TW (op:BinOp) (t:TypeId) (xo yo:Operand) (a b:ByteArray):eqGuard op t xo yo (.string a) (.string b)=pure ():=by unfold eqGuard;cases op<;>rfl
def jK (op:BinOp) (k:IntKind) (a b:Int):Sem Value:=
 match op with
 | .add| .sub| .mul=>Op.intArith op k a b
 | .quo| .rem=>Op.intDiv op k a b
 | .and| .or| .xor| .andNot=>Op.intBits op k a b
 |_=>Op.intCmp op a b
theorem Rm {op:BinOp} {t:TypeId} {xo yo:Operand} {k:IntKind} {a b:Int} {v:AV} {v':Value} (hs:op≠.shl) (hs':op≠.shr)
 (h:∀w,(jK op k a b).run P w= .ok v' w) (hv:VR ι v v'):sI P ι op t xo yo (.int k a) (.int k b) v:=by
 intro w;refine⟨v',?_,hv⟩;rw[vZ];simp only[Sem.run_bind,Sem.run_pure,Result.andThen_ok];have:binOp op t (.int k a) (.int k b)=jK op k a b:=by cases op<;>first|exact absurd rfl hs|exact absurd rfl hs'|simp[binOp,jK]
 rw[this];exact h w
theorem fT {op:BinOp} {t:TypeId} {xo yo:Operand} {f:IntKind→Nat→Nat→AV} {s:IntKind→Int→Int→AV} {x y v:AV} {vx vy:Value} (hx:VR ι x vx) (hy:VR ι y vy)
 (h:jd f s x y=v) (hv:v≠.bad) (hs:op≠.shl) (hs':op≠.shr)
 (hf:∀k (m n:Nat),f k m n≠.bad→∃v',(∀w:World,(jK op k m n).run P w= .ok v' w)∧VR ι (f k m n) v')
 (hsl:∀k (a b:Int),s k a b≠.bad→∃v',(∀w:World,(jK op k a b).run P w= .ok v' w)∧VR ι (s k a b) v'):sI P ι op t xo yo vx vy v:=by
 obtain⟨k,a,b,ex,ey,h'⟩:=JO h hv;clear h;subst ex;subst ey;have ex:vx= .int k a:=hx;have ey:vy= .int k b:=hy;rw[ex,ey];rcases h' with h'|h';·obtain⟨m,n,ha,hb,h'⟩:=h';rw[h']at hv⊢;rw[ha,hb];obtain⟨v',h1,h2⟩:=hf k m n hv;exact Rm hs hs' h1 h2
 ·rw[h']at hv⊢;obtain⟨v',h1,h2⟩:=hsl k a b hv;exact Rm hs hs' h1 h2
theorem Ro {k:IntKind} {a b:Int}:∃v',(∀w:World,(jK .add k a b).run P w= .ok v' w)∧VR ι (mk k (a+b)) v':=
 ⟨_,fun w=>rfl,by rw[mk,CY];rfl⟩
theorem Rp {k:IntKind} {a b:Int}:∃v',(∀w:World,(jK .sub k a b).run P w= .ok v' w)∧VR ι (mk k (a-b)) v':=
 ⟨_,fun w=>rfl,by rw[mk,CY];rfl⟩
theorem Rq {k:IntKind} {a b:Int}:∃v',(∀w:World,(jK .mul k a b).run P w= .ok v' w)∧VR ι (mk k (a*b)) v':=
 ⟨_,fun w=>rfl,by rw[mk,CY];rfl⟩
theorem EY (k:IntKind) (n:Nat):mkN k n=mk k n:=by rw[mkN,mk,Wm,CY]
theorem jU {op:BinOp} {k:IntKind} {a b:Int} {r:Bool} (h:∀w:World,(jK op k a b).run P w= .ok (.bool r) w) (r':Bool) (e:r'=r):∃v',(∀w:World,(jK op k a b).run P w= .ok v' w)∧VR ι (.bool r') v':=
 ⟨_,h,by rw[e];rfl⟩
theorem wh (a b:Nat):Nat.beq a b=decide (a=b):=by rw[fA,Nat.beq_eq,bI]
theorem jC (a b:Nat):Nat.ble a b=decide (a≤b):=by rw[fA,aI,bI]
theorem wm (b:Bool):DW b= !b:=by cases b<;>rfl
theorem aaI (a b:Bool):H7 a b=(a==b):=by cases a<;>cases b<;>rfl
theorem aek (k:IntKind):∃j,j≤k.bits∧Lx k+1=2^j:=by
 cases k;·exact⟨7,by decide,by decide⟩
 ·exact⟨15,by decide,by decide⟩
 ·exact⟨31,by decide,by decide⟩
 ·exact⟨63,by decide,by decide⟩
 ·exact⟨8,by decide,by decide⟩
 ·exact⟨16,by decide,by decide⟩
 ·exact⟨32,by decide,by decide⟩
 ·exact⟨64,by decide,by decide⟩
theorem JQ (op:BinOp) (f:Nat→Nat→Nat) (hf:∀j a b:Nat,a<2^j→b<2^j→f a b<2^j)
 (hop:∀(k:IntKind) (a b:Nat),a<2^k.bits→b<2^k.bits→∀w:World,(jK op k a b).run P w= .ok (.int k (k.wrap ((f a b:Nat):Int))) w) (k:IntKind) (a b:Nat) (h:JR f k a b≠.bad):
 ∃v',(∀w:World,(jK op k a b).run P w= .ok v' w)∧VR ι (JR f k a b) v':=by
 unfold JR at h⊢;cases h1:Nat.ble a (Lx k);·rw[h1]at h;exact absurd rfl h
 ·cases h2:Nat.ble b (Lx k)
  ·rw[h1,h2]at h;exact absurd rfl h
  ·rw[aI]at h1 h2;obtain⟨j,hj,hm⟩:=aek k;have hp:2^j≤2^k.bits:=Nat.pow_le_pow_right (by decide) hj;have hr:=hf j a b (by omega) (by omega);refine⟨_,hop k a b (by omega) (by omega),?_⟩;rw[JN k _ (by omega) (by omega)];rfl
theorem JU (k:IntKind) (a b:Nat) (ha:a<2^k.bits) (hb:b<2^k.bits) (w:World):(jK .and k a b).run P w= .ok (.int k (k.wrap ((Nat.land a b:Nat):Int))) w:=by simp only[jK,Op.intBits,BitVec.ofInt_natCast,BitVec.toNat_and,BitVec.toNat_ofNat,mq ha,mq hb];rfl
theorem LQ (k:IntKind) (a b:Nat) (ha:a<2^k.bits) (hb:b<2^k.bits) (w:World):(jK .or k a b).run P w= .ok (.int k (k.wrap ((Nat.lor a b:Nat):Int))) w:=by simp only[jK,Op.intBits,BitVec.ofInt_natCast,BitVec.toNat_or,BitVec.toNat_ofNat,mq ha,mq hb];rfl
theorem JV (k:IntKind) (a b:Nat) (ha:a<2^k.bits) (hb:b<2^k.bits) (w:World):(jK .xor k a b).run P w= .ok (.int k (k.wrap ((Nat.xor a b:Nat):Int))) w:=by simp only[jK,Op.intBits,BitVec.ofInt_natCast,BitVec.toNat_xor,BitVec.toNat_ofNat,mq ha,mq hb];rfl
end
theorem Iq (l:List UInt8) (n:Nat) (_:n≤l.length):gN l/256^(l.length-n)=gN (l.take n):=by have e:=kG (l.take n) (l.drop n);rw[nE,dQ]at e;have hlt:=kV (l.drop n);rw[dQ]at hlt;have hp:0<256^(l.length-n):=Nat.pow_pos (by omega);rw[e,jT,zw hp,zx hlt,cZ]
theorem JW {a b m x y:Nat} (h:a<b) (hx:x<m):a*m+x<b*m+y:=by have:(a+1)*m≤b*m:=nD _ h;rw[fD]at this;omega
theorem zA:∀(x y:List UInt8),x.length≤y.length→Op.bytesLess x y=decide (gN x<gN (y.take x.length)+(if x.length<y.length then 1 else 0))
 |[],[],_=>by simp[Op.bytesLess,gN]
 |[],_::_,_=>by simp[Op.bytesLess,gN]
 |_::_,[],h=>by simp at h
 |a::x,b::y,h=>by
  have h':x.length≤y.length:=by simpa using h
  have hk:(y.take x.length).length=x.length:=by rw[gH];omega
  have hx:=kV x;have hy:=kV (y.take x.length);rw[hk]at hy;rw[Op.bytesLess,zA x y h',bJ,List.take_succ_cons,jB,jB,hk,bJ];have e:(if x.length+1<y.length+1 then 1 else 0:Nat)=(if x.length<y.length then 1 else 0):=by simp
  rw[e];rcases kW a.toNat b.toNat with c|c|c;·have h1:a<b:=wu.2 c;have h2:=JW (y:=gN (y.take x.length)) c hx;rw[bB h1,Bool.true_or];exact(bB (by omega)).symm
  ·have h1:a=b:=UInt8.toNat_inj.1 c;subst h1;have:¬a<a:=by rw[wu];omega
   rw[aX this,wB];simp only[BEq.rfl,Bool.true_and];rw[fA,bI,bI];omega
  ·have h1:¬a<b:=by rw[wu];omega
   have h3:(a==b)=false:=by rw[bW];intro e;rw[e]at c;omega
   have h2:=JW (y:=gN x) c hy;rw[aX h1,h3,wB,Bool.false_and];refine(aX ?_).symm;split<;>omega
theorem zB:∀(x y:List UInt8),y.length<x.length→Op.bytesLess x y=decide (gN (x.take y.length)<gN y)
 |x,[],_=>by cases x<;>simp[Op.bytesLess,gN]
 |[],_::_,h=>by simp at h
 |a::x,b::y,h=>by
  have h':y.length<x.length:=by simpa using h
  have hk:(x.take y.length).length=y.length:=by rw[gH];omega
  have hx:=kV (x.take y.length);have hy:=kV y;rw[hk]at hx;rw[Op.bytesLess,zB x y h',bJ,List.take_succ_cons,jB,jB,hk];rcases kW a.toNat b.toNat with c|c|c;·have h1:a<b:=wu.2 c;have h2:=JW (y:=gN y) c hx;rw[bB h1,Bool.true_or];exact(bB (by omega)).symm
  ·have h1:a=b:=UInt8.toNat_inj.1 c;subst h1;have:¬a<a:=by rw[wu];omega
   rw[aX this,wB];simp only[BEq.rfl,Bool.true_and];rw[fA,bI,bI];omega
  ·have h1:¬a<b:=by rw[wu];omega
   have h3:(a==b)=false:=by rw[bW];intro e;rw[e]at c;omega
   have h2:=JW (y:=gN (x.take y.length)) c hy;rw[aX h1,h3,wB,Bool.false_and];exact(aX (by omega)).symm
theorem Str.ahc (a b:ByteArray):(Str.of a).lt (Str.of b)=Op.bytesLess a.toList b.toList:=by
 rw[ByteArray.toList_eq,ByteArray.toList_eq];have la:a.data.toList.length=a.size:=rfl;have lb:b.data.toList.length=b.size:=rfl;have e:(Str.of a).lt (Str.of b)=Bool.rec (motive:=fun _=>Bool)
  (Nat.ble (Nat.succ ((Str.of a).val>>>(8*((Str.of a).len-(Str.of b).len)))) (Str.of b).val)
  (Nat.ble (Nat.succ (Str.of a).val) ((Str.of b).val>>>(8*((Str.of b).len-(Str.of a).len))+(Bool.rec (motive:=fun _=>Nat) 0 1 (Nat.ble (Nat.succ (Str.of a).len) (Str.of b).len))))
  (Nat.ble (Str.of a).len (Str.of b).len):=rfl
 rw[e,Str.fQ,Str.fQ,Str.BI,Str.BI,Ee,Ee,Nat.pow_mul,Nat.pow_mul];cases h:Nat.ble a.size b.size
 ·have h':b.size<a.size:=by
   have:¬a.size≤b.size:=by rw[←aI,h];simp
   omega
  rw[zB _ _ (by rw[la,lb];exact h'),lb];have:=Iq a.data.toList b.size (by rw[la];omega);rw[la]at this;show Nat.ble _ _=_;rw[jC];show decide (Nat.succ (_/256^_)≤_)=_;rw[this];rfl
 ·rw[aI]at h;rw[zA _ _ (by rw[la,lb];exact h),la,lb];have:=Iq b.data.toList a.size (by rw[lb];omega);rw[lb]at this;show Nat.ble _ _=_;rw[jC];show decide (Nat.succ _≤(_/256^_)+_)=_;rw[this];cases h2:Nat.ble (Nat.succ a.size) b.size
  ·have:¬a.size<b.size:=by
    intro c;have:Nat.ble (Nat.succ a.size) b.size=true:=by rw[aI];exact c
    rw[this]at h2;cases h2
   rw[aj this];rfl
  ·rw[aI]at h2;have h3:a.size<b.size:=h2;rw[ak h3];rfl
section
variable {P:Program} {ι:bg} {g:G}
theorem Ef {f:Str→Str→AV} {k:AV→AV→AV} {x y v:AV} (h:str2 f k x y=v) (hv:v≠.bad):
 (∃a b,x= .str a∧y= .str b∧v=f a b)∨(toS x= .none∧v=k x y):=by
 unfold str2 at h;cases hx:toS x with
 |none=>rw[hx]at h;exact .inr ⟨rfl,h.symm⟩
 |some a=>
  rw[hx]at h;cases hy:toS y with
  |none=>rw[hy]at h;exact absurd h.symm hv
  |some b=>rw[hy]at h;exact .inl ⟨a,b,toS_some hx,toS_some hy,h.symm⟩
theorem JX {f k:AV→AV→AV} {x y v:AV} (h:orI f k x y=v):v=f x y∨(toI x= .none∧v=k x y):=by
 unfold orI at h;cases hx:toI x with
 |none=>rw[hx]at h;exact .inr ⟨rfl,h.symm⟩
 |nn k a=>rw[hx]at h;exact .inl h.symm
 |ng k a=>rw[hx]at h;exact .inl h.symm
theorem Eh {op:BinOp} {t:TypeId} {xo yo:Operand} {a b:ByteArray} {v:AV} {v':Value} (h:∀w:World,(Op.stringOp op a b).run P w= .ok v' w) (hs:op≠.shl) (hs':op≠.shr) (hv:VR ι v v'):
 sI P ι op t xo yo (.string a) (.string b) v:=by
 intro w;refine⟨v',?_,hv⟩;rw[TW];simp only[Sem.run_bind,Sem.run_pure,Result.andThen_ok];have:binOp op t (.string a) (.string b)=Op.stringOp op a b:=by cases op<;>first|exact absurd rfl hs|exact absurd rfl hs'|simp[binOp]
 rw[this];exact h w
theorem toList_beq (a b:ByteArray):(a.toList==b.toList)=decide (a=b):=by
 rw[fA,bL,bI,ByteArray.toList_eq,ByteArray.toList_eq];constructor;·intro h;cases a;cases b;congr 1;exact Array.toList_inj.1 h
 ·intro h;rw[h]
def al1 (P:Program) (t:TypeId):EK→Prop
 | .none=>True
 | .bool=>P.underlying t=some .bool
 | .ptr=>∃el i,P.underlying t=some (.pointer el)∧P.info? el=some i∧i.size≠0
 | .slice=>∃el,P.underlying t=some (.slice el)
 | .map=>∃a b,P.underlying t=some (.map a b)
 | .func=>∃a b c,P.underlying t=some (.func a b c)
 | .iface=>∃ms,P.underlying t=some (.interface ms)
 | .two=>Eq2 P t
theorem ael (hg:kP P g) (t:TypeId):al1 P t (eqK g t):=by
 unfold eqK;split;·rename_i hd;exact(hg.ty _ _ hd).1
 ·rename_i el s b ag z zv hd;split
  ·rename_i y hy;cases hz:Nat.beq y.size (nat_lit 0)
   ·obtain⟨_,_,i,z,hi,hs,_⟩:=hg.ty _ _ hy;refine⟨el,i,(hg.ty _ _ hd).1,hi,?_⟩;rw[hs];intro c;rw[c]at hz;cases hz
   ·trivial
  ·trivial
 ·rename_i hd;exact⟨_,(hg.ty _ _ hd).1⟩
 ·rename_i hd;exact⟨_,_,(hg.ty _ _ hd).1⟩
 ·rename_i hd;exact⟨_,_,_,(hg.ty _ _ hd).1⟩
 ·rename_i hd;exact⟨_,(hg.ty _ _ hd).1⟩
 ·split
  ·rename_i h2;exact hg.eq2 _ h2
  ·trivial
theorem Ph {a b:Int} (h:eqI a b=true):a=b:=by cases a<;>cases b<;>first|(cases h;done)|(have h:=aO h;subst h;rfl)
theorem Rs {a b:Bool}:aen a b=(a&&b):=by cases a<;>rfl
theorem Ru (a b:Int):eqI a b=(a==b):=by rw[fA,bL];refine⟨Ph,fun h=> ?_⟩;subst h;cases a<;>exact sH _
def Rv (P:Program) (t:TypeId) (xo yo:Operand) (x y:Value) (r:Bool):Prop:=
 ∀w:World,(eqGuard .eql t xo yo x y).run P w= .ok () w∧(eqGuard .neq t xo yo x y).run P w= .ok () w∧(Op.equal t x y).run P w= .ok r w∧
  binOp .eql t x y=(do pure (.bool (←Op.equal t x y)))∧binOp .neq t x y=(do pure (.bool (!(←Op.equal t x y))))
theorem TY:∃d,∀t x y,Op.equal t x y=Op.equalIn (d+2) t x y:=⟨9998,fun _ _ _=>rfl⟩
theorem zC {t:TypeId} {k:IntKind} (h:P.underlying t=some (.int k)) {cs:Array Value} {off:Nat} {v:Value} (hv:cs[off]? =some v) (w:World):(part t cs off).run P w= .ok v w:=by simp only[part,isAgg,Sem.run_bind,aC h,Result.andThen_ok,hv,Sem.run_pure,bn,jy]
theorem Ir {t:TypeId} {k k':IntKind} (h:P.underlying t=some (.int k)) {a b:Int} {d:Nat} (w:World):(Op.equalIn (d+1) t (.int k' a) (.int k' b)).run P w= .ok (a==b) w:=by rw[Op.equalIn];simp[aC h]
theorem aeo {t:TypeId} (h2:Eq2 P t) {k l:IntKind} {a b a' b':Int} {xo yo:Operand}:Rv P t xo yo (.agg #[.int k a, .int l b]) (.agg #[.int k a', .int l b']) (a==a'&&b==b'):=by
 obtain⟨f0,f1,k0,k1,hd,h0,h1,o0,o1,n0,n1,hs,hq⟩:=h2;obtain⟨n,hn⟩:=TY;refine fun w=>⟨?_,?_,?_,rfl,rfl⟩
 ·simp[eqGuard,hq]
 ·simp[eqGuard,hq]
 ·rw[hn,Op.equalIn];have p1:=zC h0 (cs:=#[.int k a, .int l b]) (off:=f0.offset) (v:= .int k a) (by rw[o0];rfl) w;have p2:=zC h0 (cs:=#[.int k a', .int l b']) (off:=f0.offset) (v:= .int k a') (by rw[o0];rfl) w;have p3:=zC h1 (cs:=#[.int k a, .int l b]) (off:=f1.offset) (v:= .int l b) (by rw[o1];rfl) w;have p4:=zC h1 (cs:=#[.int k a', .int l b']) (off:=f1.offset) (v:= .int l b') (by rw[o1];rfl) w;have e1:=Ir h0 (k':=k) (a:=a) (b:=a') (d:=n) w;have e2:=Ir h1 (k':=l) (a:=b) (b:=b') (d:=n) w;generalize(a==a')=u at e1⊢;generalize(b==b')=v at e2⊢;simp only[aC hd,Sem.run_bind,run_program,Result.andThen_ok,List.forIn_toArray,List.forIn_cons,List.forIn_nil];cases u<;>cases v<;>simp[hs,n0,n1,p1,p2,p3,p4,e1,e2]
theorem Wn:∃d,∀t x y,Op.equal t x y=Op.equalIn (d+1) t x y:=⟨9999,fun _ _ _=>rfl⟩
set_option maxHeartbeats 800000 in
theorem Rw (hg:kP P g) {t:TypeId} {xo yo:Operand} {c:Bool} (hc:c=true→(∃v,xo= .const v)∨∃v,yo= .const v) {f:Bool→AV} {x y v:AV} {vx vy:Value}
 (hx:VR ι x vx) (hy:VR ι y vy) (h:H8 (eqK g t) c f x y=v) (hv:v≠.bad):∃r,v=f r∧Rv P t xo yo vx vy r:=by
 have hk:=ael hg t;obtain⟨n,hn⟩:=Wn;generalize eqK g t=e at h hk;cases e with
 |none=>exact absurd h.symm hv
 |two=>
  simp only[H8]at h;split at h
  ·rename_i k a l b k' a' l' b';rw[Rs,Rs]at h;cases hk1:Nat.beq (uK k) (uK k')<;>cases hk2:Nat.beq (uK l) (uK l')<;>rw[hk1,hk2]at h<;>first|(exact absurd h.symm hv;done)|skip
   obtain rfl:=iT hk1;obtain rfl:=iT hk2;obtain⟨xs,rfl,hxs⟩:=hx;obtain⟨ys,rfl,hys⟩:=hy;obtain⟨_,_,e0,rfl,al2⟩:=iI hxs;obtain⟨_,_,q0,rfl,al3⟩:=iI al2;rw[q0,qc al3]at e0;obtain⟨_,_,e1,rfl,al4⟩:=iI hys;obtain⟨_,_,q1,rfl,al5⟩:=iI al4;rw[q1,qc al5]at e1;obtain rfl:xs=#[.int k a, .int l b]:=by cases xs;simp only at e0;rw[e0]
   obtain rfl:ys=#[.int k a', .int l b']:=by cases ys;simp only at e1;rw[e1]
   refine⟨_,h.symm,?_⟩;rw[Ru,Ru];exact aeo hk
  ·exact absurd h.symm hv
 |bool=>
  simp only[H8]at h;split at h;·rename_i a b;cases hx;cases hy;rw[aaI]at h;refine⟨_,h.symm,fun w=>⟨rfl,rfl,?_,rfl,rfl⟩⟩;rw[hn,Op.equalIn];simp[aC hk]
  ·exact absurd h.symm hv
 |ptr=>
  obtain⟨el,i,hd,hi,hs⟩:=hk;simp only[H8]at h;split at h;·cases hx;cases hy;refine⟨_,h.symm,fun w=>⟨rfl,rfl,?_,rfl,rfl⟩⟩;rw[hn,Op.equalIn];simp[aC hd]
  ·cases hx;obtain⟨m,hm,rfl⟩:=hy;refine⟨_,h.symm,fun w=>⟨rfl,rfl,?_,rfl,rfl⟩⟩;rw[hn,Op.equalIn];simp[aC hd]
  ·cases hy;obtain⟨m,hm,rfl⟩:=hx;refine⟨_,h.symm,fun w=>⟨rfl,rfl,?_,rfl,rfl⟩⟩;rw[hn,Op.equalIn];simp[aC hd]
  ·rename_i a i' b j;obtain⟨m,hm,rfl⟩:=hx;obtain⟨m',hm',rfl⟩:=hy;cases hab:Nat.beq a b
   ·rw[hab]at h;exact absurd h.symm hv
   ·rw[hab]at h;obtain rfl:=aO hab;rw[hm]at hm';cases hm';refine⟨_,h.symm,fun w=>⟨rfl,rfl,?_,rfl,rfl⟩⟩;rw[hn,Op.equalIn];simp only[Sem.run_bind,aC hd,Result.andThen_ok,eu hi,ne_eq,hs,not_false_eq_true,if_true,sameAddr,BEq.rfl];have e:((⟨m.B,m.sh+i',none⟩:Addr)==⟨m.B,m.sh+j,none⟩)=Nat.beq i' j:=by rw[wh,fA,bL,bI];simp
    rw[e];rfl
  ·exact absurd h.symm hv
 |slice=>
  obtain⟨el,hd⟩:=hk;simp only[H8]at h;split at h;·cases hx;cases hy;refine⟨_,h.symm,fun w=>⟨rfl,rfl,?_,rfl,rfl⟩⟩;rw[hn,Op.equalIn];simp[aC hd]
  ·cases hx;obtain⟨m,y,cap,hm,rfl,_⟩:=hy;refine⟨_,h.symm,fun w=>⟨rfl,rfl,?_,rfl,rfl⟩⟩;rw[hn,Op.equalIn];simp[aC hd]
  ·cases hy;obtain⟨m,y,cap,hm,rfl,_⟩:=hx;refine⟨_,h.symm,fun w=>⟨rfl,rfl,?_,rfl,rfl⟩⟩;rw[hn,Op.equalIn];simp[aC hd]
  ·exact absurd h.symm hv
 |map=>
  obtain⟨ka,el,hd⟩:=hk;simp only[H8]at h;split at h;·cases hx;cases hy;refine⟨_,h.symm,fun w=>⟨rfl,rfl,?_,rfl,rfl⟩⟩;rw[hn,Op.equalIn];simp[aC hd]
  ·cases hx;obtain⟨m,hm,rfl⟩:=hy;refine⟨_,h.symm,fun w=>⟨rfl,rfl,?_,rfl,rfl⟩⟩;rw[hn,Op.equalIn];simp[aC hd]
  ·cases hy;obtain⟨m,hm,rfl⟩:=hx;refine⟨_,h.symm,fun w=>⟨rfl,rfl,?_,rfl,rfl⟩⟩;rw[hn,Op.equalIn];simp[aC hd]
  ·exact absurd h.symm hv
 |func=>
  obtain⟨ka,kb,kc,hd⟩:=hk;simp only[H8]at h;split at h;·cases hx;cases hy;refine⟨_,h.symm,fun w=>⟨rfl,rfl,?_,rfl,rfl⟩⟩;rw[hn,Op.equalIn];simp[aC hd]
  ·cases hx;rcases hy with⟨xs,ys,rfl,_⟩|⟨y,nm,rfl,_⟩
   ·refine⟨_,h.symm,fun w=>⟨rfl,rfl,?_,rfl,rfl⟩⟩;rw[hn,Op.equalIn];simp[aC hd]
   ·refine⟨_,h.symm,fun w=>⟨rfl,rfl,?_,rfl,rfl⟩⟩;rw[hn,Op.equalIn];simp[aC hd]
  ·cases hy;rcases hx with⟨xs,ys,rfl,_⟩|⟨y,nm,rfl,_⟩
   ·refine⟨_,h.symm,fun w=>⟨rfl,rfl,?_,rfl,rfl⟩⟩;rw[hn,Op.equalIn];simp[aC hd]
   ·refine⟨_,h.symm,fun w=>⟨rfl,rfl,?_,rfl,rfl⟩⟩;rw[hn,Op.equalIn];simp[aC hd]
  ·cases hx;obtain⟨m,hm,rfl⟩:=hy;refine⟨_,h.symm,fun w=>⟨rfl,rfl,?_,rfl,rfl⟩⟩;rw[hn,Op.equalIn];simp[aC hd]
  ·cases hy;obtain⟨m,hm,rfl⟩:=hx;refine⟨_,h.symm,fun w=>⟨rfl,rfl,?_,rfl,rfl⟩⟩;rw[hn,Op.equalIn];simp[aC hd]
  ·exact absurd h.symm hv
 |iface=>
  obtain⟨ms,hd⟩:=hk;simp only[H8]at h;split at h
  ·cases hx;cases hy;cases c
   ·exact absurd h.symm hv
   ·have hc':=hc rfl;refine⟨_,h.symm,fun w=>⟨?_,?_,?_,rfl,rfl⟩⟩
    ·rcases hc' with⟨_,rfl⟩|⟨_,rfl⟩<;>simp[eqGuard]
    ·rcases hc' with⟨_,rfl⟩|⟨_,rfl⟩<;>simp[eqGuard]
    ·rw[hn,Op.equalIn];simp[aC hd]
  ·cases hx;obtain⟨z,rfl,_⟩:=hy;refine⟨_,h.symm,fun w=>⟨rfl,rfl,?_,rfl,rfl⟩⟩;rw[hn,Op.equalIn];simp[aC hd]
  ·cases hy;obtain⟨z,rfl,_⟩:=hx;refine⟨_,h.symm,fun w=>⟨rfl,rfl,?_,rfl,rfl⟩⟩;rw[hn,Op.equalIn];simp[aC hd]
  ·exact absurd h.symm hv
theorem aep {t:TypeId} {xo yo:Operand} {vx vy:Value} {r:Bool} (h:Rv P t xo yo vx vy r):sI P ι .eql t xo yo vx vy (rT r):=by intro w;obtain⟨h1,_,h2,h3,_⟩:=h w;refine⟨.bool r,?_,rfl⟩;simp only[Sem.run_bind,h1,Result.andThen_ok,h3,h2,Sem.run_pure]
theorem aer {t:TypeId} {xo yo:Operand} {vx vy:Value} {r:Bool} (h:Rv P t xo yo vx vy r):sI P ι .neq t xo yo vx vy (rF r):=by intro w;obtain⟨_,h1,h2,_,h3⟩:=h w;refine⟨.bool (!r),?_,by rw[rF,wm];rfl⟩;simp only[Sem.run_bind,h1,Result.andThen_ok,h3,h2,Sem.run_pure]
theorem aaJ (k:IntKind) (m n:Nat) (h:Wo k m n≠.bad):∃v',(∀w:World,(jK .quo k m n).run P w= .ok v' w)∧VR ι (Wo k m n) v':=by
 unfold Wo at h⊢;cases h0:Nat.beq n (nat_lit 0)
 ·have:(n:Int)≠0:=by
   intro c;have:n=0:=by omega
   rw[this]at h0;cases h0
  refine⟨.int k (k.wrap ((m:Int).tdiv n)),fun w=>by simp only[jK,Op.intDiv];rw[aj this];rfl,?_⟩;show VR ι (mkN k (m/n)) _;rw[EY,mk,CY];rfl
 ·rw[h0]at h;exact absurd rfl h
theorem aaK (k:IntKind) (m n:Nat) (h:Wp k m n≠.bad):∃v',(∀w:World,(jK .rem k m n).run P w= .ok v' w)∧VR ι (Wp k m n) v':=by
 unfold Wp at h⊢;cases h0:Nat.beq n (nat_lit 0)
 ·have:(n:Int)≠0:=by
   intro c;have:n=0:=by omega
   rw[this]at h0;cases h0
  exact⟨.int k ((m:Int).tmod n),fun w=>by simp only[jK,Op.intDiv];rw[aj this];rfl,rfl⟩
 ·rw[h0]at h;exact absurd rfl h
theorem aaL {t:TypeId} {xo yo:Operand} {x y v:AV} {vx vy:Value} (hx:VR ι x vx) (hy:VR ι y vy) (h:BK aes x y=v) (hv:v≠.bad):sI P ι .shl t xo yo vx vy v:=by
 obtain⟨k,k',m,n,rfl,rfl,h'⟩:=Ip h hv;clear h;have ex:vx= .int k m:=hx;have ey:vy= .int k' n:=hy;rw[ex,ey];intro w;rw[h']at hv⊢;unfold aes at hv⊢;cases h0:Nat.ble n k.bits;·rw[h0]at hv;exact absurd rfl hv
 ·rw[aI]at h0;refine⟨.int k (k.wrap ((m:Int)*2^n)),?_,?_⟩
  ·rw[vZ];have:binOp .shl t (.int k m) (.int k' n)=Op.shift .shl k m k' n:=by simp[binOp]
   rw[this,shift_shl _ _ _ _ (by omega) (by omega)];simp
  ·show VR ι (mkN k (m*2^n)) _;rw[EY,mk,CY];have:((m*2^n:Nat):Int)=(m:Int)*2^n:=by simp
   rw[this];rfl
theorem aaM {t:TypeId} {xo yo:Operand} {x y v:AV} {vx vy:Value} (hx:VR ι x vx) (hy:VR ι y vy) (h:BK aeu x y=v) (hv:v≠.bad):sI P ι .shr t xo yo vx vy v:=by
 obtain⟨k,k',m,n,rfl,rfl,h'⟩:=Ip h hv;clear h;have ex:vx= .int k m:=hx;have ey:vy= .int k' n:=hy;rw[ex,ey];intro w;rw[h']at hv⊢;unfold aeu at hv⊢;cases h0:Nat.ble n k.bits;·rw[h0]at hv;exact absurd rfl hv
 ·rw[aI]at h0;refine⟨.int k ((m:Int)/2^n),?_,?_⟩
  ·rw[vZ];have:binOp .shr t (.int k m) (.int k' n)=Op.shift .shr k m k' n:=by simp[binOp]
   rw[this,shift_shr _ _ _ _ (by omega) (by omega)];simp
  ·show VR ι (.int k ((m/2^n:Nat):Int)) _;have:((m/2^n:Nat):Int)=(m:Int)/2^n:=by simp
   rw[this];rfl
theorem Wq {t:TypeId} {xo yo:Operand} {x y v:AV} {vx vy:Value} (hx:VR ι x vx) (hy:VR ι y vy) (h:aev x y=v) (hv:v≠.bad):sI P ι .shr t xo yo vx vy v:=by
 unfold aev at h;split at h
 ·rename_i k a k' n;have ex:vx= .int k (.negSucc a):=hx;have ey:vy= .int k' (.ofNat n):=hy;rw[ex,ey];intro w;subst h;unfold ahe at hv⊢;cases h0:Nat.ble n k.bits
  ·rw[h0]at hv;exact absurd rfl hv
  ·rw[aI]at h0;refine⟨.int k ((Int.negSucc a).fdiv (2^n)),?_,rfl⟩;rw[vZ];have:binOp .shr t (.int k (.negSucc a)) (.int k' (.ofNat n))=Op.shift .shr k (.negSucc a) k' (.ofNat n):=by simp[binOp]
   rw[this];have hneg:¬((Int.ofNat n)<0):=by show ¬((n:Int)<0);omega
   have hmin:min (Int.ofNat n).toNat k.bits=n:=zD h0;simp only[Op.shift,aj hneg,hmin,Sem.run_bind,Sem.run_pure,Result.andThen_ok]
 ·exact aaM hx hy h hv
theorem Ws {x y:Operand} (h:(Bool.rec (isC y) true (isC x):Bool)=true):(∃v,x= .const v)∨∃v,y= .const v:=by cases x<;>cases y<;>simp[isC]at h⊢
theorem Rx {α:Prop} {k:IntKind} {a b:Int} (h:zF k a b≠.bad):α:=absurd rfl h
theorem dec_lt (a b:Nat):Nat.ble (Nat.succ a) b=decide ((a:Int)<b):=by rw[jC,fA,bI,bI];omega
theorem bV (a b:Nat):Nat.ble a b=decide ((a:Int)≤b):=by rw[jC,fA,bI,bI];omega
theorem Wt (a b:Nat):Nat.beq a b=((a:Int)==b):=by rw[wh,fA,bI,bL];omega
theorem aaO (hg:kP P g) {op:BinOp} {t:TypeId} {xo yo:Operand} {x y v:AV} {vx vy:Value} (hx:VR ι x vx) (hy:VR ι y vy)
 (h:(Wu op (Bool.rec (isC yo) true (isC xo)) (eqK g t)).f x y=v) (hv:v≠.bad):sI P ι op t xo yo vx vy v:=by
 cases op with
 |add=>
  rcases JX h with h1|⟨_,h1⟩<;>clear h
  ·exact fT hx hy h1.symm hv (by simp) (by simp) (fun k m n _=>by
    have e:ahf k m n=mk k ((m:Int)+n):=EY k (m+n);rw[e];exact Ro) (fun k a b _=>Ro)
  ·rcases Ef h1.symm hv with⟨a,b,ex,ey,h⟩|⟨_,h⟩<;>clear h1
   ·subst ex;subst ey;obtain⟨a,rfl,rfl⟩:=hx;obtain⟨b,rfl,rfl⟩:=hy;unfold ahg at h;rw[Str.fQ,Str.fQ]at h;cases hl:Nat.ble (Nat.add a.size b.size) (nat_lit 4611686018427387904)
    ·rw[hl]at h;exact absurd h hv
    ·rw[hl]at h;rw[aI]at hl;have hl':a.size+b.size≤4611686018427387904:=hl;refine Eh (v':= .string (a++b)) (fun w=>run_string_add_sum w a b (by omega)) (by simp) (by simp) ?_;rw[h];exact⟨a++b,rfl,Str.aei a b⟩
   ·exact absurd h hv
 |sub=>
  have h:jd aaP (fun k a b=>mk k (Int.sub a b)) x y=v:=h;exact fT hx hy h hv (by simp) (by simp) (fun k m n _=>by
   have e:aaP k m n=mk k ((m:Int)-n):=by
    unfold aaP;cases hb:Nat.ble n m;·rfl
    ·show mkN k (m-n)=_;rw[aI]at hb;rw[EY];congr 1;omega
   rw[e];exact Rp) (fun k a b _=>Rp)
 |mul=>
  have h:jd aew (fun k a b=>mk k (Int.mul a b)) x y=v:=h;exact fT hx hy h hv (by simp) (by simp) (fun k m n _=>by
   have e:aew k m n=mk k ((m:Int)*n):=EY k (m*n);rw[e];exact Rq) (fun k a b _=>Rq)
 |quo=>have h:jd Wo (zF) x y=v:=h;exact fT hx hy h hv (by simp) (by simp) aaJ (fun k a b hs=>Rx hs)
 |rem=>have h:jd Wp (zF) x y=v:=h;exact fT hx hy h hv (by simp) (by simp) aaK (fun k a b hs=>Rx hs)
 |and=>have h:jd (JR Nat.land) ahh x y=v:=h;exact fT hx hy h hv (by simp) (by simp) (JQ .and Nat.land (fun j a b _ hb=>Nat.and_lt_two_pow a hb) JU) (fun k a b _=>⟨_,fun w=>rfl,rfl⟩)
 |or=>have h:jd (JR Nat.lor) orS x y=v:=h;exact fT hx hy h hv (by simp) (by simp) (JQ .or Nat.lor (fun j a b ha hb=>Nat.or_lt_two_pow ha hb) LQ) (fun k a b _=>⟨_,fun w=>rfl,rfl⟩)
 |xor=>have h:jd (JR Nat.xor) aex x y=v:=h;exact fT hx hy h hv (by simp) (by simp) (JQ .xor Nat.xor (fun j a b ha hb=>Nat.xor_lt_two_pow ha hb) JV) (fun k a b _=>⟨_,fun w=>rfl,rfl⟩)
 |shl=>exact aaL hx hy h hv
 |shr=>exact Wq hx hy h hv
 |andNot=>have h:jd (fun k a b=>Ei k (.ofNat a) (.ofNat b)) Ei x y=v:=h;exact fT hx hy h hv (by simp) (by simp) (fun k m n _=>⟨_,fun w=>rfl,rfl⟩) (fun k a b _=>⟨_,fun w=>rfl,rfl⟩)
 |eql=>
  rcases JX h with h1|⟨_,h1⟩<;>clear h;·exact fT hx hy h1.symm hv (by simp) (by simp) (fun k m n _=>jU (fun w=>rfl) _ (Wt m n)) (fun k a b _=>jU (fun w=>rfl) _ (by rw[fA,bI,bL]))
  ·rcases Ef h1.symm hv with⟨a,b,ex,ey,h⟩|⟨_,h⟩<;>clear h1
   ·subst ex;subst ey;obtain⟨a,rfl,rfl⟩:=hx;obtain⟨b,rfl,rfl⟩:=hy;refine Eh (v':= .bool (a.toList==b.toList)) (fun w=>rfl) (by simp) (by simp) ?_;rw[h,sEq,Str.Wj,toList_beq];rfl
   ·obtain⟨r,h1,h2⟩:=Rw hg Ws hx hy h.symm hv;rw[h1];exact aep h2
 |neq=>
  rcases JX h with h1|⟨_,h1⟩<;>clear h;·exact fT hx hy h1.symm hv (by simp) (by simp) (fun k m n _=>jU (fun w=>rfl) _ (by rw[wm,Wt];rfl)) (fun k a b _=>jU (fun w=>rfl) _ (by rw[wm];rfl))
  ·rcases Ef h1.symm hv with⟨a,b,ex,ey,h⟩|⟨_,h⟩<;>clear h1
   ·subst ex;subst ey;obtain⟨a,rfl,rfl⟩:=hx;obtain⟨b,rfl,rfl⟩:=hy;refine Eh (v':= .bool !(a.toList==b.toList)) (fun w=>rfl) (by simp) (by simp) ?_;rw[h,sNe,Str.Wj,toList_beq,wm];rfl
   ·obtain⟨r,h1,h2⟩:=Rw hg Ws hx hy h.symm hv;rw[h1];exact aer h2
 |lss=>
  rcases JX h with h1|⟨_,h1⟩<;>clear h;·exact fT hx hy h1.symm hv (by simp) (by simp) (fun k m n _=>jU (fun w=>rfl) _ (dec_lt m n)) (fun k a b _=>jU (fun w=>rfl) _ rfl)
  ·rcases Ef h1.symm hv with⟨a,b,ex,ey,h⟩|⟨_,h⟩<;>clear h1
   ·subst ex;subst ey;obtain⟨a,rfl,rfl⟩:=hx;obtain⟨b,rfl,rfl⟩:=hy;refine Eh (v':= .bool (Op.bytesLess a.toList b.toList)) (fun w=>rfl) (by simp) (by simp) ?_;rw[h,sLt,Str.ahc];rfl
   ·exact absurd h hv
 |leq=>have h:jd leF (fun _ a b=> .bool (decide (a≤b))) x y=v:=h;exact fT hx hy h hv (by simp) (by simp) (fun k m n _=>jU (fun w=>rfl) _ (bV m n)) (fun k a b _=>jU (fun w=>rfl) _ rfl)
 |gtr=>have h:jd gtF (fun _ a b=> .bool (decide (b<a))) x y=v:=h;exact fT hx hy h hv (by simp) (by simp) (fun k m n _=>jU (fun w=>rfl) _ (dec_lt n m)) (fun k a b _=>jU (fun w=>rfl) _ rfl)
 |geq=>have h:jd geF (fun _ a b=> .bool (decide (b≤a))) x y=v:=h;exact fT hx hy h hv (by simp) (by simp) (fun k m n _=>jU (fun w=>rfl) _ (bV n m)) (fun k a b _=>jU (fun w=>rfl) _ rfl)
theorem uop_ok {op:UnOp} {x v:AV} {vx:Value} (hx:VR ι x vx) (h:(uop op).f x=v) (hv:v≠.bad):∃v',(∀w:World,(Op.unary op vx).run P w= .ok v' w)∧VR ι v v':=by
 have h':uop1 op x=v:=h;unfold uop1 at h';split at h';·cases hx;exact⟨_,fun w=>rfl,by rw[←h',wm];rfl⟩
 ·rename_i k n;cases hx;refine⟨.int k (k.wrap (0-n)),fun w=>rfl,?_⟩;rw[←h',mk,CY];rfl
 ·rename_i k n;cases hx;exact⟨_,fun w=>rfl,by rw[←h'];rfl⟩
 ·exact absurd h'.symm hv
end
end Go.Proofs.YtocaiijbhepnnaaGreatDoor.Am
