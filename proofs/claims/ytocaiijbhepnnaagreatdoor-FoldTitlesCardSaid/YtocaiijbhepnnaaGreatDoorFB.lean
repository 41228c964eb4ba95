/- FoldTitles, walked: the book of letters; what steps leave as it was; utf.Text; a rune's form. -/
import Derived.Test.YtocaiijbhepnnaaGreatDoorFA
import Derived.Test.YtocaiijbhepnnaaGreatDoorFP
import Derived.Test.YtocaiijbhepnnaaGreatDoorProg
import Derived.BigQuiet
import Derived.Maps.OwnOps
import Derived.Lib.Hide
import Derived.Shelf.Unicode.DecodeAny
import Derived.Deep.AppendLies
import Derived.Lib.ConvBytes
namespace Go.Proofs.YtocaiijbhepnnaaGreatDoor
theorem ah:type_of%@Go.Lib.hid:=@Go.Lib.hid
theorem aK:type_of%@Go.RowKit.Below.refl:=@Go.RowKit.Below.refl
theorem dw:type_of%@Go.AllReady.cons:=@Go.AllReady.cons
theorem Eo:type_of%@Go.World.size_alloc:=@Go.World.size_alloc
theorem bU:type_of%@Go.wpAny_take:=@Go.wpAny_take
theorem eu:type_of%@Go.AllReady.nil:=@Go.AllReady.nil
theorem lD:type_of%@Go.BigFrame.wpQuiet_want:=@Go.BigFrame.wpQuiet_want
theorem eB:type_of%@Go.wpAny_ready:=@Go.wpAny_ready
theorem fu:type_of%@Go.cell_of_row:=@Go.cell_of_row
theorem jl:type_of%@Go.heap_alloc_new:=@Go.heap_alloc_new
theorem gW:type_of%@Go.info_parts:=@Go.info_parts
theorem rW:type_of%@Go.wpList_append_lies:=@Go.wpList_append_lies
theorem vR:type_of%@Go.RowKit.ownsRow_setCell_below:=@Go.RowKit.ownsRow_setCell_below
theorem vS:type_of%@Go.heap_setCell_same:=@Go.heap_setCell_same
theorem yZ:type_of%@Go.World.ownsRow.cells:=@Go.World.ownsRow.cells
theorem rX:type_of%@Go.bodyPost_ret:=@Go.bodyPost_ret
end Go.Proofs.YtocaiijbhepnnaaGreatDoor
set_option maxRecDepth 100000
set_option maxHeartbeats 2000000
namespace Go.Proofs.YtocaiijbhepnnaaGreatDoor.foldTitles
open Go.Shelf Go.RowKit Go.Lib Go.Proofs.YtocaiijbhepnnaaGreatDoor.Am
theorem jM {P:Program} {w:World} {ops:Array Oper} {rest:List Oper} {o:Oper} {a:Act} {Q:Exit->Act->World->Prop} (hg:o.guard=none) (m x:Operand) (t:TypeId) (hop:o.op=Op.lookup t m x true)
 {kt et:TypeId} {i:TypeInfo} {z:Value} (ht:P.underlying t=some (.map kt et)) (hk:P.underlying kt=some (.int .i32)) (hi:P.info? et=some i) (hz:i.zero=some z) {B:Nat} {r:Int} {f:Int->Option (Value->Prop)}
 (hm:MapAt w B f) (ha:a.eval m= .map (some B)) (hx:a.eval x= .int .i32 r)
 (hK:∀v there,(match f r with|none=>v=z/\there=false|some q=>q v/\there=true)->wpList P ops Q rest (a.put o.dst (.tuple #[v, .bool there])) w):wpList P ops Q (o::rest) a w:=by
 refine wpList_plain hg λK' hK'=> ?_;obtain⟨es,c,hw,hks,hm⟩:=hm;obtain⟨e,he,hfe⟩:=hm r;have hr:=nI (P:=P) (w:=w) (t:=t) (r:=B) (es:=es) (c:=c) (key:= .int .i32 r) true ht hk hw rfl (λx hx=>by obtain⟨i,hi⟩:=hks x hx;rw[hi];rfl) hi hz he;unfold Oper.wp;simp[execOp,hop,ha,hx,hr,Result.andThen];refine hK' _ _ (hK _ _ ?_);cases hf:f r with
 |none=>rw[hf]at hfe;obtain rfl:e=none:=hfe;exact⟨rfl,rfl⟩
 |some q=>rw[hf]at hfe;obtain⟨e',rfl,hq⟩:=hfe;exact⟨hq,rfl⟩
theorem jA {P:Program} {w:World} {ops:Array Oper} {rest:List Oper} {o:Oper} {a:Act} {Q:Exit->Act->World->Prop} (hg:o.guard=none) (m x:Operand) (t:TypeId) (hop:o.op=Op.lookup t m x true)
 {kt et:TypeId} {i:TypeInfo} {z:Value} (ht:P.underlying t=some (.map kt et)) (hk:P.underlying kt=some (.int .i32)) (hi:P.info? et=some i) (hz:i.zero=some z) {B:Nat} {r s:Int} {l:List (Int×Int)}
 (hm:MapAt w B (letters l)) (ha:a.eval m= .map (some B)) (hx:a.eval x= .int .i32 r) (hl:Cases.look l r=some s)
 (hK:wpList P ops Q rest (a.put o.dst (.tuple #[.int .i32 s, .bool true])) w):wpList P ops Q (o::rest) a w:=by
 refine jM hg m x t hop ht hk hi hz hm ha hx λv there h=> ?_;have hf:letters l r=some λv=>v= .int .i32 s:=by unfold letters;rw[hl];rfl
 rw[hf]at h;obtain⟨rfl,rfl⟩:=h;exact hK
theorem iP {P:Program} {w:World} {ops:Array Oper} {rest:List Oper} {o:Oper} {a:Act} {Q:Exit->Act->World->Prop} (hg:o.guard=none) (m x:Operand) (t:TypeId) (hop:o.op=Op.lookup t m x true)
 {kt et:TypeId} {i:TypeInfo} {z:Value} (ht:P.underlying t=some (.map kt et)) (hk:P.underlying kt=some (.int .i32)) (hi:P.info? et=some i) (hz:i.zero=some z) {B:Nat} {r:Int} {l:List (Int×Int)}
 (hm:MapAt w B (letters l)) (ha:a.eval m= .map (some B)) (hx:a.eval x= .int .i32 r) (hl:Cases.look l r=none)
 (hK:wpList P ops Q rest (a.put o.dst (.tuple #[z, .bool false])) w):wpList P ops Q (o::rest) a w:=by
 refine jM hg m x t hop ht hk hi hz hm ha hx λv there h=> ?_;have hf:letters l r=none:=by unfold letters;rw[hl];rfl
 rw[hf]at h;obtain⟨rfl,rfl⟩:=h;exact hK
theorem U3 (r:Int) (v:Value) (w:World) (h:OpenAt w v):Calls Tryz.prog 105 #[v, .int .i32 r] w λe w'=>e= .returned (.tuple #[.int .i32 (Cases.pair r).1, .int .i32 (Cases.pair r).2])/\w'=w:=by
 obtain⟨B,o,S,G,X,rfl,c1,c2,c3,m1,m2,m3⟩:=h;have M1:=Lib.hid m1;have M2:=Lib.hid m2;clear m1 m2 m3 c3;unfold Cases.pair;cases h1:Cases.look Cases.smalls r with
 |some s=>have H1:=Lib.hid h1;clear h1;go_enter Tryz.func105,Tryz.ntmps105;go_wp2_with (at_lookup;refine jA rfl _ _ 146 rfl Tryz.underlying146 Tryz.underlying21 rfl rfl M1.out rfl rfl H1.out ?_);go_ret2;exact⟨rfl,rfl⟩
 |none=>
  have H1:=Lib.hid h1;clear h1;cases h2:Cases.look Cases.fO r with
  |some s=>
   have H2:=Lib.hid h2;clear h2;go_enter Tryz.func105,Tryz.ntmps105;go_wp2_with (first
    |(at_lookup;refine iP rfl _ _ 146 rfl Tryz.underlying146 Tryz.underlying21 rfl rfl M1.out rfl rfl H1.out ?_)
    |(at_lookup;refine jA rfl _ _ 146 rfl Tryz.underlying146 Tryz.underlying21 rfl rfl M2.out rfl rfl H2.out ?_))
   go_ret2;exact⟨rfl,rfl⟩
  |none=>
   have H2:=Lib.hid h2;clear h2;go_enter Tryz.func105,Tryz.ntmps105;go_wp2_with (first
    |(at_lookup;refine iP rfl _ _ 146 rfl Tryz.underlying146 Tryz.underlying21 rfl rfl M1.out rfl rfl H1.out ?_)
    |(at_lookup;refine iP rfl _ _ 146 rfl Tryz.underlying146 Tryz.underlying21 rfl rfl M2.out rfl rfl H2.out ?_))
   go_ret2;exact⟨rfl,rfl⟩
theorem BG {P:Program} {w:World} {ops:Array Oper} {rest:List Oper} {o:Oper} {a:Act} {Q:Exit->Act->World->Prop} (hg:o.guard=none) (m x:Operand) (t:TypeId) (hop:o.op=Op.lookup t m x true)
 {kt et:TypeId} {i:TypeInfo} {z:Value} (ht:P.underlying t=some (.map kt et)) (hk:P.underlying kt=some (.int .i32)) (hi:P.info? et=some i) (hz:i.zero=some z) {B:Nat} {r:Int}
 (hm:MapAt w B forms) (ha:a.eval m= .map (some B)) (hx:a.eval x= .int .i32 r) (hl:Cases.bf.contains r=true)
 (hK:∀p1 n1 c1 p2 n2 c2 p3 n3 c3 p4 n4 c4,wpList P ops Q rest (a.put o.dst (.tuple #[.agg #[.slice p1 n1 c1, .slice p2 n2 c2, .slice p3 n3 c3, .slice p4 n4 c4], .bool true])) w):wpList P ops Q (o::rest) a w:=by
 refine jM hg m x t hop ht hk hi hz hm ha hx λv there h=> ?_;have hf:forms r=some Forms:=by unfold forms;rw[au hl]
 rw[hf]at h;obtain⟨⟨_,_,_,_,rfl,⟨p1,n1,c1,rfl⟩,⟨p2,n2,c2,rfl⟩,⟨p3,n3,c3,rfl⟩,⟨p4,n4,c4,rfl⟩⟩,rfl⟩:=h;exact hK _ _ _ _ _ _ _ _ _ _ _ _
theorem Ep {P:Program} {w:World} {ops:Array Oper} {rest:List Oper} {o:Oper} {a:Act} {Q:Exit->Act->World->Prop} (hg:o.guard=none) (m x:Operand) (t:TypeId) (hop:o.op=Op.lookup t m x true)
 {kt et:TypeId} {i:TypeInfo} {z:Value} (ht:P.underlying t=some (.map kt et)) (hk:P.underlying kt=some (.int .i32)) (hi:P.info? et=some i) (hz:i.zero=some z) {B:Nat} {r:Int}
 (hm:MapAt w B forms) (ha:a.eval m= .map (some B)) (hx:a.eval x= .int .i32 r) (hl:Cases.bf.contains r=false)
 (hK:wpList P ops Q rest (a.put o.dst (.tuple #[z, .bool false])) w):wpList P ops Q (o::rest) a w:=by
 refine jM hg m x t hop ht hk hi hz hm ha hx λv there h=> ?_;have hf:forms r=none:=by unfold forms;rw[aj (by rw[hl];exact oN)]
 rw[hf]at h;obtain⟨rfl,rfl⟩:=h;exact hK
theorem Gn (r:Int) (v:Value) (w:World) (h:OpenAt w v):Calls Tryz.prog 54 #[v, .int .i32 r] w λe w'=>e= .returned (.bool (Cases.cased r))/\Below w.heap.size w w':=by
 obtain⟨B,o,S,G,X,rfl,c1,c2,c3,m1,m2,m3⟩:=h;have M1:=Lib.hid m1;have M2:=Lib.hid m2;have M3:=Lib.hid m3;clear m1 m2 m3;unfold Cases.cased;cases h1:Cases.look Cases.smalls r<;>cases h2:Cases.look Cases.fO r<;>cases h3:Cases.bf.contains r;all_goals
  have H1:=Lib.hid h1;have H2:=Lib.hid h2;have H3:=Lib.hid h3;clear h1 h2 h3;go_enter Tryz.func54,Tryz.ntmps54;go_wp2_with (first
   |(at_lookup;refine iP rfl _ _ 146 rfl Tryz.underlying146 Tryz.underlying21 rfl rfl M1.out rfl rfl H1.out ?_)
   |(at_lookup;refine jA rfl _ _ 146 rfl Tryz.underlying146 Tryz.underlying21 rfl rfl M1.out rfl rfl H1.out ?_)
   |(at_lookup;refine iP rfl _ _ 146 rfl Tryz.underlying146 Tryz.underlying21 rfl rfl M2.out rfl rfl H2.out ?_)
   |(at_lookup;refine jA rfl _ _ 146 rfl Tryz.underlying146 Tryz.underlying21 rfl rfl M2.out rfl rfl H2.out ?_)
   |(at_lookup;refine Ep rfl _ _ 147 rfl Tryz.underlying147 Tryz.underlying21 rfl rfl M3.out rfl rfl H3.out ?_)
   |(at_lookup;refine BG rfl _ _ 147 rfl Tryz.underlying147 Tryz.underlying21 rfl rfl M3.out rfl rfl H3.out ?_;intro p1 n1 c1 p2 n2 c2 p3 n3 c3 p4 n4 c4))
  go_ret;exact⟨rfl,(Below.refl _ _).alloc (ay _) _⟩
section
open Go.Shelf Go.RowKit Go.Lib
open rY (bt)
theorem aW {w:World} {b o:Nat} {v:Value} (h:w.cell? ⟨b,o,none⟩=some v):b<w.heap.size:=by
 rcases aF b w.heap.size with c|c;·exact c
 ·exfalso;have:w.heap[b]? =none:=Cu c;unfold World.cell? at h;simp[this]at h
structure Fr (T:Nat->Prop) (w w':World):Prop where
 os:w'.os=w.os
 tape:w'.tape=w.tape
 output:w'.output=w.output
 size:w.heap.size<=w'.heap.size
 block:∀k,k<w.heap.size->¬T k->w'.heap[k]? =w.heap[k]?
theorem Fr.refl (T:Nat->Prop) (w:World):Fr T w w:=⟨rfl,rfl,rfl,ay _,λ_ _ _=>rfl⟩
theorem Fr.trans {T:Nat->Prop} {a b c:World} (h:Fr T a b) (k:Fr T b c):Fr T a c:=
 ⟨k.os.trans h.os,k.tape.trans h.tape,k.output.trans h.output,bF h.size k.size,λi hi ht=>(k.block i (bJ hi h.size) ht).trans (h.block i hi ht)⟩
theorem Fr.of_below {T:Nat->Prop} {B:Nat} {w w':World} (h:Below B w w') (hB:w.heap.size<=B):Fr T w w':=
 ⟨h.os,h.tape,h.output,h.size,λk hk _=>h.block k (by omega)⟩
theorem Fr.grown {T:Nat->Prop} {w w':World} {row:Option Nat} (h:w.grownBy w' row) (hr:∀k,row=some k->k<w.heap.size->T k):Fr T w w':=
 ⟨h.os,h.tape,h.output,h.size,λk hk hn=>h.block k hk λe=>hn (hr k e.symm hk)⟩
theorem Fr.drew (T:Nat->Prop) (w:World):Fr T w w.drew:=⟨rfl,rfl,rfl,ay _,λ_ _ _=>rfl⟩
theorem Fr.drewN (T:Nat->Prop) (w:World) (n:Nat):Fr T w (w.drewN n):=⟨rfl,rfl,rfl,ay _,λ_ _ _=>rfl⟩
theorem Fr.set {T:Nat->Prop} (w:World) (a:Addr) (u:Value) (h:a.block<w.heap.size->T a.block):Fr T w (w.setCell a u):=
 ⟨rfl,rfl,rfl,by simp[World.setCell],λk hk hn=>Below.heap_setCell _ _ _ _ (λc=>hn (c▸h (c▸hk)))⟩
theorem Fr.cell {T:Nat->Prop} {w w':World} (h:Fr T w w') {p:Addr} (hp:p.block<w.heap.size) (hn:¬T p.block):w'.cell? p=w.cell? p:=World.cell?_of_block (w:=w) (h.block p.block hp hn)
theorem Fr.blk {T:Nat->Prop} {w w':World} (h:Fr T w w') {k:Nat} {o:Obj} (hk:w.heap[k]? =some o) (hn:¬T k):w'.heap[k]? =some o:=by rw[h.block k (by rcases aF k w.heap.size with c|c;exact c;rw[Cu c]at hk;cases hk) hn];exact hk
theorem eH {w:World} {k:Nat} {o:Obj} (h:w.heap[k]? =some o):k<w.heap.size:=by
 rcases aF k w.heap.size with c|c;·exact c
 ·rw[Cu c]at h;cases h
theorem Fr.own {T:Nat->Prop} {w w':World} (h:Fr T w w') {base:Nat} {e:TypeId} {size n:Nat} {v:Value} {xs:List Value} (ho:w.ownsRow base e size v n xs) (hn:∀g,v.ownBlock=some g->¬T g):w'.ownsRow base e size v n xs:=by
 refine⟨ho.1,?_⟩;rcases ho.2 with h2|⟨g,cap,cur,hv,hb,hg,r⟩
 ·exact .inl h2
 ·exact .inr ⟨g,cap,cur,hv,hb,h.blk hg (hn g (by rw[hv];rfl)),r⟩
theorem dO {w:World} {base:Nat} {e:TypeId} {size n:Nat} {v:Value} {xs:List Value} (ho:w.ownsRow base e size v n xs) {g:Nat} (hg:v.ownBlock=some g):base<=g/\g<w.heap.size/\∃cur,w.heap[g]? =some (.cells cur e (0,0)):=by
 rcases ho.2 with⟨h2,_⟩|⟨g',cap,cur,hv,hb,hg',r⟩
 ·rw[h2]at hg;cases hg
 ·rw[hv]at hg;have:g'=g:=by simpa[Value.ownBlock]using hg
  subst this;exact⟨hb,eH hg',cur,hg'⟩
theorem U4 {w:World} {base base':Nat} {e:TypeId} {size n:Nat} {v:Value} {xs:List Value} (ho:w.ownsRow base e size v n xs) (hn:∀g,v.ownBlock=some g->base'<=g):w.ownsRow base' e size v n xs:=by
 refine⟨ho.1,?_⟩;rcases ho.2 with h2|⟨g,cap,cur,hv,hb,hg,r⟩
 ·exact .inl h2
 ·exact .inr ⟨g,cap,cur,hv,hn g (by rw[hv];rfl),hg,r⟩
theorem Yh {T:Nat->Prop} {w w':World} {g0 g1:Nat} (h:Fr T w w') (hT:Lib.Utf8Tabs g0 g1 w) (h0:¬T g0) (h1:¬T g1):Lib.Utf8Tabs g0 g1 w':=by
 have c0:∀j v,w.cell? ⟨g0,j,none⟩=some v->w'.cell? ⟨g0,j,none⟩=some v:=λj v hj=>by rw[h.cell (p:=⟨g0,j,none⟩) (aW hj) h0];exact hj
 have c1:∀j v,w.cell? ⟨g1,j,none⟩=some v->w'.cell? ⟨g1,j,none⟩=some v:=λj v hj=>by rw[h.cell (p:=⟨g1,j,none⟩) (aW hj) h1];exact hj
 exact⟨λi hi=>c0 _ _ (hT.1 i hi),λi hi=>⟨c1 _ _ (hT.2 i hi).1,c1 _ _ (hT.2 i hi).2⟩⟩
def kC (l:List UInt8):List Value:=l.map λb=> .int .u8 b.toNat
theorem Na (l:List UInt8):(kC l).length=l.length:=by simp[kC]
theorem Er (l x:List UInt8):kC (l++x)=kC l++kC x:=by simp[kC]
theorem Nb (l:List UInt8) (j:Nat) (h:j<l.length):(kC l)[j]? =some (.int .u8 (bt l j)):=by unfold kC bt;rw[fq,aS h,aG,aS h];rfl
def BR (w:World) (B:Nat) (A:Option Addr) (m:Nat) (l:List UInt8):Prop:=
 l.length=m/\(0<m->∃g off,A=some ⟨g,off,none⟩/\g<B/\∀j,j<m->w.cell? ⟨g,off+j,none⟩=some (.int .u8 (bt l j)))
theorem BR.U5 {w:World} {base n:Nat} {v:Value} {l:List UInt8} (h:w.ownsRow base 5 1 v n (kC l)):
 l.length=n/\∃(A:Option Addr) (cap:Nat),v= .slice A n cap/\BR w w.heap.size A n l/\(∀a,A=some a->v.ownBlock=some a.block)/\n<=cap/\cap<=maxLen:=by
 have hl:l.length=n:=by have:=h.1;rw[Na]at this;omega
 refine⟨hl,?_⟩;rcases h.2 with⟨h2,h0⟩|⟨g,cap,cur,hv,hb,hg,hnc,hcm,hsz,ht⟩
 ·subst h0;exact⟨none,0,h2,⟨hl,λc=>absurd c (by omega)⟩,(λa c=>by cases c),ay _,aL _⟩
 ·refine⟨some ⟨g,0,none⟩,cap,hv,⟨hl,λ_=>⟨g,0,rfl,eH hg,λj hj=> ?_⟩⟩,λa ha=>by cases ha;rw[hv];rfl,hnc,hcm⟩;rw[bI,cell_of_row w g j cur 5 (0,0) hg];have h3:=Nb l j (by omega);rw[<-ht,List.getElem?_take]at h3;rw[au (by omega)]at h3;simpa using h3
def Src (w:World) (A:Option Addr) (m:Nat) (news:List Value):Prop:=
 news.length=m/\(0<m->∃ad,A=some ad/\∀j u,news[j]? =some u->w.cell? (ad.add j)=some u)
theorem iQ (g off j:Nat):(⟨g,off,none⟩:Addr).add j=⟨g,off+j,none⟩:=by unfold Addr.add;split<;>simp_all
theorem qB {w:World} {base:Nat} {e:TypeId} {v:Value} {size n:Nat} {xs:List Value} (h:w.ownsRow base e size v n xs):∃A c,v= .slice A n c/\(∀a,A=some a->v.ownBlock=some a.block)/\(A=none->v.ownBlock=none)/\n<=c/\c<=maxLen:=by
 rcases h.2 with⟨h2,h0⟩|⟨g,cap,cur,hv,hb,hg,hnc,hcm,_⟩
 ·subst h0;exact⟨none,0,h2,(λa c=>by cases c),(λ_=>by rw[h2];rfl),ay _,aL _⟩
 ·exact⟨some ⟨g,0,none⟩,cap,hv,(λa ha=>by cases ha;rw[hv];rfl),(λc=>by cases c),hnc,hcm⟩
section
variable {P:Program} (w:World)
theorem Yi (base:Nat) (t ty e:TypeId) (i:TypeInfo) (z:Value) (bytes:Nat) (ht:P.underlying t=some (.slice e)) (hi:P.info? e=some i) (hz:i.zero=some z)
 (hsize:i.size=1) (hby:i.bytes=bytes) (hzs:z.cells.size=1)
 (v:Value) (n:Nat) (xs:List Value) (hown:w.ownsRow base e 1 v n xs) (A:Option Addr) (m c:Nat) (news:List Value) (hs:Src w A m news) (h1:∀u∈news,u.oneCell'=true)
 (h63:n+m<=maxLen) (hbytes:(n+m)*bytes<=0x800000000000) (hbase:base<=w.heap.size):
 ∃v' w',(Builtin.append_ #[t,t] ty #[v, .slice A m c]).run P w= .ok v' w'/\w'.ownsRow base e 1 v' (n+m) (xs++news)/\w.grownBy w' v.ownBlock/\(v'.ownBlock=v.ownBlock\/v'.ownBlock=some w.heap.size):=by
 cases A with
 |none=>
  obtain rfl:m=0:=by
   rcases jG m with c|c;·exact c
   ·obtain⟨_,h,_⟩:=hs.2 c;cases h
  obtain rfl:news=[]:=tN hs.1;refine⟨v,w,?_,by simpa using hown,⟨rfl,rfl,rfl,ay _,λ_ _ _=>rfl⟩, .inl rfl⟩;rcases hown.2 with⟨rfl,rfl⟩|⟨g,cap,cur,rfl,_,_,hnc,_⟩<;>simp[Builtin.append_,run_underlying ht,sizeOf,typeInfo,hi,Builtin.lenOf,Builtin.firstCells];simp[hnc,storeCells]
 |some ad=>
  have hc:∀j u,news[j]? =some u->w.cell? (ad.add j)=some u:=λj u hu=>by
   rcases jG m with c|c;·have:=hs.1;rw[c]at this;rw[tN this]at hu;simp at hu
   ·obtain⟨_,h,hh⟩:=hs.2 c;cases h;exact hh j u hu
  obtain⟨v',w',h,h2,h3,_,h5⟩:=run_append_own_at (P:=P) w base t ty e i z 1 bytes ht hi hz hsize hby hzs (by omega) v n xs hown ad m c news (by rw[hs.1,Nat.mul_one]) hc h1 h63 hbytes hbase;exact⟨v',w',h,h2,h3,h5⟩
theorem I8 {o:Oper} {a:Act} {K:Act->World->Prop} {Q:Exit->Act->World->Prop} (s x:Operand) (t:TypeId)
 (ho:o.op= .call {callee:= .builtin .append,args:=#[s,x],argTypes:=#[t,t]})
 (base:Nat) (e:TypeId) (i:TypeInfo) (z:Value) (bytes:Nat) (ht:P.underlying t=some (.slice e)) (hi:P.info? e=some i) (hz:i.zero=some z)
 (hsize:i.size=1) (hby:i.bytes=bytes) (hzs:z.cells.size=1)
 (v:Value) (n:Nat) (xs:List Value) (hv:a.eval s=v) (hown:w.ownsRow base e 1 v n xs) (A:Option Addr) (m c:Nat) (news:List Value) (hx:a.eval x= .slice A m c) (hs:Src w A m news) (h1:∀u∈news,u.oneCell'=true)
 (h63:n+m<=maxLen) (hbytes:(n+m)*bytes<=0x800000000000) (hbase:base<=w.heap.size)
 (h:∀v' w',w'.ownsRow base e 1 v' (n+m) (xs++news)->w.grownBy w' v.ownBlock->(v'.ownBlock=v.ownBlock\/v'.ownBlock=some w.heap.size)->K (a.put o.dst v') w'):o.wp P a w K Q:=by
 obtain⟨v',w',hr,h2,h3,h4⟩:=Yi (P:=P) w base t o.type e i z bytes ht hi hz hsize hby hzs v n xs hown A m c news hs h1 h63 hbytes hbase;unfold Oper.wp execOp;simp only[ho,resolve,invoke,builtin,Sem.run_bind,Sem.run_pure,Result.andThen_ok,List.map_toArray,jD,List.map_nil,hv,hx,hr];exact h v' w' h2 h3 h4
theorem eD {ops:Array Oper} {rest:List Oper} {o:Oper} {a:Act} {Q:Exit->Act->World->Prop} (hgd:o.guard=none) (s x:Operand) (t:TypeId)
 (ho:o.op= .call {callee:= .builtin .append,args:=#[s,x],argTypes:=#[t,t]})
 (base:Nat) (e:TypeId) (i:TypeInfo) (z:Value) (bytes:Nat) (ht:P.underlying t=some (.slice e)) (hi:P.info? e=some i) (hz:i.zero=some z)
 (hsize:i.size=1) (hby:i.bytes=bytes) (hzs:z.cells.size=1)
 (v:Value) (n:Nat) (xs:List Value) (hv:a.eval s=v) (hown:w.ownsRow base e 1 v n xs) (A:Option Addr) (m c:Nat) (news:List Value) (hx:a.eval x= .slice A m c) (hs:Src w A m news) (h1:∀u∈news,u.oneCell'=true)
 (h63:n+m<=maxLen) (hbytes:(n+m)*bytes<=0x800000000000) (hbase:base<=w.heap.size)
 (h:∀v' w',w'.ownsRow base e 1 v' (n+m) (xs++news)->w.grownBy w' v.ownBlock->(v'.ownBlock=v.ownBlock\/v'.ownBlock=some w.heap.size)->wpList P ops Q rest (a.put o.dst v') w'):wpList P ops Q (o::rest) a w:=
 wpList_plain hgd λ_ hK=>I8 w s x t ho base e i z bytes ht hi hz hsize hby hzs v n xs hv hown A m c news hx hs h1 h63 hbytes hbase λv' w' h2 h3 h4=>hK _ _ (h v' w' h2 h3 h4)
end
theorem size_mk (t:List UInt8) (s:ByteArray) (hs:(⟨t.toArray⟩:ByteArray)=s):s.size=t.length:=by subst hs;simp[ByteArray.size]
theorem Nc (l:List UInt8):strCells ⟨l.toArray⟩=kC l:=by simp[strCells,kC]
theorem KQ {P:Program} (w:World) (base:Nat) (t st ty e:TypeId) (ht:P.underlying t=some (.slice e)) (hst:P.underlying st=some .string) (i:TypeInfo) (hi:P.info? e=some i) (hz:i.zero=some (.int .u8 0)) (hsize:i.size=1) (hby:i.bytes=1)
 (v:Value) (n:Nat) (xs:List Value) (hown:w.ownsRow base e 1 v n xs) (l:List UInt8) (m:Nat) (hm:l.length=m) (h63:n+m<=4000000) (hbase:base<=w.heap.size):
 ∃v' w',(Builtin.append_ #[t,st] ty #[v, .string ⟨l.toArray⟩]).run P w= .ok v' w'/\w'.ownsRow base e 1 v' (n+m) (xs++kC l)/\w.grownBy w' v.ownBlock/\(v'.ownBlock=v.ownBlock\/v'.ownBlock=some w.heap.size):=by
 have hs:(⟨l.toArray⟩:ByteArray).size=m:=by rw[size_mk l _ rfl,hm]
 obtain⟨v',w',hr,h2,h3,_⟩:=run_append_own_string (P:=P) w base t st ty e i ht hst hi hz hsize hby v n xs hown ⟨l.toArray⟩ (by rw[hs];simp only[maxLen];omega) (by rw[hs];omega) hbase;rw[hs,Nc]at h2;refine⟨v',w',hr,h2,h3,?_⟩;rcases hown.2 with⟨rfl,rfl⟩|⟨g,cap,cur,rfl,hbg,hg,hnc,hcm,hcs,htake⟩
 ·rcases jG m with h0|h0
  ·rcases h2.2 with⟨rfl,_⟩|⟨g',cap',cur',rfl,aln,hg',_⟩
   ·exact .inl rfl
   ·subst h0;obtain rfl:l=[]:=tN hm;have hf:=run_firstCells_string (P:=P) w 1 ⟨([]:List UInt8).toArray⟩;have h9:(Builtin.append_ #[t,st] ty #[.slice none 0 0, .string ⟨([]:List UInt8).toArray⟩]).run P w= .ok (.slice none 0 0) w:=by rw[hs]at hf;simp[Builtin.append_,run_underlying ht,run_underlying hst,sizeOf,typeInfo,hi,hsize,Builtin.lenOf,hs,hf];try rfl
    rw[hr]at h9;injection h9 with h9 _;cases h9
  ·have h9:=run_append_nil_string (P:=P) w t st ty e i (.int .u8 0) ht hst hi hz ⟨l.toArray⟩ (by rw[hs];exact h0) (by rw[hs];omega) (by rw[hs,hby];omega);rw[hr]at h9;injection h9 with h9 _;rw[h9];exact .inr rfl
 ·by_cases hroom:n+m<=cap
  ·have hcs':cur.size=cap:=by simpa using hcs
   have h9:=run_append_room_string (P:=P) w t st ty e i ht hst hi hsize g n cap cur hg ⟨l.toArray⟩ (by rw[hs];exact hroom) (by rw[hs];omega);rw[hr]at h9;injection h9 with h9 _;rw[h9];exact .inl rfl
  ·have hxl:xs.length=n:=by simpa using hown.1
   have h9:=run_append_grow_string (P:=P) w t st ty e i (.int .u8 0) ht hst hi hz ⟨g,0,none⟩ n cap xs (by rw[hsize];simpa using hxl) (World.ownsRow.cells (g:=g) ⟨hown.1, .inr ⟨g,cap,cur,rfl,hbg,hg,hnc,hcm,hcs,htake⟩⟩ rfl) ⟨l.toArray⟩ (by rw[hs];omega) (by rw[hs];omega) (by rw[hby,hs];exact growslice_fits (by omega) (by omega));rw[hr]at h9;injection h9 with h9 _;rw[h9];exact .inr rfl
theorem um {P:Program} (w:World) {ops:Array Oper} {rest:List Oper} {o:Oper} {a:Act} {Q:Exit->Act->World->Prop} (hgd:o.guard=none) (sl x:Operand) (t st e:TypeId)
 (ho:o.op= .call {callee:= .builtin .append,args:=#[sl,x],argTypes:=#[t,st]})
 (ht:P.underlying t=some (.slice e)) (hst:P.underlying st=some .string) (base:Nat) (i:TypeInfo) (hi:P.info? e=some i) (hz:i.zero=some (.int .u8 0)) (hsize:i.size=1) (hby:i.bytes=1)
 (v:Value) (n:Nat) (xs:List Value) (hs:a.eval sl=v) (hown:w.ownsRow base e 1 v n xs) (l:List UInt8) (m:Nat) (hx:a.eval x= .string ⟨l.toArray⟩) (hm:l.length=m) (h63:n+m<=4000000) (hbase:base<=w.heap.size)
 (h:∀v' w',w'.ownsRow base e 1 v' (n+m) (xs++kC l)->w.grownBy w' v.ownBlock->(v'.ownBlock=v.ownBlock\/v'.ownBlock=some w.heap.size)->wpList P ops Q rest (a.put o.dst v') w'):wpList P ops Q (o::rest) a w:=by
 refine wpList_plain hgd λK hK=> ?_;obtain⟨v',w',hr,h2,h3,h4⟩:=KQ w base t st o.type e ht hst i hi hz hsize hby v n xs hown l m hm h63 hbase;unfold Oper.wp execOp;simp only[ho,resolve,invoke,builtin,Sem.run_bind,Sem.run_pure,Result.andThen_ok,List.map_toArray,jD,List.map_nil,hs,hx,hr];exact hK _ _ (h v' w' h2 h3 h4)
end
section
open rY (bt)
def rZ (r:Int):Bool:=decide (0<=r)&&(decide (r<=1114111)&&(decide (r<55296)||decide (57343<r)))
def encR (r:Int):List UInt8:=(Utf8.encode (if rZ r then r else 65533)).data.toList
def mX (l:List Int):List UInt8:=l.flatMap encR
theorem Gp (r:Int) (w:World):Calls Tryz.prog 155 #[.int .i32 r] w λe w'=>e= .returned (.bool (rZ r))/\w'=w:=by
 unfold rZ;by_cases h1:0<=r
 ·by_cases h2:r<=1114111
  ·by_cases h3:r<55296
   ·go_enter Tryz.func155,Tryz.ntmps155;go_wp2;go_ret;exact⟨by simp;try omega,rfl⟩
   ·by_cases h4:57343<r
    ·go_enter Tryz.func155,Tryz.ntmps155;go_wp2;go_ret;exact⟨by simp;try omega,rfl⟩
    ·go_enter Tryz.func155,Tryz.ntmps155;go_wp2;go_ret;exact⟨by simp;try omega,rfl⟩
  ·go_enter Tryz.func155,Tryz.ntmps155;go_wp2;go_ret;exact⟨by simp;try omega,rfl⟩
 ·go_enter Tryz.func155,Tryz.ntmps155;go_wp2;go_ret;exact⟨by simp;try omega,rfl⟩
theorem QX (r:Int) (w:World):Calls Tryz.prog 104 #[.int .i32 r] w λe w'=>e= .returned (.string ⟨(encR r).toArray⟩)/\w'=w:=by
 unfold encR;cases h:rZ r with
 |true=>go_enter Tryz.func104,Tryz.ntmps104;go_wp2_with (go_at_call 155;refine(Gp r _).mono ?_;rintro e w1 ⟨rfl,rfl⟩;rw[h]);go_ret;exact⟨rfl,rfl⟩
 |false=>go_enter Tryz.func104,Tryz.ntmps104;go_wp2_with (go_at_call 155;refine(Gp r _).mono ?_;rintro e w1 ⟨rfl,rfl⟩;rw[h]);go_ret;exact⟨rfl,rfl⟩
theorem Aj:(Tryz.prog.info? 5).map (λi=>(i.zero,i.size,i.bytes))=some (some (.int .u8 0),1,1):=by kernel_rfl
theorem vT {w:World} {B:Nat} {A:Option Addr} {m:Nat} {l:List UInt8} (h:BR w B A m l) (c:Nat):(convert 65 9 (.slice A m c)).run Tryz.prog w= .ok (.string ⟨l.toArray⟩) w:=by
 rcases jG m with h0|h0
 ·subst h0;obtain rfl:l=[]:=tN h.1;cases A with
  |none=>exact run_convert_bytes_nil w 65 5 Tryz.underlying65 Tryz.underlying5 0 c 9 Tryz.underlying9
  |some a=>exact run_convert_bytes_back w 65 9 5 a c [] Tryz.underlying65 Tryz.underlying5 Tryz.underlying9 (λj hj=>by simp at hj)
 ·obtain⟨g,off,rfl,_,hc⟩:=h.2 h0;have:=run_convert_bytes_back w 65 9 5 ⟨g,off,none⟩ c l Tryz.underlying65 Tryz.underlying5 Tryz.underlying9 (λj hj=>by
   rw[iQ,hc j (by rw[<-h.1];exact hj)];unfold bt;rw[aG,aS hj];rfl)
  rwa [h.1]at this
theorem Es (r:Int):(encR r).length<=4:=by
 unfold encR Utf8.encode;generalize(if rZ r=true then r else 65533)=q;dsimp only;generalize(if Utf8.valid q=true then q.toNat else Utf8.runeError)=c;repeat' split
 all_goals simp
theorem lU:∀(l:List Int),(mX l).length<=4*l.length
 |[]=>ay _
 |a::l=>by
  have h1:=Es a;have h2:=lU l;show(encR a++mX l).length<=4*(l.length+1)
  rw[bV];omega
theorem Gq (l:List Int) {k:Nat} (hk:k<l.length):mX (l.take (k+1))=mX (l.take k)++encR (l.getD k 0):=by rw[List.take_succ_eq_append_getElem hk];unfold mX;rw[List.flatMap_append,aG,aS hk];simp
def KR (l:List Int) (W:World) (e:Ending) (w':World):Prop:=e= .returned (.string ⟨(mX l).toArray⟩)/\Below W.heap.size W w'
structure TxL (W:World) (l:List Int) (k:Nat) (vb:Value) (w:World):Prop where
 aN:Below W.heap.size W w
 own:w.ownsRow W.heap.size 5 1 vb (mX (l.take k)).length (kC (mX (l.take k)))
theorem vU (l:List Int) (v:Value) (W:World) (h:fA W v l) (hl:l.length<=100):Calls Tryz.prog 55 #[v] W (KR l W):=by
 obtain⟨A,c,rfl,hc,hcell⟩:=h;obtain⟨n,hn⟩:∃n,l.length=n:=⟨_,rfl⟩
 have HC:=Lib.hid hcell;have HN:=Lib.hid hn;clear hcell;rw[hn]at hl hc⊢;clear hn;obtain⟨i0,hi0,hz0,hz1,hz2⟩:=info_parts Aj;go_enter Tryz.func55,Tryz.ntmps55;go_wp2;go_loopw [3,8] (λvb i wr=>∃k:Nat,k<=n/\i= .int .i64 k/\TxL W l k vb wr) (λ_ i _=>n-(RowKit.intOf i).toNat);case atStart=>exact⟨0,aL _,rfl,Below.refl _ _,⟨rfl, .inl ⟨rfl,rfl⟩⟩⟩
 case round=>
  obtain⟨k,hk,rfl,hE⟩:=hrel;have HE:=Lib.hid hE;clear hE;obtain⟨A1,c1,rfl,_⟩:=qB HE.out.own;by_cases hlt:k<n
  ·obtain⟨g,o,rfl,hg⟩:=HC.out (by rw[HN.out];omega);have d0:=hg k (by rw[HN.out];exact hlt);have hgs:=aW d0;rw[<-HE.out.aN.cell (p:=⟨g,o+k,none⟩) hgs]at d0;clear hg hgs;obtain⟨r,hr⟩:∃r,l.getD k 0=r:=⟨_,rfl⟩
   rw[hr]at d0;have HT:=Lib.hid (Gq l (k:=k) (by rw[HN.out];exact hlt));have HR:=Lib.hid hr;clear hr;have hlen:=lU (l.take k);rw[jh]at hlen;have hlr:=Es r;have HL:=Lib.hid (And.intro hlen hlr);clear hlen hlr;go_wp2_with (first
    |(go_at_call 104;refine(QX r _).mono ?_;rintro e w1 ⟨rfl,rfl⟩)
    |(at_builtin
      (refine um _ rfl (.tmp 12) (.tmp 14) 65 9 5 rfl Tryz.underlying65 Tryz.underlying9 W.heap.size i0 hi0 hz0 hz1 hz2 _ _ _ rfl HE.out.own (encR r) _ rfl rfl ?_ ?_ ?_);·have:=HL.out;have:=HN.out;omega
      ·exact HE.out.aN.size
      intro v' w2 hown2 hgrow2 abD;obtain⟨A2,c2,rfl,_⟩:=qB hown2;have U6:=Lib.hid hown2;have HG2:=Lib.hid hgrow2;clear hown2 hgrow2 abD))
   refine⟨⟨k+1,hlt,by go_num,?_,?_⟩,by simp[RowKit.intOf];omega⟩;·exact HE.out.aN.grown HG2.out HE.out.aN.size (λg hg=>(dO HE.out.own hg).1)
   ·have:=U6.out;rw[<-Er,<-HR.out]at this;rw[<-HR.out,HT.out,bV];exact this
  ·obtain rfl:k=n:=by omega
   have htk:l.take k=l:=xG (by rw[HN.out];exact ay _);obtain⟨hl2,A2,c2,he,hbr,_⟩:=BR.U5 HE.out.own;injection he with e1 e2 e3;subst e1;have U7:=λc=>vT hbr c;rw[htk]at U7;have Z0:=Lib.hid htk;clear htk hbr;rw[Z0.out];go_wp2;go_ret;exact⟨rfl,HE.out.aN⟩
end
theorem aeB:formsT.map (·.1)=Cases.bf:=rfl
theorem formsOf_iff (r:Int):(formsOf r).isSome=Cases.bf.contains r:=by
 rw[<-aeB];unfold formsOf;rw[Option.isSome_map,dY,List.find?_isSome,rM,bX];constructor;·rintro⟨x,hx,he⟩;exact⟨x,hx,gK he⟩
 ·rintro⟨x,hx,he⟩;exact⟨x,hx,aO he⟩
theorem Et {w:World} {v:Value} (h:uh w v):OpenAt w v:=by
 obtain⟨B,o,S,G,X,rfl,c1,c2,c3,m1,m2,m3⟩:=h;refine⟨B,o,S,G,X,rfl,c1,c2,c3,m1,m2,oU m3 (Below.refl _ _) λr=> ?_⟩;have hi:=formsOf_iff r;unfold formsP forms;cases hf:formsOf r with
 |none=>rw[hf]at hi;exact .inl ⟨rfl,by rw[<-hi];rfl⟩
 |some fs=>rw[hf]at hi;refine .inr ⟨_,_,rfl,by rw[<-hi];rfl,?_⟩;rintro v ⟨a,b,c,d,rfl,⟨_,_,rfl,_⟩,⟨_,_,rfl,_⟩,⟨_,_,rfl,_⟩,⟨_,_,rfl,_⟩⟩;exact⟨_,_,_,_,rfl,⟨_,_,_,rfl⟩,⟨_,_,_,rfl⟩,⟨_,_,_,rfl⟩,⟨_,_,_,rfl⟩⟩
theorem Ak {P:Program} {w:World} {ops:Array Oper} {rest:List Oper} {o:Oper} {a:Act} {Q:Exit->Act->World->Prop} (hg:o.guard=none) (m x:Operand) (t:TypeId) (hop:o.op=Op.lookup t m x true)
 {kt et:TypeId} {i:TypeInfo} {z:Value} (ht:P.underlying t=some (.map kt et)) (hk:P.underlying kt=some (.int .i32)) (hi:P.info? et=some i) (hz:i.zero=some z) {B:Nat} {r:Int} {fs:List (List Int)}
 (hm:MapAt w B (formsP w)) (ha:a.eval m= .map (some B)) (hx:a.eval x= .int .i32 r) (hl:formsOf r=some fs)
 (hK:∀A1 n1 c1 A2 n2 c2 A3 n3 c3 A4 n4 c4,fA w (.slice A1 n1 c1) (fs.getD 0 [])->fA w (.slice A2 n2 c2) (fs.getD 1 [])->fA w (.slice A3 n3 c3) (fs.getD 2 [])->fA w (.slice A4 n4 c4) (fs.getD 3 [])->
  wpList P ops Q rest (a.put o.dst (.tuple #[.agg #[.slice A1 n1 c1, .slice A2 n2 c2, .slice A3 n3 c3, .slice A4 n4 c4], .bool true])) w):wpList P ops Q (o::rest) a w:=by
 refine jM hg m x t hop ht hk hi hz hm ha hx λv there h=> ?_;have hf:formsP w r=some (vQ w fs):=by unfold formsP;rw[hl];rfl
 rw[hf]at h;obtain⟨⟨v1,v2,v3,v4,rfl,h1,h2,h3,h4⟩,rfl⟩:=h;obtain⟨A1,c1,rfl,_⟩:=id h1;obtain⟨A2,c2,rfl,_⟩:=id h2;obtain⟨A3,c3,rfl,_⟩:=id h3;obtain⟨A4,c4,rfl,_⟩:=id h4;exact hK _ _ _ _ _ _ _ _ _ _ _ _ h1 h2 h3 h4
theorem BH {P:Program} {w:World} {ops:Array Oper} {rest:List Oper} {o:Oper} {a:Act} {Q:Exit->Act->World->Prop} (hg:o.guard=none) (m x:Operand) (t:TypeId) (hop:o.op=Op.lookup t m x true)
 {kt et:TypeId} {i:TypeInfo} {z:Value} (ht:P.underlying t=some (.map kt et)) (hk:P.underlying kt=some (.int .i32)) (hi:P.info? et=some i) (hz:i.zero=some z) {B:Nat} {r:Int}
 (hm:MapAt w B (formsP w)) (ha:a.eval m= .map (some B)) (hx:a.eval x= .int .i32 r) (hl:formsOf r=none)
 (hK:wpList P ops Q rest (a.put o.dst (.tuple #[z, .bool false])) w):wpList P ops Q (o::rest) a w:=by
 refine jM hg m x t hop ht hk hi hz hm ha hx λv there h=> ?_;have hf:formsP w r=none:=by unfold formsP;rw[hl];rfl
 rw[hf]at h;obtain⟨rfl,rfl⟩:=h;exact hK
def uo (l:List Int) (W:World) (e:Ending) (w':World):Prop:=∃s,e= .returned s/\fA w' s l/\Below W.heap.size W w'
theorem Al (w:World) (x:Int) (g:Nat) (hg:w.heap.size=g):fA (w.alloc (.cells #[.int .i32 x] 21)) (.slice (some ⟨g,0,none⟩) 1 1) [x]:=
 ⟨_,_,rfl,ay _,λ_=>⟨_,_,rfl,λj hj=>by
  have hj:j<1:=hj;obtain rfl:j=0:=by omega
  rw[<-hg,cell_of_row _ _ _ _ _ _ (heap_alloc_new w _)];rfl⟩⟩
theorem form_yes (r:Int) (k:Nat) (fs:List (List Int)) (hk:k<4) (hf:formsOf r=some fs) (v:Value) (W:World) (h:uh W v):Calls Tryz.prog 56 #[v, .int .i32 r, .int .i64 k] W (uo (fs.getD k []) W):=by
 obtain⟨B,o,S,G,X,rfl,c1,c2,c3,m1,m2,m3⟩:=h;have M3:=Lib.hid m3;have HF:=Lib.hid hf;clear m1 m2 m3 c1 c2 hf;obtain rfl|rfl|rfl|rfl:k=0\/k=1\/k=2\/k=3:=by omega
 all_goals
  go_enter Tryz.func56,Tryz.ntmps56;go_wp2_with (at_lookup;refine Ak rfl _ _ 147 rfl Tryz.underlying147 Tryz.underlying21 rfl rfl M3.out rfl rfl HF.out ?_;intro A1 n1 c1 A2 n2 c2 A3 n3 c3 A4 n4 c4 h1 h2 h3 h4;have H1:=Lib.hid h1;have H2:=Lib.hid h2;have H3:=Lib.hid h3;have H4:=Lib.hid h4;clear h1 h2 h3 h4);go_ret;have hb:=(Below.refl W.heap.size W).alloc (ay _) (.cells #[.slice A1 n1 c1, .slice A2 n2 c2, .slice A3 n3 c3, .slice A4 n4 c4] 155);exact⟨_,rfl,by first|exact bD H1.out hb|exact bD H2.out hb|exact bD H3.out hb|exact bD H4.out hb,hb⟩
theorem form_no (r:Int) (k:Nat) (hk:k<4) (hf:formsOf r=none) (v:Value) (W:World) (h:uh W v):Calls Tryz.prog 56 #[v, .int .i32 r, .int .i64 k] W (uo (if k=0\/k=3 then[(Cases.pair r).1]else[(Cases.pair r).2]) W):=by
 have HO:=Lib.hid h;obtain⟨B,o,S,G,X,rfl,c1,c2,c3,m1,m2,m3⟩:=h;have M3:=Lib.hid m3;have HF:=Lib.hid hf;clear m1 m2 m3 c1 c2 hf;obtain⟨x,hx⟩:∃x,(Cases.pair r).1=x:=⟨_,rfl⟩
 obtain⟨y,hy⟩:∃y,(Cases.pair r).2=y:=⟨_,rfl⟩
 have HX:=Lib.hid hx;have HY:=Lib.hid hy;clear hx hy;rw[HX.out,HY.out];obtain rfl|rfl|rfl|rfl:k=0\/k=1\/k=2\/k=3:=by omega
 all_goals
  go_enter Tryz.func56,Tryz.ntmps56;go_wp2_with (first
   |(at_lookup;refine BH rfl _ _ 147 rfl Tryz.underlying147 Tryz.underlying21 rfl rfl M3.out rfl rfl HF.out ?_)
   |(go_at_call 105;refine(U3 r _ _ (Et (iO HO.out ((Below.refl W.heap.size W).alloc (ay _) _)))).mono ?_;rintro e w1 ⟨rfl,rfl⟩;rw[HX.out,HY.out]))
  go_ret;have hb:=(Below.refl W.heap.size W).alloc (ay _) (.cells #[.slice none 0 0, .slice none 0 0, .slice none 0 0, .slice none 0 0] 155);exact⟨_,rfl,Al (W.alloc _) _ (W.heap.size+1) (by simp),hb.alloc hb.size _⟩
theorem form_ok (r:Int) (k:Nat) (hk:k<4) (v:Value) (W:World) (h:uh W v):Calls Tryz.prog 56 #[v, .int .i32 r, .int .i64 k] W (uo (formV r k) W):=by
 unfold formV;cases hf:formsOf r with
 |none=>exact form_no r k hk hf v W h
 |some fs=>exact form_yes r k fs hk hf v W h
