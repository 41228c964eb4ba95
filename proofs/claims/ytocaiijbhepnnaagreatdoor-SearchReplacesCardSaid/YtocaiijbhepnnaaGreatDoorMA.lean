/- All that the card asks. -/
import Derived.Test.YtocaiijbhepnnaaGreatDoorTZ
import Derived.Test.YtocaiijbhepnnaaGreatDoorRO
import Derived.Test.YtocaiijbhepnnaaGreatDoorRN
import Derived.Test.YtocaiijbhepnnaaGreatDoorRB
import Derived.Test.YtocaiijbhepnnaaGreatDoorRW
import Derived.Test.YtocaiijbhepnnaaGreatDoorLaid
import Derived.Deep.DeepWitnessRowRef
import Derived.Lib.SmallJoins
set_option maxRecDepth 1000000
namespace Go.Proofs.YtocaiijbhepnnaaGreatDoor.searchReplaces
open Go.ChangeShapes Go.WideShapes Go.ChangeAt Go.RowKit
theorem own:ownKnob Tryz.prog.godebug=none:=by kernel_rfl
theorem isFn:(Am.fnOf Tryz.prog 14).isSome=true:=by kernel_rfl
theorem noEntry:ahd 14 .nil (Am.j5 aen)=none:=by kernel_rfl
theorem ran:Am.YC ((Am.run (Am.dh Tryz.prog ext ahd) (Nat.succ 3999)).call 14 .nil (Am.j5 aen))=true:=by kernel_rfl
theorem Io {W:World} {n:String} {x:Nat} {cs:Array Value} (hg:Tryz.prog.globalNamed n=some x) (hv:W.var? Tryz.prog n=some cs):∃el fr,W.heap[x]? =some (.cells cs el fr):=by
 unfold World.var? at hv;rw[hg]at hv;simp only[Option.bind_some]at hv;split at hv;·rename_i c el fr h;cases hv;exact⟨el,fr,h⟩
 ·cases hv
theorem cU8:Tryz.prog.cellsOf 5=1:=by kernel_rfl
theorem alJ:Tryz.prog.cellsOf 212=256:=by kernel_rfl
theorem aa5:Tryz.prog.globalNamed "strings.asciiSpace" =some 0:=by kernel_rfl
theorem ahe:(Tryz.prog.globals[0]?).map (·.type)=some 212:=by kernel_rfl
theorem adP:(Rows.laid_strings_asciiSpace:DataW Unit)=Lib.tabData .u8 (QA.map λn=>Int.ofNat n):=by kernel_rfl
theorem PE:uD.length=256:=by kernel_rfl
theorem UD {W:World} (h:laidMetH Tryz.prog Rows.searchReplacesRow.laid W):Am.TabAt W 0 uD:=by
 obtain⟨g,t,cs,fuel,p,hg,hty,hvar,hd⟩:=Lib.laidMet.reads (n:= "strings.asciiSpace") (d:=Rows.laid_strings_asciiSpace) h (.tail _ (.tail _ (.tail _ (.tail _ (.tail _ (.tail _ (.tail _ (.head _))))))));obtain rfl:=dN (aa5.symm.trans hg);obtain rfl:=dN (ahe.symm.trans hty);have hcs:=Lib.cells_of_tab (zs:=QA.map λn=>Int.ofNat n) Tryz.underlying212 Tryz.underlying5 cU8 alJ (by rw[<-adP];exact hd);have hl:cs.toList=uD:=by rw[hcs,List.map_map];rfl
 obtain⟨el,fr,hh⟩:=Io aa5 hvar;refine⟨cs,el,fr.1,fr.2,hh,by rw[<-hl];simp,λi _=> ?_⟩;rw[<-hl,iT,aM,fC]
theorem firstG:Tryz.prog.globalNamed "unicode/utf8.first" =some 2:=by kernel_rfl
theorem firstY:(Tryz.prog.globals[2]?).map (·.type)=some 212:=by kernel_rfl
theorem firstEq:(Rows.laid_unicode_utf8_first:DataW Unit)=Lib.tabData .u8 (Go.Pinned.utf8FirstZ.map λn=>Int.ofNat n):=by show DataW.agg (Go.Pinned.numbers .u8 Go.Pinned.utf8FirstZ)=DataW.agg ((Go.Pinned.utf8FirstZ.map λn=>Int.ofNat n).map λz=> .lit (.int .u8 z));rw[List.map_map];rfl
theorem firstLen:firstL.length=256:=by kernel_rfl
theorem firstAt {W:World} (h:laidMetH Tryz.prog Rows.searchReplacesRow.laid W):Am.TabAt W 2 firstL:=by
 obtain⟨g,t,cs,fuel,p,hg,hty,hvar,hd⟩:=Lib.laidMet.reads (n:= "unicode/utf8.first") (d:=Rows.laid_unicode_utf8_first) h (.tail _ (.tail _ (.tail _ (.tail _ (.tail _ (.tail _ (.tail _ (.tail _ (.head _)))))))));obtain rfl:=dN (firstG.symm.trans hg);obtain rfl:=dN (firstY.symm.trans hty);have hcs:=Lib.cells_of_tab (zs:=Go.Pinned.utf8FirstZ.map λn=>Int.ofNat n) Tryz.underlying212 Tryz.underlying5 cU8 alJ (by rw[<-firstEq];exact hd);have hl:cs.toList=firstL:=by rw[hcs,List.map_map];rfl
 obtain⟨el,fr,hh⟩:=Io firstG hvar;refine⟨cs,el,fr.1,fr.2,hh,by rw[<-hl];simp,λi _=> ?_⟩;rw[<-hl,iT,aM,fC]
theorem UE:Tryz.prog.globalNamed "unicode/utf8.acceptRanges" =some 3:=by kernel_rfl
theorem adQ:(Tryz.prog.globals[3]?).map (·.type)=some 295:=by kernel_rfl
theorem aeW:Tryz.prog.cellsOf 294=2:=by kernel_rfl
theorem pair_cells {cs:List Value} {W:World} {base:Nat} {sp:Nat->Bool} {held:Bool} {fuel:Nat} {p:List MemPlace} {a b:Nat} (h:DataW.trod (λ_=>()) Tryz.prog W base sp held fuel 294 cs=some (.agg [.lit (.int .u8 (Int.ofNat a)), .lit (.int .u8 (Int.ofNat b))],p)):
 cs=[.int .u8 (Int.ofNat a), .int .u8 (Int.ofNat b)]:=by
 exact Lib.ints_of_struct (zs:=[Int.ofNat a,Int.ofNat b]) Tryz.underlying294 (λi f hi=>by
  match i,hi with
  |0,hi=>simp at hi;subst hi;exact⟨Tryz.underlying5,rfl,cU8⟩
  |1,hi=>simp at hi;subst hi;exact⟨Tryz.underlying5,rfl,cU8⟩
  |i+2,hi=>simp at hi) (by rw[aeW];rfl) h
theorem WQ:kE.length=32:=rfl
theorem PG {W:World} (h:laidMetH Tryz.prog Rows.searchReplacesRow.laid W):Am.TabAt W 3 kE:=by
 obtain⟨g,t,cs,fuel,p,hg,hty,hvar,hd⟩:=Lib.laidMet.reads (n:= "unicode/utf8.acceptRanges") (d:=Rows.laid_unicode_utf8_acceptRanges) h (.tail _ (.tail _ (.tail _ (.head _))));obtain rfl:=dN (UE.symm.trans hg);obtain rfl:=dN (adQ.symm.trans hty);have key:∀j,j<16->(cs.toList.drop (j*2)).take 2=(kE.drop (j*2)).take 2:=by
  intro j hj;obtain⟨f',d,q,hdi,he⟩:=Lib.array_elem Tryz.underlying295 hd j hj;rw[aeW]at he;match j,hj with
  |0,_=>obtain rfl:=dN (show some (DataW.agg [.lit (.int .u8 (Int.ofNat 128)), .lit (.int .u8 (Int.ofNat 191))])=some d from hdi);exact pair_cells he
  |1,_=>obtain rfl:=dN (show some (DataW.agg [.lit (.int .u8 (Int.ofNat 160)), .lit (.int .u8 (Int.ofNat 191))])=some d from hdi);exact pair_cells he
  |2,_=>obtain rfl:=dN (show some (DataW.agg [.lit (.int .u8 (Int.ofNat 128)), .lit (.int .u8 (Int.ofNat 159))])=some d from hdi);exact pair_cells he
  |3,_=>obtain rfl:=dN (show some (DataW.agg [.lit (.int .u8 (Int.ofNat 144)), .lit (.int .u8 (Int.ofNat 191))])=some d from hdi);exact pair_cells he
  |4,_=>obtain rfl:=dN (show some (DataW.agg [.lit (.int .u8 (Int.ofNat 128)), .lit (.int .u8 (Int.ofNat 143))])=some d from hdi);exact pair_cells he
  |5,_=>obtain rfl:=dN (show some (DataW.agg [.lit (.int .u8 (Int.ofNat 0)), .lit (.int .u8 (Int.ofNat 0))])=some d from hdi);exact pair_cells he
  |6,_=>obtain rfl:=dN (show some (DataW.agg [.lit (.int .u8 (Int.ofNat 0)), .lit (.int .u8 (Int.ofNat 0))])=some d from hdi);exact pair_cells he
  |7,_=>obtain rfl:=dN (show some (DataW.agg [.lit (.int .u8 (Int.ofNat 0)), .lit (.int .u8 (Int.ofNat 0))])=some d from hdi);exact pair_cells he
  |8,_=>obtain rfl:=dN (show some (DataW.agg [.lit (.int .u8 (Int.ofNat 0)), .lit (.int .u8 (Int.ofNat 0))])=some d from hdi);exact pair_cells he
  |9,_=>obtain rfl:=dN (show some (DataW.agg [.lit (.int .u8 (Int.ofNat 0)), .lit (.int .u8 (Int.ofNat 0))])=some d from hdi);exact pair_cells he
  |10,_=>obtain rfl:=dN (show some (DataW.agg [.lit (.int .u8 (Int.ofNat 0)), .lit (.int .u8 (Int.ofNat 0))])=some d from hdi);exact pair_cells he
  |11,_=>obtain rfl:=dN (show some (DataW.agg [.lit (.int .u8 (Int.ofNat 0)), .lit (.int .u8 (Int.ofNat 0))])=some d from hdi);exact pair_cells he
  |12,_=>obtain rfl:=dN (show some (DataW.agg [.lit (.int .u8 (Int.ofNat 0)), .lit (.int .u8 (Int.ofNat 0))])=some d from hdi);exact pair_cells he
  |13,_=>obtain rfl:=dN (show some (DataW.agg [.lit (.int .u8 (Int.ofNat 0)), .lit (.int .u8 (Int.ofNat 0))])=some d from hdi);exact pair_cells he
  |14,_=>obtain rfl:=dN (show some (DataW.agg [.lit (.int .u8 (Int.ofNat 0)), .lit (.int .u8 (Int.ofNat 0))])=some d from hdi);exact pair_cells he
  |15,_=>obtain rfl:=dN (show some (DataW.agg [.lit (.int .u8 (Int.ofNat 0)), .lit (.int .u8 (Int.ofNat 0))])=some d from hdi);exact pair_cells he
 have at_:∀i,i<32->cs.toList[i]? =kE[i]? :=by
  intro i hi;have h:=eO (λl:List Value=>l[i%2]?) (key (i/2) (by omega));have h2:i%2<2:=by omega
  have h3:i/2*2+i%2=i:=by omega
  simp only[List.getElem?_take,List.getElem?_drop,h2,if_true,h3]at h;exact h
 have hlen:kE.length=32:=rfl;have hsz:32<=cs.size:=by
  have h:=at_ 31 (by omega);rcases aK 31 cs.toList.length with c|c;·rw[jv]at c;omega
  ·rw[tT c]at h;cases h
 obtain⟨el,fr,hh⟩:=Io UE hvar;refine⟨cs,el,fr.1,fr.2,hh,by rw[hlen];exact hsz,λi hi=> ?_⟩;rw[hlen]at hi;rw[iT,aM,<-fC,at_ i hi]
theorem ask_size:Tryz.prog.cellsOf 36=7:=by kernel_rfl
theorem find_size:Tryz.prog.cellsOf 28=3:=by kernel_rfl
theorem Ip:Tryz.prog.cellsOf 9=1:=by kernel_rfl
theorem Iq:Tryz.prog.cellsOf 3=1:=by kernel_rfl
theorem yI:Tryz.prog.cellsOf 4=1:=by kernel_rfl
theorem ahf {α:Type} {a:Array α} (h:a.size=7):∃x0 x1 x2 x3 x4 x5 x6,a=#[x0,x1,x2,x3,x4,x5,x6]:=by
 obtain⟨l⟩:=a;match l,h with
 |[x0,x1,x2,x3,x4,x5,x6],_=>exact⟨_,_,_,_,_,_,_,rfl⟩
section
variable {H:Type} {enc:TypeId×Value->H} {w:World} {base:Nat} {spare:Nat->Bool} {held:Bool}
theorem aa6 {r:Go.Reach} {b0:Nat} {v:Value} {d:DataW H} {p:List MemPlace} (hv:Value.okWide Tryz.prog w r b0 36 v) (h:DataW.Trod enc Tryz.prog w base spare held 36 v d p):
 ∃(s t:ByteArray) (a b c:Bool) (x y:Int),v= .agg #[.string s, .string t, .bool a, .bool b, .bool c, .int .i64 x, .int .i64 y]/\p=[]/\(s.size<=maxLen/\t.size<=maxLen/\(Lit.int .i64 x).wf=true/\(Lit.int .i64 y).wf=true)/\
  d= .agg [.lit (.string s.data.toList), .lit (.string t.data.toList), .agg [.lit (.bool a), .lit (.bool b), .lit (.bool c)], .lit (.int .i64 x), .lit (.int .i64 y)]:=by
 obtain⟨cs,rfl,hsz⟩:=okWide_struct Tryz.underlying36 hv;obtain⟨c0,c1,c2,c3,c4,c5,c6,rfl⟩:=ahf (hsz.trans ask_size);obtain⟨fuel,hf⟩:=h;obtain⟨xs,n,_,hx,hl,hlen,hf⟩:=DataW.trod_struct Tryz.underlying36 hf;match xs,hlen with
 |[y0,y1,y2,y3,y4],_=>
   have h0:DataW.trod enc Tryz.prog w base spare held n 9 [c0]=some y0:=by simpa[Value.cells,Ip]using hf 0 _ rfl
   have h1:DataW.trod enc Tryz.prog w base spare held n 9 [c1]=some y1:=by simpa[Value.cells,Ip]using hf 1 _ rfl
   have h2:DataW.trod enc Tryz.prog w base spare held n 28 [c2,c3,c4]=some y2:=by simpa[Value.cells,find_size]using hf 2 _ rfl
   have h3:DataW.trod enc Tryz.prog w base spare held n 3 [c5]=some y3:=by simpa[Value.cells,Iq]using hf 3 _ rfl
   have h4:DataW.trod enc Tryz.prog w base spare held n 3 [c6]=some y4:=by simpa[Value.cells,Iq]using hf 4 _ rfl
   obtain⟨s,e0,hx0,hs0⟩:=DataW.trod_string Tryz.underlying9 h0;obtain⟨t,e1,hx1,hs1⟩:=DataW.trod_string Tryz.underlying9 h1;obtain⟨z0,z1,z2,m,hx2,_,k0,k1,k2⟩:=Go.Deep.trod_struct3 Tryz.underlying28 h2;have k0:DataW.trod enc Tryz.prog w base spare held m 4 [c2]=some z0:=by simpa[yI]using k0
   have k1:DataW.trod enc Tryz.prog w base spare held m 4 [c3]=some z1:=by simpa[yI]using k1
   have k2:DataW.trod enc Tryz.prog w base spare held m 4 [c4]=some z2:=by simpa[yI]using k2
   obtain⟨a,e2,hz0⟩:=DataW.trod_bool Tryz.underlying4 k0;obtain⟨b,e3,hz1⟩:=DataW.trod_bool Tryz.underlying4 k1;obtain⟨c,e4,hz2⟩:=DataW.trod_bool Tryz.underlying4 k2;obtain⟨i,e5,hx3,hi⟩:=DataW.trod_int Tryz.underlying3 h3;obtain⟨j,e6,hx4,hj⟩:=DataW.trod_int Tryz.underlying3 h4;simp only[List.cons.injEq,and_true]at e0 e1 e2 e3 e4 e5 e6;subst e0 e1 e2 e3 e4 e5 e6 hx0 hx1 hz0 hz1 hz2 hx2 hx3 hx4;simp only[Prod.mk.injEq,lJ,List.map_nil,List.flatMap_cons,List.flatMap_nil,fq]at hx;exact⟨s,t,a,b,c,i,j,rfl,hx.2,⟨hs0,hs1,hi,hj⟩,hx.1⟩
theorem aa7 {s t:ByteArray} {x y:Int} (h:s.size<=maxLen/\t.size<=maxLen/\(Lit.int .i64 x).wf=true/\(Lit.int .i64 y).wf=true) (a b c:Bool):
 DataW.Trod enc Tryz.prog w base spare held 36 (.agg #[.string s, .string t, .bool a, .bool b, .bool c, .int .i64 x, .int .i64 y]) (.agg [.lit (.string s.data.toList), .lit (.string t.data.toList), .agg [.lit (.bool a), .lit (.bool b), .lit (.bool c)], .lit (.int .i64 x), .lit (.int .i64 y)]) []:=by
 obtain⟨h0,h1,h2,h3⟩:=h;refine⟨3,?_⟩;simp[DataW.trod,Value.cells,Tryz.underlying36,Tryz.underlying28,Tryz.underlying9,Tryz.underlying4,Tryz.underlying3,ask_size,find_size,Ip,Iq,yI,h0,h1,h2,h3]
end
theorem adR {W:World} (h0:Am.TabAt W 0 uD) (h3:Am.TabAt W 2 firstL) (h4:Am.TabAt W 3 kE):aaU W:=
 Am.Jo (vs:=#[]) mixed gH (vV _) ahg isFn noEntry ran (λp hp=>by
  rcases aU.1 hp with rfl|hp;·exact⟨by show 0<64;omega,by show uD.length<=4000000;rw[PE];omega,h0⟩
  rcases aU.1 hp with rfl|hp;·exact⟨by show 2<64;omega,by show firstL.length<=4000000;rw[firstLen];omega,h3⟩
  rcases aU.1 hp with rfl|hp;·exact⟨by show 3<64;omega,by show kE.length<=4000000;rw[WQ];omega,h4⟩
  cases hp) rfl
theorem opens {W:World} (h0:Am.TabAt W 0 uD):Lg W:=adS λp hp=>by
 rcases aU.1 hp with rfl|hp;·exact⟨by show 0<64;omega,by show uD.length<=4000000;rw[PE];omega,h0⟩
 cases hp
theorem Ck {W W':World} {x:Nat} {l:List Value} (h:Am.TabAt W x l) (hb:Below W.heap.size W W'):Am.TabAt W' x l:=by obtain⟨arr,el,lo,hi,hh,r⟩:=h;exact⟨arr,el,lo,hi,(hb.block x (dQ.1 hh).1).trans hh,r⟩
theorem Ir {W:World} {x i:Nat} {l:List Value} {v:Value} (h:Am.TabAt W x l) (hv:l[i]? =some v):W.cell? ⟨x,i,none⟩=some v:=by obtain⟨arr,el,lo,hi,hh,hsz,hget⟩:=h;have hi':i<l.length:=(nX.1 hv).1;have hg:=hget i hi';rw[bA W x i arr el (lo,hi) hh];rw[aM,hv,iT,nU (by omega)]at hg;rw[nU (by omega)];simpa using hg
theorem firstIs:firstL=(List.range 256).map λc=>Value.int .u8 (Lib.firstT c):=by kernel_rfl
theorem aa8:kE=(List.range 16).flatMap λi=>[Value.int .u8 (Lib.accLo i),Value.int .u8 (Lib.accHi i)]:=by kernel_rfl
theorem Iu:∀i,i<16->kE[2*i]? =some (.int .u8 (Lib.accLo i))/\kE[2*i+1]? =some (.int .u8 (Lib.accHi i)):=by
 rw[aa8];intro i hi;match i,hi with
 |0,_=>exact⟨rfl,rfl⟩
 |1,_=>exact⟨rfl,rfl⟩
 |2,_=>exact⟨rfl,rfl⟩
 |3,_=>exact⟨rfl,rfl⟩
 |4,_=>exact⟨rfl,rfl⟩
 |5,_=>exact⟨rfl,rfl⟩
 |6,_=>exact⟨rfl,rfl⟩
 |7,_=>exact⟨rfl,rfl⟩
 |8,_=>exact⟨rfl,rfl⟩
 |9,_=>exact⟨rfl,rfl⟩
 |10,_=>exact⟨rfl,rfl⟩
 |11,_=>exact⟨rfl,rfl⟩
 |12,_=>exact⟨rfl,rfl⟩
 |13,_=>exact⟨rfl,rfl⟩
 |14,_=>exact⟨rfl,rfl⟩
 |15,_=>exact⟨rfl,rfl⟩
 |n+16,h=>exact absurd h (by omega)
theorem adT {W:World} (h0:Am.TabAt W 2 firstL) (h1:Am.TabAt W 3 kE):Lib.Utf8Tabs 2 3 W:=
 ⟨λc hc=>Ir h0 (by rw[firstIs,fQ,wX hc];rfl),λi hi=>⟨Ir h1 (Iu i hi).1,Ir h1 (Iu i hi).2⟩⟩
theorem walk {W:World} (hW:laidMetH Tryz.prog Rows.searchReplacesRow.laid W) (s:ByteArray) (t:ByteArray) (a:Bool) (b:Bool) (c:Bool) (x:Int) (y:Int) (s1:ByteArray):Calls Tryz.prog 7 #[.agg #[.string s, .string t, .bool a, .bool b, .bool c, .int .i64 x, .int .i64 y], .string s1] W (Mc W):=
 Cj s t a b c x y s1 W ⟨adT (firstAt hW) (PG hW),λ_ hb=>opens (Ck (UD hW) hb),λw _=>adU w,λw _=>ahh w⟩ ⟨λw _=>adV w,λw _=>ahi w,λw _=>adW w⟩ (λ_ hb=>adR (Ck (UD hW) hb) (Ck (firstAt hW) hb) (Ck (PG hW) hb))
theorem contract (H:Type) (enc:TypeId×Value->H) (W:World) (base:Nat) (args:Array Value) (ds gs:List (DataW H)) (before:List MemPlace)
 (hval:∀(j:Nat) t v,Tryz.f7.params[j]? =some t->args[j]? =some v->Value.okWide Tryz.prog W .any base t v)
 (hW:DataW.Whole enc Tryz.prog Tryz.f7.params.toList Rows.searchReplacesSpec.vars false W args.toList ds gs before) (hL:laidMetH Tryz.prog Rows.searchReplacesRow.laid W):
 Calls Tryz.prog 7 args W λe W'=>∃v,e= .returned v/\Rows.searchReplacesSpec.post enc Tryz.prog Tryz.f7 false true false false W args v W':=by
 have hW':=hW;obtain⟨p,q,hA0,hV,rfl,_,_⟩:=hW;have hA:DataW.TrodAll enc Tryz.prog W 0 (λ_=>true) true Tryz.f7.params.toList args.toList ds p:=hA0;rw[Tryz.params7]at hA hval;obtain⟨v0,vs0,d0,ds0,p0,q0,hargs,rfl,rfl,h0,r0⟩:=trodAll_cons hA;obtain⟨v1,vs1,d1,ds1,p1,q1,rfl,rfl,rfl,h1,r1⟩:=trodAll_cons r0;obtain⟨rfl,rfl,rfl⟩:=trodAll_nil r1;obtain rfl:args=#[v0,v1]:=by cases args;simp_all
 obtain⟨rfl,rfl⟩:=trodVars_none hV;obtain⟨s,t,a,b,c,x,y,rfl,rfl,hq,rfl⟩:=aa6 (hval 0 36 v0 rfl rfl) h0;obtain⟨s1,rfl,rfl,rfl,hs1⟩:=ChangeMaps.open_string Tryz.underlying9 (hval 1 9 v1 rfl rfl) h1;refine(walk hL s t a b c x y s1).mono λe W' he=> ?_;obtain⟨rfl,hb⟩:=he;refine⟨_,rfl,_,_,_,[],[],[],hW',?_,?_,?_,hb.frame _,λh=>by cases h⟩;·exact trodAll_cons_mk (shut_bool Tryz.underlying4 _) trodAll_mk0
 ·exact(trodAll_cons_mk (aa7 hq a b c) (trodAll_cons_mk (ChangeMaps.shut_string Tryz.underlying9 hs1) trodAll_mk0))
 ·rfl
theorem reads (os:Os) {H:Type} (enc:TypeId×Value->H):∃places,DataW.whole enc Tryz.prog ((gW os).forCall (λ_ _=>0) ⟨#[],#[.agg #[.string ⟨#[]⟩, .string ⟨#[]⟩, .bool false, .bool false, .bool false, .int .i64 0, .int .i64 0], .string ⟨#[]⟩],[]⟩).memory Tryz.f7.params.toList Rows.searchReplacesSpec.vars false (#[.agg #[.string ⟨#[]⟩, .string ⟨#[]⟩, .bool false, .bool false, .bool false, .int .i64 0, .int .i64 0], .string ⟨#[]⟩]:Array Value).toList 8=some ([.agg [.lit (.string []), .lit (.string []), .agg [.lit (.bool false), .lit (.bool false), .lit (.bool false)], .lit (.int .i64 0), .lit (.int .i64 0)], .lit (.string [])],[],places):=
 ⟨[],by kernel_rfl⟩
theorem lifted (os:Os) (started:os.Started) (H:Type) (enc:TypeId×Value->H) (F:Stop.Interp):
 ReturnsInHanded {} Tryz.checked os 7 .any ((OpenSpec.ofChange Rows.searchReplacesSpec).preRow enc Tryz.prog Tryz.f7 Rows.searchReplacesRow.domain false Rows.searchReplacesRow.laid) (((OpenSpec.ofChange Rows.searchReplacesSpec).at F).post enc Tryz.prog Tryz.f7 false true false false):=by
 obtain⟨places,hx⟩:=reads os enc;refine returnsInHanded_of_row (C:=Tryz.checked) (s:=OpenSpec.ofChange Rows.searchReplacesSpec) own started (by kernel_rfl) Tryz.func7
  (witness_row_atRef (enc:=enc) (C:=Tryz.checked) false (gW os) #[.agg #[.string ⟨#[]⟩, .string ⟨#[]⟩, .bool false, .bool false, .bool false, .int .i64 0, .int .i64 0], .string ⟨#[]⟩] rfl (by kernel_rfl) (by kernel_rfl) (by kernel_rfl)
   (OpenSpec.preRow_of_cond 8 hx (by kernel_rfl) (λk hk=>by cases hk) (by kernel_rfl) (aa2 os))) ?_
 intro W base args ds gs before hval hW _ _ _ hL _ _;exact contract H enc W base args ds gs before hval hW hL
theorem said:Rows.SearchReplacesSaid:=
 OpenClaim.holds_of_cond 7 Tryz.f7 rfl rfl rfl rfl rfl rfl rfl ⟨rfl,rfl,rfl,rfl,rfl⟩ rfl rfl rfl rfl rfl (by kernel_rfl) Tryz.func7 joined
  (jg (by kernel_rfl)) (by unfold Func.isWrapper;first|(rw[ak (by decide+kernel)];kernel_rfl)|(rw[aj (by decide+kernel)];exact⟨rfl,rfl⟩))
  (λos started H enc _ F=>by rw[OpenClaim.pre_eq_preRow];exact lifted os started H enc F)
theorem plain (f:FuncId) (fn:Func) (hf:Tryz.pinned.checked.prog.funcNamed "kerf/kerflaw22.SearchReplaces" =some f) (hfn:Tryz.pinned.checked.prog.funcs[f]? =some fn):
 true=Tryz.pinned.checked.prog.looks []/\∀(j:Nat) t,fn.params[j]? =some t->Tryz.pinned.checked.prog.wantsStandIn t=false:=by
 obtain rfl:f=7:=dN ((show Tryz.prog.funcNamed "kerf/kerflaw22.SearchReplaces" =some 7 by kernel_rfl).symm.trans hf) |>.symm;obtain rfl:fn=Tryz.f7:=(dN (Tryz.func7.symm.trans hfn)).symm;refine⟨by kernel_rfl,λj t ht=> ?_⟩;rw[Tryz.params7]at ht;match j,ht with
 |0,ht=>obtain rfl:=dN ht;exact(show Tryz.prog.wantsStandIn 36=false by kernel_rfl)
 |1,ht=>obtain rfl:=dN ht;exact(show Tryz.prog.wantsStandIn 9=false by kernel_rfl)
 |j+2,ht=>simp at ht
