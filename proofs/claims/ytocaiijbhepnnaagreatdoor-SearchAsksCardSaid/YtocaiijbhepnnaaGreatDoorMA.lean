/- All that the card asks. -/
import Derived.Test.YtocaiijbhepnnaaGreatDoorCards
import Derived.Test.YtocaiijbhepnnaaGreatDoorTie
import Derived.Test.YtocaiijbhepnnaaGreatDoorTZ
import Derived.Test.YtocaiijbhepnnaaGreatDoorRO
import Derived.Test.YtocaiijbhepnnaaGreatDoorRN
import Derived.Test.YtocaiijbhepnnaaGreatDoorRB
import Derived.Test.YtocaiijbhepnnaaGreatDoorRW
import Derived.Test.YtocaiijbhepnnaaGreatDoorLaid
import Derived.Deep.DeepWitnessRowRef
import Derived.WalkKit
import Derived.ProofKit
import Derived.OpenShut
import Derived.Deep.DeepHandedRow
import Derived.Lib.LaidU8
import Derived.ChangeMaps5
import Derived.Lib.SmallJoins
set_option maxRecDepth 1000000
namespace Go.Proofs.YtocaiijbhepnnaaGreatDoor.searchAsks
open Go.ChangeShapes Go.WideShapes Go.ChangeAt Go.RowKit
theorem own:ownKnob Tryz.prog.godebug=none:=by kernel_rfl
theorem isFn:(Am.fnOf Tryz.prog 14).isSome=true:=by kernel_rfl
theorem noEntry:agb 14 .nil (Am.jR adj)=none:=by kernel_rfl
theorem ran:Am.XC ((Am.run (Am.cK Tryz.prog ext agb) (Nat.succ 3999)).call 14 .nil (Am.jR adj))=true:=by kernel_rfl
theorem GY {W:World} {n:String} {x:Nat} {cs:Array Value} (hg:Tryz.prog.globalNamed n=some x) (hv:W.var? Tryz.prog n=some cs):∃el fr,W.heap[x]? =some (.cells cs el fr):=by
 unfold World.var? at hv;rw[hg]at hv;simp only[Option.bind_some]at hv;split at hv;·rename_i c el fr h;cases hv;exact⟨el,fr,h⟩
 ·cases hv
theorem cU8:Tryz.prog.cellsOf 5=1:=by kernel_rfl
theorem akI:Tryz.prog.cellsOf 212=256:=by kernel_rfl
theorem Z4:Tryz.prog.globalNamed "strings.asciiSpace" =some 0:=by kernel_rfl
theorem agc:(Tryz.prog.globals[0]?).map (·.type)=some 212:=by kernel_rfl
theorem acK:(Rows.laid_strings_asciiSpace:DataW Unit)=Lib.tabData .u8 (PN.map fun n=>Int.ofNat n):=by kernel_rfl
theorem OG:tH.length=256:=by kernel_rfl
theorem Tz {W:World} (h:laidMetH Tryz.prog Rows.searchAsksRow.laid W):Am.TabAt W 0 tH:=by
 obtain⟨g,t,cs,fuel,p,hg,hty,hvar,hd⟩:=Lib.laidMet.reads (n:= "strings.asciiSpace") (d:=Rows.laid_strings_asciiSpace) h (.tail _ (.tail _ (.tail _ (.tail _ (.tail _ (.tail _ (.tail _ (.head _))))))));obtain rfl:=dO (Z4.symm.trans hg);obtain rfl:=dO (agc.symm.trans hty);have hcs:=Lib.cells_of_tab (zs:=PN.map fun n=>Int.ofNat n) Tryz.underlying212 Tryz.underlying5 cU8 akI (by rw[←acK];exact hd);have hl:cs.toList=tH:=by rw[hcs,List.map_map];rfl
 obtain⟨el,fr,hh⟩:=GY Z4 hvar;refine⟨cs,el,fr.1,fr.2,hh,by rw[←hl];simp,fun i _=> ?_⟩;rw[←hl,iM,aN,eU]
theorem firstG:Tryz.prog.globalNamed "unicode/utf8.first" =some 2:=by kernel_rfl
theorem firstY:(Tryz.prog.globals[2]?).map (·.type)=some 212:=by kernel_rfl
theorem firstEq:(Rows.laid_unicode_utf8_first:DataW Unit)=Lib.tabData .u8 (Go.Pinned.utf8FirstZ.map fun n=>Int.ofNat n):=by show DataW.agg (Go.Pinned.numbers .u8 Go.Pinned.utf8FirstZ)=DataW.agg ((Go.Pinned.utf8FirstZ.map fun n=>Int.ofNat n).map fun z=> .lit (.int .u8 z));rw[List.map_map];rfl
theorem firstLen:firstL.length=256:=by kernel_rfl
theorem firstAt {W:World} (h:laidMetH Tryz.prog Rows.searchAsksRow.laid W):Am.TabAt W 2 firstL:=by
 obtain⟨g,t,cs,fuel,p,hg,hty,hvar,hd⟩:=Lib.laidMet.reads (n:= "unicode/utf8.first") (d:=Rows.laid_unicode_utf8_first) h (.tail _ (.tail _ (.tail _ (.tail _ (.tail _ (.tail _ (.tail _ (.tail _ (.head _)))))))));obtain rfl:=dO (firstG.symm.trans hg);obtain rfl:=dO (firstY.symm.trans hty);have hcs:=Lib.cells_of_tab (zs:=Go.Pinned.utf8FirstZ.map fun n=>Int.ofNat n) Tryz.underlying212 Tryz.underlying5 cU8 akI (by rw[←firstEq];exact hd);have hl:cs.toList=firstL:=by rw[hcs,List.map_map];rfl
 obtain⟨el,fr,hh⟩:=GY firstG hvar;refine⟨cs,el,fr.1,fr.2,hh,by rw[←hl];simp,fun i _=> ?_⟩;rw[←hl,iM,aN,eU]
theorem TA:Tryz.prog.globalNamed "unicode/utf8.acceptRanges" =some 3:=by kernel_rfl
theorem acL:(Tryz.prog.globals[3]?).map (·.type)=some 295:=by kernel_rfl
theorem adR:Tryz.prog.cellsOf 294=2:=by kernel_rfl
theorem pair_cells {cs:List Value} {W:World} {base:Nat} {sp:Nat→Bool} {held:Bool} {fuel:Nat} {p:List MemPlace} {a b:Nat} (h:DataW.trod (fun _=>()) Tryz.prog W base sp held fuel 294 cs=some (.agg [.lit (.int .u8 (Int.ofNat a)), .lit (.int .u8 (Int.ofNat b))],p)):
 cs=[.int .u8 (Int.ofNat a), .int .u8 (Int.ofNat b)]:=by
 exact Lib.ints_of_struct (zs:=[Int.ofNat a,Int.ofNat b]) Tryz.underlying294 (fun i f hi=>by
  match i,hi with
  |0,hi=>simp at hi;subst hi;exact⟨Tryz.underlying5,rfl,cU8⟩
  |1,hi=>simp at hi;subst hi;exact⟨Tryz.underlying5,rfl,cU8⟩
  |i+2,hi=>simp at hi) (by rw[adR];rfl) h
theorem VE:jY.length=32:=rfl
theorem OH {W:World} (h:laidMetH Tryz.prog Rows.searchAsksRow.laid W):Am.TabAt W 3 jY:=by
 obtain⟨g,t,cs,fuel,p,hg,hty,hvar,hd⟩:=Lib.laidMet.reads (n:= "unicode/utf8.acceptRanges") (d:=Rows.laid_unicode_utf8_acceptRanges) h (.tail _ (.tail _ (.tail _ (.head _))));obtain rfl:=dO (TA.symm.trans hg);obtain rfl:=dO (acL.symm.trans hty);have key:∀j,j<16→(cs.toList.drop (j*2)).take 2=(jY.drop (j*2)).take 2:=by
  intro j hj;obtain⟨f',d,q,hdi,he⟩:=Lib.array_elem Tryz.underlying295 hd j hj;rw[adR]at he;match j,hj with
  |0,_=>obtain rfl:=dO (show some (DataW.agg [.lit (.int .u8 (Int.ofNat 128)), .lit (.int .u8 (Int.ofNat 191))])=some d from hdi);exact pair_cells he
  |1,_=>obtain rfl:=dO (show some (DataW.agg [.lit (.int .u8 (Int.ofNat 160)), .lit (.int .u8 (Int.ofNat 191))])=some d from hdi);exact pair_cells he
  |2,_=>obtain rfl:=dO (show some (DataW.agg [.lit (.int .u8 (Int.ofNat 128)), .lit (.int .u8 (Int.ofNat 159))])=some d from hdi);exact pair_cells he
  |3,_=>obtain rfl:=dO (show some (DataW.agg [.lit (.int .u8 (Int.ofNat 144)), .lit (.int .u8 (Int.ofNat 191))])=some d from hdi);exact pair_cells he
  |4,_=>obtain rfl:=dO (show some (DataW.agg [.lit (.int .u8 (Int.ofNat 128)), .lit (.int .u8 (Int.ofNat 143))])=some d from hdi);exact pair_cells he
  |5,_=>obtain rfl:=dO (show some (DataW.agg [.lit (.int .u8 (Int.ofNat 0)), .lit (.int .u8 (Int.ofNat 0))])=some d from hdi);exact pair_cells he
  |6,_=>obtain rfl:=dO (show some (DataW.agg [.lit (.int .u8 (Int.ofNat 0)), .lit (.int .u8 (Int.ofNat 0))])=some d from hdi);exact pair_cells he
  |7,_=>obtain rfl:=dO (show some (DataW.agg [.lit (.int .u8 (Int.ofNat 0)), .lit (.int .u8 (Int.ofNat 0))])=some d from hdi);exact pair_cells he
  |8,_=>obtain rfl:=dO (show some (DataW.agg [.lit (.int .u8 (Int.ofNat 0)), .lit (.int .u8 (Int.ofNat 0))])=some d from hdi);exact pair_cells he
  |9,_=>obtain rfl:=dO (show some (DataW.agg [.lit (.int .u8 (Int.ofNat 0)), .lit (.int .u8 (Int.ofNat 0))])=some d from hdi);exact pair_cells he
  |10,_=>obtain rfl:=dO (show some (DataW.agg [.lit (.int .u8 (Int.ofNat 0)), .lit (.int .u8 (Int.ofNat 0))])=some d from hdi);exact pair_cells he
  |11,_=>obtain rfl:=dO (show some (DataW.agg [.lit (.int .u8 (Int.ofNat 0)), .lit (.int .u8 (Int.ofNat 0))])=some d from hdi);exact pair_cells he
  |12,_=>obtain rfl:=dO (show some (DataW.agg [.lit (.int .u8 (Int.ofNat 0)), .lit (.int .u8 (Int.ofNat 0))])=some d from hdi);exact pair_cells he
  |13,_=>obtain rfl:=dO (show some (DataW.agg [.lit (.int .u8 (Int.ofNat 0)), .lit (.int .u8 (Int.ofNat 0))])=some d from hdi);exact pair_cells he
  |14,_=>obtain rfl:=dO (show some (DataW.agg [.lit (.int .u8 (Int.ofNat 0)), .lit (.int .u8 (Int.ofNat 0))])=some d from hdi);exact pair_cells he
  |15,_=>obtain rfl:=dO (show some (DataW.agg [.lit (.int .u8 (Int.ofNat 0)), .lit (.int .u8 (Int.ofNat 0))])=some d from hdi);exact pair_cells he
 have at_:∀i,i<32→cs.toList[i]? =jY[i]? :=by
  intro i hi;have h:=eT (fun l:List Value=>l[i%2]?) (key (i/2) (by omega));have h2:i%2<2:=by omega
  have h3:i/2*2+i%2=i:=by omega
  simp only[List.getElem?_take,List.getElem?_drop,h2,if_true,h3]at h;exact h
 have hlen:jY.length=32:=rfl;have hsz:32≤cs.size:=by
  have h:=at_ 31 (by omega);rcases aL 31 cs.toList.length with c|c;·rw[kC]at c;omega
  ·rw[sG c]at h;cases h
 obtain⟨el,fr,hh⟩:=GY TA hvar;refine⟨cs,el,fr.1,fr.2,hh,by rw[hlen];exact hsz,fun i hi=> ?_⟩;rw[hlen]at hi;rw[iM,aN,←eU,at_ i hi]
theorem ask_size:Tryz.prog.cellsOf 36=7:=by kernel_rfl
theorem find_size:Tryz.prog.cellsOf 28=3:=by kernel_rfl
theorem GZ:Tryz.prog.cellsOf 9=1:=by kernel_rfl
theorem G5:Tryz.prog.cellsOf 3=1:=by kernel_rfl
theorem xP:Tryz.prog.cellsOf 4=1:=by kernel_rfl
theorem agd {α:Type} {a:Array α} (h:a.size=7):∃x0 x1 x2 x3 x4 x5 x6,a=#[x0,x1,x2,x3,x4,x5,x6]:=by
 obtain⟨l⟩:=a;match l,h with
 |[x0,x1,x2,x3,x4,x5,x6],_=>exact⟨_,_,_,_,_,_,_,rfl⟩
section
variable {H:Type} {enc:TypeId×Value→H} {w:World} {base:Nat} {spare:Nat→Bool} {held:Bool}
theorem Z5 {r:Go.Reach} {b0:Nat} {v:Value} {d:DataW H} {p:List MemPlace} (hv:Value.okWide Tryz.prog w r b0 36 v) (h:DataW.Trod enc Tryz.prog w base spare held 36 v d p):
 ∃(s t:ByteArray) (a b c:Bool) (x y:Int),v= .agg #[.string s, .string t, .bool a, .bool b, .bool c, .int .i64 x, .int .i64 y]∧p=[]∧(s.size≤maxLen∧t.size≤maxLen∧(Lit.int .i64 x).wf=true∧(Lit.int .i64 y).wf=true)∧
  d= .agg [.lit (.string s.data.toList), .lit (.string t.data.toList), .agg [.lit (.bool a), .lit (.bool b), .lit (.bool c)], .lit (.int .i64 x), .lit (.int .i64 y)]:=by
 obtain⟨cs,rfl,hsz⟩:=okWide_struct Tryz.underlying36 hv;obtain⟨c0,c1,c2,c3,c4,c5,c6,rfl⟩:=agd (hsz.trans ask_size);obtain⟨fuel,hf⟩:=h;obtain⟨xs,n,_,hx,hl,hlen,hf⟩:=DataW.trod_struct Tryz.underlying36 hf;match xs,hlen with
 |[y0,y1,y2,y3,y4],_=>
   have h0:DataW.trod enc Tryz.prog w base spare held n 9 [c0]=some y0:=by simpa[Value.cells,GZ]using hf 0 _ rfl
   have h1:DataW.trod enc Tryz.prog w base spare held n 9 [c1]=some y1:=by simpa[Value.cells,GZ]using hf 1 _ rfl
   have h2:DataW.trod enc Tryz.prog w base spare held n 28 [c2,c3,c4]=some y2:=by simpa[Value.cells,find_size]using hf 2 _ rfl
   have h3:DataW.trod enc Tryz.prog w base spare held n 3 [c5]=some y3:=by simpa[Value.cells,G5]using hf 3 _ rfl
   have h4:DataW.trod enc Tryz.prog w base spare held n 3 [c6]=some y4:=by simpa[Value.cells,G5]using hf 4 _ rfl
   obtain⟨s,e0,hx0,hs0⟩:=DataW.trod_string Tryz.underlying9 h0;obtain⟨t,e1,hx1,hs1⟩:=DataW.trod_string Tryz.underlying9 h1;obtain⟨z0,z1,z2,m,hx2,_,k0,k1,k2⟩:=Go.Deep.trod_struct3 Tryz.underlying28 h2;have k0:DataW.trod enc Tryz.prog w base spare held m 4 [c2]=some z0:=by simpa[xP]using k0
   have k1:DataW.trod enc Tryz.prog w base spare held m 4 [c3]=some z1:=by simpa[xP]using k1
   have k2:DataW.trod enc Tryz.prog w base spare held m 4 [c4]=some z2:=by simpa[xP]using k2
   obtain⟨a,e2,hz0⟩:=DataW.trod_bool Tryz.underlying4 k0;obtain⟨b,e3,hz1⟩:=DataW.trod_bool Tryz.underlying4 k1;obtain⟨c,e4,hz2⟩:=DataW.trod_bool Tryz.underlying4 k2;obtain⟨i,e5,hx3,hi⟩:=DataW.trod_int Tryz.underlying3 h3;obtain⟨j,e6,hx4,hj⟩:=DataW.trod_int Tryz.underlying3 h4;simp only[List.cons.injEq,and_true]at e0 e1 e2 e3 e4 e5 e6;subst e0 e1 e2 e3 e4 e5 e6 hx0 hx1 hz0 hz1 hz2 hx2 hx3 hx4;simp only[Prod.mk.injEq,kT,List.map_nil,List.flatMap_cons,List.flatMap_nil,eu]at hx;exact⟨s,t,a,b,c,i,j,rfl,hx.2,⟨hs0,hs1,hi,hj⟩,hx.1⟩
theorem Z6 {s t:ByteArray} {x y:Int} (h:s.size≤maxLen∧t.size≤maxLen∧(Lit.int .i64 x).wf=true∧(Lit.int .i64 y).wf=true) (a b c:Bool):
 DataW.Trod enc Tryz.prog w base spare held 36 (.agg #[.string s, .string t, .bool a, .bool b, .bool c, .int .i64 x, .int .i64 y]) (.agg [.lit (.string s.data.toList), .lit (.string t.data.toList), .agg [.lit (.bool a), .lit (.bool b), .lit (.bool c)], .lit (.int .i64 x), .lit (.int .i64 y)]) []:=by
 obtain⟨h0,h1,h2,h3⟩:=h;refine⟨3,?_⟩;simp[DataW.trod,Value.cells,Tryz.underlying36,Tryz.underlying28,Tryz.underlying9,Tryz.underlying4,Tryz.underlying3,ask_size,find_size,GZ,G5,xP,h0,h1,h2,h3]
end
theorem acM {W:World} (h0:Am.TabAt W 0 tH) (h3:Am.TabAt W 2 firstL) (h4:Am.TabAt W 3 jY):ZO W:=
 Am.IC (vs:=#[]) mixed gu (vw _) agf isFn noEntry ran (fun p hp=>by
  rcases aW.1 hp with rfl|hp;·exact⟨by show 0<64;omega,by show tH.length≤4000000;rw[OG];omega,h0⟩
  rcases aW.1 hp with rfl|hp;·exact⟨by show 2<64;omega,by show firstL.length≤4000000;rw[firstLen];omega,h3⟩
  rcases aW.1 hp with rfl|hp;·exact⟨by show 3<64;omega,by show jY.length≤4000000;rw[VE];omega,h4⟩
  cases hp) rfl
theorem opens {W:World} (h0:Am.TabAt W 0 tH):KG W:=acN fun p hp=>by
 rcases aW.1 hp with rfl|hp;·exact⟨by show 0<64;omega,by show tH.length≤4000000;rw[OG];omega,h0⟩
 cases hp
theorem Bp {W W':World} {x:Nat} {l:List Value} (h:Am.TabAt W x l) (hb:Below W.heap.size W W'):Am.TabAt W' x l:=by obtain⟨arr,el,lo,hi,hh,r⟩:=h;exact⟨arr,el,lo,hi,(hb.block x (fB.1 hh).1).trans hh,r⟩
theorem G6 {W:World} {x i:Nat} {l:List Value} {v:Value} (h:Am.TabAt W x l) (hv:l[i]? =some v):W.cell? ⟨x,i,none⟩=some v:=by obtain⟨arr,el,lo,hi,hh,hsz,hget⟩:=h;have hi':i<l.length:=(ny.1 hv).1;have hg:=hget i hi';rw[bq W x i arr el (lo,hi) hh];rw[aN,hv,iM,ni (by omega)]at hg;rw[ni (by omega)];simpa using hg
theorem firstIs:firstL=(List.range 256).map fun c=>Value.int .u8 (Lib.firstT c):=by kernel_rfl
theorem Z7:jY=(List.range 16).flatMap fun i=>[Value.int .u8 (Lib.accLo i),Value.int .u8 (Lib.accHi i)]:=by kernel_rfl
theorem G7:∀i,i<16→jY[2*i]? =some (.int .u8 (Lib.accLo i))∧jY[2*i+1]? =some (.int .u8 (Lib.accHi i)):=by
 rw[Z7];intro i hi;match i,hi with
 |0,_=>exact⟨rfl,rfl⟩
 |1,_=>exact⟨rfl,rfl⟩
 |2,_=>exact⟨rfl,rfl⟩
 |3,_=>exact⟨rfl,rfl⟩
 |4,_=>exact⟨rfl,rfl⟩
 |5,_=>exact⟨rfl,rfl⟩
 |6,_=>exact⟨rfl,rfl⟩
 |7,_=>exact⟨rfl,rfl⟩
 |8,_=>exact⟨rfl,rfl⟩
 |9,_=>exact⟨rfl,rfl⟩
 |10,_=>exact⟨rfl,rfl⟩
 |11,_=>exact⟨rfl,rfl⟩
 |12,_=>exact⟨rfl,rfl⟩
 |13,_=>exact⟨rfl,rfl⟩
 |14,_=>exact⟨rfl,rfl⟩
 |15,_=>exact⟨rfl,rfl⟩
 |n+16,h=>exact absurd h (by omega)
theorem acO {W:World} (h0:Am.TabAt W 2 firstL) (h1:Am.TabAt W 3 jY):Lib.Utf8Tabs 2 3 W:=
 ⟨fun c hc=>G6 h0 (by rw[firstIs,fH,wE hc];rfl),fun i hi=>⟨G6 h1 (G7 i hi).1,G6 h1 (G7 i hi).2⟩⟩
theorem walk {W:World} (hW:laidMetH Tryz.prog Rows.searchAsksRow.laid W) (s:ByteArray) (t:ByteArray) (a:Bool) (b:Bool) (c:Bool) (x:Int) (y:Int):Calls Tryz.prog 8 #[.agg #[.string s, .string t, .bool a, .bool b, .bool c, .int .i64 x, .int .i64 y]] W (Ld W):=
 aam s t a b c x y W ⟨acO (firstAt hW) (OH hW),fun _ hb=>opens (Bp (Tz hW) hb),fun w _=>acP w,fun w _=>agh w⟩ ⟨fun w _=>acQ w,fun w _=>agi w,fun w _=>acR w⟩ (fun _ hb=>acM (Bp (Tz hW) hb) (Bp (firstAt hW) hb) (Bp (OH hW) hb))
theorem contract (H:Type) (enc:TypeId×Value→H) (W:World) (base:Nat) (args:Array Value) (ds gs:List (DataW H)) (before:List MemPlace)
 (hval:∀(j:Nat) t v,Tryz.f8.params[j]? =some t→args[j]? =some v→Value.okWide Tryz.prog W .any base t v)
 (hW:DataW.Whole enc Tryz.prog Tryz.f8.params.toList Rows.searchAsksSpec.vars false W args.toList ds gs before) (hL:laidMetH Tryz.prog Rows.searchAsksRow.laid W):
 Calls Tryz.prog 8 args W fun e W'=>∃v,e= .returned v∧Rows.searchAsksSpec.post enc Tryz.prog Tryz.f8 false true false false W args v W':=by
 have hW':=hW;obtain⟨p,q,hA0,hV,rfl,_,_⟩:=hW;have hA:DataW.TrodAll enc Tryz.prog W 0 (fun _=>true) true Tryz.f8.params.toList args.toList ds p:=hA0;rw[Tryz.params8]at hA hval;obtain⟨v0,vs0,d0,ds0,p0,q0,hargs,rfl,rfl,h0,r0⟩:=trodAll_cons hA;obtain⟨rfl,rfl,rfl⟩:=trodAll_nil r0;obtain rfl:args=#[v0]:=by cases args;simp_all
 obtain⟨rfl,rfl⟩:=trodVars_none hV;obtain⟨s,t,a,b,c,x,y,rfl,rfl,hq,rfl⟩:=Z5 (hval 0 36 v0 rfl rfl) h0;refine(walk hL s t a b c x y).mono fun e W' he=> ?_;obtain⟨rfl,hb⟩:=he;refine⟨_,rfl,_,_,_,[],[],[],hW',?_,?_,?_,hb.frame _,fun h=>by cases h⟩;·exact trodAll_cons_mk (shut_bool Tryz.underlying4 _) trodAll_mk0
 ·exact(trodAll_cons_mk (Z6 hq a b c) trodAll_mk0)
 ·rfl
theorem reads (os:Os) {H:Type} (enc:TypeId×Value→H):∃places,DataW.whole enc Tryz.prog ((gL os).forCall (fun _ _=>0) ⟨#[],#[.agg #[.string ⟨#[]⟩, .string ⟨#[]⟩, .bool false, .bool false, .bool false, .int .i64 0, .int .i64 0]],[]⟩).memory Tryz.f8.params.toList Rows.searchAsksSpec.vars false (#[.agg #[.string ⟨#[]⟩, .string ⟨#[]⟩, .bool false, .bool false, .bool false, .int .i64 0, .int .i64 0]]:Array Value).toList 8=some ([.agg [.lit (.string []), .lit (.string []), .agg [.lit (.bool false), .lit (.bool false), .lit (.bool false)], .lit (.int .i64 0), .lit (.int .i64 0)]],[],places):=
 ⟨[],by kernel_rfl⟩
theorem lifted (os:Os) (started:os.Started) (H:Type) (enc:TypeId×Value→H) (F:Stop.Interp):
 ReturnsInHanded {} Tryz.checked os 8 .any ((OpenSpec.ofChange Rows.searchAsksSpec).preRow enc Tryz.prog Tryz.f8 Rows.searchAsksRow.domain false Rows.searchAsksRow.laid) (((OpenSpec.ofChange Rows.searchAsksSpec).at F).post enc Tryz.prog Tryz.f8 false true false false):=by
 obtain⟨places,hx⟩:=reads os enc;refine returnsInHanded_of_row (C:=Tryz.checked) (s:=OpenSpec.ofChange Rows.searchAsksSpec) own started (by kernel_rfl) Tryz.func8
  (witness_row_atRef (enc:=enc) (C:=Tryz.checked) false (gL os) #[.agg #[.string ⟨#[]⟩, .string ⟨#[]⟩, .bool false, .bool false, .bool false, .int .i64 0, .int .i64 0]] rfl (by kernel_rfl) (by kernel_rfl) (by kernel_rfl)
   (OpenSpec.preRow_of_cond 8 hx (by kernel_rfl) (fun k hk=>by cases hk) (by kernel_rfl) (ZX os))) ?_
 intro W base args ds gs before hval hW _ _ _ hL _ _;exact contract H enc W base args ds gs before hval hW hL
theorem said:Rows.SearchAsksSaid:=
 OpenClaim.holds_of_cond 8 Tryz.f8 rfl rfl rfl rfl rfl rfl rfl ⟨rfl,rfl,rfl,rfl,rfl⟩ rfl rfl rfl rfl rfl (by kernel_rfl) Tryz.func8 joined
  (iV (by kernel_rfl)) (by unfold Func.isWrapper;first|(rw[ak (by decide+kernel)];kernel_rfl)|(rw[aj (by decide+kernel)];exact⟨rfl,rfl⟩))
  (fun os started H enc _ F=>by rw[OpenClaim.pre_eq_preRow];exact lifted os started H enc F)
theorem plain (f:FuncId) (fn:Func) (hf:Tryz.pinned.checked.prog.funcNamed "kerf/kerflaw22.SearchAsks" =some f) (hfn:Tryz.pinned.checked.prog.funcs[f]? =some fn):
 true=Tryz.pinned.checked.prog.looks []∧∀(j:Nat) t,fn.params[j]? =some t→Tryz.pinned.checked.prog.wantsStandIn t=false:=by
 obtain rfl:f=8:=dO ((show Tryz.prog.funcNamed "kerf/kerflaw22.SearchAsks" =some 8 by kernel_rfl).symm.trans hf) |>.symm;obtain rfl:fn=Tryz.f8:=(dO (Tryz.func8.symm.trans hfn)).symm;refine⟨by kernel_rfl,fun j t ht=> ?_⟩;rw[Tryz.params8]at ht;match j,ht with
 |0,ht=>obtain rfl:=dO ht;exact(show Tryz.prog.wantsStandIn 36=false by kernel_rfl)
 |j+1,ht=>simp at ht
end Go.Proofs.YtocaiijbhepnnaaGreatDoor.searchAsks
