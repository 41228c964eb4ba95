/- SearchAll returns true, whatever it is given: a walk of its code and the document's (FB to HG) over the books of letters, the classes and the rules of letters and words, whose making (RO, RN, RK, RB, RW), and live, are closed runs that are cut by calls whose results are known. -/
import Derived.Test.YtocaiijbhepnnaaGreatDoorCards
import Derived.Test.YtocaiijbhepnnaaGreatDoorTie
import Derived.Test.YtocaiijbhepnnaaGreatDoorTZ
import Derived.Test.YtocaiijbhepnnaaGreatDoorRO
import Derived.Test.YtocaiijbhepnnaaGreatDoorRN
import Derived.Test.YtocaiijbhepnnaaGreatDoorRB
import Derived.Test.YtocaiijbhepnnaaGreatDoorRW
import Derived.Test.YtocaiijbhepnnaaGreatDoorJF
import Derived.Test.YtocaiijbhepnnaaGreatDoorLaid
import Derived.Deep.DeepWitnessRowRef
import Derived.WalkKit
import Derived.ProofKit
import Derived.OpenShut
import Derived.Deep.DeepHandedRow
import Derived.Lib.LaidU8
import Derived.ChangeMaps5
import Derived.Lib.SmallJoins
set_option maxRecDepth 1000000
namespace Go.Proofs.YtocaiijbhepnnaaGreatDoor.searchAll
open Go.ChangeShapes Go.WideShapes Go.ChangeAt Go.RowKit
theorem own:ownKnob Tryz.prog.godebug=none:=by kernel_rfl
theorem isFn:(Am.fnOf Tryz.prog 14).isSome=true:=by kernel_rfl
theorem noEntry:af9 14 .nil (Am.jR adp)=none:=by kernel_rfl
theorem ran:Am.XF ((Am.run (Am.cu Tryz.prog ext af9) (Nat.succ 3999)).call 14 .nil (Am.jR adp))=true:=by kernel_rfl
theorem GZ {W:World} {n:String} {x:Nat} {cs:Array Value} (hg:Tryz.prog.globalNamed n=some x) (hv:W.var? Tryz.prog n=some cs):∃el fr,W.heap[x]? =some (.cells cs el fr):=by
 unfold World.var? at hv;rw[hg]at hv;simp only[Option.bind_some]at hv;split at hv;·rename_i c el fr h;cases hv;exact⟨el,fr,h⟩
 ·cases hv
theorem cU8:Tryz.prog.cellsOf 5=1:=by kernel_rfl
theorem akJ:Tryz.prog.cellsOf 212=256:=by kernel_rfl
theorem Z9:Tryz.prog.globalNamed "strings.asciiSpace" =some 0:=by kernel_rfl
theorem aga:(Tryz.prog.globals[0]?).map (·.type)=some 212:=by kernel_rfl
theorem acP:(Rows.laid_strings_asciiSpace:DataW Unit)=Lib.tabData .u8 (PO.map fun n=>Int.ofNat n):=by kernel_rfl
theorem OG:tL.length=256:=by kernel_rfl
theorem TA {W:World} (h:laidMetH Tryz.prog Rows.searchAllRow.laid W):Am.TabAt W 0 tL:=by
 obtain⟨g,t,cs,fuel,p,hg,hty,hvar,hd⟩:=Lib.laidMet.reads (n:= "strings.asciiSpace") (d:=Rows.laid_strings_asciiSpace) h (.tail _ (.tail _ (.tail _ (.tail _ (.tail _ (.tail _ (.tail _ (.head _))))))));obtain rfl:=dH (Z9.symm.trans hg);obtain rfl:=dH (aga.symm.trans hty);have hcs:=Lib.cells_of_tab (zs:=PO.map fun n=>Int.ofNat n) Tryz.underlying212 Tryz.underlying5 cU8 akJ (by rw[←acP];exact hd);have hl:cs.toList=tL:=by rw[hcs,List.map_map];rfl
 obtain⟨el,fr,hh⟩:=GZ Z9 hvar;refine⟨cs,el,fr.1,fr.2,hh,by rw[←hl];simp,fun i _=> ?_⟩;rw[←hl,iJ,aM,eT]
theorem firstG:Tryz.prog.globalNamed "unicode/utf8.first" =some 2:=by kernel_rfl
theorem firstY:(Tryz.prog.globals[2]?).map (·.type)=some 212:=by kernel_rfl
theorem firstEq:(Rows.laid_unicode_utf8_first:DataW Unit)=Lib.tabData .u8 (Go.Pinned.utf8FirstZ.map fun n=>Int.ofNat n):=by show DataW.agg (Go.Pinned.numbers .u8 Go.Pinned.utf8FirstZ)=DataW.agg ((Go.Pinned.utf8FirstZ.map fun n=>Int.ofNat n).map fun z=> .lit (.int .u8 z));rw[List.map_map];rfl
theorem firstLen:firstL.length=256:=by kernel_rfl
theorem firstAt {W:World} (h:laidMetH Tryz.prog Rows.searchAllRow.laid W):Am.TabAt W 2 firstL:=by
 obtain⟨g,t,cs,fuel,p,hg,hty,hvar,hd⟩:=Lib.laidMet.reads (n:= "unicode/utf8.first") (d:=Rows.laid_unicode_utf8_first) h (.tail _ (.tail _ (.tail _ (.tail _ (.tail _ (.tail _ (.tail _ (.tail _ (.head _)))))))));obtain rfl:=dH (firstG.symm.trans hg);obtain rfl:=dH (firstY.symm.trans hty);have hcs:=Lib.cells_of_tab (zs:=Go.Pinned.utf8FirstZ.map fun n=>Int.ofNat n) Tryz.underlying212 Tryz.underlying5 cU8 akJ (by rw[←firstEq];exact hd);have hl:cs.toList=firstL:=by rw[hcs,List.map_map];rfl
 obtain⟨el,fr,hh⟩:=GZ firstG hvar;refine⟨cs,el,fr.1,fr.2,hh,by rw[←hl];simp,fun i _=> ?_⟩;rw[←hl,iJ,aM,eT]
theorem TD:Tryz.prog.globalNamed "unicode/utf8.acceptRanges" =some 3:=by kernel_rfl
theorem acQ:(Tryz.prog.globals[3]?).map (·.type)=some 295:=by kernel_rfl
theorem adV:Tryz.prog.cellsOf 294=2:=by kernel_rfl
theorem pair_cells {cs:List Value} {W:World} {base:Nat} {sp:Nat→Bool} {held:Bool} {fuel:Nat} {p:List MemPlace} {a b:Nat} (h:DataW.trod (fun _=>()) Tryz.prog W base sp held fuel 294 cs=some (.agg [.lit (.int .u8 (Int.ofNat a)), .lit (.int .u8 (Int.ofNat b))],p)):
 cs=[.int .u8 (Int.ofNat a), .int .u8 (Int.ofNat b)]:=by
 exact Lib.ints_of_struct (zs:=[Int.ofNat a,Int.ofNat b]) Tryz.underlying294 (fun i f hi=>by
  match i,hi with
  |0,hi=>simp at hi;subst hi;exact⟨Tryz.underlying5,rfl,cU8⟩
  |1,hi=>simp at hi;subst hi;exact⟨Tryz.underlying5,rfl,cU8⟩
  |i+2,hi=>simp at hi) (by rw[adV];rfl) h
theorem VE:jW.length=32:=rfl
theorem OH {W:World} (h:laidMetH Tryz.prog Rows.searchAllRow.laid W):Am.TabAt W 3 jW:=by
 obtain⟨g,t,cs,fuel,p,hg,hty,hvar,hd⟩:=Lib.laidMet.reads (n:= "unicode/utf8.acceptRanges") (d:=Rows.laid_unicode_utf8_acceptRanges) h (.tail _ (.tail _ (.tail _ (.head _))));obtain rfl:=dH (TD.symm.trans hg);obtain rfl:=dH (acQ.symm.trans hty);have key:∀j,j<16→(cs.toList.drop (j*2)).take 2=(jW.drop (j*2)).take 2:=by
  intro j hj;obtain⟨f',d,q,hdi,he⟩:=Lib.array_elem Tryz.underlying295 hd j hj;rw[adV]at he;match j,hj with
  |0,_=>obtain rfl:=dH (show some (DataW.agg [.lit (.int .u8 (Int.ofNat 128)), .lit (.int .u8 (Int.ofNat 191))])=some d from hdi);exact pair_cells he
  |1,_=>obtain rfl:=dH (show some (DataW.agg [.lit (.int .u8 (Int.ofNat 160)), .lit (.int .u8 (Int.ofNat 191))])=some d from hdi);exact pair_cells he
  |2,_=>obtain rfl:=dH (show some (DataW.agg [.lit (.int .u8 (Int.ofNat 128)), .lit (.int .u8 (Int.ofNat 159))])=some d from hdi);exact pair_cells he
  |3,_=>obtain rfl:=dH (show some (DataW.agg [.lit (.int .u8 (Int.ofNat 144)), .lit (.int .u8 (Int.ofNat 191))])=some d from hdi);exact pair_cells he
  |4,_=>obtain rfl:=dH (show some (DataW.agg [.lit (.int .u8 (Int.ofNat 128)), .lit (.int .u8 (Int.ofNat 143))])=some d from hdi);exact pair_cells he
  |5,_=>obtain rfl:=dH (show some (DataW.agg [.lit (.int .u8 (Int.ofNat 0)), .lit (.int .u8 (Int.ofNat 0))])=some d from hdi);exact pair_cells he
  |6,_=>obtain rfl:=dH (show some (DataW.agg [.lit (.int .u8 (Int.ofNat 0)), .lit (.int .u8 (Int.ofNat 0))])=some d from hdi);exact pair_cells he
  |7,_=>obtain rfl:=dH (show some (DataW.agg [.lit (.int .u8 (Int.ofNat 0)), .lit (.int .u8 (Int.ofNat 0))])=some d from hdi);exact pair_cells he
  |8,_=>obtain rfl:=dH (show some (DataW.agg [.lit (.int .u8 (Int.ofNat 0)), .lit (.int .u8 (Int.ofNat 0))])=some d from hdi);exact pair_cells he
  |9,_=>obtain rfl:=dH (show some (DataW.agg [.lit (.int .u8 (Int.ofNat 0)), .lit (.int .u8 (Int.ofNat 0))])=some d from hdi);exact pair_cells he
  |10,_=>obtain rfl:=dH (show some (DataW.agg [.lit (.int .u8 (Int.ofNat 0)), .lit (.int .u8 (Int.ofNat 0))])=some d from hdi);exact pair_cells he
  |11,_=>obtain rfl:=dH (show some (DataW.agg [.lit (.int .u8 (Int.ofNat 0)), .lit (.int .u8 (Int.ofNat 0))])=some d from hdi);exact pair_cells he
  |12,_=>obtain rfl:=dH (show some (DataW.agg [.lit (.int .u8 (Int.ofNat 0)), .lit (.int .u8 (Int.ofNat 0))])=some d from hdi);exact pair_cells he
  |13,_=>obtain rfl:=dH (show some (DataW.agg [.lit (.int .u8 (Int.ofNat 0)), .lit (.int .u8 (Int.ofNat 0))])=some d from hdi);exact pair_cells he
  |14,_=>obtain rfl:=dH (show some (DataW.agg [.lit (.int .u8 (Int.ofNat 0)), .lit (.int .u8 (Int.ofNat 0))])=some d from hdi);exact pair_cells he
  |15,_=>obtain rfl:=dH (show some (DataW.agg [.lit (.int .u8 (Int.ofNat 0)), .lit (.int .u8 (Int.ofNat 0))])=some d from hdi);exact pair_cells he
 have at_:∀i,i<32→cs.toList[i]? =jW[i]? :=by
  intro i hi;have h:=eO (fun l:List Value=>l[i%2]?) (key (i/2) (by omega));have h2:i%2<2:=by omega
  have h3:i/2*2+i%2=i:=by omega
  simp only[List.getElem?_take,List.getElem?_drop,h2,if_true,h3]at h;exact h
 have hlen:jW.length=32:=rfl;have hsz:32≤cs.size:=by
  have h:=at_ 31 (by omega);rcases aK 31 cs.toList.length with c|c;·rw[jk]at c;omega
  ·rw[sK c]at h;cases h
 obtain⟨el,fr,hh⟩:=GZ TD hvar;refine⟨cs,el,fr.1,fr.2,hh,by rw[hlen];exact hsz,fun i hi=> ?_⟩;rw[hlen]at hi;rw[iJ,aM,←eT,at_ i hi]
theorem find_size:Tryz.prog.cellsOf 28=3:=by kernel_rfl
section
variable {H:Type} {enc:TypeId×Value→H} {w:World} {base:Nat} {spare:Nat→Bool} {held:Bool}
theorem G5 {fuel:Nat} {v:Value} {y:DataW H×List MemPlace} (h:DataW.trod enc Tryz.prog w base spare held fuel 4 [v]=some y):∃b:Bool,v= .bool b∧y=(.lit (.bool b),[]):=by obtain⟨b,e,hx⟩:=DataW.trod_bool Tryz.underlying4 h;simp at e;exact⟨b,e,hx⟩
theorem VF {r:Go.Reach} {b0:Nat} {v:Value} {d:DataW H} {p:List MemPlace} (hv:Value.okWide Tryz.prog w r b0 28 v) (h:DataW.Trod enc Tryz.prog w base spare held 28 v d p):
 ∃a b c:Bool,v= .agg #[.bool a, .bool b, .bool c]∧d= .agg [.lit (.bool a), .lit (.bool b), .lit (.bool c)]∧p=[]:=by
 obtain⟨v0,v1,v2,y0,y1,y2,n,rfl,rfl,rfl,h0,h1,h2⟩:=Joins.open_agg3 Tryz.underlying28 (by kernel_rfl) find_size hv h;obtain⟨a,rfl,rfl⟩:=G5 h0;obtain⟨b,rfl,rfl⟩:=G5 h1;obtain⟨c,rfl,rfl⟩:=G5 h2;exact⟨a,b,c,rfl,rfl,rfl⟩
theorem G6 (b:Bool):∃n,DataW.trod enc Tryz.prog w base spare held n 4 [.bool b]=some (.lit (.bool b),[]):=by obtain⟨n,h⟩:=shut_bool (enc:=enc) (P:=Tryz.prog) (w:=w) (base:=base) (spare:=spare) (held:=held) Tryz.underlying4 b;exact⟨n,by simpa[Value.cells]using h⟩
theorem VG (a b c:Bool):DataW.Trod enc Tryz.prog w base spare held 28 (.agg #[.bool a, .bool b, .bool c]) (.agg [.lit (.bool a), .lit (.bool b), .lit (.bool c)]) []:=
 Joins.shut_agg3 Tryz.underlying28 (by kernel_rfl) find_size (G6 a) (G6 b) (G6 c)
end
theorem acR {W:World} (h0:Am.TabAt W 0 tL) (h3:Am.TabAt W 2 firstL) (h4:Am.TabAt W 3 jW):Tq W:=
 Am.IC (vs:=#[]) mixed fZ (vE _) agb isFn noEntry ran (fun p hp=>by
  rcases aV.1 hp with rfl|hp;·exact⟨by show 0<64;omega,by show tL.length≤4000000;rw[OG];omega,h0⟩
  rcases aV.1 hp with rfl|hp;·exact⟨by show 2<64;omega,by show firstL.length≤4000000;rw[firstLen];omega,h3⟩
  rcases aV.1 hp with rfl|hp;·exact⟨by show 3<64;omega,by show jW.length≤4000000;rw[VE];omega,h4⟩
  cases hp) rfl
theorem opens {W:World} (h0:Am.TabAt W 0 tL):KE W:=acS fun p hp=>by
 rcases aV.1 hp with rfl|hp;·exact⟨by show 0<64;omega,by show tL.length≤4000000;rw[OG];omega,h0⟩
 cases hp
theorem Bt {W W':World} {x:Nat} {l:List Value} (h:Am.TabAt W x l) (hb:Below W.heap.size W W'):Am.TabAt W' x l:=by obtain⟨arr,el,lo,hi,hh,r⟩:=h;exact⟨arr,el,lo,hi,(hb.block x (fu.1 hh).1).trans hh,r⟩
theorem G7 {W:World} {x i:Nat} {l:List Value} {v:Value} (h:Am.TabAt W x l) (hv:l[i]? =some v):W.cell? ⟨x,i,none⟩=some v:=by obtain⟨arr,el,lo,hi,hh,hsz,hget⟩:=h;have hi':i<l.length:=(nA.1 hv).1;have hg:=hget i hi';rw[aQ W x i arr el (lo,hi) hh];rw[aM,hv,iJ,ni (by omega)]at hg;rw[ni (by omega)];simpa using hg
theorem firstIs:firstL=(List.range 256).map fun c=>Value.int .u8 (Lib.firstT c):=by kernel_rfl
theorem aac:jW=(List.range 16).flatMap fun i=>[Value.int .u8 (Lib.accLo i),Value.int .u8 (Lib.accHi i)]:=by kernel_rfl
theorem G8:∀i,i<16→jW[2*i]? =some (.int .u8 (Lib.accLo i))∧jW[2*i+1]? =some (.int .u8 (Lib.accHi i)):=by
 rw[aac];intro i hi;match i,hi with
 |0,_=>exact⟨rfl,rfl⟩
 |1,_=>exact⟨rfl,rfl⟩
 |2,_=>exact⟨rfl,rfl⟩
 |3,_=>exact⟨rfl,rfl⟩
 |4,_=>exact⟨rfl,rfl⟩
 |5,_=>exact⟨rfl,rfl⟩
 |6,_=>exact⟨rfl,rfl⟩
 |7,_=>exact⟨rfl,rfl⟩
 |8,_=>exact⟨rfl,rfl⟩
 |9,_=>exact⟨rfl,rfl⟩
 |10,_=>exact⟨rfl,rfl⟩
 |11,_=>exact⟨rfl,rfl⟩
 |12,_=>exact⟨rfl,rfl⟩
 |13,_=>exact⟨rfl,rfl⟩
 |14,_=>exact⟨rfl,rfl⟩
 |15,_=>exact⟨rfl,rfl⟩
 |n+16,h=>exact absurd h (by omega)
theorem acT {W:World} (h0:Am.TabAt W 2 firstL) (h1:Am.TabAt W 3 jW):Lib.Utf8Tabs 2 3 W:=
 ⟨fun c hc=>G7 h0 (by rw[firstIs,fF,wG hc];rfl),fun i hi=>⟨G7 h1 (G8 i hi).1,G7 h1 (G8 i hi).2⟩⟩
theorem walk {W:World} (hW:laidMetH Tryz.prog Rows.searchAllRow.laid W) (s t:ByteArray) (a b c:Bool):Calls Tryz.prog 4 #[.string s, .string t, .agg #[.bool a, .bool b, .bool c]] W (EJ W):=
 Lc s t a b c W ⟨acT (firstAt hW) (OH hW),fun _ hb=>opens (Bt (TA hW) hb),fun w _=>acU w,fun w _=>agc w⟩ ⟨fun w _=>acV w,fun w _=>agd w,fun w _=>acW w⟩ (fun _ hb=>acR (Bt (TA hW) hb) (Bt (firstAt hW) hb) (Bt (OH hW) hb))
theorem contract (H:Type) (enc:TypeId×Value→H) (W:World) (base:Nat) (args:Array Value) (ds gs:List (DataW H)) (before:List MemPlace)
 (hval:∀(j:Nat) t v,Tryz.f4.params[j]? =some t→args[j]? =some v→Value.okWide Tryz.prog W .any base t v)
 (hW:DataW.Whole enc Tryz.prog Tryz.f4.params.toList Rows.searchAllSpec.vars false W args.toList ds gs before) (hL:laidMetH Tryz.prog Rows.searchAllRow.laid W):
 Calls Tryz.prog 4 args W fun e W'=>∃v,e= .returned v∧Rows.searchAllSpec.post enc Tryz.prog Tryz.f4 false true false false W args v W':=by
 have hW':=hW;obtain⟨p,q,hA0,hV,rfl,_,_⟩:=hW;have hA:DataW.TrodAll enc Tryz.prog W 0 (fun _=>true) true Tryz.f4.params.toList args.toList ds p:=hA0;rw[Tryz.params4]at hA hval;obtain⟨v0,vs0,d0,ds0,p0,q0,hargs,rfl,rfl,h0,r0⟩:=trodAll_cons hA;obtain⟨v1,vs1,d1,ds1,p1,q1,rfl,rfl,rfl,h1,r1⟩:=trodAll_cons r0;obtain⟨v2,vs2,d2,ds2,p2,q2,rfl,rfl,rfl,h2,r2⟩:=trodAll_cons r1;obtain⟨rfl,rfl,rfl⟩:=trodAll_nil r2;obtain rfl:args=#[v0,v1,v2]:=by cases args;simp_all
 obtain⟨rfl,rfl⟩:=trodVars_none hV;obtain⟨s0,rfl,rfl,rfl,hs0⟩:=ChangeMaps.open_string Tryz.underlying9 (hval 0 9 v0 rfl rfl) h0;obtain⟨s1,rfl,rfl,rfl,hs1⟩:=ChangeMaps.open_string Tryz.underlying9 (hval 1 9 v1 rfl rfl) h1;obtain⟨a,b,c,rfl,rfl,rfl⟩:=VF (hval 2 28 v2 rfl rfl) h2;refine(walk hL s0 s1 a b c).mono fun e W' he=> ?_;obtain⟨rfl,hb⟩:=he;refine⟨_,rfl,_,_,_,[],[],[],hW',?_,?_,?_,hb.frame _,fun h=>by cases h⟩;·exact trodAll_cons_mk (shut_bool Tryz.underlying4 _) trodAll_mk0
 ·exact(trodAll_cons_mk (ChangeMaps.shut_string Tryz.underlying9 hs0) (trodAll_cons_mk (ChangeMaps.shut_string Tryz.underlying9 hs1) (trodAll_cons_mk (VG a b c) trodAll_mk0)))
 ·rfl
theorem reads (os:Os) {H:Type} (enc:TypeId×Value→H):∃places,DataW.whole enc Tryz.prog ((gK os).forCall (fun _ _=>0) ⟨#[],#[.string ⟨#[]⟩, .string ⟨#[]⟩, .agg #[.bool false, .bool false, .bool false]],[]⟩).memory Tryz.f4.params.toList Rows.searchAllSpec.vars false (#[.string ⟨#[]⟩, .string ⟨#[]⟩, .agg #[.bool false, .bool false, .bool false]]:Array Value).toList 8=some ([.lit (.string []), .lit (.string []), .agg [.lit (.bool false), .lit (.bool false), .lit (.bool false)]],[],places):=
 ⟨[],by kernel_rfl⟩
theorem lifted (os:Os) (started:os.Started) (H:Type) (enc:TypeId×Value→H) (F:Stop.Interp):
 ReturnsInHanded {} Tryz.checked os 4 .any ((OpenSpec.ofChange Rows.searchAllSpec).preRow enc Tryz.prog Tryz.f4 Rows.searchAllRow.domain false Rows.searchAllRow.laid) (((OpenSpec.ofChange Rows.searchAllSpec).at F).post enc Tryz.prog Tryz.f4 false true false false):=by
 obtain⟨places,hx⟩:=reads os enc;refine returnsInHanded_of_row (C:=Tryz.checked) (s:=OpenSpec.ofChange Rows.searchAllSpec) own started (by kernel_rfl) Tryz.func4
  (witness_row_atRef (enc:=enc) (C:=Tryz.checked) false (gK os) #[.string ⟨#[]⟩, .string ⟨#[]⟩, .agg #[.bool false, .bool false, .bool false]] rfl (by kernel_rfl) (by kernel_rfl) (by kernel_rfl)
   (OpenSpec.preRow_of_cond 8 hx (by kernel_rfl) (fun k hk=>by cases hk) (by kernel_rfl) (Z6 os))) ?_
 intro W base args ds gs before hval hW _ _ _ hL _ _;exact contract H enc W base args ds gs before hval hW hL
theorem said:Rows.SearchAllSaid:=
 OpenClaim.holds_of_cond 4 Tryz.f4 rfl rfl rfl rfl rfl rfl rfl ⟨rfl,rfl,rfl,rfl,rfl⟩ rfl rfl rfl rfl rfl (by kernel_rfl) Tryz.func4 joined
  (iT (by kernel_rfl)) (by unfold Func.isWrapper;first|(rw[ak (by decide+kernel)];kernel_rfl)|(rw[aj (by decide+kernel)];exact⟨rfl,rfl⟩))
  (fun os started H enc _ F=>by rw[OpenClaim.pre_eq_preRow];exact lifted os started H enc F)
theorem plain (f:FuncId) (fn:Func) (hf:Tryz.pinned.checked.prog.funcNamed "kerf/kerflaw22.SearchAll" =some f) (hfn:Tryz.pinned.checked.prog.funcs[f]? =some fn):
 true=Tryz.pinned.checked.prog.looks []∧∀(j:Nat) t,fn.params[j]? =some t→Tryz.pinned.checked.prog.wantsStandIn t=false:=by
 obtain rfl:f=4:=dH ((show Tryz.prog.funcNamed "kerf/kerflaw22.SearchAll" =some 4 by kernel_rfl).symm.trans hf) |>.symm;obtain rfl:fn=Tryz.f4:=(dH (Tryz.func4.symm.trans hfn)).symm;refine⟨by kernel_rfl,fun j t ht=> ?_⟩;rw[Tryz.params4]at ht;match j,ht with
 |0,ht=>obtain rfl:=dH ht;exact(show Tryz.prog.wantsStandIn 9=false by kernel_rfl)
 |1,ht=>obtain rfl:=dH ht;exact(show Tryz.prog.wantsStandIn 9=false by kernel_rfl)
 |2,ht=>obtain rfl:=dH ht;exact(show Tryz.prog.wantsStandIn 28=false by kernel_rfl)
 |j+3,ht=>simp at ht
theorem card:Rows.SearchAllCardSaid:=
 Claim7.holds_tied_plain_at .later [] _ _ _ _ said (fun _ h=>by cases h) (by kernel_rfl) (fun _ h=>by cases h) searchAll_row_tie rfl ⟨rfl,rfl⟩ (by kernel_rfl) rfl plain (by kernel_rfl)
end Go.Proofs.YtocaiijbhepnnaaGreatDoor.searchAll
