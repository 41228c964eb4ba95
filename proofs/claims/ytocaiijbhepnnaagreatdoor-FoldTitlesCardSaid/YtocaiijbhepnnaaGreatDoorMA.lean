/- All that the card asks. -/
import Derived.Test.YtocaiijbhepnnaaGreatDoorTZ
import Derived.Test.YtocaiijbhepnnaaGreatDoorRO
import Derived.Test.YtocaiijbhepnnaaGreatDoorRN
import Derived.Test.YtocaiijbhepnnaaGreatDoorRK
import Derived.Test.YtocaiijbhepnnaaGreatDoorLaid
import Derived.Deep.DeepWitnessRowRef
import Derived.Lib.SmallJoins
set_option maxRecDepth 1000000
namespace Go.Proofs.YtocaiijbhepnnaaGreatDoor.foldTitles
open Go.ChangeShapes Go.WideShapes Go.ChangeAt Go.RowKit
theorem own:ownKnob Tryz.prog.godebug=none:=by kernel_rfl
theorem isFn:(Am.fnOf Tryz.prog 10).isSome=true:=by kernel_rfl
theorem noEntry:acC 10 .nil (Am.kV ZY)=none:=by kernel_rfl
theorem ran:Am.Uq ((Am.run (Am.dL Tryz.prog ext acC) (Nat.succ 3999)).call 10 .nil (Am.kV ZY))=true:=by kernel_rfl
theorem EY {W:World} {n:String} {x:Nat} {cs:Array Value} (hg:Tryz.prog.globalNamed n=some x) (hv:W.var? Tryz.prog n=some cs):∃el fr,W.heap[x]? =some (.cells cs el fr):=by
 unfold World.var? at hv;rw[hg]at hv;simp only[Option.bind_some]at hv;split at hv;·rename_i c el fr h;cases hv;exact⟨el,fr,h⟩
 ·cases hv
theorem cU8:Tryz.prog.cellsOf 5=1:=by kernel_rfl
theorem agc:Tryz.prog.cellsOf 212=256:=by kernel_rfl
theorem WO:Tryz.prog.globalNamed "strings.asciiSpace" =some 0:=by kernel_rfl
theorem acD:(Tryz.prog.globals[0]?).map (·.type)=some 212:=by kernel_rfl
theorem Zu:(Rows.laid_strings_asciiSpace:DataW Unit)=Lib.tabData .u8 (MZ.map λn=>Int.ofNat n):=by kernel_rfl
theorem L6:rU.length=256:=by kernel_rfl
theorem Qf {W:World} (h:laidMetH Tryz.prog Rows.foldTitlesRow.laid W):Am.TabAt W 0 rU:=by
 obtain⟨g,t,cs,fuel,p,hg,hty,hvar,hd⟩:=Lib.laidMet.reads (n:= "strings.asciiSpace") (d:=Rows.laid_strings_asciiSpace) h (.tail _ (.tail _ (.tail _ (.tail _ (.tail _ (.tail _ (.tail _ (.head _))))))));obtain rfl:=bW (WO.symm.trans hg);obtain rfl:=bW (acD.symm.trans hty);have hcs:=Lib.cells_of_tab (zs:=MZ.map λn=>Int.ofNat n) Tryz.underlying212 Tryz.underlying5 cU8 agc (by rw[<-Zu];exact hd);have hl:cs.toList=rU:=by rw[hcs,List.map_map];rfl
 obtain⟨el,fr,hh⟩:=EY WO hvar;refine⟨cs,el,fr.1,fr.2,hh,by rw[<-hl];simp,λi _=> ?_⟩;rw[<-hl,gJ,aG,dN]
theorem firstG:Tryz.prog.globalNamed "unicode/utf8.first" =some 2:=by kernel_rfl
theorem firstY:(Tryz.prog.globals[2]?).map (·.type)=some 212:=by kernel_rfl
theorem firstEq:(Rows.laid_unicode_utf8_first:DataW Unit)=Lib.tabData .u8 (Go.Pinned.utf8FirstZ.map λn=>Int.ofNat n):=by show DataW.agg (Go.Pinned.numbers .u8 Go.Pinned.utf8FirstZ)=DataW.agg ((Go.Pinned.utf8FirstZ.map λn=>Int.ofNat n).map λz=> .lit (.int .u8 z));rw[List.map_map];rfl
theorem firstLen:firstL.length=256:=by kernel_rfl
theorem firstAt {W:World} (h:laidMetH Tryz.prog Rows.foldTitlesRow.laid W):Am.TabAt W 2 firstL:=by
 obtain⟨g,t,cs,fuel,p,hg,hty,hvar,hd⟩:=Lib.laidMet.reads (n:= "unicode/utf8.first") (d:=Rows.laid_unicode_utf8_first) h (.tail _ (.tail _ (.tail _ (.tail _ (.tail _ (.tail _ (.tail _ (.tail _ (.head _)))))))));obtain rfl:=bW (firstG.symm.trans hg);obtain rfl:=bW (firstY.symm.trans hty);have hcs:=Lib.cells_of_tab (zs:=Go.Pinned.utf8FirstZ.map λn=>Int.ofNat n) Tryz.underlying212 Tryz.underlying5 cU8 agc (by rw[<-firstEq];exact hd);have hl:cs.toList=firstL:=by rw[hcs,List.map_map];rfl
 obtain⟨el,fr,hh⟩:=EY firstG hvar;refine⟨cs,el,fr.1,fr.2,hh,by rw[<-hl];simp,λi _=> ?_⟩;rw[<-hl,gJ,aG,dN]
theorem Qg:Tryz.prog.globalNamed "unicode/utf8.acceptRanges" =some 3:=by kernel_rfl
theorem Zv:(Tryz.prog.globals[3]?).map (·.type)=some 295:=by kernel_rfl
theorem aat:Tryz.prog.cellsOf 294=2:=by kernel_rfl
theorem pair_cells {cs:List Value} {W:World} {base:Nat} {sp:Nat->Bool} {held:Bool} {fuel:Nat} {p:List MemPlace} {a b:Nat} (h:DataW.trod (λ_=>()) Tryz.prog W base sp held fuel 294 cs=some (.agg [.lit (.int .u8 (Int.ofNat a)), .lit (.int .u8 (Int.ofNat b))],p)):
 cs=[.int .u8 (Int.ofNat a), .int .u8 (Int.ofNat b)]:=by
 exact Lib.ints_of_struct (zs:=[Int.ofNat a,Int.ofNat b]) Tryz.underlying294 (λi f hi=>by
  match i,hi with
  |0,hi=>simp at hi;subst hi;exact⟨Tryz.underlying5,rfl,cU8⟩
  |1,hi=>simp at hi;subst hi;exact⟨Tryz.underlying5,rfl,cU8⟩
  |i+2,hi=>simp at hi) (by rw[aat];rfl) h
theorem Sd:jy.length=32:=rfl
theorem L8 {W:World} (h:laidMetH Tryz.prog Rows.foldTitlesRow.laid W):Am.TabAt W 3 jy:=by
 obtain⟨g,t,cs,fuel,p,hg,hty,hvar,hd⟩:=Lib.laidMet.reads (n:= "unicode/utf8.acceptRanges") (d:=Rows.laid_unicode_utf8_acceptRanges) h (.tail _ (.tail _ (.tail _ (.head _))));obtain rfl:=bW (Qg.symm.trans hg);obtain rfl:=bW (Zv.symm.trans hty);have key:∀j,j<16->(cs.toList.drop (j*2)).take 2=(jy.drop (j*2)).take 2:=by
  intro j hj;obtain⟨f',d,q,hdi,he⟩:=Lib.array_elem Tryz.underlying295 hd j hj;rw[aat]at he;match j,hj with
  |0,_=>obtain rfl:=bW (show some (DataW.agg [.lit (.int .u8 (Int.ofNat 128)), .lit (.int .u8 (Int.ofNat 191))])=some d from hdi);exact pair_cells he
  |1,_=>obtain rfl:=bW (show some (DataW.agg [.lit (.int .u8 (Int.ofNat 160)), .lit (.int .u8 (Int.ofNat 191))])=some d from hdi);exact pair_cells he
  |2,_=>obtain rfl:=bW (show some (DataW.agg [.lit (.int .u8 (Int.ofNat 128)), .lit (.int .u8 (Int.ofNat 159))])=some d from hdi);exact pair_cells he
  |3,_=>obtain rfl:=bW (show some (DataW.agg [.lit (.int .u8 (Int.ofNat 144)), .lit (.int .u8 (Int.ofNat 191))])=some d from hdi);exact pair_cells he
  |4,_=>obtain rfl:=bW (show some (DataW.agg [.lit (.int .u8 (Int.ofNat 128)), .lit (.int .u8 (Int.ofNat 143))])=some d from hdi);exact pair_cells he
  |5,_=>obtain rfl:=bW (show some (DataW.agg [.lit (.int .u8 (Int.ofNat 0)), .lit (.int .u8 (Int.ofNat 0))])=some d from hdi);exact pair_cells he
  |6,_=>obtain rfl:=bW (show some (DataW.agg [.lit (.int .u8 (Int.ofNat 0)), .lit (.int .u8 (Int.ofNat 0))])=some d from hdi);exact pair_cells he
  |7,_=>obtain rfl:=bW (show some (DataW.agg [.lit (.int .u8 (Int.ofNat 0)), .lit (.int .u8 (Int.ofNat 0))])=some d from hdi);exact pair_cells he
  |8,_=>obtain rfl:=bW (show some (DataW.agg [.lit (.int .u8 (Int.ofNat 0)), .lit (.int .u8 (Int.ofNat 0))])=some d from hdi);exact pair_cells he
  |9,_=>obtain rfl:=bW (show some (DataW.agg [.lit (.int .u8 (Int.ofNat 0)), .lit (.int .u8 (Int.ofNat 0))])=some d from hdi);exact pair_cells he
  |10,_=>obtain rfl:=bW (show some (DataW.agg [.lit (.int .u8 (Int.ofNat 0)), .lit (.int .u8 (Int.ofNat 0))])=some d from hdi);exact pair_cells he
  |11,_=>obtain rfl:=bW (show some (DataW.agg [.lit (.int .u8 (Int.ofNat 0)), .lit (.int .u8 (Int.ofNat 0))])=some d from hdi);exact pair_cells he
  |12,_=>obtain rfl:=bW (show some (DataW.agg [.lit (.int .u8 (Int.ofNat 0)), .lit (.int .u8 (Int.ofNat 0))])=some d from hdi);exact pair_cells he
  |13,_=>obtain rfl:=bW (show some (DataW.agg [.lit (.int .u8 (Int.ofNat 0)), .lit (.int .u8 (Int.ofNat 0))])=some d from hdi);exact pair_cells he
  |14,_=>obtain rfl:=bW (show some (DataW.agg [.lit (.int .u8 (Int.ofNat 0)), .lit (.int .u8 (Int.ofNat 0))])=some d from hdi);exact pair_cells he
  |15,_=>obtain rfl:=bW (show some (DataW.agg [.lit (.int .u8 (Int.ofNat 0)), .lit (.int .u8 (Int.ofNat 0))])=some d from hdi);exact pair_cells he
 have at_:∀i,i<32->cs.toList[i]? =jy[i]? :=by
  intro i hi;have h:=fJ (λl:List Value=>l[i%2]?) (key (i/2) (by omega));have h2:i%2<2:=by omega
  have h3:i/2*2+i%2=i:=by omega
  simp only[List.getElem?_take,List.getElem?_drop,h2,if_true,h3]at h;exact h
 have hlen:jy.length=32:=rfl;have hsz:32<=cs.size:=by
  have h:=at_ 31 (by omega);rcases aF 31 cs.toList.length with c|c;·rw[jE]at c;omega
  ·rw[wV c]at h;cases h
 obtain⟨el,fr,hh⟩:=EY Qg hvar;refine⟨cs,el,fr.1,fr.2,hh,by rw[hlen];exact hsz,λi hi=> ?_⟩;rw[hlen]at hi;rw[gJ,aG,<-dN,at_ i hi]
theorem Zw {W:World} (h0:Am.TabAt W 0 rU) (h3:Am.TabAt W 2 firstL) (h4:Am.TabAt W 3 jy):Qb W:=
 Am.F5 (vs:=#[]) mixed gV (Ee _) acE isFn noEntry ran (λp hp=>by
  rcases aR.1 hp with rfl|hp;·exact⟨by show 0<64;omega,by show rU.length<=4000000;rw[L6];omega,h0⟩
  rcases aR.1 hp with rfl|hp;·exact⟨by show 2<64;omega,by show firstL.length<=4000000;rw[firstLen];omega,h3⟩
  rcases aR.1 hp with rfl|hp;·exact⟨by show 3<64;omega,by show jy.length<=4000000;rw[Sd];omega,h4⟩
  cases hp) rfl
theorem opens {W:World} (h0:Am.TabAt W 0 rU):EF W:=Zx λp hp=>by
 rcases aR.1 hp with rfl|hp;·exact⟨by show 0<64;omega,by show rU.length<=4000000;rw[L6];omega,h0⟩
 cases hp
theorem zH {W W':World} {x:Nat} {l:List Value} (h:Am.TabAt W x l) (hb:Below W.heap.size W W'):Am.TabAt W' x l:=by obtain⟨arr,el,lo,hi,hh,r⟩:=h;exact⟨arr,el,lo,hi,(hb.block x (dM.1 hh).1).trans hh,r⟩
theorem EZ {W:World} {x i:Nat} {l:List Value} {v:Value} (h:Am.TabAt W x l) (hv:l[i]? =some v):W.cell? ⟨x,i,none⟩=some v:=by obtain⟨arr,el,lo,hi,hh,hsz,hget⟩:=h;have hi':i<l.length:=(pJ.1 hv).1;have hg:=hget i hi';rw[fu W x i arr el (lo,hi) hh];rw[aG,hv,gJ,l6 (by omega)]at hg;rw[l6 (by omega)];simpa using hg
theorem firstIs:firstL=(List.range 256).map λc=>Value.int .u8 (Lib.firstT c):=by kernel_rfl
theorem WQ:jy=(List.range 16).flatMap λi=>[Value.int .u8 (Lib.accLo i),Value.int .u8 (Lib.accHi i)]:=by kernel_rfl
theorem E8:∀i,i<16->jy[2*i]? =some (.int .u8 (Lib.accLo i))/\jy[2*i+1]? =some (.int .u8 (Lib.accHi i)):=by
 rw[WQ];intro i hi;match i,hi with
 |0,_=>exact⟨rfl,rfl⟩
 |1,_=>exact⟨rfl,rfl⟩
 |2,_=>exact⟨rfl,rfl⟩
 |3,_=>exact⟨rfl,rfl⟩
 |4,_=>exact⟨rfl,rfl⟩
 |5,_=>exact⟨rfl,rfl⟩
 |6,_=>exact⟨rfl,rfl⟩
 |7,_=>exact⟨rfl,rfl⟩
 |8,_=>exact⟨rfl,rfl⟩
 |9,_=>exact⟨rfl,rfl⟩
 |10,_=>exact⟨rfl,rfl⟩
 |11,_=>exact⟨rfl,rfl⟩
 |12,_=>exact⟨rfl,rfl⟩
 |13,_=>exact⟨rfl,rfl⟩
 |14,_=>exact⟨rfl,rfl⟩
 |15,_=>exact⟨rfl,rfl⟩
 |n+16,h=>exact absurd h (by omega)
theorem Zy {W:World} (h0:Am.TabAt W 2 firstL) (h1:Am.TabAt W 3 jy):Lib.Utf8Tabs 2 3 W:=
 ⟨λc hc=>EZ h0 (by rw[firstIs,fq,zV hc];rfl),λi hi=>⟨EZ h1 (E8 i hi).1,EZ h1 (E8 i hi).2⟩⟩
theorem walk {W:World} (hW:laidMetH Tryz.prog Rows.foldTitlesRow.laid W) (s0:ByteArray):Calls Tryz.prog 3 #[.string s0] W (C9 W):=
 FC s0 W (λ_ hb=>opens (zH (Qf hW) hb)) (Zy (firstAt hW) (L8 hW)) (λw _=>acF w) (λw _=>Zz w) (λ_ hb=>Zw (zH (Qf hW) hb) (zH (firstAt hW) hb) (zH (L8 hW) hb))
theorem contract (H:Type) (enc:TypeId×Value->H) (W:World) (base:Nat) (args:Array Value) (ds gs:List (DataW H)) (before:List MemPlace)
 (hval:∀(j:Nat) t v,Tryz.f3.params[j]? =some t->args[j]? =some v->Value.okWide Tryz.prog W .any base t v)
 (hW:DataW.Whole enc Tryz.prog Tryz.f3.params.toList Rows.foldTitlesSpec.vars false W args.toList ds gs before) (hL:laidMetH Tryz.prog Rows.foldTitlesRow.laid W):
 Calls Tryz.prog 3 args W λe W'=>∃v,e= .returned v/\Rows.foldTitlesSpec.post enc Tryz.prog Tryz.f3 false true false false W args v W':=by
 have hW':=hW;obtain⟨p,q,hA0,hV,rfl,_,_⟩:=hW;have hA:DataW.TrodAll enc Tryz.prog W 0 (λ_=>true) true Tryz.f3.params.toList args.toList ds p:=hA0;rw[Tryz.params3]at hA hval;obtain⟨v0,vs0,d0,ds0,p0,q0,hargs,rfl,rfl,h0,r0⟩:=trodAll_cons hA;obtain⟨rfl,rfl,rfl⟩:=trodAll_nil r0;obtain rfl:args=#[v0]:=by cases args;simp_all
 obtain⟨rfl,rfl⟩:=trodVars_none hV;obtain⟨s0,rfl,rfl,rfl,hs0⟩:=ChangeMaps.open_string Tryz.underlying9 (hval 0 9 v0 rfl rfl) h0;refine(walk hL s0).mono λe W' he=> ?_;obtain⟨rfl,hb⟩:=he;refine⟨_,rfl,_,_,_,[],[],[],hW',?_,?_,?_,hb.frame _,λh=>by cases h⟩;·exact trodAll_cons_mk (shut_bool Tryz.underlying4 _) trodAll_mk0
 ·exact(trodAll_cons_mk (ChangeMaps.shut_string Tryz.underlying9 hs0) trodAll_mk0)
 ·rfl
theorem reads (os:Os) {H:Type} (enc:TypeId×Value->H):∃places,DataW.whole enc Tryz.prog ((fE os).forCall (λ_ _=>0) ⟨#[],#[.string ⟨#[]⟩],[]⟩).memory Tryz.f3.params.toList Rows.foldTitlesSpec.vars false (#[.string ⟨#[]⟩]:Array Value).toList 8=some ([.lit (.string [])],[],places):=
 ⟨[],by kernel_rfl⟩
theorem lifted (os:Os) (started:os.Started) (H:Type) (enc:TypeId×Value->H) (F:Stop.Interp):
 ReturnsInHanded {} Tryz.checked os 3 .any ((OpenSpec.ofChange Rows.foldTitlesSpec).preRow enc Tryz.prog Tryz.f3 Rows.foldTitlesRow.domain false Rows.foldTitlesRow.laid) (((OpenSpec.ofChange Rows.foldTitlesSpec).at F).post enc Tryz.prog Tryz.f3 false true false false):=by
 obtain⟨places,hx⟩:=reads os enc;refine returnsInHanded_of_row (C:=Tryz.checked) (s:=OpenSpec.ofChange Rows.foldTitlesSpec) own started (by kernel_rfl) Tryz.func3
  (witness_row_atRef (enc:=enc) (C:=Tryz.checked) false (fE os) #[.string ⟨#[]⟩] rfl (by kernel_rfl) (by kernel_rfl) (by kernel_rfl)
   (OpenSpec.preRow_of_cond 8 hx (by kernel_rfl) (λk hk=>by cases hk) (by kernel_rfl) (WM os))) ?_
 intro W base args ds gs before hval hW _ _ _ hL _ _;exact contract H enc W base args ds gs before hval hW hL
theorem said:Rows.FoldTitlesSaid:=
 OpenClaim.holds_of_cond 3 Tryz.f3 rfl rfl rfl rfl rfl rfl rfl ⟨rfl,rfl,rfl,rfl,rfl⟩ rfl rfl rfl rfl rfl (by kernel_rfl) Tryz.func3 joined
  (gK (by kernel_rfl)) (by unfold Func.isWrapper;first|(rw[au (by decide+kernel)];kernel_rfl)|(rw[aj (by decide+kernel)];exact⟨rfl,rfl⟩))
  (λos started H enc _ F=>by rw[OpenClaim.pre_eq_preRow];exact lifted os started H enc F)
theorem plain (f:FuncId) (fn:Func) (hf:Tryz.pinned.checked.prog.funcNamed "kerf/kerflaw19.FoldTitles" =some f) (hfn:Tryz.pinned.checked.prog.funcs[f]? =some fn):
 true=Tryz.pinned.checked.prog.looks []/\∀(j:Nat) t,fn.params[j]? =some t->Tryz.pinned.checked.prog.wantsStandIn t=false:=by
 obtain rfl:f=3:=bW ((show Tryz.prog.funcNamed "kerf/kerflaw19.FoldTitles" =some 3 by kernel_rfl).symm.trans hf) |>.symm;obtain rfl:fn=Tryz.f3:=(bW (Tryz.func3.symm.trans hfn)).symm;refine⟨by kernel_rfl,λj t ht=> ?_⟩;rw[Tryz.params3]at ht;match j,ht with
 |0,ht=>obtain rfl:=bW ht;exact(show Tryz.prog.wantsStandIn 9=false by kernel_rfl)
 |j+1,ht=>simp at ht
