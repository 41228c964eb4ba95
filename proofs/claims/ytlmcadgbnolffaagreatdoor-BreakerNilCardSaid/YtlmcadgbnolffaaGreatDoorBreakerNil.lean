/- BreakerNil comes to true at every text and every place: a nil Breaker looks at neither; its closed run comes to true, at every world that holds what the row lists. -/
import Derived.Test.YtlmcadgbnolffaaGreatDoorCards
import Derived.Test.YtlmcadgbnolffaaGreatDoorTie
import Derived.Test.YtlmcadgbnolffaaGreatDoorAm42
import Derived.WalkKit
import Derived.ProofKit
import Derived.OpenShut
import Derived.Deep.DeepHandedRow
import Derived.Lib.LaidU8
import Derived.ChangeMaps5
namespace Go.Proofs.YtlmcadgbnolffaaGreatDoor.breakerNil
open Go.ChangeShapes Go.WideShapes Go.ChangeAt Go.RowKit
open Go.ChangeMaps (open_string shut_string)

theorem own : ownKnob Tryz.prog.godebug = none := by kernel_rfl

/-! ### the machine's run -/
noncomputable def ext (f : Nat) : Nat := Bool.rec (Bool.rec 0 2 (Nat.beq f 223)) 1 (Nat.beq f 178)
def firstL : List Value := Go.Pinned.utf8FirstZ.map fun n => .int .u8 (.ofNat n)
def acceptZ : List Nat := [128, 191, 160, 191, 128, 159, 144, 191, 128, 143, 0, 0, 0, 0, 0, 0, 0, 0, 0, 0, 0, 0, 0, 0, 0, 0, 0, 0, 0, 0, 0, 0]
def acceptL : List Value := acceptZ.map fun n => .int .u8 (.ofNat n)
def tabs : List (Nat × List Value) := [(1, firstL), (2, acceptL)]
theorem mixed : Tryz.prog.follows .mixedOrders = true := by kernel_rfl
theorem progOk : Am.progOk Tryz.prog = true := by kernel_rfl
theorem isFn : (Am.fnOf Tryz.prog 3).isSome = true := by kernel_rfl
theorem ext178 : Am.ExtIs Tryz.prog 178 Extern.BytealgCount.count := ⟨Tryz.f178, Tryz.func178, by kernel_rfl, by kernel_rfl, by kernel_rfl, by kernel_rfl⟩
theorem ext223 : Am.ExtIs Tryz.prog 223 Extern.BytealgIndexByte.indexByte := ⟨Tryz.f223, Tryz.func223, by kernel_rfl, by kernel_rfl, by kernel_rfl, by kernel_rfl⟩
theorem ext_one (f : Nat) (h : ext f = 1) : f = 178 := by
  unfold ext at h
  cases hb : Nat.beq f 178
  · rw [hb] at h
    cases hc : Nat.beq f 223 <;> rw [hc] at h <;> cases h
  · exact Nat.eq_of_beq_eq_true hb
theorem ext_two (f : Nat) (h : ext f = 2) : f = 223 := by
  unfold ext at h
  cases hb : Nat.beq f 178
  · rw [hb] at h
    cases hc : Nat.beq f 223
    · rw [hc] at h; cases h
    · exact Nat.eq_of_beq_eq_true hc
  · rw [hb] at h; cases h
theorem extOk : Am.ExtOk Tryz.prog (Am.gOf Tryz.prog ext) :=
  Am.ext_ok (fun f h => by rw [ext_one f h]; exact ext178) (fun f h => by rw [ext_two f h]; exact ext223)
noncomputable def args : Am.AV := .cons .unk (.cons .unk .nil)
theorem ran : Am.chkR ((Am.run (Am.gOf Tryz.prog ext) (Nat.succ 999)).call 3 args (Am.tabH tabs)) = true := by kernel_rfl


theorem g0 : Tryz.prog.globalNamed "unicode/utf8.first" = some 1 := by kernel_rfl
theorem g1 : Tryz.prog.globalNamed "unicode/utf8.acceptRanges" = some 2 := by kernel_rfl
theorem y0 : (Tryz.prog.globals[1]?).map (·.type) = some 266 := by kernel_rfl
theorem y1 : (Tryz.prog.globals[2]?).map (·.type) = some 269 := by kernel_rfl
theorem c5 : Tryz.prog.cellsOf 5 = 1 := by kernel_rfl
theorem c266 : Tryz.prog.cellsOf 266 = 256 := by kernel_rfl
theorem c268 : Tryz.prog.cellsOf 268 = 2 := by kernel_rfl
theorem var_heap {W : World} {n : String} {x : Nat} {cs : Array Value} (hg : Tryz.prog.globalNamed n = some x) (hv : W.var? Tryz.prog n = some cs) : ∃ el fr, W.heap[x]? = some (.cells cs el fr) := by
  unfold World.var? at hv
  rw [hg] at hv
  simp only [Option.bind_some] at hv
  split at hv
  · rename_i c el fr h
    cases hv
    exact ⟨el, fr, h⟩
  · cases hv
theorem first_eq : Rows.laid_unicode_utf8_first = Lib.tabData .u8 (Go.Pinned.utf8FirstZ.map fun n => Int.ofNat n) := by
  show DataW.agg (Go.Pinned.numbers .u8 Go.Pinned.utf8FirstZ) = DataW.agg ((Go.Pinned.utf8FirstZ.map fun n => Int.ofNat n).map fun z => .lit (.int .u8 z))
  rw [List.map_map]
  rfl
theorem firstAt {W : World} (h : laidMetH Tryz.prog Rows.breakerNilRow.laid W) : Am.TabAt W 1 firstL := by
  obtain ⟨g, t, cs, fuel, p, hg, hty, hvar, hd⟩ := Lib.laidMet.reads (n := "unicode/utf8.first") (d := Rows.laid_unicode_utf8_first) h (.tail _ (.tail _ (.tail _ (.tail _ (.tail _ (.tail _ (.head _)))))))
  obtain rfl := Option.some.inj (g0.symm.trans hg)
  obtain rfl := Option.some.inj (y0.symm.trans hty)
  have hcs := Lib.cells_of_tab (zs := Go.Pinned.utf8FirstZ.map fun n => Int.ofNat n) Tryz.underlying266 Tryz.underlying5 c5 c266 (by rw [← first_eq]; exact hd)
  have hl : cs.toList = firstL := by rw [hcs, List.map_map]; rfl
  obtain ⟨el, fr, hh⟩ := var_heap g0 hvar
  refine ⟨cs, el, fr.1, fr.2, hh, by rw [← hl]; simp, fun i _ => ?_⟩
  rw [← hl, Array.getD_eq_getD_getElem?, List.getD_eq_getElem?_getD, Array.getElem?_toList]
theorem pair_cells {cs : List Value} {W : World} {base : Nat} {sp : Nat → Bool} {held : Bool} {fuel : Nat} {p : List MemPlace} {a b : Nat} (h : DataW.trod (fun _ => ()) Tryz.prog W base sp held fuel 268 cs = some (.agg [.lit (.int .u8 (Int.ofNat a)), .lit (.int .u8 (Int.ofNat b))], p)) :
    cs = [.int .u8 (Int.ofNat a), .int .u8 (Int.ofNat b)] := by
  exact Lib.ints_of_struct (zs := [Int.ofNat a, Int.ofNat b]) Tryz.underlying268 (fun i f hi => by
    match i, hi with
    | 0, hi => simp at hi; subst hi; exact ⟨Tryz.underlying5, rfl, c5⟩
    | 1, hi => simp at hi; subst hi; exact ⟨Tryz.underlying5, rfl, c5⟩
    | i + 2, hi => simp at hi) (by rw [c268]; rfl) h
theorem firstLen : firstL.length = 256 := by kernel_rfl
theorem acceptAt {W : World} (h : laidMetH Tryz.prog Rows.breakerNilRow.laid W) : Am.TabAt W 2 acceptL := by
  obtain ⟨g, t, cs, fuel, p, hg, hty, hvar, hd⟩ := Lib.laidMet.reads (n := "unicode/utf8.acceptRanges") (d := Rows.laid_unicode_utf8_acceptRanges) h (.tail _ (.tail _ (.tail _ (.head _))))
  obtain rfl := Option.some.inj (g1.symm.trans hg)
  obtain rfl := Option.some.inj (y1.symm.trans hty)
  have key : ∀ j, j < 16 → (cs.toList.drop (j * 2)).take 2 = (acceptL.drop (j * 2)).take 2 := by
    intro j hj
    obtain ⟨f', d, q, hdi, he⟩ := Lib.array_elem Tryz.underlying269 hd j hj
    rw [c268] at he
    match j, hj with
    | 0, _ => obtain rfl := Option.some.inj (show some (DataW.agg [.lit (.int .u8 (Int.ofNat 128)), .lit (.int .u8 (Int.ofNat 191))]) = some d from hdi); exact pair_cells he
    | 1, _ => obtain rfl := Option.some.inj (show some (DataW.agg [.lit (.int .u8 (Int.ofNat 160)), .lit (.int .u8 (Int.ofNat 191))]) = some d from hdi); exact pair_cells he
    | 2, _ => obtain rfl := Option.some.inj (show some (DataW.agg [.lit (.int .u8 (Int.ofNat 128)), .lit (.int .u8 (Int.ofNat 159))]) = some d from hdi); exact pair_cells he
    | 3, _ => obtain rfl := Option.some.inj (show some (DataW.agg [.lit (.int .u8 (Int.ofNat 144)), .lit (.int .u8 (Int.ofNat 191))]) = some d from hdi); exact pair_cells he
    | 4, _ => obtain rfl := Option.some.inj (show some (DataW.agg [.lit (.int .u8 (Int.ofNat 128)), .lit (.int .u8 (Int.ofNat 143))]) = some d from hdi); exact pair_cells he
    | 5, _ => obtain rfl := Option.some.inj (show some (DataW.agg [.lit (.int .u8 (Int.ofNat 0)), .lit (.int .u8 (Int.ofNat 0))]) = some d from hdi); exact pair_cells he
    | 6, _ => obtain rfl := Option.some.inj (show some (DataW.agg [.lit (.int .u8 (Int.ofNat 0)), .lit (.int .u8 (Int.ofNat 0))]) = some d from hdi); exact pair_cells he
    | 7, _ => obtain rfl := Option.some.inj (show some (DataW.agg [.lit (.int .u8 (Int.ofNat 0)), .lit (.int .u8 (Int.ofNat 0))]) = some d from hdi); exact pair_cells he
    | 8, _ => obtain rfl := Option.some.inj (show some (DataW.agg [.lit (.int .u8 (Int.ofNat 0)), .lit (.int .u8 (Int.ofNat 0))]) = some d from hdi); exact pair_cells he
    | 9, _ => obtain rfl := Option.some.inj (show some (DataW.agg [.lit (.int .u8 (Int.ofNat 0)), .lit (.int .u8 (Int.ofNat 0))]) = some d from hdi); exact pair_cells he
    | 10, _ => obtain rfl := Option.some.inj (show some (DataW.agg [.lit (.int .u8 (Int.ofNat 0)), .lit (.int .u8 (Int.ofNat 0))]) = some d from hdi); exact pair_cells he
    | 11, _ => obtain rfl := Option.some.inj (show some (DataW.agg [.lit (.int .u8 (Int.ofNat 0)), .lit (.int .u8 (Int.ofNat 0))]) = some d from hdi); exact pair_cells he
    | 12, _ => obtain rfl := Option.some.inj (show some (DataW.agg [.lit (.int .u8 (Int.ofNat 0)), .lit (.int .u8 (Int.ofNat 0))]) = some d from hdi); exact pair_cells he
    | 13, _ => obtain rfl := Option.some.inj (show some (DataW.agg [.lit (.int .u8 (Int.ofNat 0)), .lit (.int .u8 (Int.ofNat 0))]) = some d from hdi); exact pair_cells he
    | 14, _ => obtain rfl := Option.some.inj (show some (DataW.agg [.lit (.int .u8 (Int.ofNat 0)), .lit (.int .u8 (Int.ofNat 0))]) = some d from hdi); exact pair_cells he
    | 15, _ => obtain rfl := Option.some.inj (show some (DataW.agg [.lit (.int .u8 (Int.ofNat 0)), .lit (.int .u8 (Int.ofNat 0))]) = some d from hdi); exact pair_cells he
  have at_ : ∀ i, i < 32 → cs.toList[i]? = acceptL[i]? := by
    intro i hi
    have h := congrArg (fun l : List Value => l[i % 2]?) (key (i / 2) (by omega))
    have h2 : i % 2 < 2 := by omega
    have h3 : i / 2 * 2 + i % 2 = i := by omega
    simp only [List.getElem?_take, List.getElem?_drop, h2, if_true, h3] at h
    exact h
  have hlen : acceptL.length = 32 := rfl
  have hsz : 32 ≤ cs.size := by
    have h := at_ 31 (by omega)
    rcases Nat.lt_or_ge 31 cs.toList.length with c | c
    · rw [Array.length_toList] at c; omega
    · rw [List.getElem?_eq_none c] at h; cases h
  obtain ⟨el, fr, hh⟩ := var_heap g1 hvar
  refine ⟨cs, el, fr.1, fr.2, hh, by rw [hlen]; exact hsz, fun i hi => ?_⟩
  rw [hlen] at hi
  rw [Array.getD_eq_getD_getElem?, List.getD_eq_getElem?_getD, ← Array.getElem?_toList, at_ i hi]
theorem walk {W : World} (h : laidMetH Tryz.prog Rows.breakerNilRow.laid W) (s : ByteArray) (d : Int) : Calls Tryz.prog 3 #[.string s, .int .i64 d] W fun e w' => e = .returned (.bool true) ∧ Below W.heap.size W w' :=
  Am.run_true (vs := #[.string s, .int .i64 d]) mixed progOk extOk isFn ran (fun p hp => by
    rcases List.mem_cons.1 hp with rfl | hp
    · exact ⟨by show 1 < 64; omega, by show firstL.length ≤ 4000000; rw [firstLen]; omega, firstAt h⟩
    · rcases List.mem_cons.1 hp with rfl | hp
      · exact ⟨by show 2 < 64; omega, by show acceptL.length ≤ 4000000; rw [show acceptL.length = 32 from rfl]; omega, acceptAt h⟩
      · cases hp) ⟨.string s, [.int .i64 d], rfl, rfl, .int .i64 d, [], rfl, rfl, rfl⟩

/-! ### the card -/
set_option maxRecDepth 100000 in
theorem contract (H : Type) (enc : TypeId × Value → H) (W : World) (base : Nat) (args : Array Value) (ds gs : List (DataW H)) (before : List MemPlace)
    (hval : ∀ (j : Nat) t v, Tryz.f3.params[j]? = some t → args[j]? = some v → Value.okWide Tryz.prog W .any base t v)
    (hW : DataW.Whole enc Tryz.prog Tryz.f3.params.toList Rows.breakerNilSpec.vars false W args.toList ds gs before) (hL : laidMetH Tryz.prog Rows.breakerNilRow.laid W) :
    Calls Tryz.prog 3 args W fun e W' => ∃ v, e = .returned v ∧ Rows.breakerNilSpec.post enc Tryz.prog Tryz.f3 false true false false W args v W' := by
  have hW' := hW
  obtain ⟨p, q, hA0, hV, rfl, _, _⟩ := hW
  have hA : DataW.TrodAll enc Tryz.prog W 0 (fun _ => true) true Tryz.f3.params.toList args.toList ds p := hA0
  rw [Tryz.params3] at hA hval
  obtain ⟨v0, v1, d0, d1, p0, p1, rfl, rfl, rfl, h0, h1⟩ := trodAll_two hA
  obtain ⟨rfl, rfl⟩ := trodVars_none hV
  obtain ⟨s, rfl, rfl, rfl, ws⟩ := open_string Tryz.underlying9 (hval 0 9 v0 rfl rfl) h0
  obtain ⟨d, rfl, rfl, rfl, wd⟩ := open_int Tryz.underlying3 (hval 1 3 v1 rfl rfl) h1
  refine (walk hL _ _).mono fun e W' he => ?_
  obtain ⟨rfl, hb⟩ := he
  refine ⟨_, rfl, _, _, _, [], [], [], hW', ?_, ?_, ?_, hb.frame _, fun h => by cases h⟩
  · exact trodAll_cons_mk (shut_bool Tryz.underlying4 _) trodAll_mk0
  · exact trodAll_mk2 (shut_string Tryz.underlying9 ws) (shut_int Tryz.underlying3 wd)
  · rfl
noncomputable def low : Nat := (World.holding Tryz.prog default ⟨#[], #[], []⟩).heap.size
def setAt (l : List Value) : Obj → Obj
  | .cells _ t frozen => .cells l.toArray t frozen
  | o => o
noncomputable def laidWorld (os : Os) : World :=
  let w0 := World.holding Tryz.prog os ⟨#[.cells #[.string ⟨#[105, 110, 118, 97, 108, 105, 100, 32, 115, 121, 110, 116, 97, 120]⟩] 299, .cells #[.string ⟨#[118, 97, 108, 117, 101, 32, 111, 117, 116, 32, 111, 102, 32, 114, 97, 110, 103, 101]⟩] 299], #[], []⟩
  { w0 with heap := ((((((w0.heap.modify 1 (setAt firstL)).modify 2 (setAt acceptL)).modify 3 (setAt [.iface 297 (.pointer (some ⟨low, 0, none⟩))])).modify 4 (setAt [.iface 297 (.pointer (some ⟨low + 1, 0, none⟩))])).modify 5
      (setAt ([1, 10, 100, 1000, 10000, 100000, 1000000, 10000000, 100000000, 1000000000, 10000000000, 100000000000, 1000000000000, 10000000000000, 100000000000000, 1000000000000000, 10000000000000000, 100000000000000000, 1000000000000000000, 10000000000000000000].map fun n => .int .u64 (.ofNat n)))).modify 6 (setAt ([0, 1, 28, 2, 29, 14, 24, 3, 30, 22, 20, 15, 25, 17, 4, 8, 31, 27, 13, 23, 21, 19, 16, 7, 26, 12, 18, 6, 11, 5, 10, 9].map fun n => .int .u8 (.ofNat n)))).modify 7 (setAt ([0, 1, 56, 2, 57, 49, 28, 3, 61, 58, 42, 50, 38, 29, 17, 4, 62, 47, 59, 36, 45, 43, 51, 22, 53, 39, 33, 30, 24, 18, 12, 5, 63, 55, 48, 27, 60, 41, 37, 16, 46, 35, 44, 21, 52, 32, 23, 11, 54, 26, 40, 15, 34, 20, 31, 10, 25, 14, 19, 9, 13, 8, 7, 6].map fun n => .int .u8 (.ofNat n))) }
theorem laid_met (os : Os) : laidMet Tryz.prog Rows.breakerNilRow.laid ((laidWorld os).forCall (fun _ _ => 0) ⟨#[], #[.string ⟨#[]⟩, .int .i64 0], []⟩).memory :=
  laidMet_of_run' 8 (by kernel_rfl) (by kernel_rfl)
theorem reads (os : Os) {H : Type} (enc : TypeId × Value → H) : ∃ places, DataW.whole enc Tryz.prog ((laidWorld os).forCall (fun _ _ => 0) ⟨#[], #[.string ⟨#[]⟩, .int .i64 0], []⟩).memory Tryz.f3.params.toList Rows.breakerNilSpec.vars false (#[.string ⟨#[]⟩, .int .i64 0] : Array Value).toList 8 = some ([.lit (.string []), .lit (.int .i64 0)], [], places) :=
  ⟨[], by kernel_rfl⟩
set_option maxRecDepth 100000 in
theorem lifted (os : Os) (started : os.Started) (H : Type) (enc : TypeId × Value → H) (F : Stop.Interp) :
    ReturnsInHanded {} Tryz.checked os 3 .any ((OpenSpec.ofChange Rows.breakerNilSpec).preRow enc Tryz.prog Tryz.f3 Rows.breakerNilRow.domain false Rows.breakerNilRow.laid) (((OpenSpec.ofChange Rows.breakerNilSpec).at F).post enc Tryz.prog Tryz.f3 false true false false) := by
  obtain ⟨places, hx⟩ := reads os enc
  refine returnsInHanded_of_row (C := Tryz.checked) (s := OpenSpec.ofChange Rows.breakerNilSpec) own started (by kernel_rfl) Tryz.func3
    (witness_row_at (enc := enc) (C := Tryz.checked) false (laidWorld os) #[.string ⟨#[]⟩, .int .i64 0] rfl (by kernel_rfl) (by kernel_rfl) (by kernel_rfl)
      (OpenSpec.preRow_of_cond 8 hx (by kernel_rfl) (fun k hk => by cases hk) (by kernel_rfl) (laid_met os))) ?_
  intro W base args ds gs before hval hW _ _ _ hL _ _
  exact contract H enc W base args ds gs before hval hW hL
theorem said : Rows.BreakerNilSaid :=
  OpenClaim.holds_of_cond 3 Tryz.f3 rfl rfl rfl rfl rfl rfl rfl ⟨rfl, rfl, rfl, rfl, rfl⟩ rfl rfl rfl rfl rfl (by kernel_rfl) Tryz.func3 (by kernel_rfl)
    (of_decide_eq_true (by kernel_rfl)) (by unfold Func.isWrapper; first | (rw [if_pos (by decide +kernel)]; kernel_rfl) | (rw [if_neg (by decide +kernel)]; exact ⟨rfl, rfl⟩))
    (fun os started H enc _ F => by rw [OpenClaim.pre_eq_preRow]; exact lifted os started H enc F)
theorem plain (f : FuncId) (fn : Func) (hf : Tryz.pinned.checked.prog.funcNamed "kerf/kerflaw09.BreakerNil" = some f) (hfn : Tryz.pinned.checked.prog.funcs[f]? = some fn) :
    true = Tryz.pinned.checked.prog.looks [] ∧ ∀ (j : Nat) t, fn.params[j]? = some t → Tryz.pinned.checked.prog.wantsStandIn t = false := by
  obtain rfl : f = 3 := Option.some.inj ((show Tryz.prog.funcNamed "kerf/kerflaw09.BreakerNil" = some 3 by kernel_rfl).symm.trans hf) |>.symm
  obtain rfl : fn = Tryz.f3 := (Option.some.inj (Tryz.func3.symm.trans hfn)).symm
  refine ⟨by kernel_rfl, fun j t ht => ?_⟩
  rw [Tryz.params3] at ht
  match j, ht with
  | 0, ht =>
    obtain rfl : t = 9 := by simpa using ht.symm
    exact (show Tryz.prog.wantsStandIn 9 = false by kernel_rfl)
  | 1, ht =>
    obtain rfl : t = 3 := by simpa using ht.symm
    exact (show Tryz.prog.wantsStandIn 3 = false by kernel_rfl)
  | j + 2, ht => simp at ht
theorem card : Rows.BreakerNilCardSaid :=
  Claim7.holds_tied_plain_at .later [] _ _ _ _ said (fun _ h => by cases h) (by kernel_rfl) (fun _ h => by cases h) breakerNil_row_tie rfl ⟨rfl, rfl⟩ (by kernel_rfl) rfl plain (by kernel_rfl)
end Go.Proofs.YtlmcadgbnolffaaGreatDoor.breakerNil
