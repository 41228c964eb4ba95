/- FoldRunes returns true, whatever the rune: a walk of its code (FB) over the two books of letters, whose making (RO, RN), and live, are closed runs that are cut by calls whose results are known. -/
import Derived.Test.YtakpgpibkfddgaaGreatDoorCards
import Derived.Test.YtakpgpibkfddgaaGreatDoorTie
import Derived.Test.YtakpgpibkfddgaaGreatDoorTZ
import Derived.Test.YtakpgpibkfddgaaGreatDoorRO
import Derived.Test.YtakpgpibkfddgaaGreatDoorRN
import Derived.Test.YtakpgpibkfddgaaGreatDoorLaid
import Derived.Deep.DeepWitnessRowRef
import Derived.WalkKit
import Derived.ProofKit
import Derived.OpenShut
import Derived.Deep.DeepHandedRow
import Derived.Lib.LaidU8
namespace Go.Proofs.YtakpgpibkfddgaaGreatDoor.foldRunes
open Go.ChangeShapes Go.WideShapes Go.ChangeAt Go.RowKit

theorem own : ownKnob Tryz.prog.godebug = none := by kernel_rfl
theorem isFn : (Am.fnOf Tryz.prog 9).isSome = true := by kernel_rfl
theorem noEntry : orcZ 9 .nil (Am.tabH tabsF) = none := by kernel_rfl
set_option maxRecDepth 1000000 in
theorem ran : Am.chkR ((Am.run (Am.gOfO Tryz.prog ext orcZ) (Nat.succ 3999)).call 9 .nil (Am.tabH tabsF)) = true := by kernel_rfl
theorem var_heap {W : World} {n : String} {x : Nat} {cs : Array Value} (hg : Tryz.prog.globalNamed n = some x) (hv : W.var? Tryz.prog n = some cs) : ∃ el fr, W.heap[x]? = some (.cells cs el fr) := by
  unfold World.var? at hv
  rw [hg] at hv
  simp only [Option.bind_some] at hv
  split at hv
  · rename_i c el fr h
    cases hv
    exact ⟨el, fr, h⟩
  · cases hv
theorem cU8 : Tryz.prog.cellsOf 5 = 1 := by kernel_rfl
theorem c256 : Tryz.prog.cellsOf 103 = 256 := by kernel_rfl
theorem spaceG : Tryz.prog.globalNamed "strings.asciiSpace" = some 0 := by kernel_rfl
theorem spaceY : (Tryz.prog.globals[0]?).map (·.type) = some 103 := by kernel_rfl
theorem spaceEq : (Rows.laid_strings_asciiSpace : DataW Unit) = Lib.tabData .u8 (spaceZ.map fun n => Int.ofNat n) := by kernel_rfl
theorem spaceLen : spaceL.length = 256 := by kernel_rfl
theorem spaceAt {W : World} (h : laidMetH Tryz.prog Rows.foldRunesRow.laid W) : Am.TabAt W 0 spaceL := by
  obtain ⟨g, t, cs, fuel, p, hg, hty, hvar, hd⟩ := Lib.laidMet.reads (n := "strings.asciiSpace") (d := Rows.laid_strings_asciiSpace) h (.tail _ (.tail _ (.tail _ (.tail _ (.tail _ (.tail _ (.tail _ (.head _))))))))
  obtain rfl := Option.some.inj (spaceG.symm.trans hg)
  obtain rfl := Option.some.inj (spaceY.symm.trans hty)
  have hcs := Lib.cells_of_tab (zs := spaceZ.map fun n => Int.ofNat n) Tryz.underlying103 Tryz.underlying5 cU8 c256 (by rw [← spaceEq]; exact hd)
  have hl : cs.toList = spaceL := by rw [hcs, List.map_map]; rfl
  obtain ⟨el, fr, hh⟩ := var_heap spaceG hvar
  refine ⟨cs, el, fr.1, fr.2, hh, by rw [← hl]; simp, fun i _ => ?_⟩
  rw [← hl, Array.getD_eq_getD_getElem?, List.getD_eq_getElem?_getD, Array.getElem?_toList]
theorem firstG : Tryz.prog.globalNamed "unicode/utf8.first" = some 3 := by kernel_rfl
theorem firstY : (Tryz.prog.globals[3]?).map (·.type) = some 103 := by kernel_rfl
theorem firstEq : (Rows.laid_unicode_utf8_first : DataW Unit) = Lib.tabData .u8 (Go.Pinned.utf8FirstZ.map fun n => Int.ofNat n) := by
  show DataW.agg (Go.Pinned.numbers .u8 Go.Pinned.utf8FirstZ) = DataW.agg ((Go.Pinned.utf8FirstZ.map fun n => Int.ofNat n).map fun z => .lit (.int .u8 z))
  rw [List.map_map]
  rfl
theorem firstLen : firstL.length = 256 := by kernel_rfl
theorem firstAt {W : World} (h : laidMetH Tryz.prog Rows.foldRunesRow.laid W) : Am.TabAt W 3 firstL := by
  obtain ⟨g, t, cs, fuel, p, hg, hty, hvar, hd⟩ := Lib.laidMet.reads (n := "unicode/utf8.first") (d := Rows.laid_unicode_utf8_first) h (.tail _ (.tail _ (.tail _ (.tail _ (.tail _ (.tail _ (.tail _ (.tail _ (.head _)))))))))
  obtain rfl := Option.some.inj (firstG.symm.trans hg)
  obtain rfl := Option.some.inj (firstY.symm.trans hty)
  have hcs := Lib.cells_of_tab (zs := Go.Pinned.utf8FirstZ.map fun n => Int.ofNat n) Tryz.underlying103 Tryz.underlying5 cU8 c256 (by rw [← firstEq]; exact hd)
  have hl : cs.toList = firstL := by rw [hcs, List.map_map]; rfl
  obtain ⟨el, fr, hh⟩ := var_heap firstG hvar
  refine ⟨cs, el, fr.1, fr.2, hh, by rw [← hl]; simp, fun i _ => ?_⟩
  rw [← hl, Array.getD_eq_getD_getElem?, List.getD_eq_getElem?_getD, Array.getElem?_toList]
theorem acceptG : Tryz.prog.globalNamed "unicode/utf8.acceptRanges" = some 4 := by kernel_rfl
theorem acceptY : (Tryz.prog.globals[4]?).map (·.type) = some 238 := by kernel_rfl
theorem cPair : Tryz.prog.cellsOf 237 = 2 := by kernel_rfl
theorem pair_cells {cs : List Value} {W : World} {base : Nat} {sp : Nat → Bool} {held : Bool} {fuel : Nat} {p : List MemPlace} {a b : Nat} (h : DataW.trod (fun _ => ()) Tryz.prog W base sp held fuel 237 cs = some (.agg [.lit (.int .u8 (Int.ofNat a)), .lit (.int .u8 (Int.ofNat b))], p)) :
    cs = [.int .u8 (Int.ofNat a), .int .u8 (Int.ofNat b)] := by
  exact Lib.ints_of_struct (zs := [Int.ofNat a, Int.ofNat b]) Tryz.underlying237 (fun i f hi => by
    match i, hi with
    | 0, hi => simp at hi; subst hi; exact ⟨Tryz.underlying5, rfl, cU8⟩
    | 1, hi => simp at hi; subst hi; exact ⟨Tryz.underlying5, rfl, cU8⟩
    | i + 2, hi => simp at hi) (by rw [cPair]; rfl) h
theorem acceptLen : acceptL.length = 32 := rfl
theorem acceptAt {W : World} (h : laidMetH Tryz.prog Rows.foldRunesRow.laid W) : Am.TabAt W 4 acceptL := by
  obtain ⟨g, t, cs, fuel, p, hg, hty, hvar, hd⟩ := Lib.laidMet.reads (n := "unicode/utf8.acceptRanges") (d := Rows.laid_unicode_utf8_acceptRanges) h (.tail _ (.tail _ (.tail _ (.head _))))
  obtain rfl := Option.some.inj (acceptG.symm.trans hg)
  obtain rfl := Option.some.inj (acceptY.symm.trans hty)
  have key : ∀ j, j < 16 → (cs.toList.drop (j * 2)).take 2 = (acceptL.drop (j * 2)).take 2 := by
    intro j hj
    obtain ⟨f', d, q, hdi, he⟩ := Lib.array_elem Tryz.underlying238 hd j hj
    rw [cPair] at he
    match j, hj with
    | 0, _ => obtain rfl := Option.some.inj (show some (DataW.agg [.lit (.int .u8 (Int.ofNat 128)), .lit (.int .u8 (Int.ofNat 191))]) = some d from hdi); exact pair_cells he
    | 1, _ => obtain rfl := Option.some.inj (show some (DataW.agg [.lit (.int .u8 (Int.ofNat 160)), .lit (.int .u8 (Int.ofNat 191))]) = some d from hdi); exact pair_cells he
    | 2, _ => obtain rfl := Option.some.inj (show some (DataW.agg [.lit (.int .u8 (Int.ofNat 128)), .lit (.int .u8 (Int.ofNat 159))]) = some d from hdi); exact pair_cells he
    | 3, _ => obtain rfl := Option.some.inj (show some (DataW.agg [.lit (.int .u8 (Int.ofNat 144)), .lit (.int .u8 (Int.ofNat 191))]) = some d from hdi); exact pair_cells he
    | 4, _ => obtain rfl := Option.some.inj (show some (DataW.agg [.lit (.int .u8 (Int.ofNat 128)), .lit (.int .u8 (Int.ofNat 143))]) = some d from hdi); exact pair_cells he
    | 5, _ => obtain rfl := Option.some.inj (show some (DataW.agg [.lit (.int .u8 (Int.ofNat 0)), .lit (.int .u8 (Int.ofNat 0))]) = some d from hdi); exact pair_cells he
    | 6, _ => obtain rfl := Option.some.inj (show some (DataW.agg [.lit (.int .u8 (Int.ofNat 0)), .lit (.int .u8 (Int.ofNat 0))]) = some d from hdi); exact pair_cells he
    | 7, _ => obtain rfl := Option.some.inj (show some (DataW.agg [.lit (.int .u8 (Int.ofNat 0)), .lit (.int .u8 (Int.ofNat 0))]) = some d from hdi); exact pair_cells he
    | 8, _ => obtain rfl := Option.some.inj (show some (DataW.agg [.lit (.int .u8 (Int.ofNat 0)), .lit (.int .u8 (Int.ofNat 0))]) = some d from hdi); exact pair_cells he
    | 9, _ => obtain rfl := Option.some.inj (show some (DataW.agg [.lit (.int .u8 (Int.ofNat 0)), .lit (.int .u8 (Int.ofNat 0))]) = some d from hdi); exact pair_cells he
    | 10, _ => obtain rfl := Option.some.inj (show some (DataW.agg [.lit (.int .u8 (Int.ofNat 0)), .lit (.int .u8 (Int.ofNat 0))]) = some d from hdi); exact pair_cells he
    | 11, _ => obtain rfl := Option.some.inj (show some (DataW.agg [.lit (.int .u8 (Int.ofNat 0)), .lit (.int .u8 (Int.ofNat 0))]) = some d from hdi); exact pair_cells he
    | 12, _ => obtain rfl := Option.some.inj (show some (DataW.agg [.lit (.int .u8 (Int.ofNat 0)), .lit (.int .u8 (Int.ofNat 0))]) = some d from hdi); exact pair_cells he
    | 13, _ => obtain rfl := Option.some.inj (show some (DataW.agg [.lit (.int .u8 (Int.ofNat 0)), .lit (.int .u8 (Int.ofNat 0))]) = some d from hdi); exact pair_cells he
    | 14, _ => obtain rfl := Option.some.inj (show some (DataW.agg [.lit (.int .u8 (Int.ofNat 0)), .lit (.int .u8 (Int.ofNat 0))]) = some d from hdi); exact pair_cells he
    | 15, _ => obtain rfl := Option.some.inj (show some (DataW.agg [.lit (.int .u8 (Int.ofNat 0)), .lit (.int .u8 (Int.ofNat 0))]) = some d from hdi); exact pair_cells he
  have at_ : ∀ i, i < 32 → cs.toList[i]? = acceptL[i]? := by
    intro i hi
    have h := congrArg (fun l : List Value => l[i % 2]?) (key (i / 2) (by omega))
    have h2 : i % 2 < 2 := by omega
    have h3 : i / 2 * 2 + i % 2 = i := by omega
    simp only [List.getElem?_take, List.getElem?_drop, h2, if_true, h3] at h
    exact h
  have hlen : acceptL.length = 32 := rfl
  have hsz : 32 ≤ cs.size := by
    have h := at_ 31 (by omega)
    rcases Nat.lt_or_ge 31 cs.toList.length with c | c
    · rw [Array.length_toList] at c; omega
    · rw [List.getElem?_eq_none c] at h; cases h
  obtain ⟨el, fr, hh⟩ := var_heap acceptG hvar
  refine ⟨cs, el, fr.1, fr.2, hh, by rw [hlen]; exact hsz, fun i hi => ?_⟩
  rw [hlen] at hi
  rw [Array.getD_eq_getD_getElem?, List.getD_eq_getElem?_getD, ← Array.getElem?_toList, at_ i hi]
theorem live_at {W : World} (h0 : Am.TabAt W 0 spaceL) (h3 : Am.TabAt W 3 firstL) (h4 : Am.TabAt W 4 acceptL) : Lives W :=
  Am.run_trueO (vs := #[]) mixed progOk (extOk _) orcZOk isFn noEntry ran (fun p hp => by
    rcases List.mem_cons.1 hp with rfl | hp
    · exact ⟨by show 0 < 64; omega, by show spaceL.length ≤ 4000000; rw [spaceLen]; omega, h0⟩
    rcases List.mem_cons.1 hp with rfl | hp
    · exact ⟨by show 3 < 64; omega, by show firstL.length ≤ 4000000; rw [firstLen]; omega, h3⟩
    rcases List.mem_cons.1 hp with rfl | hp
    · exact ⟨by show 4 < 64; omega, by show acceptL.length ≤ 4000000; rw [acceptLen]; omega, h4⟩
    cases hp) rfl
theorem opens {W : World} (h0 : Am.TabAt W 0 spaceL) : Opens W := open_at fun p hp => by
  rcases List.mem_cons.1 hp with rfl | hp
  · exact ⟨by show 0 < 64; omega, by show spaceL.length ≤ 4000000; rw [spaceLen]; omega, h0⟩
  cases hp
theorem tab_move {W W' : World} {x : Nat} {l : List Value} (h : Am.TabAt W x l) (hb : Below W.heap.size W W') : Am.TabAt W' x l := by
  obtain ⟨arr, el, lo, hi, hh, r⟩ := h
  exact ⟨arr, el, lo, hi, (hb.block x (Array.getElem?_eq_some_iff.1 hh).1).trans hh, r⟩
/-- for every rune -/
theorem walk {W : World} (hW : laidMetH Tryz.prog Rows.foldRunesRow.laid W) (r : Int) (hr : -2147483648 ≤ r ∧ r ≤ 2147483647) : Calls Tryz.prog 3 #[.int .i32 r] W fun e w' => e = .returned (.bool true) ∧ Below W.heap.size W w' :=
  FoldRunes_ok r hr W new_at (fun _ hb => opens (tab_move (spaceAt hW) hb)) (fun _ hb => live_at (tab_move (spaceAt hW) hb) (tab_move (firstAt hW) hb) (tab_move (acceptAt hW) hb))

/-! ### the card -/
set_option maxRecDepth 100000 in
theorem contract (H : Type) (enc : TypeId × Value → H) (W : World) (base : Nat) (args : Array Value) (ds gs : List (DataW H)) (before : List MemPlace)
    (hval : ∀ (j : Nat) t v, Tryz.f3.params[j]? = some t → args[j]? = some v → Value.okWide Tryz.prog W .any base t v)
    (hW : DataW.Whole enc Tryz.prog Tryz.f3.params.toList Rows.foldRunesSpec.vars false W args.toList ds gs before) (hL : laidMetH Tryz.prog Rows.foldRunesRow.laid W) :
    Calls Tryz.prog 3 args W fun e W' => ∃ v, e = .returned v ∧ Rows.foldRunesSpec.post enc Tryz.prog Tryz.f3 false true false false W args v W' := by
  have hW' := hW
  obtain ⟨p, q, hA0, hV, rfl, _, _⟩ := hW
  have hA : DataW.TrodAll enc Tryz.prog W 0 (fun _ => true) true Tryz.f3.params.toList args.toList ds p := hA0
  rw [Tryz.params3] at hA hval
  obtain ⟨v0, vs0, d0, ds0, p0, q0, hargs, rfl, rfl, h0, r0⟩ := trodAll_cons hA
  obtain ⟨rfl, rfl, rfl⟩ := trodAll_nil r0
  obtain rfl : args = #[v0] := by cases args; simp_all
  obtain ⟨rfl, rfl⟩ := trodVars_none hV
  obtain ⟨a, rfl, rfl, rfl, wa⟩ := open_int Tryz.underlying21 (hval 0 21 v0 rfl rfl) h0
  have hr : -2147483648 ≤ a ∧ a ≤ 2147483647 := by
    have := wa
    simp only [Lit.wf, Bool.and_eq_true, decide_eq_true_iff] at this
    exact this
  refine (walk hL a hr).mono fun e W' he => ?_
  obtain ⟨rfl, hb⟩ := he
  refine ⟨_, rfl, _, _, _, [], [], [], hW', ?_, ?_, ?_, hb.frame _, fun h => by cases h⟩
  · exact trodAll_cons_mk (shut_bool Tryz.underlying4 _) trodAll_mk0
  · exact trodAll_cons_mk (shut_int Tryz.underlying21 wa) trodAll_mk0
  · rfl
theorem reads (os : Os) {H : Type} (enc : TypeId × Value → H) : ∃ places, DataW.whole enc Tryz.prog ((laidWorld os).forCall (fun _ _ => 0) ⟨#[], #[.int .i32 0], []⟩).memory Tryz.f3.params.toList Rows.foldRunesSpec.vars false (#[.int .i32 0] : Array Value).toList 8 = some ([.lit (.int .i32 0)], [], places) :=
  ⟨[], by kernel_rfl⟩
set_option maxRecDepth 100000 in
theorem lifted (os : Os) (started : os.Started) (H : Type) (enc : TypeId × Value → H) (F : Stop.Interp) :
    ReturnsInHanded {} Tryz.checked os 3 .any ((OpenSpec.ofChange Rows.foldRunesSpec).preRow enc Tryz.prog Tryz.f3 Rows.foldRunesRow.domain false Rows.foldRunesRow.laid) (((OpenSpec.ofChange Rows.foldRunesSpec).at F).post enc Tryz.prog Tryz.f3 false true false false) := by
  obtain ⟨places, hx⟩ := reads os enc
  refine returnsInHanded_of_row (C := Tryz.checked) (s := OpenSpec.ofChange Rows.foldRunesSpec) own started (by kernel_rfl) Tryz.func3
    (witness_row_atRef (enc := enc) (C := Tryz.checked) false (laidWorld os) #[.int .i32 0] rfl (by kernel_rfl) (by kernel_rfl) (by kernel_rfl)
      (OpenSpec.preRow_of_cond 8 hx (by kernel_rfl) (fun k hk => by cases hk) (by kernel_rfl) (laid_met os))) ?_
  intro W base args ds gs before hval hW _ _ _ hL _ _
  exact contract H enc W base args ds gs before hval hW hL
theorem said : Rows.FoldRunesSaid :=
  OpenClaim.holds_of_cond 3 Tryz.f3 rfl rfl rfl rfl rfl rfl rfl ⟨rfl, rfl, rfl, rfl, rfl⟩ rfl rfl rfl rfl rfl (by kernel_rfl) Tryz.func3 (by kernel_rfl)
    (of_decide_eq_true (by kernel_rfl)) (by unfold Func.isWrapper; first | (rw [if_pos (by decide +kernel)]; kernel_rfl) | (rw [if_neg (by decide +kernel)]; exact ⟨rfl, rfl⟩))
    (fun os started H enc _ F => by rw [OpenClaim.pre_eq_preRow]; exact lifted os started H enc F)
theorem plain (f : FuncId) (fn : Func) (hf : Tryz.pinned.checked.prog.funcNamed "kerf/kerflaw19.FoldRunes" = some f) (hfn : Tryz.pinned.checked.prog.funcs[f]? = some fn) :
    true = Tryz.pinned.checked.prog.looks [] ∧ ∀ (j : Nat) t, fn.params[j]? = some t → Tryz.pinned.checked.prog.wantsStandIn t = false := by
  obtain rfl : f = 3 := Option.some.inj ((show Tryz.prog.funcNamed "kerf/kerflaw19.FoldRunes" = some 3 by kernel_rfl).symm.trans hf) |>.symm
  obtain rfl : fn = Tryz.f3 := (Option.some.inj (Tryz.func3.symm.trans hfn)).symm
  refine ⟨by kernel_rfl, fun j t ht => ?_⟩
  rw [Tryz.params3] at ht
  match j, ht with
  | 0, ht => obtain rfl := Option.some.inj ht; exact (show Tryz.prog.wantsStandIn 21 = false by kernel_rfl)
  | j + 1, ht => simp at ht
theorem card : Rows.FoldRunesCardSaid :=
  Claim7.holds_tied_plain_at .later [] _ _ _ _ said (fun _ h => by cases h) (by kernel_rfl) (fun _ h => by cases h) foldRunes_row_tie rfl ⟨rfl, rfl⟩ (by kernel_rfl) rfl plain (by kernel_rfl)
end Go.Proofs.YtakpgpibkfddgaaGreatDoor.foldRunes
