/- SearchLeft returns true, whatever the texts and the way of looking: a walk of its code (FB to GD) over the book of letters and the classes of letters and words, whose making (RO, RN, RG), and live, are closed runs that are cut by calls whose results are known. -/
import Derived.Test.YtmpkgddioiaonaaGreatDoorCards
import Derived.Test.YtmpkgddioiaonaaGreatDoorTie
import Derived.Test.YtmpkgddioiaonaaGreatDoorTZ
import Derived.Test.YtmpkgddioiaonaaGreatDoorRO
import Derived.Test.YtmpkgddioiaonaaGreatDoorRN
import Derived.Test.YtmpkgddioiaonaaGreatDoorRG
import Derived.Test.YtmpkgddioiaonaaGreatDoorJF
import Derived.Test.YtmpkgddioiaonaaGreatDoorLaid
import Derived.Deep.DeepWitnessRowRef
import Derived.WalkKit
import Derived.ProofKit
import Derived.OpenShut
import Derived.Deep.DeepHandedRow
import Derived.Lib.LaidU8
import Derived.ChangeMaps5
import Derived.Lib.SmallJoins
namespace Go.Proofs.YtmpkgddioiaonaaGreatDoor.searchLeft
open Go.ChangeShapes Go.WideShapes Go.ChangeAt Go.RowKit

theorem own : ownKnob Tryz.prog.godebug = none := by kernel_rfl
theorem isFn : (Am.fnOf Tryz.prog 4).isSome = true := by kernel_rfl
theorem noEntry : orcZ 4 .nil (Am.tabH tabsF) = none := by kernel_rfl
set_option maxRecDepth 1000000 in
theorem ran : Am.chkR ((Am.run (Am.gOfO Tryz.prog ext orcZ) (Nat.succ 3999)).call 4 .nil (Am.tabH tabsF)) = true := by kernel_rfl
theorem var_heap {W : World} {n : String} {x : Nat} {cs : Array Value} (hg : Tryz.prog.globalNamed n = some x) (hv : W.var? Tryz.prog n = some cs) : ∃ el fr, W.heap[x]? = some (.cells cs el fr) := by
 unfold World.var? at hv
 rw [hg] at hv
 simp only [Option.bind_some] at hv
 split at hv
 ·rename_i c el fr h
  cases hv
  exact ⟨el, fr, h⟩
 ·cases hv
theorem cU8 : Tryz.prog.cellsOf 5 = 1 := by kernel_rfl
theorem c256 : Tryz.prog.cellsOf 118 = 256 := by kernel_rfl
theorem spaceG : Tryz.prog.globalNamed "strings.asciiSpace" = some 0 := by kernel_rfl
theorem spaceY : (Tryz.prog.globals[0]?).map (·.type) = some 118 := by kernel_rfl
theorem spaceEq : (Rows.laid_strings_asciiSpace : DataW Unit) = Lib.tabData .u8 (spaceZ.map fun n => Int.ofNat n) := by kernel_rfl
theorem spaceLen : spaceL.length = 256 := by kernel_rfl
theorem spaceAt {W : World} (h : laidMetH Tryz.prog Rows.searchLeftRow.laid W) : Am.TabAt W 0 spaceL := by
 obtain ⟨g, t, cs, fuel, p, hg, hty, hvar, hd⟩ := Lib.laidMet.reads (n := "strings.asciiSpace") (d := Rows.laid_strings_asciiSpace) h (.tail _ (.tail _ (.tail _ (.tail _ (.tail _ (.tail _ (.tail _ (.head _))))))))
 obtain rfl := Option.some.inj (spaceG.symm.trans hg)
 obtain rfl := Option.some.inj (spaceY.symm.trans hty)
 have hcs := Lib.cells_of_tab (zs := spaceZ.map fun n => Int.ofNat n) Tryz.underlying118 Tryz.underlying5 cU8 c256 (by rw [← spaceEq]; exact hd)
 have hl : cs.toList = spaceL := by rw [hcs, List.map_map]; rfl
 obtain ⟨el, fr, hh⟩ := var_heap spaceG hvar
 refine ⟨cs, el, fr.1, fr.2, hh, by rw [← hl]; simp, fun i _ => ?_⟩
 rw [← hl, Array.getD_eq_getD_getElem?, List.getD_eq_getElem?_getD, Array.getElem?_toList]
theorem firstG : Tryz.prog.globalNamed "unicode/utf8.first" = some 1 := by kernel_rfl
theorem firstY : (Tryz.prog.globals[1]?).map (·.type) = some 118 := by kernel_rfl
theorem firstEq : (Rows.laid_unicode_utf8_first : DataW Unit) = Lib.tabData .u8 (Go.Pinned.utf8FirstZ.map fun n => Int.ofNat n) := by
 show DataW.agg (Go.Pinned.numbers .u8 Go.Pinned.utf8FirstZ) = DataW.agg ((Go.Pinned.utf8FirstZ.map fun n => Int.ofNat n).map fun z => .lit (.int .u8 z))
 rw [List.map_map]
 rfl
theorem firstLen : firstL.length = 256 := by kernel_rfl
theorem firstAt {W : World} (h : laidMetH Tryz.prog Rows.searchLeftRow.laid W) : Am.TabAt W 1 firstL := by
 obtain ⟨g, t, cs, fuel, p, hg, hty, hvar, hd⟩ := Lib.laidMet.reads (n := "unicode/utf8.first") (d := Rows.laid_unicode_utf8_first) h (.tail _ (.tail _ (.tail _ (.tail _ (.tail _ (.tail _ (.tail _ (.tail _ (.head _)))))))))
 obtain rfl := Option.some.inj (firstG.symm.trans hg)
 obtain rfl := Option.some.inj (firstY.symm.trans hty)
 have hcs := Lib.cells_of_tab (zs := Go.Pinned.utf8FirstZ.map fun n => Int.ofNat n) Tryz.underlying118 Tryz.underlying5 cU8 c256 (by rw [← firstEq]; exact hd)
 have hl : cs.toList = firstL := by rw [hcs, List.map_map]; rfl
 obtain ⟨el, fr, hh⟩ := var_heap firstG hvar
 refine ⟨cs, el, fr.1, fr.2, hh, by rw [← hl]; simp, fun i _ => ?_⟩
 rw [← hl, Array.getD_eq_getD_getElem?, List.getD_eq_getElem?_getD, Array.getElem?_toList]
theorem acceptG : Tryz.prog.globalNamed "unicode/utf8.acceptRanges" = some 2 := by kernel_rfl
theorem acceptY : (Tryz.prog.globals[2]?).map (·.type) = some 140 := by kernel_rfl
theorem cPair : Tryz.prog.cellsOf 139 = 2 := by kernel_rfl
theorem pair_cells {cs : List Value} {W : World} {base : Nat} {sp : Nat → Bool} {held : Bool} {fuel : Nat} {p : List MemPlace} {a b : Nat} (h : DataW.trod (fun _ => ()) Tryz.prog W base sp held fuel 139 cs = some (.agg [.lit (.int .u8 (Int.ofNat a)), .lit (.int .u8 (Int.ofNat b))], p)) :
 cs = [.int .u8 (Int.ofNat a), .int .u8 (Int.ofNat b)] := by
 exact Lib.ints_of_struct (zs := [Int.ofNat a, Int.ofNat b]) Tryz.underlying139 (fun i f hi => by
  match i, hi with
  | 0, hi => simp at hi; subst hi; exact ⟨Tryz.underlying5, rfl, cU8⟩
  | 1, hi => simp at hi; subst hi; exact ⟨Tryz.underlying5, rfl, cU8⟩
  | i + 2, hi => simp at hi) (by rw [cPair]; rfl) h
theorem acceptLen : acceptL.length = 32 := rfl
theorem acceptAt {W : World} (h : laidMetH Tryz.prog Rows.searchLeftRow.laid W) : Am.TabAt W 2 acceptL := by
 obtain ⟨g, t, cs, fuel, p, hg, hty, hvar, hd⟩ := Lib.laidMet.reads (n := "unicode/utf8.acceptRanges") (d := Rows.laid_unicode_utf8_acceptRanges) h (.tail _ (.tail _ (.tail _ (.head _))))
 obtain rfl := Option.some.inj (acceptG.symm.trans hg)
 obtain rfl := Option.some.inj (acceptY.symm.trans hty)
 have key : ∀ j, j < 16 → (cs.toList.drop (j * 2)).take 2 = (acceptL.drop (j * 2)).take 2 := by
  intro j hj
  obtain ⟨f', d, q, hdi, he⟩ := Lib.array_elem Tryz.underlying140 hd j hj
  rw [cPair] at he
  match j, hj with
  | 0, _ => obtain rfl := Option.some.inj (show some (DataW.agg [.lit (.int .u8 (Int.ofNat 128)), .lit (.int .u8 (Int.ofNat 191))]) = some d from hdi); exact pair_cells he
  | 1, _ => obtain rfl := Option.some.inj (show some (DataW.agg [.lit (.int .u8 (Int.ofNat 160)), .lit (.int .u8 (Int.ofNat 191))]) = some d from hdi); exact pair_cells he
  | 2, _ => obtain rfl := Option.some.inj (show some (DataW.agg [.lit (.int .u8 (Int.ofNat 128)), .lit (.int .u8 (Int.ofNat 159))]) = some d from hdi); exact pair_cells he
  | 3, _ => obtain rfl := Option.some.inj (show some (DataW.agg [.lit (.int .u8 (Int.ofNat 144)), .lit (.int .u8 (Int.ofNat 191))]) = some d from hdi); exact pair_cells he
  | 4, _ => obtain rfl := Option.some.inj (show some (DataW.agg [.lit (.int .u8 (Int.ofNat 128)), .lit (.int .u8 (Int.ofNat 143))]) = some d from hdi); exact pair_cells he
  | 5, _ => obtain rfl := Option.some.inj (show some (DataW.agg [.lit (.int .u8 (Int.ofNat 0)), .lit (.int .u8 (Int.ofNat 0))]) = some d from hdi); exact pair_cells he
  | 6, _ => obtain rfl := Option.some.inj (show some (DataW.agg [.lit (.int .u8 (Int.ofNat 0)), .lit (.int .u8 (Int.ofNat 0))]) = some d from hdi); exact pair_cells he
  | 7, _ => obtain rfl := Option.some.inj (show some (DataW.agg [.lit (.int .u8 (Int.ofNat 0)), .lit (.int .u8 (Int.ofNat 0))]) = some d from hdi); exact pair_cells he
  | 8, _ => obtain rfl := Option.some.inj (show some (DataW.agg [.lit (.int .u8 (Int.ofNat 0)), .lit (.int .u8 (Int.ofNat 0))]) = some d from hdi); exact pair_cells he
  | 9, _ => obtain rfl := Option.some.inj (show some (DataW.agg [.lit (.int .u8 (Int.ofNat 0)), .lit (.int .u8 (Int.ofNat 0))]) = some d from hdi); exact pair_cells he
  | 10, _ => obtain rfl := Option.some.inj (show some (DataW.agg [.lit (.int .u8 (Int.ofNat 0)), .lit (.int .u8 (Int.ofNat 0))]) = some d from hdi); exact pair_cells he
  | 11, _ => obtain rfl := Option.some.inj (show some (DataW.agg [.lit (.int .u8 (Int.ofNat 0)), .lit (.int .u8 (Int.ofNat 0))]) = some d from hdi); exact pair_cells he
  | 12, _ => obtain rfl := Option.some.inj (show some (DataW.agg [.lit (.int .u8 (Int.ofNat 0)), .lit (.int .u8 (Int.ofNat 0))]) = some d from hdi); exact pair_cells he
  | 13, _ => obtain rfl := Option.some.inj (show some (DataW.agg [.lit (.int .u8 (Int.ofNat 0)), .lit (.int .u8 (Int.ofNat 0))]) = some d from hdi); exact pair_cells he
  | 14, _ => obtain rfl := Option.some.inj (show some (DataW.agg [.lit (.int .u8 (Int.ofNat 0)), .lit (.int .u8 (Int.ofNat 0))]) = some d from hdi); exact pair_cells he
  | 15, _ => obtain rfl := Option.some.inj (show some (DataW.agg [.lit (.int .u8 (Int.ofNat 0)), .lit (.int .u8 (Int.ofNat 0))]) = some d from hdi); exact pair_cells he
 have at_ : ∀ i, i < 32 → cs.toList[i]? = acceptL[i]? := by
  intro i hi
  have h := congrArg (fun l : List Value => l[i % 2]?) (key (i / 2) (by omega))
  have h2 : i % 2 < 2 := by omega
  have h3 : i / 2 * 2 + i % 2 = i := by omega
  simp only [List.getElem?_take, List.getElem?_drop, h2, if_true, h3] at h
  exact h
 have hlen : acceptL.length = 32 := rfl
 have hsz : 32 ≤ cs.size := by
  have h := at_ 31 (by omega)
  rcases Nat.lt_or_ge 31 cs.toList.length with c | c
  ·rw [Array.length_toList] at c; omega
  ·rw [List.getElem?_eq_none c] at h; cases h
 obtain ⟨el, fr, hh⟩ := var_heap acceptG hvar
 refine ⟨cs, el, fr.1, fr.2, hh, by rw [hlen]; exact hsz, fun i hi => ?_⟩
 rw [hlen] at hi
 rw [Array.getD_eq_getD_getElem?, List.getD_eq_getElem?_getD, ← Array.getElem?_toList, at_ i hi]
theorem find_size : Tryz.prog.cellsOf 23 = 3 := by kernel_rfl
section
variable {H : Type} {enc : TypeId × Value → H} {w : World} {base : Nat} {spare : Nat → Bool} {held : Bool}
theorem one_bool {fuel : Nat} {v : Value} {y : DataW H × List MemPlace} (h : DataW.trod enc Tryz.prog w base spare held fuel 4 [v] = some y) : ∃ b : Bool, v = .bool b ∧ y = (.lit (.bool b), []) := by
 obtain ⟨b, e, hx⟩ := DataW.trod_bool Tryz.underlying4 h
 simp at e
 exact ⟨b, e, hx⟩
set_option maxRecDepth 100000 in
theorem open_find {r : Reach} {b0 : Nat} {v : Value} {d : DataW H} {p : List MemPlace} (hv : Value.okWide Tryz.prog w r b0 23 v) (h : DataW.Trod enc Tryz.prog w base spare held 23 v d p) :
 ∃ a b c : Bool, v = .agg #[.bool a, .bool b, .bool c] ∧ d = .agg [.lit (.bool a), .lit (.bool b), .lit (.bool c)] ∧ p = [] := by
 obtain ⟨v0, v1, v2, y0, y1, y2, n, rfl, rfl, rfl, h0, h1, h2⟩ := Joins.open_agg3 Tryz.underlying23 (by kernel_rfl) find_size hv h
 obtain ⟨a, rfl, rfl⟩ := one_bool h0
 obtain ⟨b, rfl, rfl⟩ := one_bool h1
 obtain ⟨c, rfl, rfl⟩ := one_bool h2
 exact ⟨a, b, c, rfl, rfl, rfl⟩
theorem bool_one (b : Bool) : ∃ n, DataW.trod enc Tryz.prog w base spare held n 4 [.bool b] = some (.lit (.bool b), []) := by
 obtain ⟨n, h⟩ := shut_bool (enc := enc) (P := Tryz.prog) (w := w) (base := base) (spare := spare) (held := held) Tryz.underlying4 b
 exact ⟨n, by simpa [Value.cells] using h⟩
set_option maxRecDepth 100000 in
theorem shut_find (a b c : Bool) : DataW.Trod enc Tryz.prog w base spare held 23 (.agg #[.bool a, .bool b, .bool c]) (.agg [.lit (.bool a), .lit (.bool b), .lit (.bool c)]) [] :=
 Joins.shut_agg3 Tryz.underlying23 (by kernel_rfl) find_size (bool_one a) (bool_one b) (bool_one c)
end
theorem live_at {W : World} (h0 : Am.TabAt W 0 spaceL) (h3 : Am.TabAt W 1 firstL) (h4 : Am.TabAt W 2 acceptL) : Lives W :=
 Am.run_trueO (vs := #[]) mixed progOk (extOk _) orcZOk isFn noEntry ran (fun p hp => by
  rcases List.mem_cons.1 hp with rfl | hp
  ·exact ⟨by show 0 < 64; omega, by show spaceL.length ≤ 4000000; rw [spaceLen]; omega, h0⟩
  rcases List.mem_cons.1 hp with rfl | hp
  ·exact ⟨by show 1 < 64; omega, by show firstL.length ≤ 4000000; rw [firstLen]; omega, h3⟩
  rcases List.mem_cons.1 hp with rfl | hp
  ·exact ⟨by show 2 < 64; omega, by show acceptL.length ≤ 4000000; rw [acceptLen]; omega, h4⟩
  cases hp) rfl
theorem opens {W : World} (h0 : Am.TabAt W 0 spaceL) : OpensP W := open_at fun p hp => by
 rcases List.mem_cons.1 hp with rfl | hp
 ·exact ⟨by show 0 < 64; omega, by show spaceL.length ≤ 4000000; rw [spaceLen]; omega, h0⟩
 cases hp
theorem tab_move {W W' : World} {x : Nat} {l : List Value} (h : Am.TabAt W x l) (hb : Below W.heap.size W W') : Am.TabAt W' x l := by
 obtain ⟨arr, el, lo, hi, hh, r⟩ := h
 exact ⟨arr, el, lo, hi, (hb.block x (Array.getElem?_eq_some_iff.1 hh).1).trans hh, r⟩
theorem tab_cell {W : World} {x i : Nat} {l : List Value} {v : Value} (h : Am.TabAt W x l) (hv : l[i]? = some v) : W.cell? ⟨x, i, none⟩ = some v := by
 obtain ⟨arr, el, lo, hi, hh, hsz, hget⟩ := h
 have hi' : i < l.length := (List.getElem?_eq_some_iff.1 hv).1
 have hg := hget i hi'
 rw [cell_of_row W x i arr el (lo, hi) hh]
 rw [List.getD_eq_getElem?_getD, hv, Array.getD_eq_getD_getElem?, Array.getElem?_eq_getElem (by omega)] at hg
 rw [Array.getElem?_eq_getElem (by omega)]
 simpa using hg
theorem firstIs : firstL = (List.range 256).map fun c => Value.int .u8 (Lib.firstT c) := by kernel_rfl
theorem acceptIs : acceptL = (List.range 16).flatMap fun i => [Value.int .u8 (Lib.accLo i), Value.int .u8 (Lib.accHi i)] := by kernel_rfl
theorem accept_get : ∀ i, i < 16 → acceptL[2 * i]? = some (.int .u8 (Lib.accLo i)) ∧ acceptL[2 * i + 1]? = some (.int .u8 (Lib.accHi i)) := by
 rw [acceptIs]
 intro i hi
 match i, hi with
 | 0, _ => exact ⟨rfl, rfl⟩
 | 1, _ => exact ⟨rfl, rfl⟩
 | 2, _ => exact ⟨rfl, rfl⟩
 | 3, _ => exact ⟨rfl, rfl⟩
 | 4, _ => exact ⟨rfl, rfl⟩
 | 5, _ => exact ⟨rfl, rfl⟩
 | 6, _ => exact ⟨rfl, rfl⟩
 | 7, _ => exact ⟨rfl, rfl⟩
 | 8, _ => exact ⟨rfl, rfl⟩
 | 9, _ => exact ⟨rfl, rfl⟩
 | 10, _ => exact ⟨rfl, rfl⟩
 | 11, _ => exact ⟨rfl, rfl⟩
 | 12, _ => exact ⟨rfl, rfl⟩
 | 13, _ => exact ⟨rfl, rfl⟩
 | 14, _ => exact ⟨rfl, rfl⟩
 | 15, _ => exact ⟨rfl, rfl⟩
 | n + 16, h => exact absurd h (by omega)
theorem tabs_at {W : World} (h0 : Am.TabAt W 1 firstL) (h1 : Am.TabAt W 2 acceptL) : Lib.Utf8Tabs 1 2 W :=
 ⟨fun c hc => tab_cell h0 (by rw [firstIs, List.getElem?_map, List.getElem?_range hc]; rfl), fun i hi => ⟨tab_cell h1 (accept_get i hi).1, tab_cell h1 (accept_get i hi).2⟩⟩
/-- for all strings -/
theorem walk {W : World} (hW : laidMetH Tryz.prog Rows.searchLeftRow.laid W) (s t : ByteArray) (a b c : Bool) : Calls Tryz.prog 3 #[.string s, .string t, .agg #[.bool a, .bool b, .bool c]] W (LawPost W) :=
 SearchLeft_ok s t a b c W ⟨tabs_at (firstAt hW) (acceptAt hW), fun _ hb => opens (tab_move (spaceAt hW) hb), fun w _ => newg_at w, fun w _ => new_at w⟩ (fun _ hb => live_at (tab_move (spaceAt hW) hb) (tab_move (firstAt hW) hb) (tab_move (acceptAt hW) hb))

/-! ### the card -/
set_option maxRecDepth 100000 in
theorem contract (H : Type) (enc : TypeId × Value → H) (W : World) (base : Nat) (args : Array Value) (ds gs : List (DataW H)) (before : List MemPlace)
 (hval : ∀ (j : Nat) t v, Tryz.f3.params[j]? = some t → args[j]? = some v → Value.okWide Tryz.prog W .any base t v)
 (hW : DataW.Whole enc Tryz.prog Tryz.f3.params.toList Rows.searchLeftSpec.vars false W args.toList ds gs before) (hL : laidMetH Tryz.prog Rows.searchLeftRow.laid W) :
 Calls Tryz.prog 3 args W fun e W' => ∃ v, e = .returned v ∧ Rows.searchLeftSpec.post enc Tryz.prog Tryz.f3 false true false false W args v W' := by
 have hW' := hW
 obtain ⟨p, q, hA0, hV, rfl, _, _⟩ := hW
 have hA : DataW.TrodAll enc Tryz.prog W 0 (fun _ => true) true Tryz.f3.params.toList args.toList ds p := hA0
 rw [Tryz.params3] at hA hval
 obtain ⟨v0, vs0, d0, ds0, p0, q0, hargs, rfl, rfl, h0, r0⟩ := trodAll_cons hA
 obtain ⟨v1, vs1, d1, ds1, p1, q1, rfl, rfl, rfl, h1, r1⟩ := trodAll_cons r0
 obtain ⟨v2, vs2, d2, ds2, p2, q2, rfl, rfl, rfl, h2, r2⟩ := trodAll_cons r1
 obtain ⟨rfl, rfl, rfl⟩ := trodAll_nil r2
 obtain rfl : args = #[v0, v1, v2] := by cases args; simp_all
 obtain ⟨rfl, rfl⟩ := trodVars_none hV
 obtain ⟨s0, rfl, rfl, rfl, hs0⟩ := ChangeMaps.open_string Tryz.underlying9 (hval 0 9 v0 rfl rfl) h0
 obtain ⟨s1, rfl, rfl, rfl, hs1⟩ := ChangeMaps.open_string Tryz.underlying9 (hval 1 9 v1 rfl rfl) h1
 obtain ⟨a, b, c, rfl, rfl, rfl⟩ := open_find (hval 2 23 v2 rfl rfl) h2
 refine (walk hL s0 s1 a b c).mono fun e W' he => ?_
 obtain ⟨rfl, hb⟩ := he
 refine ⟨_, rfl, _, _, _, [], [], [], hW', ?_, ?_, ?_, hb.frame _, fun h => by cases h⟩
 ·exact trodAll_cons_mk (shut_bool Tryz.underlying4 _) trodAll_mk0
 ·exact (trodAll_cons_mk (ChangeMaps.shut_string Tryz.underlying9 hs0) (trodAll_cons_mk (ChangeMaps.shut_string Tryz.underlying9 hs1) (trodAll_cons_mk (shut_find a b c) trodAll_mk0)))
 ·rfl
theorem reads (os : Os) {H : Type} (enc : TypeId × Value → H) : ∃ places, DataW.whole enc Tryz.prog ((laidWorld os).forCall (fun _ _ => 0) ⟨#[], #[.string ⟨#[]⟩, .string ⟨#[]⟩, .agg #[.bool false, .bool false, .bool false]], []⟩).memory Tryz.f3.params.toList Rows.searchLeftSpec.vars false (#[.string ⟨#[]⟩, .string ⟨#[]⟩, .agg #[.bool false, .bool false, .bool false]] : Array Value).toList 8 = some ([.lit (.string []), .lit (.string []), .agg [.lit (.bool false), .lit (.bool false), .lit (.bool false)]], [], places) :=
 ⟨[], by kernel_rfl⟩
set_option maxRecDepth 100000 in
theorem lifted (os : Os) (started : os.Started) (H : Type) (enc : TypeId × Value → H) (F : Stop.Interp) :
 ReturnsInHanded {} Tryz.checked os 3 .any ((OpenSpec.ofChange Rows.searchLeftSpec).preRow enc Tryz.prog Tryz.f3 Rows.searchLeftRow.domain false Rows.searchLeftRow.laid) (((OpenSpec.ofChange Rows.searchLeftSpec).at F).post enc Tryz.prog Tryz.f3 false true false false) := by
 obtain ⟨places, hx⟩ := reads os enc
 refine returnsInHanded_of_row (C := Tryz.checked) (s := OpenSpec.ofChange Rows.searchLeftSpec) own started (by kernel_rfl) Tryz.func3
  (witness_row_atRef (enc := enc) (C := Tryz.checked) false (laidWorld os) #[.string ⟨#[]⟩, .string ⟨#[]⟩, .agg #[.bool false, .bool false, .bool false]] rfl (by kernel_rfl) (by kernel_rfl) (by kernel_rfl)
   (OpenSpec.preRow_of_cond 8 hx (by kernel_rfl) (fun k hk => by cases hk) (by kernel_rfl) (laid_met os))) ?_
 intro W base args ds gs before hval hW _ _ _ hL _ _
 exact contract H enc W base args ds gs before hval hW hL
theorem said : Rows.SearchLeftSaid :=
 OpenClaim.holds_of_cond 3 Tryz.f3 rfl rfl rfl rfl rfl rfl rfl ⟨rfl, rfl, rfl, rfl, rfl⟩ rfl rfl rfl rfl rfl (by kernel_rfl) Tryz.func3 joined
  (of_decide_eq_true (by kernel_rfl)) (by unfold Func.isWrapper; first | (rw [if_pos (by decide +kernel)]; kernel_rfl) | (rw [if_neg (by decide +kernel)]; exact ⟨rfl, rfl⟩))
  (fun os started H enc _ F => by rw [OpenClaim.pre_eq_preRow]; exact lifted os started H enc F)
theorem plain (f : FuncId) (fn : Func) (hf : Tryz.pinned.checked.prog.funcNamed "kerf/kerflaw22.SearchLeft" = some f) (hfn : Tryz.pinned.checked.prog.funcs[f]? = some fn) :
 true = Tryz.pinned.checked.prog.looks [] ∧ ∀ (j : Nat) t, fn.params[j]? = some t → Tryz.pinned.checked.prog.wantsStandIn t = false := by
 obtain rfl : f = 3 := Option.some.inj ((show Tryz.prog.funcNamed "kerf/kerflaw22.SearchLeft" = some 3 by kernel_rfl).symm.trans hf) |>.symm
 obtain rfl : fn = Tryz.f3 := (Option.some.inj (Tryz.func3.symm.trans hfn)).symm
 refine ⟨by kernel_rfl, fun j t ht => ?_⟩
 rw [Tryz.params3] at ht
 match j, ht with
 | 0, ht => obtain rfl := Option.some.inj ht; exact (show Tryz.prog.wantsStandIn 9 = false by kernel_rfl)
 | 1, ht => obtain rfl := Option.some.inj ht; exact (show Tryz.prog.wantsStandIn 9 = false by kernel_rfl)
 | 2, ht => obtain rfl := Option.some.inj ht; exact (show Tryz.prog.wantsStandIn 23 = false by kernel_rfl)
 | j + 3, ht => simp at ht
theorem card : Rows.SearchLeftCardSaid :=
 Claim7.holds_tied_plain_at .later [] _ _ _ _ said (fun _ h => by cases h) (by kernel_rfl) (fun _ h => by cases h) searchLeft_row_tie rfl ⟨rfl, rfl⟩ (by kernel_rfl) rfl plain (by kernel_rfl)
end Go.Proofs.YtmpkgddioiaonaaGreatDoor.searchLeft
