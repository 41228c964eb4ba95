/- SearchPieces returns true, whatever the text and the pieces, where what they hold is of bulk at most 1048576: a walk of the code (SA .. SE); live, which it asks at the end, by a closed run that is cut by calls whose results are known. -/
import Derived.Test.YtfmnninijakknaaGreatDoorCards
import Derived.Test.YtfmnninijakknaaGreatDoorTie
import Derived.Test.YtfmnninijakknaaGreatDoorTZ
import Derived.Test.YtfmnninijakknaaGreatDoorLaid
import Derived.Deep.DeepWitnessRowRef
import Derived.WalkKit
import Derived.ProofKit
import Derived.OpenShut
import Derived.Deep.DeepHandedRow
import Derived.Lib.LaidU8
import Derived.Deep.Strs
import Derived.ChangeMaps5
import Derived.Test.YtfmnninijakknaaGreatDoorSE
namespace Go.Proofs.YtfmnninijakknaaGreatDoor.searchPieces
open Go.ChangeShapes Go.WideShapes Go.ChangeAt Go.RowKit

theorem own : ownKnob Tryz.prog.godebug = none := by kernel_rfl
theorem isFn : (Am.fnOf Tryz.prog 5).isSome = true := by kernel_rfl
theorem noEntry : orcZ 5 .nil (Am.tabH tabsF) = none := by kernel_rfl
theorem ran : Am.chkR ((Am.run (Am.gOfO Tryz.prog ext orcZ) (Nat.succ 999)).call 5 .nil (Am.tabH tabsF)) = true := by kernel_rfl
theorem var_heap {W : World} {n : String} {x : Nat} {cs : Array Value} (hg : Tryz.prog.globalNamed n = some x) (hv : W.var? Tryz.prog n = some cs) : ∃ el fr, W.heap[x]? = some (.cells cs el fr) := by
  unfold World.var? at hv
  rw [hg] at hv
  simp only [Option.bind_some] at hv
  split at hv
  · rename_i c el fr h
    cases hv
    exact ⟨el, fr, h⟩
  · cases hv
theorem cU8 : Tryz.prog.cellsOf 5 = 1 := by kernel_rfl
theorem c256 : Tryz.prog.cellsOf 114 = 256 := by kernel_rfl
theorem firstG : Tryz.prog.globalNamed "unicode/utf8.first" = some 0 := by kernel_rfl
theorem firstY : (Tryz.prog.globals[0]?).map (·.type) = some 114 := by kernel_rfl
theorem firstEq : (Rows.laid_unicode_utf8_first : DataW Unit) = Lib.tabData .u8 (Go.Pinned.utf8FirstZ.map fun n => Int.ofNat n) := by
  show DataW.agg (Go.Pinned.numbers .u8 Go.Pinned.utf8FirstZ) = DataW.agg ((Go.Pinned.utf8FirstZ.map fun n => Int.ofNat n).map fun z => .lit (.int .u8 z))
  rw [List.map_map]
  rfl
theorem firstLen : firstL.length = 256 := by kernel_rfl
theorem firstAt {W : World} (h : laidMetH Tryz.prog Rows.searchPiecesRow.laid W) : Am.TabAt W 0 firstL := by
  obtain ⟨g, t, cs, fuel, p, hg, hty, hvar, hd⟩ := Lib.laidMet.reads (n := "unicode/utf8.first") (d := Rows.laid_unicode_utf8_first) h (.tail _ (.tail _ (.tail _ (.tail _ (.tail _ (.tail _ (.tail _ (.tail _ (.head _)))))))))
  obtain rfl := Option.some.inj (firstG.symm.trans hg)
  obtain rfl := Option.some.inj (firstY.symm.trans hty)
  have hcs := Lib.cells_of_tab (zs := Go.Pinned.utf8FirstZ.map fun n => Int.ofNat n) Tryz.underlying114 Tryz.underlying5 cU8 c256 (by rw [← firstEq]; exact hd)
  have hl : cs.toList = firstL := by rw [hcs, List.map_map]; rfl
  obtain ⟨el, fr, hh⟩ := var_heap firstG hvar
  refine ⟨cs, el, fr.1, fr.2, hh, by rw [← hl]; simp, fun i _ => ?_⟩
  rw [← hl, Array.getD_eq_getD_getElem?, List.getD_eq_getElem?_getD, Array.getElem?_toList]
theorem acceptG : Tryz.prog.globalNamed "unicode/utf8.acceptRanges" = some 1 := by kernel_rfl
theorem acceptY : (Tryz.prog.globals[1]?).map (·.type) = some 117 := by kernel_rfl
theorem cPair : Tryz.prog.cellsOf 116 = 2 := by kernel_rfl
theorem pair_cells {cs : List Value} {W : World} {base : Nat} {sp : Nat → Bool} {held : Bool} {fuel : Nat} {p : List MemPlace} {a b : Nat} (h : DataW.trod (fun _ => ()) Tryz.prog W base sp held fuel 116 cs = some (.agg [.lit (.int .u8 (Int.ofNat a)), .lit (.int .u8 (Int.ofNat b))], p)) :
    cs = [.int .u8 (Int.ofNat a), .int .u8 (Int.ofNat b)] := by
  exact Lib.ints_of_struct (zs := [Int.ofNat a, Int.ofNat b]) Tryz.underlying116 (fun i f hi => by
    match i, hi with
    | 0, hi => simp at hi; subst hi; exact ⟨Tryz.underlying5, rfl, cU8⟩
    | 1, hi => simp at hi; subst hi; exact ⟨Tryz.underlying5, rfl, cU8⟩
    | i + 2, hi => simp at hi) (by rw [cPair]; rfl) h
theorem acceptLen : acceptL.length = 32 := rfl
theorem acceptAt {W : World} (h : laidMetH Tryz.prog Rows.searchPiecesRow.laid W) : Am.TabAt W 1 acceptL := by
  obtain ⟨g, t, cs, fuel, p, hg, hty, hvar, hd⟩ := Lib.laidMet.reads (n := "unicode/utf8.acceptRanges") (d := Rows.laid_unicode_utf8_acceptRanges) h (.tail _ (.tail _ (.tail _ (.head _))))
  obtain rfl := Option.some.inj (acceptG.symm.trans hg)
  obtain rfl := Option.some.inj (acceptY.symm.trans hty)
  have key : ∀ j, j < 16 → (cs.toList.drop (j * 2)).take 2 = (acceptL.drop (j * 2)).take 2 := by
    intro j hj
    obtain ⟨f', d, q, hdi, he⟩ := Lib.array_elem Tryz.underlying117 hd j hj
    rw [cPair] at he
    match j, hj with
    | 0, _ => obtain rfl := Option.some.inj (show some (DataW.agg [.lit (.int .u8 (Int.ofNat 128)), .lit (.int .u8 (Int.ofNat 191))]) = some d from hdi); exact pair_cells he
    | 1, _ => obtain rfl := Option.some.inj (show some (DataW.agg [.lit (.int .u8 (Int.ofNat 160)), .lit (.int .u8 (Int.ofNat 191))]) = some d from hdi); exact pair_cells he
    | 2, _ => obtain rfl := Option.some.inj (show some (DataW.agg [.lit (.int .u8 (Int.ofNat 128)), .lit (.int .u8 (Int.ofNat 159))]) = some d from hdi); exact pair_cells he
    | 3, _ => obtain rfl := Option.some.inj (show some (DataW.agg [.lit (.int .u8 (Int.ofNat 144)), .lit (.int .u8 (Int.ofNat 191))]) = some d from hdi); exact pair_cells he
    | 4, _ => obtain rfl := Option.some.inj (show some (DataW.agg [.lit (.int .u8 (Int.ofNat 128)), .lit (.int .u8 (Int.ofNat 143))]) = some d from hdi); exact pair_cells he
    | 5, _ => obtain rfl := Option.some.inj (show some (DataW.agg [.lit (.int .u8 (Int.ofNat 0)), .lit (.int .u8 (Int.ofNat 0))]) = some d from hdi); exact pair_cells he
    | 6, _ => obtain rfl := Option.some.inj (show some (DataW.agg [.lit (.int .u8 (Int.ofNat 0)), .lit (.int .u8 (Int.ofNat 0))]) = some d from hdi); exact pair_cells he
    | 7, _ => obtain rfl := Option.some.inj (show some (DataW.agg [.lit (.int .u8 (Int.ofNat 0)), .lit (.int .u8 (Int.ofNat 0))]) = some d from hdi); exact pair_cells he
    | 8, _ => obtain rfl := Option.some.inj (show some (DataW.agg [.lit (.int .u8 (Int.ofNat 0)), .lit (.int .u8 (Int.ofNat 0))]) = some d from hdi); exact pair_cells he
    | 9, _ => obtain rfl := Option.some.inj (show some (DataW.agg [.lit (.int .u8 (Int.ofNat 0)), .lit (.int .u8 (Int.ofNat 0))]) = some d from hdi); exact pair_cells he
    | 10, _ => obtain rfl := Option.some.inj (show some (DataW.agg [.lit (.int .u8 (Int.ofNat 0)), .lit (.int .u8 (Int.ofNat 0))]) = some d from hdi); exact pair_cells he
    | 11, _ => obtain rfl := Option.some.inj (show some (DataW.agg [.lit (.int .u8 (Int.ofNat 0)), .lit (.int .u8 (Int.ofNat 0))]) = some d from hdi); exact pair_cells he
    | 12, _ => obtain rfl := Option.some.inj (show some (DataW.agg [.lit (.int .u8 (Int.ofNat 0)), .lit (.int .u8 (Int.ofNat 0))]) = some d from hdi); exact pair_cells he
    | 13, _ => obtain rfl := Option.some.inj (show some (DataW.agg [.lit (.int .u8 (Int.ofNat 0)), .lit (.int .u8 (Int.ofNat 0))]) = some d from hdi); exact pair_cells he
    | 14, _ => obtain rfl := Option.some.inj (show some (DataW.agg [.lit (.int .u8 (Int.ofNat 0)), .lit (.int .u8 (Int.ofNat 0))]) = some d from hdi); exact pair_cells he
    | 15, _ => obtain rfl := Option.some.inj (show some (DataW.agg [.lit (.int .u8 (Int.ofNat 0)), .lit (.int .u8 (Int.ofNat 0))]) = some d from hdi); exact pair_cells he
  have at_ : ∀ i, i < 32 → cs.toList[i]? = acceptL[i]? := by
    intro i hi
    have h := congrArg (fun l : List Value => l[i % 2]?) (key (i / 2) (by omega))
    have h2 : i % 2 < 2 := by omega
    have h3 : i / 2 * 2 + i % 2 = i := by omega
    simp only [List.getElem?_take, List.getElem?_drop, h2, if_true, h3] at h
    exact h
  have hlen : acceptL.length = 32 := rfl
  have hsz : 32 ≤ cs.size := by
    have h := at_ 31 (by omega)
    rcases Nat.lt_or_ge 31 cs.toList.length with c | c
    · rw [Array.length_toList] at c; omega
    · rw [List.getElem?_eq_none c] at h; cases h
  obtain ⟨el, fr, hh⟩ := var_heap acceptG hvar
  refine ⟨cs, el, fr.1, fr.2, hh, by rw [hlen]; exact hsz, fun i hi => ?_⟩
  rw [hlen] at hi
  rw [Array.getD_eq_getD_getElem?, List.getD_eq_getElem?_getD, ← Array.getElem?_toList, at_ i hi]
theorem spaceG : Tryz.prog.globalNamed "strings.asciiSpace" = some 2 := by kernel_rfl
theorem spaceY : (Tryz.prog.globals[2]?).map (·.type) = some 114 := by kernel_rfl
theorem spaceEq : (Rows.laid_strings_asciiSpace : DataW Unit) = Lib.tabData .u8 (spaceZ.map fun n => Int.ofNat n) := by kernel_rfl
theorem spaceLen : spaceL.length = 256 := by kernel_rfl
theorem spaceAt {W : World} (h : laidMetH Tryz.prog Rows.searchPiecesRow.laid W) : Am.TabAt W 2 spaceL := by
  obtain ⟨g, t, cs, fuel, p, hg, hty, hvar, hd⟩ := Lib.laidMet.reads (n := "strings.asciiSpace") (d := Rows.laid_strings_asciiSpace) h (.tail _ (.tail _ (.tail _ (.tail _ (.tail _ (.tail _ (.tail _ (.head _))))))))
  obtain rfl := Option.some.inj (spaceG.symm.trans hg)
  obtain rfl := Option.some.inj (spaceY.symm.trans hty)
  have hcs := Lib.cells_of_tab (zs := spaceZ.map fun n => Int.ofNat n) Tryz.underlying114 Tryz.underlying5 cU8 c256 (by rw [← spaceEq]; exact hd)
  have hl : cs.toList = spaceL := by rw [hcs, List.map_map]; rfl
  obtain ⟨el, fr, hh⟩ := var_heap spaceG hvar
  refine ⟨cs, el, fr.1, fr.2, hh, by rw [← hl]; simp, fun i _ => ?_⟩
  rw [← hl, Array.getD_eq_getD_getElem?, List.getD_eq_getElem?_getD, Array.getElem?_toList]
theorem live_at {W : World} (h0 : Am.TabAt W 0 firstL) (h1 : Am.TabAt W 1 acceptL) (h2 : Am.TabAt W 2 spaceL) : Calls Tryz.prog 5 #[] W fun e w' => e = .returned (.bool true) ∧ Below W.heap.size W w' :=
  Am.run_trueO (vs := #[]) mixed progOk (extOk _) orcZOk isFn noEntry ran (fun p hp => by
    rcases List.mem_cons.1 hp with rfl | hp
    · exact ⟨by show 0 < 64; omega, by show firstL.length ≤ 4000000; rw [firstLen]; omega, h0⟩
    rcases List.mem_cons.1 hp with rfl | hp
    · exact ⟨by show 1 < 64; omega, by show acceptL.length ≤ 4000000; rw [acceptLen]; omega, h1⟩
    rcases List.mem_cons.1 hp with rfl | hp
    · exact ⟨by show 2 < 64; omega, by show spaceL.length ≤ 4000000; rw [spaceLen]; omega, h2⟩
    cases hp) rfl
theorem tab_move {W W' : World} {x : Nat} {l : List Value} (h : Am.TabAt W x l) (hx : W'.heap[x]? = W.heap[x]?) : Am.TabAt W' x l := by
  obtain ⟨arr, el, lo, hi, hh, r⟩ := h
  exact ⟨arr, el, lo, hi, hx.trans hh, r⟩
theorem tab_cell {W : World} {x i : Nat} {l : List Value} {v : Value} (h : Am.TabAt W x l) (hv : l[i]? = some v) : W.cell? ⟨x, i, none⟩ = some v := by
  obtain ⟨arr, el, lo, hi, hh, hsz, hget⟩ := h
  have hi' : i < l.length := (List.getElem?_eq_some_iff.1 hv).1
  have hg := hget i hi'
  rw [cell_of_row W x i arr el (lo, hi) hh]
  rw [List.getD_eq_getElem?_getD, hv, Array.getD_eq_getD_getElem?, Array.getElem?_eq_getElem (by omega)] at hg
  rw [Array.getElem?_eq_getElem (by omega)]
  simpa using hg
theorem firstIs : firstL = (List.range 256).map fun c => Value.int .u8 (Lib.firstT c) := by kernel_rfl
theorem acceptIs : acceptL = (List.range 16).flatMap fun i => [Value.int .u8 (Lib.accLo i), Value.int .u8 (Lib.accHi i)] := by kernel_rfl
theorem accept_get : ∀ i, i < 16 → acceptL[2 * i]? = some (.int .u8 (Lib.accLo i)) ∧ acceptL[2 * i + 1]? = some (.int .u8 (Lib.accHi i)) := by
  rw [acceptIs]
  intro i hi
  match i, hi with
  | 0, _ => exact ⟨rfl, rfl⟩
  | 1, _ => exact ⟨rfl, rfl⟩
  | 2, _ => exact ⟨rfl, rfl⟩
  | 3, _ => exact ⟨rfl, rfl⟩
  | 4, _ => exact ⟨rfl, rfl⟩
  | 5, _ => exact ⟨rfl, rfl⟩
  | 6, _ => exact ⟨rfl, rfl⟩
  | 7, _ => exact ⟨rfl, rfl⟩
  | 8, _ => exact ⟨rfl, rfl⟩
  | 9, _ => exact ⟨rfl, rfl⟩
  | 10, _ => exact ⟨rfl, rfl⟩
  | 11, _ => exact ⟨rfl, rfl⟩
  | 12, _ => exact ⟨rfl, rfl⟩
  | 13, _ => exact ⟨rfl, rfl⟩
  | 14, _ => exact ⟨rfl, rfl⟩
  | 15, _ => exact ⟨rfl, rfl⟩
  | n + 16, h => exact absurd h (by omega)
theorem tabs_at {W : World} (h0 : Am.TabAt W 0 firstL) (h1 : Am.TabAt W 1 acceptL) : Lib.Utf8Tabs 0 1 W :=
  ⟨fun c hc => tab_cell h0 (by rw [firstIs, List.getElem?_map, List.getElem?_range hc]; rfl), fun i hi => ⟨tab_cell h1 (accept_get i hi).1, tab_cell h1 (accept_get i hi).2⟩⟩
/-- for every text and every pieces -/
theorem walk {W : World} (hW : laidMetH Tryz.prog Rows.searchPiecesRow.laid W) (t : List UInt8) (LA : Option Addr) (n c : Nat) (ps : List (List UInt8)) (hL : Strs W LA n ps) (hn : n ≤ 1048576) (hsz : ∀ p ∈ ps, p.length ≤ 1048576) :
    Calls Tryz.prog 3 #[.string ⟨t.toArray⟩, .slice LA n c] W (LawPost W) := by
  have h0 := firstAt hW
  have h1 := acceptAt hW
  have h2 := spaceAt hW
  have hsize : 3 ≤ W.heap.size := by
    obtain ⟨arr, el, lo, hi, hh, _⟩ := h2
    exact heap_lt hh
  have hlive : Live W := fun w' hk => live_at (tab_move h0 (hk 0 (by omega))) (tab_move h1 (hk 1 (by omega))) (tab_move h2 (hk 2 (by omega)))
  have hT := tabs_at h0 h1
  obtain ⟨q, hq⟩ : ∃ q, decide (80 < n ∨ 48 < tots ps) = q := ⟨_, rfl⟩
  have hlong := long_l LA n c ps W hL (by omega) (fun p hp => by have := hsz p hp; omega) q hq
  cases q with
  | true => exact law_long t LA n c W hlong hlive
  | false =>
    rw [decide_eq_false_iff_not] at hq
    by_cases htl : 40 < t.length
    · exact law_wide t LA n c W hlong hlive htl
    · cases t with
      | nil => exact law_empty LA n c W hlong hlive
      | cons a r =>
        refine law_main (a :: r) LA n c ps W hlong hlive hL (by omega) ?_ (by simp) (by omega) hT hsize
        have e : ps.take 81 = ps := List.take_of_length_le (by rw [hL.1]; omega)
        have h48 : ¬ 48 < tots ps := fun h => hq (.inr h)
        unfold tots at h48
        rw [e] at h48
        omega

/-! ### what the bound gives -/
theorem one_le {H : Type} (d : DataW H) : 1 ≤ Rows.uptoBulk d := by
  cases d with
  | lit l => cases l <;> simp [Rows.uptoBulk]
  | _ => simp [Rows.uptoBulk]
theorem part_le {H : Type} {d : DataW H} {l : List (DataW H)} (h : d ∈ l) : Rows.uptoBulk d ≤ Rows.uptoBulkAll l := by
  induction l with
  | nil => cases h
  | cons x r ih =>
    simp only [Rows.uptoBulkAll]
    rcases List.mem_cons.1 h with e | e
    · subst e; omega
    · have := ih e; omega
theorem length_le {H : Type} (l : List (DataW H)) : l.length ≤ Rows.uptoBulkAll l := by
  induction l with
  | nil => simp [Rows.uptoBulkAll]
  | cons x r ih => have := one_le x; simp only [Rows.uptoBulkAll, List.length_cons]; omega
theorem strs_bound {H : Type} {d0 : DataW H} {l : List (List UInt8)} {spare : List (DataW H)} (hk : Rows.uptoSmall H [d0, .slice (l.map fun p => .lit (.string p)) spare] = true) : l.length ≤ 1048576 ∧ ∀ p ∈ l, p.length ≤ 1048576 := by
  have h1 : Rows.uptoBulkAll [d0, .slice (l.map fun p => .lit (.string p)) spare] ≤ 1048576 := by simpa [Rows.uptoSmall] using hk
  have h2 : Rows.uptoBulkAll (l.map fun p => (DataW.lit (.string p) : DataW H)) ≤ 1048576 := by
    simp only [Rows.uptoBulkAll, Rows.uptoBulk] at h1
    omega
  refine ⟨?_, fun p hp => ?_⟩
  · have := length_le (l.map fun p => (DataW.lit (.string p) : DataW H))
    rw [List.length_map] at this
    omega
  · have := part_le (List.mem_map_of_mem (f := fun p => (DataW.lit (.string p) : DataW H)) hp)
    simp only [Rows.uptoBulk] at this
    omega

/-! ### the card -/
theorem data_back (s : ByteArray) : (⟨s.data.toList.toArray⟩ : ByteArray) = s := by
  cases s
  simp
theorem cells9 : Tryz.prog.cellsOf 9 = 1 := by kernel_rfl
set_option maxRecDepth 100000 in
theorem contract (H : Type) (enc : TypeId × Value → H) (W : World) (base : Nat) (args : Array Value) (ds gs : List (DataW H)) (before : List MemPlace)
    (hval : ∀ (j : Nat) t v, Tryz.f3.params[j]? = some t → args[j]? = some v → Value.okWide Tryz.prog W .any base t v)
    (hW : DataW.Whole enc Tryz.prog Tryz.f3.params.toList Rows.searchPiecesSpec.vars false W args.toList ds gs before) (hL : laidMetH Tryz.prog Rows.searchPiecesRow.laid W) (hk : Rows.uptoSmall H (ds ++ gs) = true) :
    Calls Tryz.prog 3 args W fun e W' => ∃ v, e = .returned v ∧ Rows.searchPiecesSpec.post enc Tryz.prog Tryz.f3 false true false false W args v W' := by
  have hW' := hW
  obtain ⟨p, q, hA0, hV, rfl, _, _⟩ := hW
  have hA : DataW.TrodAll enc Tryz.prog W 0 (fun _ => true) true Tryz.f3.params.toList args.toList ds p := hA0
  rw [Tryz.params3] at hA hval
  obtain ⟨v0, vs0, d0, ds0, p0, q0, hargs, rfl, rfl, h0, r0⟩ := trodAll_cons hA
  obtain ⟨v1, vs1, d1, ds1, p1, q1, rfl, rfl, rfl, h1, r1⟩ := trodAll_cons r0
  obtain ⟨rfl, rfl, rfl⟩ := trodAll_nil r1
  obtain rfl : args = #[v0, v1] := by cases args; simp_all
  obtain ⟨rfl, rfl⟩ := trodVars_none hV
  clear hA0 hA r0 r1 hargs
  obtain ⟨s0, rfl, rfl, rfl, hs0⟩ := ChangeMaps.open_string Tryz.underlying9 (hval 0 9 v0 rfl rfl) h0
  obtain ⟨a0, len, cap, rfl⟩ := okWide_slice Tryz.underlying22 (hval 1 22 v1 rfl rfl)
  obtain ⟨fuel, hf⟩ := h1
  have post : ∀ (e : Ending) (W' : World) (pa : List MemPlace), LawPost W e W' → pa = p1 → (∃ n, DataW.trod enc Tryz.prog W' 0 (fun b => decide (b < W.heap.size)) true n 22 [.slice a0 len cap] = some (d1, pa)) →
      ∃ v, e = .returned v ∧ Rows.searchPiecesSpec.post enc Tryz.prog Tryz.f3 false true false false W #[.string s0, .slice a0 len cap] v W' := by
    rintro e W' pa ⟨rfl, hb⟩ rfl hn
    refine ⟨_, rfl, _, _, _, [], [] ++ (pa ++ []), [], hW', ?_, ?_, ?_, hb.frame _, fun h => by cases h⟩
    · exact trodAll_cons_mk (shut_bool Tryz.underlying4 _) trodAll_mk0
    · exact trodAll_cons_mk (ChangeMaps.shut_string Tryz.underlying9 hs0) (trodAll_cons_mk hn trodAll_mk0)
    · rfl
  rcases Deep.open_strs Tryz.underlying22 Tryz.underlying9 cells9 hf with ⟨hcs, hx⟩ | ⟨a, len', cap', m, Sx, hcs, hab, hl, hm, hmm, hx, hcell⟩
  · simp [Value.cells] at hcs
    obtain ⟨rfl, rfl, rfl⟩ := hcs
    simp only [Prod.mk.injEq] at hx
    obtain ⟨rfl, rfl⟩ := hx
    have hw := walk hL s0.data.toList none 0 0 [] ⟨rfl, fun h => absurd h (by omega)⟩ (by omega) (fun p hp => by cases hp)
    rw [data_back] at hw
    exact hw.mono fun e W' he => post e W' [] he rfl (shut_slice_nil Tryz.underlying22)
  simp [Value.cells] at hcs
  obtain ⟨rfl, rfl, rfl⟩ := hcs
  simp only [Prod.mk.injEq] at hx
  obtain ⟨rfl, rfl⟩ := hx
  simp only [if_true] at hmm
  have hmm' : cap = m := hmm.symm
  subst hmm'
  obtain ⟨ps, hps⟩ : ∃ ps, (List.range len).map (fun i => (Sx i).data.toList) = ps := ⟨_, rfl⟩
  have hpl : ps.length = len := by rw [← hps]; simp
  have hbd : ps.length ≤ 1048576 ∧ ∀ p ∈ ps, p.length ≤ 1048576 := by
    refine strs_bound (H := H) (d0 := .lit (.string s0.data.toList)) (spare := (List.range (cap - len)).map fun j => .lit (.string (Sx (len + j)).data.toList)) ?_
    rw [← hps, List.map_map]
    exact hk
  have hstr : Strs W (some a) len ps := by
    refine ⟨hpl, fun h => ?_⟩
    obtain ⟨b, off, spot⟩ := a
    have c0 := (hcell 0 (by omega)).1
    have hsp : spot = none := by
      cases spot with
      | none => rfl
      | some z =>
        have : (⟨b, off, some z⟩ : Addr).add 0 = ⟨b, off, some z⟩ := by unfold Addr.add; simp
        rw [this] at c0
        unfold World.cell? at c0
        split at c0 <;> simp at c0
    subst hsp
    refine ⟨b, off, rfl, fun j p hp => ?_⟩
    have hj : j < len := by
      have := (List.getElem?_eq_some_iff.1 hp).1
      omega
    have cj := (hcell j (by omega)).1
    rw [add_none] at cj
    rw [cj]
    rw [← hps, List.getElem?_map, List.getElem?_range hj] at hp
    obtain rfl := Option.some.inj hp
    rw [data_back]
  have hw := walk hL s0.data.toList (some a) len cap ps hstr (by rw [← hpl]; exact hbd.1) hbd.2
  rw [data_back] at hw
  have hlt : ∀ i, i < cap → (a.add i).block < W.heap.size := fun i hi => World.block_lt_of_cell? W _ (hcell i hi).1
  refine hw.mono fun e W' he => post e W' _ he rfl ?_
  have hb := he.2
  by_cases hc0 : cap = 0
  · subst hc0
    have hl0 : len = 0 := by omega
    subst hl0
    cases hsp : decide (a.block < W.heap.size) with
    | true =>
      have := Deep.shut_slice_whole_cells (enc := enc) (P := Tryz.prog) (w := W') (base := 0) (spare := fun b => decide (b < W.heap.size)) (held := true) (t := 22) (e := 9) (a := a) (len := 0) (cap := 0) Tryz.underlying22 (Nat.zero_le _) (Nat.le_refl _) (Nat.zero_le _) hsp (fun i => .lit (.string (Sx i).data.toList)) (fun _ => []) (fun i hi => absurd hi (by omega))
      simpa using this
    | false =>
      have := Deep.shut_slice_cells (enc := enc) (P := Tryz.prog) (w := W') (base := 0) (spare := fun b => decide (b < W.heap.size)) (held := true) (t := 22) (e := 9) (a := a) (len := 0) (cap := 0) Tryz.underlying22 (Nat.zero_le _) (Nat.le_refl _) (Nat.zero_le _) hsp (fun i => .lit (.string (Sx i).data.toList)) (fun _ => []) (fun i hi => absurd hi (by omega))
      simpa using this
  · have hblk : ∀ i, (a.add i).block = a.block := fun i => by unfold Addr.add; split <;> rfl
    have hsp : decide (a.block < W.heap.size) = true := by
      rw [decide_eq_true_iff, ← hblk 0]
      exact hlt 0 (by omega)
    have := Deep.shut_slice_whole_cells (enc := enc) (P := Tryz.prog) (w := W') (base := 0) (spare := fun b => decide (b < W.heap.size)) (held := true) (t := 22) (e := 9) (a := a) (len := len) (cap := cap) Tryz.underlying22 (Nat.zero_le _) hl hm hsp (fun i => .lit (.string (Sx i).data.toList)) (fun _ => []) (fun i hi => by
      obtain ⟨n, hn⟩ := Deep.shut_string_cell (enc := enc) (P := Tryz.prog) (w := W') (base := 0) (spare := fun b => decide (b < W.heap.size)) (held := true) (e := 9) (s := Sx i) Tryz.underlying9 (hcell i hi).2
      refine ⟨[.string (Sx i)], n, ?_, hn⟩
      rw [cells9, Nat.mul_one]
      exact cells?_one (Nat.zero_le _) ((hb.cell (hlt i hi)).trans (hcell i hi).1))
    rw [cells9, Nat.mul_one, Deep.flatMap_nils, List.append_nil] at this
    exact this
theorem reads (os : Os) {H : Type} (enc : TypeId × Value → H) : ∃ places, DataW.whole enc Tryz.prog ((laidWorld os).forCall (fun _ _ => 0) ⟨#[], #[.string ⟨#[]⟩, .slice none 0 0], []⟩).memory Tryz.f3.params.toList Rows.searchPiecesSpec.vars false (#[.string ⟨#[]⟩, .slice none 0 0] : Array Value).toList 8 = some ([.lit (.string []), .nil], [], places) :=
  ⟨[], by kernel_rfl⟩
set_option maxRecDepth 100000 in
theorem lifted (os : Os) (started : os.Started) (H : Type) (enc : TypeId × Value → H) (F : Stop.Interp) :
    ReturnsInHanded {} Tryz.checked os 3 .any ((Rows.OpenSpec.upto Rows.searchPiecesSpec).preRow enc Tryz.prog Tryz.f3 Rows.searchPiecesUptoRow.domain false Rows.searchPiecesUptoRow.laid) (((Rows.OpenSpec.upto Rows.searchPiecesSpec).at F).post enc Tryz.prog Tryz.f3 false true false false) := by
  obtain ⟨places, hx⟩ := reads os enc
  refine returnsInHanded_of_row (C := Tryz.checked) (s := Rows.OpenSpec.upto Rows.searchPiecesSpec) own started (by kernel_rfl) Tryz.func3
    (witness_row_atRef (enc := enc) (C := Tryz.checked) false (laidWorld os) #[.string ⟨#[]⟩, .slice none 0 0] rfl (by kernel_rfl) (by kernel_rfl) (by kernel_rfl)
      (OpenSpec.preRow_of_cond 8 hx (by kernel_rfl) (fun k hk => by cases hk; kernel_rfl) (by kernel_rfl) (laid_met os))) ?_
  intro W base args ds gs before hval hW _ x2 _ hL _ _
  exact contract H enc W base args ds gs before hval hW hL (x2 _ rfl)
theorem said : Rows.SearchPiecesUptoSaid :=
  OpenClaim.holds_of_cond 3 Tryz.f3 rfl rfl rfl rfl rfl rfl rfl ⟨rfl, rfl, rfl, rfl, rfl⟩ rfl rfl rfl rfl rfl (by kernel_rfl) Tryz.func3 (by kernel_rfl)
    (of_decide_eq_true (by kernel_rfl)) (by unfold Func.isWrapper; first | (rw [if_pos (by decide +kernel)]; kernel_rfl) | (rw [if_neg (by decide +kernel)]; exact ⟨rfl, rfl⟩))
    (fun os started H enc _ F => by rw [OpenClaim.pre_eq_preRow]; exact lifted os started H enc F)
theorem plain (f : FuncId) (fn : Func) (hf : Tryz.pinned.checked.prog.funcNamed "kerf/kerflaw22.SearchPieces" = some f) (hfn : Tryz.pinned.checked.prog.funcs[f]? = some fn) :
    true = Tryz.pinned.checked.prog.looks [] ∧ ∀ (j : Nat) t, fn.params[j]? = some t → Tryz.pinned.checked.prog.wantsStandIn t = false := by
  obtain rfl : f = 3 := Option.some.inj ((show Tryz.prog.funcNamed "kerf/kerflaw22.SearchPieces" = some 3 by kernel_rfl).symm.trans hf) |>.symm
  obtain rfl : fn = Tryz.f3 := (Option.some.inj (Tryz.func3.symm.trans hfn)).symm
  refine ⟨by kernel_rfl, fun j t ht => ?_⟩
  rw [Tryz.params3] at ht
  match j, ht with
  | 0, ht => obtain rfl := Option.some.inj ht; exact (show Tryz.prog.wantsStandIn 9 = false by kernel_rfl)
  | 1, ht => obtain rfl := Option.some.inj ht; exact (show Tryz.prog.wantsStandIn 22 = false by kernel_rfl)
  | j + 2, ht => simp at ht
theorem card : Rows.SearchPiecesUptoCardSaid :=
  Claim7.holds_tied_plain_at .later [] _ _ _ _ said (fun _ h => by cases h) (by kernel_rfl) (fun _ h => by cases h) searchPiecesUpto_row_tie rfl ⟨rfl, rfl⟩ (by kernel_rfl) rfl plain (by kernel_rfl)
end Go.Proofs.YtfmnninijakknaaGreatDoor.searchPieces
