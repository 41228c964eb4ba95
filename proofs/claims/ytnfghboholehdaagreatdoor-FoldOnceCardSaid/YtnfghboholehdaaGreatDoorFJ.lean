/- FoldOnce, walked: word's back, of, on, regions, cut. -/
import Derived.Test.YtnfghboholehdaaGreatDoorFI
import Derived.Test.YtnfghboholehdaaGreatDoorFB
import Derived.IntWalk
import Derived.BigQuiet
import Derived.Deep.DeepCutAuto
namespace Go.Proofs.YtnfghboholehdaaGreatDoor.foldOnce
section
open Go.Shelf Go.RowKit Go.Lib Go.Proofs.YtnfghboholehdaaGreatDoor.Am
/-- a text's classes, in memory -/
structure ClsAt (w : World) (g o n : Nat) (cls : List Int) : Prop where
  len : cls.length = n
  small : n ≤ 100000
  blk : g < w.heap.size
  cell : ∀ j, j < n → w.cell? ⟨g, o + j, none⟩ = some (.int .i64 (cls.getD j 0))
theorem ClsAt.below {w w' : World} {g o n : Nat} {cls : List Int} (h : ClsAt w g o n cls) {B : Nat} (hB : g < B) (hb : Below B w w') : ClsAt w' g o n cls :=
  ⟨h.len, h.small, Nat.lt_of_lt_of_le h.blk hb.size, fun j hj => by rw [hb.cell (p := ⟨g, o + j, none⟩) hB]; exact h.cell j hj⟩
theorem ClsAt.alloc {w : World} {g o n : Nat} {cls : List Int} (h : ClsAt w g o n cls) (x : Obj) : ClsAt (w.alloc x) g o n cls := h.below h.blk ((Below.refl _ w).alloc (Nat.le_refl _) x)
/-- the number of the last rune ahead of one that hangs on nothing -/
def wbackN (cls : List Int) : Nat → Int
  | 0 => -1
  | k + 1 => if hangsF (cls.getD k 0) then wbackN cls k else k
def wbackF (cls : List Int) (i : Int) : Int := if 0 ≤ i then wbackN cls i.toNat else i - 1
theorem wbackN_lt (cls : List Int) : ∀ k, -1 ≤ wbackN cls k ∧ wbackN cls k < k
  | 0 => ⟨Int.le_refl _, by show (-1 : Int) < 0; decide⟩
  | k + 1 => by
    have := wbackN_lt cls k
    show -1 ≤ (if hangsF (cls.getD k 0) then wbackN cls k else (k : Int)) ∧ (if hangsF (cls.getD k 0) then wbackN cls k else (k : Int)) < ((k + 1 : Nat) : Int)
    split <;> omega
def wofF (cls : List Int) (i : Int) : Int := if i < 0 ∨ (cls.length : Int) ≤ i then -1 else cls.getD i.toNat 0
def skipN (cls : List Int) : Nat → Nat → Nat
  | 0, i => i
  | f + 1, i => if i < cls.length ∧ hangsF (cls.getD i 0) = true then skipN cls f (i + 1) else i
def wonF (cls : List Int) (i : Nat) : Int := wofF cls (skipN cls (cls.length - i) (i + 1))
def IPost (x : Int) (W : World) (e : Ending) (w' : World) : Prop := e = .returned (.int .i64 x) ∧ Below W.heap.size W w'
set_option maxRecDepth 100000 in
theorem back_at (cls : List Int) (A1 : Option Addr) (n1 c1 g o n c : Nat) (L : Int) (i : Nat) (W : World) (h : ClsAt W g o n cls) (hi : i ≤ n) :
    Calls Tryz.prog 98 #[.agg #[.slice A1 n1 c1, .slice (some ⟨g, o, none⟩) n c, .int .i64 L], .int .i64 i] W (IPost (wbackN cls i) W) := by
  have hgl := h.blk; have hsm := h.small
  have HC := Lib.hid h; clear h
  obtain ⟨i1, hi1⟩ : ∃ i1 : Int, (i : Int) - 1 = i1 := ⟨_, rfl⟩
  have hwi : wrap64 ((i : Int) - 1) = i1 := by unfold wrap64; omega
  go_enter Tryz.func98, Tryz.ntmps98
  go_wp2
  clear hwi
  go_loopw [1] (fun vi wr => ∃ k : Nat, k ≤ i ∧ vi = .int .i64 ((k : Int) - 1) ∧ wbackN cls k = wbackN cls i ∧ wr = W.alloc (.cells #[.slice A1 n1 c1, .slice (some ⟨g, o, none⟩) n c, .int .i64 L] 97)) (fun vi _ => (RowKit.intOf vi + 1).toNat)
  case atStart => exact ⟨i, Nat.le_refl _, by rw [hi1], rfl, rfl⟩
  case round =>
    obtain ⟨k, hk, rfl, hbk, rfl⟩ := hrel
    have HB := Lib.hid hbk; clear hbk
    cases k with
    | zero =>
      go_wp2
      go_ret
      exact ⟨by rw [← HB.out]; rfl, (Below.refl _ W).alloc (Nat.le_refl _) _⟩
    | succ j =>
      have hcell := HC.out.cell j (by omega)
      obtain ⟨x, hx⟩ : ∃ x, cls.getD j 0 = x := ⟨_, rfl⟩
      rw [hx] at hcell
      have HX := Lib.hid hx; clear hx
      have he : (((j + 1 : Nat) : Int) - 1) = (j : Int) := by omega
      rw [he]
      have hwj : wrap64 ((j : Int) - 1) = (j : Int) - 1 := by unfold wrap64; omega
      have hj2 : j < n := by omega
      cases hh : hangsF x with
      | true =>
        go_wp2_with (go_at_call 97; refine (hangs_ok _ _).mono ?_; rintro e w1 ⟨rfl, rfl⟩; rw [hh])
        refine ⟨⟨j, by omega, by first | rfl | (congr 1; omega), ?_, by first | rfl | trivial⟩, by simp [RowKit.intOf] <;> omega⟩
        rw [← HB.out]
        show _ = if hangsF (cls.getD j 0) then _ else _
        rw [HX.out, hh]
        rfl
      | false =>
        go_wp2_with (go_at_call 97; refine (hangs_ok _ _).mono ?_; rintro e w1 ⟨rfl, rfl⟩; rw [hh])
        go_ret
        refine ⟨?_, (Below.refl _ W).alloc (Nat.le_refl _) _⟩
        rw [← HB.out]
        show _ = Ending.returned (.int .i64 (if hangsF (cls.getD j 0) then _ else _))
        rw [HX.out, hh]
        rfl
set_option maxRecDepth 100000 in
theorem back_neg (A1 : Option Addr) (n1 c1 g o n c : Nat) (L i : Int) (W : World) (hi : i < 0) (hi2 : -100 < i) :
    Calls Tryz.prog 98 #[.agg #[.slice A1 n1 c1, .slice (some ⟨g, o, none⟩) n c, .int .i64 L], .int .i64 i] W (IPost (i - 1) W) := by
  obtain ⟨x, hx⟩ : ∃ x : Int, i - 1 = x := ⟨_, rfl⟩
  have hwi : wrap64 (i - 1) = x := by unfold wrap64; omega
  rw [hx]
  have hx0 : ¬ 0 ≤ x := by omega
  go_enter Tryz.func98, Tryz.ntmps98
  go_wp2
  clear hwi
  go_loopw [1] (fun vi wr => vi = .int .i64 x ∧ Below W.heap.size W wr) (fun _ _ => 0)
  case atStart => exact ⟨by first | rfl | (congr 1; omega), (Below.refl _ W).alloc (Nat.le_refl _) _⟩
  case round =>
    obtain ⟨rfl, hb⟩ := hrel
    go_wp2
    go_ret
    exact ⟨rfl, hb⟩
theorem back_ok (cls : List Int) (A1 : Option Addr) (n1 c1 g o n c : Nat) (L i : Int) (W : World) (h : ClsAt W g o n cls) (hi : i ≤ n) (hi2 : -100 < i) :
    Calls Tryz.prog 98 #[.agg #[.slice A1 n1 c1, .slice (some ⟨g, o, none⟩) n c, .int .i64 L], .int .i64 i] W (IPost (wbackF cls i) W) := by
  unfold wbackF
  split
  · rename_i h0
    obtain ⟨k, rfl⟩ := Int.eq_ofNat_of_zero_le h0
    exact back_at cls A1 n1 c1 g o n c L k W h (by omega)
  · exact back_neg A1 n1 c1 g o n c L i W (by omega) hi2
set_option maxRecDepth 100000 in
theorem of_ok (cls : List Int) (A1 : Option Addr) (n1 c1 g o n c : Nat) (L i : Int) (W : World) (h : ClsAt W g o n cls) :
    Calls Tryz.prog 100 #[.agg #[.slice A1 n1 c1, .slice (some ⟨g, o, none⟩) n c, .int .i64 L], .int .i64 i] W (IPost (wofF cls i) W) := by
  have hgl := h.blk; have hsm := h.small
  unfold wofF
  rw [h.len]
  by_cases h0 : i < 0
  · rw [if_pos (.inl h0)]
    clear h
    go_enter Tryz.func100, Tryz.ntmps100
    go_wp2
    go_ret
    exact ⟨rfl, (Below.refl _ W).alloc (Nat.le_refl _) _⟩
  · obtain ⟨k, rfl⟩ := Int.eq_ofNat_of_zero_le (Int.not_lt.1 h0)
    by_cases h1 : (n : Int) ≤ (k : Int)
    · rw [if_pos (.inr h1)]
      clear h h0
      have h2 : ¬ k < n := by omega
      go_enter Tryz.func100, Tryz.ntmps100
      go_wp2
      go_ret
      exact ⟨rfl, (Below.refl _ W).alloc (Nat.le_refl _) _⟩
    · rw [if_neg (by omega), Int.toNat_natCast]
      have hcell := h.cell k (by omega)
      have h2 : k < n := by omega
      have h3 : ¬ n ≤ k := by omega
      obtain ⟨x, hx⟩ : ∃ x, cls.getD k 0 = x := ⟨_, rfl⟩
      rw [hx] at hcell ⊢
      clear h h0 hx
      go_enter Tryz.func100, Tryz.ntmps100
      go_wp2
      go_ret
      exact ⟨rfl, (Below.refl _ W).alloc (Nat.le_refl _) _⟩
set_option maxRecDepth 100000 in
theorem on_ok (cls : List Int) (A1 : Option Addr) (n1 c1 g o n c : Nat) (L : Int) (i : Nat) (W : World) (h : ClsAt W g o n cls) (hi : i < n) :
    Calls Tryz.prog 101 #[.agg #[.slice A1 n1 c1, .slice (some ⟨g, o, none⟩) n c, .int .i64 L], .int .i64 i] W (IPost (wonF cls i) W) := by
  have hgl := h.blk; have hsm := h.small
  have HC := Lib.hid h; clear h
  obtain ⟨i1, hi1⟩ : ∃ i1 : Nat, i + 1 = i1 := ⟨_, rfl⟩
  have hwi : wrap64 ((i : Int) + 1) = (i1 : Int) := by unfold wrap64; omega
  obtain ⟨r, hr⟩ : ∃ r, wonF cls i = r := ⟨_, rfl⟩
  rw [hr]
  have HR := Lib.hid (show wofF cls (skipN cls (n - i) i1) = r by rw [← hr, ← hi1, ← HC.out.len]; rfl)
  clear hr
  go_enter Tryz.func101, Tryz.ntmps101
  go_wp2
  clear hwi
  go_loopw [1] (fun vi wr => ∃ k f : Nat, k ≤ n ∧ n < k + f + 1 ∧ vi = .int .i64 (k : Int) ∧ wofF cls (skipN cls f k) = r ∧ wr = W.alloc (.cells #[.slice A1 n1 c1, .slice (some ⟨g, o, none⟩) n c, .int .i64 L] 97)) (fun vi _ => n - (RowKit.intOf vi).toNat)
  case atStart => exact ⟨i1, n - i, by omega, by omega, by first | rfl | (congr 1; omega), HR.out, rfl⟩
  case round =>
    obtain ⟨k, f, hk, hf, rfl, hbk, rfl⟩ := hrel
    have HB := Lib.hid hbk; clear hbk
    by_cases hlt : k < n
    · have hcell := HC.out.cell k hlt
      obtain ⟨f, rfl⟩ : ∃ f', f = f' + 1 := ⟨f - 1, by omega⟩
      obtain ⟨x, hx⟩ : ∃ x, cls.getD k 0 = x := ⟨_, rfl⟩
      rw [hx] at hcell
      have HX := Lib.hid hx; clear hx
      obtain ⟨k1, hk1⟩ : ∃ k1 : Nat, k + 1 = k1 := ⟨_, rfl⟩
      have hwj : wrap64 ((k : Int) + 1) = (k1 : Int) := by unfold wrap64; omega
      cases hh : hangsF x with
      | true =>
        go_wp2_with (go_at_call 97; refine (hangs_ok _ _).mono ?_; rintro e w1 ⟨rfl, rfl⟩; rw [hh])
        refine ⟨⟨k1, f, by omega, by omega, by first | rfl | (congr 1; omega), ?_, by first | rfl | trivial⟩, by simp [RowKit.intOf] <;> omega⟩
        rw [← HB.out]
        show _ = wofF cls ((if k < cls.length ∧ hangsF (cls.getD k 0) = true then skipN cls f (k + 1) else k : Nat) : Int)
        rw [HX.out, HC.out.len, if_pos ⟨hlt, hh⟩, hk1]
      | false =>
        have HQ := Lib.hid (show wofF cls k = r by
          rw [← HB.out]
          show _ = wofF cls ((if k < cls.length ∧ hangsF (cls.getD k 0) = true then skipN cls f (k + 1) else k : Nat) : Int)
          rw [HX.out, if_neg (fun h => by rw [hh] at h; exact Bool.false_ne_true h.2)])
        go_wp2_with (first
          | (go_at_call 97; refine (hangs_ok _ _).mono ?_; rintro e w1 ⟨rfl, rfl⟩; rw [hh])
          | (go_at_call 100; refine (of_ok cls _ _ _ _ _ _ _ _ _ _ (HC.out.alloc _)).mono ?_; rintro e w1 ⟨rfl, hb⟩; have HB1 := Lib.hid hb; clear hb; rw [HQ.out]))
        go_ret
        exact ⟨rfl, ((Below.refl _ W).alloc (Nat.le_refl _) _).trans (HB1.out.mono (by simp))⟩
    · obtain rfl : k = n := by omega
      have HQ := Lib.hid (show wofF cls k = r by
          rw [← HB.out]
          cases f with
          | zero => rfl
          | succ f =>
            show _ = wofF cls ((if k < cls.length ∧ hangsF (cls.getD k 0) = true then skipN cls f (k + 1) else k : Nat) : Int)
            rw [if_neg (fun h => by have := HC.out.len; omega)])
      go_wp2_with (go_at_call 100; refine (of_ok cls _ _ _ _ _ _ _ _ _ _ (HC.out.alloc _)).mono ?_; rintro e w1 ⟨rfl, hb⟩; have HB1 := Lib.hid hb; clear hb; rw [HQ.out])
      go_ret
      exact ⟨rfl, ((Below.refl _ W).alloc (Nat.le_refl _) _).trans (HB1.out.mono (by simp))⟩
/-- a later world: the box of the text stands -/
structure CW (W : World) (A1 : Option Addr) (n1 c1 g o n c : Nat) (L : Int) (w : World) : Prop where
  bel : Below W.heap.size W w
  b0 : w.cell? ⟨W.heap.size, 0, none⟩ = some (.slice A1 n1 c1)
  b1 : w.cell? ⟨W.heap.size, 1, none⟩ = some (.slice (some ⟨g, o, none⟩) n c)
  b2 : w.cell? ⟨W.heap.size, 2, none⟩ = some (.int .i64 L)
theorem CW.size {W : World} {A1 : Option Addr} {n1 c1 g o n c : Nat} {L : Int} {w : World} (h : CW W A1 n1 c1 g o n c L w) : W.heap.size < w.heap.size := cell_lt h.b0
theorem CW.go {W : World} {A1 : Option Addr} {n1 c1 g o n c : Nat} {L : Int} {w w' : World} (h : CW W A1 n1 c1 g o n c L w) (hb : Below w.heap.size w w') : CW W A1 n1 c1 g o n c L w' :=
  ⟨h.bel.trans (hb.mono h.bel.size), by rw [hb.cell h.size]; exact h.b0, by rw [hb.cell h.size]; exact h.b1, by rw [hb.cell h.size]; exact h.b2⟩
theorem CW.drewN {W : World} {A1 : Option Addr} {n1 c1 g o n c : Nat} {L : Int} {w : World} (h : CW W A1 n1 c1 g o n c L w) (q : Nat) : CW W A1 n1 c1 g o n c L (w.drewN q) :=
  ⟨⟨h.bel.os, h.bel.tape, h.bel.output, h.bel.size, h.bel.block⟩, h.b0, h.b1, h.b2⟩
theorem CW.new (W : World) (A1 : Option Addr) (n1 c1 g o n c : Nat) (L : Int) (ty : TypeId) : CW W A1 n1 c1 g o n c L (W.alloc (.cells #[.slice A1 n1 c1, .slice (some ⟨g, o, none⟩) n c, .int .i64 L] ty)) := by
  refine ⟨(Below.refl _ W).alloc (Nat.le_refl _) _, ?_, ?_, ?_⟩
  all_goals rw [cell_of_row _ _ _ _ _ _ (heap_alloc_new W _)]; rfl
def SomeInt (W : World) (e : Ending) (w' : World) : Prop := ∃ x : Int, e = .returned (.int .i64 x) ∧ Below W.heap.size W w'
set_option maxRecDepth 100000 in
theorem regions_ok (cls : List Int) (A1 : Option Addr) (n1 c1 g o n c : Nat) (L : Int) (i : Nat) (W : World) (h : ClsAt W g o n cls) (hi : i < n) :
    Calls Tryz.prog 102 #[.agg #[.slice A1 n1 c1, .slice (some ⟨g, o, none⟩) n c, .int .i64 L], .int .i64 i] W (SomeInt W) := by
  have hgl := h.blk; have hsm := h.small
  have HCL := Lib.hid (fun (w : World) (hb : Below W.heap.size W w) => h.below hgl hb); clear h
  have HBF := Lib.hid (fun k : Nat => show wbackF cls k = wbackN cls k by unfold wbackF; rw [if_pos (Int.natCast_nonneg k)]; rfl)
  obtain ⟨x0, hx0⟩ : ∃ x0, wbackF cls i = x0 := ⟨_, rfl⟩
  have hx1 : -1 ≤ x0 ∧ x0 < i := by rw [← hx0, HBF.out i]; exact wbackN_lt cls i
  obtain ⟨hx1, hx2⟩ := hx1
  have HX0 := Lib.hid hx0; clear hx0
  have HC0 := Lib.hid (CW.new W A1 n1 c1 g o n c L 97)
  go_enter Tryz.func102, Tryz.ntmps102
  go_wp2_with (go_at_call 98; refine (back_ok cls _ _ _ _ _ _ _ _ _ _ (HCL.out _ HC0.out.bel) (by omega) (by omega)).mono ?_; rintro e w1 ⟨rfl, hb⟩; have HC1 := Lib.hid (HC0.out.go hb); clear hb; rw [HX0.out])
  go_loopw [1, 5] (fun vi vn wr => ∃ x m : Int, vi = .int .i64 x ∧ vn = .int .i64 m ∧ -1 ≤ x ∧ x < n ∧ CW W A1 n1 c1 g o n c L wr) (fun vi _ _ => (RowKit.intOf vi + 1).toNat)
  case atStart => exact ⟨x0, 0, rfl, rfl, hx1, by omega, HC1.out⟩
  case round =>
    obtain ⟨x, m, rfl, rfl, hm1, hm2, hcw⟩ := hrel
    have HW := Lib.hid hcw
    obtain ⟨_, b0, b1, b2⟩ := hcw
    obtain ⟨y, hy⟩ : ∃ y, wofF cls x = y := ⟨_, rfl⟩
    have HY := Lib.hid hy
    by_cases h7 : y = 7
    · subst h7
      have hx : 0 ≤ x := by
        rcases Int.lt_or_le x 0 with c | c
        · unfold wofF at hy
          rw [if_pos (.inl c)] at hy
          cases hy
        · exact c
      clear hy
      obtain ⟨k, rfl⟩ := Int.eq_ofNat_of_zero_le hx
      obtain ⟨x', hx'⟩ : ∃ x', wbackF cls k = x' := ⟨_, rfl⟩
      have hx2 : -1 ≤ x' ∧ x' < k := by rw [← hx', HBF.out k]; exact wbackN_lt cls k
      obtain ⟨hy1, hy2⟩ := hx2
      have HX' := Lib.hid hx'; clear hx' hx
      go_wp2_with (first
        | (go_at_call 100; refine (of_ok cls _ _ _ _ _ _ _ _ _ _ (HCL.out _ HW.out.bel)).mono ?_; rintro e w2 ⟨rfl, hb⟩; have HW2 := Lib.hid (HW.out.go hb); clear hb; rw [HY.out]; obtain ⟨_, d0, d1, d2⟩ := HW2.out)
        | (go_at_call 98; refine (back_ok cls _ _ _ _ _ _ _ _ _ _ (HCL.out _ HW2.out.bel) (by omega) (by omega)).mono ?_; rintro e w3 ⟨rfl, hb⟩; have HW3 := Lib.hid (HW2.out.go hb); clear hb; rw [HX'.out]))
      go_roundw
      case rel => exact ⟨x', _, rfl, rfl, hy1, by omega, HW3.out⟩
      case measure => simp [RowKit.intOf] <;> omega
    · have h7b : (y == 7) = false := by simp [h7]
      clear hy
      go_wp2_with (go_at_call 100; refine (of_ok cls _ _ _ _ _ _ _ _ _ _ (HCL.out _ HW.out.bel)).mono ?_; rintro e w2 ⟨rfl, hb⟩; have HW2 := Lib.hid (HW.out.go hb); clear hb; rw [HY.out])
      go_ret
      exact ⟨_, rfl, HW2.out.bel⟩
end
section
open Go.Shelf Go.RowKit Go.Lib Go.Proofs.YtnfghboholehdaaGreatDoor.Am
/-- an operation that leaves each world of a class as it was and yields one value -/
theorem quiet_run {P : Program} {o : Oper} {a : Act} {C : World → Prop} {K : Act → Prop} (v : Value) (h : ∀ w, C w → (execOp a.eval o).run P w = .ok (.value v) w) (hK : K (a.put o.dst v)) : o.quiet P a C K :=
  ⟨v, fun w hw => by unfold Oper.quietAt; rw [h w hw]; exact ⟨rfl, rfl⟩, hK⟩
/-- a call that hands back one value in each world of a class and leaves a world of it -/
theorem quiet_call {P : Program} {o : Oper} {a : Act} {C : World → Prop} {K : Act → Prop} (f : FuncId) (args : Array Value) (v : Value) (h : ∀ w, C w → (execOp a.eval o).run P w = .ok (.enter f args) w)
    (hc : ∀ w, C w → Calls P f args w fun e w' => e = .returned v ∧ C w') (hK : K (a.put o.dst v)) : o.quiet P a C K :=
  ⟨v, fun w hw => by unfold Oper.quietAt; rw [h w hw]; exact ⟨rfl, hc w hw⟩, hK⟩
theorem wp_region_quiet_litC {P : Program} {id : Nat} {Q : Exit → Act → World → Prop} {a : Act} {w : World} {l : List Oper} {C : World → Prop} (hm : P.follows .mixedOrders = true) (hB : Region.lexB .any l.toArray = true) (hC : C (w.drewN 1))
    (h : wpQuiet P l.toArray C (fun a' => ∀ w', C w' → Q .normal a' w') l a) : (Code.region id l.toArray true).wp P Q a w := wp_region_quiet (C := C) hm hB hC (by simpa using h)
def SomeBool (W : World) (e : Ending) (w' : World) : Prop := ∃ b : Bool, e = .returned (.bool b) ∧ Below W.heap.size W w'
set_option maxRecDepth 100000 in
set_option maxHeartbeats 8000000 in
theorem cut_ok (cls : List Int) (A1 : Option Addr) (n1 c1 g o n c : Nat) (L : Int) (i : Nat) (W : World) (h : ClsAt W g o n cls) (h1 : 1 ≤ i) (hi : i < n) :
    Calls Tryz.prog 64 #[.agg #[.slice A1 n1 c1, .slice (some ⟨g, o, none⟩) n c, .int .i64 L], .int .i64 i] W (SomeBool W) := by
  have hgl := h.blk; have hsm := h.small
  have HC := Lib.hid h
  have hc0 := h.cell (i - 1) (by omega)
  have hc1 := h.cell i hi
  obtain ⟨x, hx⟩ : ∃ x, cls.getD (i - 1) 0 = x := ⟨_, rfl⟩
  obtain ⟨y, hy⟩ : ∃ y, cls.getD i 0 = y := ⟨_, rfl⟩
  rw [hx] at hc0
  rw [hy] at hc1
  clear hx hy h
  go_enter Tryz.func64, Tryz.ntmps64
  go_upto_region 1 with fail
  go_cut [5, 6] (fun p q wx => p = .int .i64 x ∧ q = .int .i64 y ∧ CW W A1 n1 c1 g o n c L wx)
  case first =>
    go_quiet (fail)
    go_wp2_with fail
    go_meet
    exact ⟨rfl, rfl, (CW.new W A1 n1 c1 g o n c L _).drewN _⟩
  case rest =>
    obtain ⟨rfl, rfl, hcw⟩ := hcut
    have HW := Lib.hid hcw; clear hcw hc0 hc1
    obtain ⟨bb, hbb⟩ : ∃ bb, wbackN cls i = bb := ⟨_, rfl⟩
    have hbl := wbackN_lt cls i
    rw [hbb] at hbl
    obtain ⟨hbl1, hbl2⟩ := hbl
    have HBB := Lib.hid hbb; clear hbb
    go_upto_region 2 with fail
    go_cut [19] (fun b wx => (∃ z : Bool, b = .bool z) ∧ wc = wx)
    case first =>
      by_cases e1 : x = 1
      · subst e1; go_wp2_with fail; go_meet; exact ⟨⟨_, rfl⟩, rfl⟩
      · have b1 : (x == 1) = false := by simp [e1]
        go_wp2_with fail; go_meet; exact ⟨⟨_, rfl⟩, rfl⟩
    case rest =>
      obtain ⟨⟨z, rfl⟩, rfl⟩ := hcut
      cases z
      case true => (go_wp2_with fail; go_ret; exact ⟨_, rfl, HW.out.bel⟩)
      case false =>
        go_upto_region 4 with fail
        go_cut [26] (fun b wx => (∃ z : Bool, b = .bool z) ∧ wc = wx)
        case first =>
          cases h0 : endsF x
          case false => (go_wp2_with (go_at_call 96; refine (ends_ok _ _).mono ?_; rintro e w1 ⟨rfl, rfl⟩; try rw [h0]); go_meet; exact ⟨⟨_, rfl⟩, rfl⟩)
          case true => (go_wp2_with (go_at_call 96; refine (ends_ok _ _).mono ?_; rintro e w1 ⟨rfl, rfl⟩; try rw [h0]); go_meet; exact ⟨⟨_, rfl⟩, rfl⟩)
        case rest =>
          obtain ⟨⟨z, rfl⟩, rfl⟩ := hcut
          cases z
          case true => (go_wp2_with fail; go_ret; exact ⟨_, rfl, HW.out.bel⟩)
          case false =>
            go_upto_region 6 with fail
            go_cut [33] (fun b wx => (∃ z : Bool, b = .bool z) ∧ wc = wx)
            case first =>
              by_cases e1 : x = 5
              · subst e1; go_wp2_with fail; go_meet; exact ⟨⟨_, rfl⟩, rfl⟩
              · have b1 : (x == 5) = false := by simp [e1]
                go_wp2_with fail; go_meet; exact ⟨⟨_, rfl⟩, rfl⟩
            case rest =>
              obtain ⟨⟨z, rfl⟩, rfl⟩ := hcut
              cases z
              case true => (go_wp2_with fail; go_ret; exact ⟨_, rfl, HW.out.bel⟩)
              case false =>
                go_upto_region 7 with fail
                go_cut [33] (fun b wx => (∃ z : Bool, b = .bool z) ∧ wc = wx)
                case first =>
                  by_cases e1 : x = 18
                  · subst e1; go_wp2_with fail; go_meet; exact ⟨⟨_, rfl⟩, rfl⟩
                  · have b1 : (x == 18) = false := by simp [e1]
                    go_wp2_with fail; go_meet; exact ⟨⟨_, rfl⟩, rfl⟩
                case rest =>
                  obtain ⟨⟨z, rfl⟩, rfl⟩ := hcut
                  cases z
                  case true => (go_wp2_with fail; go_ret; exact ⟨_, rfl, HW.out.bel⟩)
                  case false =>
                    cases h0 : hangsF y
                    case true => (go_wp2_with (go_at_call 97; refine (hangs_ok _ _).mono ?_; rintro e w1 ⟨rfl, rfl⟩; rw [h0]); go_ret; exact ⟨_, rfl, HW.out.bel⟩)
                    case false =>
                      obtain ⟨_, b0, b1, b2⟩ := HW.out
                      go_wp2_with (first | (go_at_call 97; refine (hangs_ok _ _).mono ?_; rintro e w1 ⟨rfl, rfl⟩; rw [h0]) | (go_at_call 98; refine (back_at cls _ _ _ _ _ _ _ _ i _ (HC.out.below hgl HW.out.bel) (Nat.le_of_lt hi)).mono ?_; rintro e w1 ⟨rfl, hb⟩; have HW1 := Lib.hid (HW.out.go hb); clear hb; rw [HBB.out]))
                      go_cut [63] (fun b wx => (∃ z : Bool, b = .bool z) ∧ CW W A1 n1 c1 g o n c L wx)
                      case first =>
                        refine wp_region_quiet_litC (C := CW W A1 n1 c1 g o n c L) (by kernel_rfl) (by kernel_rfl) (HW1.out.drewN 1) ?_
                        refine BigFrame.wpQuiet_want (by kernel_rfl) (fun K hK => ?_)
                        refine quiet_run (.agg #[.slice A1 n1 c1, .slice (some ⟨g, o, none⟩) n c, .int .i64 L]) (fun w hw => ?_) (hK _ ?_)
                        · obtain ⟨_, d0, d1, d2⟩ := hw; go_simp
                        clear hK K
                        (try simp only [Act.put]); (try simp only [List.setIfInBounds_toArray]); (try simp only [List.set_cons_succ]); (try simp only [List.set_cons_zero])
                        refine BigFrame.wpQuiet_want (by kernel_rfl) (fun K hK => ?_)
                        refine quiet_run (.agg #[.slice A1 n1 c1, .slice (some ⟨g, o, none⟩) n c, .int .i64 L]) (fun w hw => ?_) (hK _ ?_)
                        · obtain ⟨_, d0, d1, d2⟩ := hw; go_simp
                        clear hK K
                        (try simp only [Act.put]); (try simp only [List.setIfInBounds_toArray]); (try simp only [List.set_cons_succ]); (try simp only [List.set_cons_zero])
                        refine BigFrame.wpQuiet_want (by kernel_rfl) (fun K hK => ?_)
                        refine BigFrame.quiet_move _ rfl (hK _ ?_)
                        clear hK K
                        (try simp only [Act.put]); (try simp only [List.setIfInBounds_toArray]); (try simp only [List.set_cons_succ]); (try simp only [List.set_cons_zero])
                        refine BigFrame.wpQuiet_want (by kernel_rfl) (fun K hK => ?_)
                        refine quiet_call 98 #[.agg #[.slice A1 n1 c1, .slice (some ⟨g, o, none⟩) n c, .int .i64 L], .int .i64 bb] (.int .i64 (wbackF cls bb)) (fun w hw => ?_) (fun w hw => ?_) (hK _ ?_)
                        · go_simp
                        · refine (back_ok cls _ _ _ _ _ _ _ _ _ _ (HC.out.below hgl hw.bel) (by omega) (by omega)).mono ?_
                          rintro e w2 ⟨rfl, hb⟩
                          exact ⟨rfl, hw.go hb⟩
                        clear hK K
                        (try simp only [Act.put]); (try simp only [List.setIfInBounds_toArray]); (try simp only [List.set_cons_succ]); (try simp only [List.set_cons_zero])
                        refine BigFrame.wpQuiet_want (by kernel_rfl) (fun K hK => ?_)
                        refine quiet_call 100 #[.agg #[.slice A1 n1 c1, .slice (some ⟨g, o, none⟩) n c, .int .i64 L], .int .i64 (wbackF cls bb)] (.int .i64 (wofF cls (wbackF cls bb))) (fun w hw => ?_) (fun w hw => ?_) (hK _ ?_)
                        · go_simp
                        · refine (of_ok cls _ _ _ _ _ _ _ _ _ _ (HC.out.below hgl hw.bel)).mono ?_
                          rintro e w2 ⟨rfl, hb⟩
                          exact ⟨rfl, hw.go hb⟩
                        clear hK K
                        (try simp only [Act.put]); (try simp only [List.setIfInBounds_toArray]); (try simp only [List.set_cons_succ]); (try simp only [List.set_cons_zero])
                        refine BigFrame.wpQuiet_want (by kernel_rfl) (fun K hK => ?_)
                        refine quiet_run (.agg #[.slice A1 n1 c1, .slice (some ⟨g, o, none⟩) n c, .int .i64 L]) (fun w hw => ?_) (hK _ ?_)
                        · obtain ⟨_, d0, d1, d2⟩ := hw; go_simp
                        clear hK K
                        (try simp only [Act.put]); (try simp only [List.setIfInBounds_toArray]); (try simp only [List.set_cons_succ]); (try simp only [List.set_cons_zero])
                        refine BigFrame.wpQuiet_want (by kernel_rfl) (fun K hK => ?_)
                        refine BigFrame.quiet_move _ rfl (hK _ ?_)
                        clear hK K
                        (try simp only [Act.put]); (try simp only [List.setIfInBounds_toArray]); (try simp only [List.set_cons_succ]); (try simp only [List.set_cons_zero])
                        refine BigFrame.wpQuiet_want (by kernel_rfl) (fun K hK => ?_)
                        refine quiet_call 100 #[.agg #[.slice A1 n1 c1, .slice (some ⟨g, o, none⟩) n c, .int .i64 L], .int .i64 bb] (.int .i64 (wofF cls bb)) (fun w hw => ?_) (fun w hw => ?_) (hK _ ?_)
                        · go_simp
                        · refine (of_ok cls _ _ _ _ _ _ _ _ _ _ (HC.out.below hgl hw.bel)).mono ?_
                          rintro e w2 ⟨rfl, hb⟩
                          exact ⟨rfl, hw.go hb⟩
                        clear hK K
                        (try simp only [Act.put]); (try simp only [List.setIfInBounds_toArray]); (try simp only [List.set_cons_succ]); (try simp only [List.set_cons_zero])
                        refine BigFrame.wpQuiet_want (by kernel_rfl) (fun K hK => ?_)
                        refine BigFrame.quiet_move _ rfl (hK _ ?_)
                        clear hK K
                        (try simp only [Act.put]); (try simp only [List.setIfInBounds_toArray]); (try simp only [List.set_cons_succ]); (try simp only [List.set_cons_zero])
                        refine BigFrame.wpQuiet_want (by kernel_rfl) (fun K hK => ?_)
                        refine quiet_run (.agg #[.slice A1 n1 c1, .slice (some ⟨g, o, none⟩) n c, .int .i64 L]) (fun w hw => ?_) (hK _ ?_)
                        · obtain ⟨_, d0, d1, d2⟩ := hw; go_simp
                        clear hK K
                        (try simp only [Act.put]); (try simp only [List.setIfInBounds_toArray]); (try simp only [List.set_cons_succ]); (try simp only [List.set_cons_zero])
                        refine BigFrame.wpQuiet_want (by kernel_rfl) (fun K hK => ?_)
                        refine BigFrame.quiet_move _ rfl (hK _ ?_)
                        clear hK K
                        (try simp only [Act.put]); (try simp only [List.setIfInBounds_toArray]); (try simp only [List.set_cons_succ]); (try simp only [List.set_cons_zero])
                        refine BigFrame.wpQuiet_want (by kernel_rfl) (fun K hK => ?_)
                        refine quiet_call 101 #[.agg #[.slice A1 n1 c1, .slice (some ⟨g, o, none⟩) n c, .int .i64 L], .int .i64 i] (.int .i64 (wonF cls i)) (fun w hw => ?_) (fun w hw => ?_) (hK _ ?_)
                        · go_simp
                        · refine (on_ok cls _ _ _ _ _ _ _ _ i _ (HC.out.below hgl hw.bel) hi).mono ?_
                          rintro e w2 ⟨rfl, hb⟩
                          exact ⟨rfl, hw.go hb⟩
                        clear hK K
                        (try simp only [Act.put]); (try simp only [List.setIfInBounds_toArray]); (try simp only [List.set_cons_succ]); (try simp only [List.set_cons_zero])
                        refine BigFrame.wpQuiet_want (by kernel_rfl) (fun K hK => ?_)
                        refine quiet_call 99 #[.int .i64 (wofF cls (wbackF cls bb)), .int .i64 (wofF cls bb), .int .i64 y, .int .i64 (wonF cls i)] (.bool (lettersF (wofF cls (wbackF cls bb)) (wofF cls bb) y (wonF cls i))) (fun w hw => ?_) (fun w hw => ?_) (hK _ ?_)
                        · go_simp
                        · refine (letters_ok _ _ _ _ _).mono ?_
                          rintro e w2 ⟨rfl, rfl⟩
                          exact ⟨rfl, hw⟩
                        clear hK K
                        (try simp only [Act.put]); (try simp only [List.setIfInBounds_toArray]); (try simp only [List.set_cons_succ]); (try simp only [List.set_cons_zero])
                        refine wpQuiet_nil ?_
                        intro w' hw'
                        go_wp2_with fail
                        go_meet
                        exact ⟨⟨_, rfl⟩, hw'⟩
                      case rest =>
                        obtain ⟨⟨z, rfl⟩, hcw⟩ := hcut
                        have HW2 := Lib.hid hcw; clear b0 b1 b2 HW HW1
                        obtain ⟨_, d0, d1, d2⟩ := hcw
                        cases z
                        case true => (go_wp2_with fail; go_ret; exact ⟨_, rfl, HW2.out.bel⟩)
                        case false =>
                          by_cases e7 : y = 7
                          · subst e7
                            go_wp2_with (go_at_call 102; refine (regions_ok cls _ _ _ _ _ _ _ _ i _ (HC.out.below hgl HW2.out.bel) hi).mono ?_; rintro e w3 ⟨v, rfl, hb⟩; have HW3 := Lib.hid (HW2.out.go hb); clear hb)
                            go_ret
                            exact ⟨_, rfl, HW3.out.bel⟩
                          · have b7 : (y == 7) = false := by simp [e7]
                            go_wp2_with fail
                            go_ret
                            exact ⟨_, rfl, HW2.out.bel⟩
end
end Go.Proofs.YtnfghboholehdaaGreatDoor.foldOnce
