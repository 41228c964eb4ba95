/- SearchLeft, walked: the classes of runes; slices.BinarySearch. -/
import Derived.Test.YtmpkgddioiaonaaGreatDoorFA
import Derived.Test.YtmpkgddioiaonaaGreatDoorFB
import Derived.IntWalk
namespace Go.Proofs.YtmpkgddioiaonaaGreatDoor.searchLeft
section
open Go.Shelf Go.RowKit Go.Lib Go.Proofs.YtmpkgddioiaonaaGreatDoor.Am
set_option maxRecDepth 100000 in
theorem isNaN_ok (r : Int) (w : World) : Calls Tryz.prog 142 #[.int .i32 r] w fun e w' => e = .returned (.bool false) ∧ w' = w := by
 go_enter Tryz.func142, Tryz.ntmps142
 go_wp2
 go_ret
 exact ⟨by simp, rfl⟩
def cmpI (x y : Int) : Int := if x < y then -1 else if y < x then 1 else 0
set_option maxRecDepth 100000 in
theorem Compare_ok (x y : Int) (w : World) : Calls Tryz.prog 103 #[.int .i32 x, .int .i32 y] w fun e w' => e = .returned (.int .i64 (cmpI x y)) ∧ w' = w := by
 by_cases h1 : x < y
 ·have d1 : decide (x < y) = true := decide_eq_true h1
  go_enter Tryz.func103, Tryz.ntmps103
  go_wp2_with (go_at_call 142; refine (isNaN_ok _ _).mono ?_; rintro e w1 ⟨rfl, rfl⟩)
  go_ret
  exact ⟨by unfold cmpI; rw [if_pos h1]; rfl, rfl⟩
 ·by_cases h2 : y < x
  ·have d1 : decide (x < y) = false := decide_eq_false h1
   have d2 : decide (y < x) = true := decide_eq_true h2
   go_enter Tryz.func103, Tryz.ntmps103
   go_wp2_with (go_at_call 142; refine (isNaN_ok _ _).mono ?_; rintro e w1 ⟨rfl, rfl⟩)
   go_ret
   exact ⟨by unfold cmpI; rw [if_neg (Int.not_lt.2 h1), if_pos h2]; rfl, rfl⟩
  ·have d1 : decide (x < y) = false := decide_eq_false h1
   have d2 : decide (y < x) = false := decide_eq_false h2
   go_enter Tryz.func103, Tryz.ntmps103
   go_wp2_with (go_at_call 142; refine (isNaN_ok _ _).mono ?_; rintro e w1 ⟨rfl, rfl⟩)
   go_ret
   exact ⟨by unfold cmpI; rw [if_neg (Int.not_lt.2 h1), if_neg (Int.not_lt.2 h2)]; rfl, rfl⟩
set_option maxRecDepth 100000 in
theorem GetCmp_ok (lo hi c r : Int) (w : World) : Calls Tryz.prog 110 #[.agg #[.int .i32 lo, .int .i32 hi, .int .i64 c], .int .i32 r] w fun e w' => e = .returned (.int .i64 (cmpI hi r)) ∧ Below w.heap.size w w' := by
 go_enter Tryz.func110, Tryz.ntmps110
 go_wp2_with (go_at_call 103; refine (Compare_ok _ _ _).mono ?_; rintro e w1 ⟨rfl, rfl⟩)
 go_ret
 exact ⟨rfl, (Below.refl _ w).alloc (Nat.le_refl _) _⟩
/-- the class of a rune: of the first range that ends at it or behind -/
def clsOf (l : List Rang) (r : Int) : Int := match l.find? (fun x => decide (r ≤ x.2.1)) with
 | some x => if x.1 ≤ r then x.2.2 else 0
 | none => 0
/-- where a rune's range would stand -/
def posOf (l : List Rang) (r : Int) : Nat := l.findIdx (fun x => decide (r ≤ x.2.1))
/-- rising ends -/
def ascR : List Rang → Bool
 | [] => true
 | [_] => true
 | x :: y :: l => decide (x.2.1 < y.2.1) && ascR (y :: l)
theorem ascR_lt : ∀ {l : List Rang} {x : Rang}, ascR (x :: l) = true → ∀ y ∈ l, x.2.1 < y.2.1
 | [], _, _, y, hy => by cases hy
 | z :: l, x, h, y, hy => by
   unfold ascR at h
   rw [Bool.and_eq_true, decide_eq_true_iff] at h
   rcases List.mem_cons.1 hy with rfl | hy
   ·exact h.1
   ·have := ascR_lt h.2 y hy; omega
theorem ascR_get : ∀ {l : List Rang}, ascR l = true → ∀ i j, i < j → j < l.length → (l.getD i rg0).2.1 < (l.getD j rg0).2.1
 | [], _, _, j, _, hj => by simp at hj
 | x :: l, h, 0, j + 1, _, hj => by
   have hj' : j < l.length := by simpa using hj
   have hm : l.getD j rg0 ∈ l := by rw [List.getD_eq_getElem?_getD, List.getElem?_eq_getElem hj']; exact List.getElem_mem hj'
   have := ascR_lt h _ hm
   simpa using this
 | x :: l, h, i + 1, j + 1, hij, hj => by
   have h' : ascR l = true := by
    cases l with
    | nil => rfl
    | cons y l => unfold ascR at h; rw [Bool.and_eq_true] at h; exact h.2
   have := ascR_get h' i j (by omega) (by simpa using hj)
   simpa using this
theorem posOf_of (l : List Rang) (r : Int) (i : Nat) (hi : i ≤ l.length) (h1 : ∀ k, k < i → (l.getD k rg0).2.1 < r) (h2 : ∀ k, i ≤ k → k < l.length → r ≤ (l.getD k rg0).2.1) : posOf l r = i := by
 unfold posOf
 rcases Nat.lt_or_ge i l.length with c | c
 ·rw [List.findIdx_eq c]
  have e := h2 i (Nat.le_refl _) c
  rw [List.getD_eq_getElem?_getD, List.getElem?_eq_getElem c] at e
  refine ⟨decide_eq_true e, fun j hj => ?_⟩
  have e := h1 j hj
  rw [List.getD_eq_getElem?_getD, List.getElem?_eq_getElem (show j < l.length by omega)] at e
  exact decide_eq_false (Int.not_le.2 e)
 ·obtain rfl : i = l.length := by omega
  rw [List.findIdx_eq_length]
  intro x hx
  obtain ⟨j, hj, rfl⟩ := List.mem_iff_getElem.1 hx
  have e := h1 j hj
  rw [List.getD_eq_getElem?_getD, List.getElem?_eq_getElem hj] at e
  exact decide_eq_false (Int.not_le.2 e)
theorem posOf_le (l : List Rang) (r : Int) : posOf l r ≤ l.length := List.findIdx_le_length
theorem clsOf_pos (l : List Rang) (r : Int) : clsOf l r = if posOf l r < l.length ∧ (l.getD (posOf l r) rg0).1 ≤ r then (l.getD (posOf l r) rg0).2.2 else 0 := by
 unfold clsOf posOf
 rcases Nat.lt_or_ge (l.findIdx fun x => decide (r ≤ x.2.1)) l.length with c | c
 ·have hf : l.find? (fun x => decide (r ≤ x.2.1)) = some l[l.findIdx fun x => decide (r ≤ x.2.1)] := by
   rw [List.find?_eq_some_iff_getElem]
   exact ⟨List.findIdx_getElem (w := c), _, c, rfl, fun j hj => by have := List.not_of_lt_findIdx hj; simpa using this⟩
  rw [hf, List.getD_eq_getElem?_getD, List.getElem?_eq_getElem c]
  dsimp only [Option.getD_some]
  by_cases d : (l[l.findIdx fun x => decide (r ≤ x.2.1)]).1 ≤ r
  ·rw [if_pos d, if_pos ⟨c, d⟩]
  ·rw [if_neg d, if_neg (fun h => d h.2)]
 ·have hf : l.find? (fun x => decide (r ≤ x.2.1)) = none := by
   rw [List.find?_eq_none]
   have := List.findIdx_eq_length.1 (Nat.le_antisymm List.findIdx_le_length c)
   intro x hx
   rw [this x hx]; exact Bool.false_ne_true
  rw [hf, if_neg (fun h => by omega)]
end
section
open Go.Shelf Go.RowKit Go.Lib Go.Proofs.YtmpkgddioiaonaaGreatDoor.Am
def BsfPost (l : List Rang) (r : Int) (W : World) (e : Ending) (w' : World) : Prop := (∃ b, e = .returned (.tuple #[.int .i64 (posOf l r), .bool b])) ∧ Below W.heap.size W w'
theorem cmpI_cases (y r : Int) : (y < r ∧ cmpI y r = -1) ∨ (r < y ∧ cmpI y r = 1) ∨ (y = r ∧ cmpI y r = 0) := by
 unfold cmpI
 rcases Int.lt_trichotomy y r with h | h | h
 ·exact .inl ⟨h, if_pos h⟩
 ·subst h; exact .inr (.inr ⟨rfl, by simp⟩)
 ·exact .inr (.inl ⟨h, by rw [if_neg (by omega), if_pos h]⟩)
set_option maxHeartbeats 2000000 in
set_option maxRecDepth 100000 in
theorem Bsf_ok (l : List Rang) (hl : ascR l = true) (r : Int) (R oR c n : Nat) (hn : l.length = n) (hsm : n ≤ 100000) (W : World)
 (hc : ∀ k, k < n → W.cell? ⟨R, oR + k * 3, none⟩ = some (.int .i32 (l.getD k rg0).1) ∧ W.cell? ⟨R, oR + k * 3 + 1, none⟩ = some (.int .i32 (l.getD k rg0).2.1) ∧ W.cell? ⟨R, oR + k * 3 + 2, none⟩ = some (.int .i64 (l.getD k rg0).2.2)) :
 Calls Tryz.prog 109 #[.slice (some ⟨R, oR, none⟩) n c, .int .i32 r, .func (.func 110) #[] #[]] W (BsfPost l r W) := by
 have HC := Lib.hid hc; have HN := Lib.hid hn; have HA := Lib.hid hl
 clear hc hn hl
 go_enter Tryz.func109, Tryz.ntmps109
 go_wp2
 go_loopw [9, 10] (fun a b wr => ∃ i j : Nat, i ≤ j ∧ j ≤ n ∧ a = .int .i64 i ∧ b = .int .i64 j ∧ (∀ k, k < i → (l.getD k rg0).2.1 < r) ∧ (∀ k, j ≤ k → k < n → r ≤ (l.getD k rg0).2.1) ∧ Below W.heap.size W wr) (fun a b _ => (RowKit.intOf b).toNat - (RowKit.intOf a).toNat)
 case atStart => exact ⟨0, n, Nat.zero_le _, Nat.le_refl _, rfl, rfl, fun k hk => by omega, fun k h1 h2 => by omega, Below.refl _ _⟩
 case round =>
  obtain ⟨i, j, hij, hjn, rfl, rfl, h1, h2, hb⟩ := hrel
  have H1 := Lib.hid h1; have H2 := Lib.hid h2; have HB := Lib.hid hb; clear h1 h2 hb
  by_cases hlt : i < j
  ·have hm1 : (i + j) / 2 < n := by omega
   obtain ⟨f0, f1, f2⟩ := HC.out ((i + j) / 2) hm1
   have hg := cell_lt f0
   have g0 : wr.cell? ⟨R, oR + (i + j) / 2 * 3, none⟩ = _ := (HB.out.cell (p := ⟨R, oR + (i + j) / 2 * 3, none⟩) hg).trans f0
   have g1 : wr.cell? ⟨R, oR + (i + j) / 2 * 3 + 1, none⟩ = _ := (HB.out.cell (p := ⟨R, oR + (i + j) / 2 * 3 + 1, none⟩) hg).trans f1
   have g2 : wr.cell? ⟨R, oR + (i + j) / 2 * 3 + 2, none⟩ = _ := (HB.out.cell (p := ⟨R, oR + (i + j) / 2 * 3 + 2, none⟩) hg).trans f2
   clear f0 f1 f2 hg
   obtain ⟨p, hp⟩ : ∃ p, l.getD ((i + j) / 2) rg0 = p := ⟨_, rfl⟩
   rw [hp] at g0 g1 g2
   have HP := Lib.hid hp; clear hp
   obtain ⟨lo, y, cl⟩ := p
   dsimp only at g0 g1 g2
   rcases cmpI_cases y r with ⟨hy, hcm⟩ | ⟨hy, hcm⟩ | ⟨hy, hcm⟩
   ·go_wp2_with (go_at_call 110
                 refine (GetCmp_ok lo y cl r _).mono ?_
                 rintro x wz ⟨rfl, hbz⟩
                 rw [hcm]
                 have HBZ := Lib.hid (HB.out.trans (hbz.mono HB.out.size)); clear hbz g0 g1 g2)
    go_roundw
    case rel =>
     refine ⟨(i + j) / 2 + 1, j, by omega, hjn, by rw [show ((i : Int) + (j : Int)) / 2 + 1 = (((i + j) / 2 + 1 : Nat) : Int) by omega], rfl, fun k hk => ?_, H2.out, HBZ.out⟩
     rcases Nat.lt_or_ge k ((i + j) / 2) with d | d
     ·have := ascR_get HA.out k ((i + j) / 2) d (by rw [HN.out]; exact hm1)
      rw [HP.out] at this
      exact Int.lt_trans this hy
     ·obtain rfl : k = (i + j) / 2 := by omega
      rw [HP.out]; exact hy
    case measure => simp [RowKit.intOf]; omega
   ·go_wp2_with (go_at_call 110
                 refine (GetCmp_ok lo y cl r _).mono ?_
                 rintro x wz ⟨rfl, hbz⟩
                 rw [hcm]
                 have HBZ := Lib.hid (HB.out.trans (hbz.mono HB.out.size)); clear hbz g0 g1 g2)
    go_roundw
    case rel =>
     refine ⟨i, (i + j) / 2, by omega, by omega, rfl, by rw [show ((i : Int) + (j : Int)) / 2 = (((i + j) / 2 : Nat) : Int) by omega], H1.out, fun k h1 h2 => ?_, HBZ.out⟩
     rcases Nat.lt_or_ge ((i + j) / 2) k with d | d
     ·have := ascR_get HA.out ((i + j) / 2) k d (by rw [HN.out]; exact h2)
      rw [HP.out] at this
      exact Int.le_of_lt (Int.lt_trans hy this)
     ·obtain rfl : k = (i + j) / 2 := by omega
      rw [HP.out]; exact Int.le_of_lt hy
    case measure => simp [RowKit.intOf]; omega
   ·subst hy
    go_wp2_with (go_at_call 110
                 refine (GetCmp_ok lo y cl y _).mono ?_
                 rintro x wz ⟨rfl, hbz⟩
                 rw [hcm]
                 have HBZ := Lib.hid (HB.out.trans (hbz.mono HB.out.size)); clear hbz g0 g1 g2)
    go_roundw
    case rel =>
     refine ⟨i, (i + j) / 2, by omega, by omega, rfl, by rw [show ((i : Int) + (j : Int)) / 2 = (((i + j) / 2 : Nat) : Int) by omega], H1.out, fun k h1 h2 => ?_, HBZ.out⟩
     rcases Nat.lt_or_ge ((i + j) / 2) k with d | d
     ·have := ascR_get HA.out ((i + j) / 2) k d (by rw [HN.out]; exact h2)
      rw [HP.out] at this
      exact Int.le_of_lt this
     ·obtain rfl : k = (i + j) / 2 := by omega
      rw [HP.out]; exact Int.le_refl _
    case measure => simp [RowKit.intOf]; omega
  ·obtain rfl : i = j := by omega
   have hpos : posOf l r = i := posOf_of l r i (by rw [HN.out]; exact hjn) H1.out (fun k h1 h2 => H2.out k h1 (by rw [← HN.out]; exact h2))
   have HPOS := Lib.hid hpos; clear hpos
   by_cases hin : i < n
   ·obtain ⟨f0, f1, f2⟩ := HC.out i hin
    have hg := cell_lt f0
    have g0 : wr.cell? ⟨R, oR + i * 3, none⟩ = _ := (HB.out.cell (p := ⟨R, oR + i * 3, none⟩) hg).trans f0
    have g1 : wr.cell? ⟨R, oR + i * 3 + 1, none⟩ = _ := (HB.out.cell (p := ⟨R, oR + i * 3 + 1, none⟩) hg).trans f1
    have g2 : wr.cell? ⟨R, oR + i * 3 + 2, none⟩ = _ := (HB.out.cell (p := ⟨R, oR + i * 3 + 2, none⟩) hg).trans f2
    clear f0 f1 f2 hg
    obtain ⟨p, hp⟩ : ∃ p, l.getD i rg0 = p := ⟨_, rfl⟩
    rw [hp] at g0 g1 g2
    obtain ⟨lo, y, cl⟩ := p
    dsimp only at g0 g1 g2
    go_wp2_with (go_at_call 110
                 refine (GetCmp_ok lo y cl r _).mono ?_
                 rintro x wz ⟨rfl, hbz⟩
                 have HBZ := Lib.hid (HB.out.trans (hbz.mono HB.out.size)); clear hbz g0 g1 g2)
    go_ret2
    exact ⟨⟨_, by rw [HPOS.out]; rfl⟩, HBZ.out⟩
   ·go_wp2
    go_ret2
    exact ⟨⟨_, by rw [HPOS.out]; rfl⟩, HB.out⟩
end
section
open Go.Shelf Go.RowKit Go.Lib Go.Proofs.YtmpkgddioiaonaaGreatDoor.Am
/-- what is asked in the place of a number that is no rune -/
def runeOr (r : Int) : Int := if r < 0 ∨ 1114111 < r then 65533 else r
def GetPost (c : Int) (W : World) (e : Ending) (w' : World) : Prop := e = .returned (.int .i64 c) ∧ Below W.heap.size W w'
set_option maxHeartbeats 2000000 in
set_option maxRecDepth 100000 in
theorem Get_ok (l : List Rang) (hl : ascR l = true) (r : Int) (v : Value) (n : Nat) (hn : l.length = n) (hsm : n ≤ 100000) (W : World) (h : DbAt W v l) :
 Calls Tryz.prog 72 #[v, .int .i32 r] W (GetPost (clsOf l (runeOr r)) W) := by
 obtain ⟨D, o, R, oR, c, rfl, c1, c2, c3⟩ := h
 rw [hn] at c1 c2 c3
 rw [clsOf_pos, hn]
 obtain ⟨x, hx⟩ : ∃ x, runeOr r = x := ⟨_, rfl⟩
 have HBS := Lib.hid (Bsf_ok l hl x R oR c n hn hsm W c3)
 have HPL := Lib.hid (posOf_le l x)
 have HX := Lib.hid hx
 rw [hx]
 have HC := Lib.hid c3; have HN := Lib.hid hn
 obtain ⟨p, hp⟩ : ∃ p, posOf l x = p := ⟨_, rfl⟩
 unfold BsfPost at HBS
 rw [hp] at HBS HPL
 rw [hp]
 clear hx hp c3 hl hn
 have hD := cell_lt c1
 have key : ∀ wz : World, Below W.heap.size W wz → wz.cell? ⟨D, o + 3, none⟩ = some (.slice (some ⟨R, oR, none⟩) n c) := fun wz hb => by rw [hb.cell hD]; exact c1
 have KEY := Lib.hid key; clear key hD
 have hrx : (r < 0 ∧ x = 65533) ∨ (¬ r < 0 ∧ 1114111 < r ∧ x = 65533) ∨ (¬ r < 0 ∧ ¬ 1114111 < r ∧ x = r) := by
  have := HX.out
  unfold runeOr at this
  by_cases a : r < 0
  ·rw [if_pos (.inl a)] at this; exact .inl ⟨a, this.symm⟩
  ·by_cases b : 1114111 < r
   ·rw [if_pos (.inr b)] at this; exact .inr (.inl ⟨a, b, this.symm⟩)
   ·rw [if_neg (by omega)] at this; exact .inr (.inr ⟨a, b, this.symm⟩)
 have hend : (¬ p < n) ∨ (p < n ∧ ¬ (l.getD p rg0).1 ≤ x) ∨ (p < n ∧ (l.getD p rg0).1 ≤ x) := by
  by_cases a : p < n
  ·by_cases b : (l.getD p rg0).1 ≤ x
   ·exact .inr (.inr ⟨a, b⟩)
   ·exact .inr (.inl ⟨a, b⟩)
  ·exact .inl a
 rcases hrx with ⟨r1, rfl⟩ | ⟨r1, r2, rfl⟩ | ⟨r1, r2, rfl⟩ <;> rcases hend with e1 | ⟨e1, e2⟩ | ⟨e1, e2⟩
 ·have dp : decide ((p : Int) < n) = false := decide_eq_false (by omega)
  have E1 := Lib.hid e1; clear e1
  obtain ⟨res, hres⟩ : ∃ res, (if p < n ∧ (l.getD p rg0).1 ≤ 65533 then (l.getD p rg0).2.2 else 0) = res := ⟨_, rfl⟩
  rw [hres]
  have HRES := Lib.hid hres; clear hres
  go_enter Tryz.func72, Tryz.ntmps72
  go_wp2_with fail
  refine HBS.out.mono ?_
  rintro e wz ⟨⟨b, rfl⟩, hb⟩
  have k1 := KEY.out wz hb
  have HB := Lib.hid hb
  clear hb
  dsimp only
  go_wp2
  all_goals go_ret
  all_goals exact ⟨by rw [← HRES.out, if_neg (fun h => absurd h.1 E1.out)]; rfl, HB.out⟩
 ·have dp : decide ((p : Int) < n) = true := decide_eq_true (by omega)
  have E1 := Lib.hid e1; have E2 := Lib.hid e2
  clear e1 e2
  obtain ⟨res, hres⟩ : ∃ res, (if p < n ∧ (l.getD p rg0).1 ≤ 65533 then (l.getD p rg0).2.2 else 0) = res := ⟨_, rfl⟩
  rw [hres]
  have HRES := Lib.hid hres; clear hres
  go_enter Tryz.func72, Tryz.ntmps72
  go_wp2_with fail
  refine HBS.out.mono ?_
  rintro e wz ⟨⟨b, rfl⟩, hb⟩
  have k1 := KEY.out wz hb
  have HB := Lib.hid hb
  obtain ⟨f0, f1, f2⟩ := HC.out p E1.out
  have hg := cell_lt f0
  have g0 : wz.cell? ⟨R, oR + p * 3, none⟩ = _ := (hb.cell (p := ⟨R, oR + p * 3, none⟩) hg).trans f0
  have g1 : wz.cell? ⟨R, oR + p * 3 + 1, none⟩ = _ := (hb.cell (p := ⟨R, oR + p * 3 + 1, none⟩) hg).trans f1
  have g2 : wz.cell? ⟨R, oR + p * 3 + 2, none⟩ = _ := (hb.cell (p := ⟨R, oR + p * 3 + 2, none⟩) hg).trans f2
  clear f0 f1 f2 hg hb
  have E3 := E2.out
  obtain ⟨q, hq⟩ : ∃ q, l.getD p rg0 = q := ⟨_, rfl⟩
  rw [hq] at g0 g1 g2 E3
  have HQ := Lib.hid hq; clear hq
  obtain ⟨lo, y, cl⟩ := q
  dsimp only at g0 g1 g2
  have de : decide (lo ≤ 65533) = false := decide_eq_false (show ¬ lo ≤ 65533 from Int.not_le.2 E3)
  clear E3
  dsimp only
  go_wp2
  all_goals go_ret
  all_goals exact ⟨by rw [← HRES.out, if_neg (fun h => (Int.not_le.2 E2.out) h.2)]; rfl, HB.out⟩
 ·have dp : decide ((p : Int) < n) = true := decide_eq_true (by omega)
  have E1 := Lib.hid e1; have E2 := Lib.hid e2
  clear e1 e2
  obtain ⟨res, hres⟩ : ∃ res, (if p < n ∧ (l.getD p rg0).1 ≤ 65533 then (l.getD p rg0).2.2 else 0) = res := ⟨_, rfl⟩
  rw [hres]
  have HRES := Lib.hid hres; clear hres
  go_enter Tryz.func72, Tryz.ntmps72
  go_wp2_with fail
  refine HBS.out.mono ?_
  rintro e wz ⟨⟨b, rfl⟩, hb⟩
  have k1 := KEY.out wz hb
  have HB := Lib.hid hb
  obtain ⟨f0, f1, f2⟩ := HC.out p E1.out
  have hg := cell_lt f0
  have g0 : wz.cell? ⟨R, oR + p * 3, none⟩ = _ := (hb.cell (p := ⟨R, oR + p * 3, none⟩) hg).trans f0
  have g1 : wz.cell? ⟨R, oR + p * 3 + 1, none⟩ = _ := (hb.cell (p := ⟨R, oR + p * 3 + 1, none⟩) hg).trans f1
  have g2 : wz.cell? ⟨R, oR + p * 3 + 2, none⟩ = _ := (hb.cell (p := ⟨R, oR + p * 3 + 2, none⟩) hg).trans f2
  clear f0 f1 f2 hg hb
  have E3 := E2.out
  obtain ⟨q, hq⟩ : ∃ q, l.getD p rg0 = q := ⟨_, rfl⟩
  rw [hq] at g0 g1 g2 E3
  have HQ := Lib.hid hq; clear hq
  obtain ⟨lo, y, cl⟩ := q
  dsimp only at g0 g1 g2
  have de : decide (lo ≤ 65533) = true := decide_eq_true E3
  clear E3
  dsimp only
  go_wp2
  all_goals go_ret
  all_goals exact ⟨by rw [← HRES.out, if_pos ⟨E1.out, E2.out⟩, HQ.out]; rfl, HB.out⟩
 ·have dp : decide ((p : Int) < n) = false := decide_eq_false (by omega)
  have E1 := Lib.hid e1; clear e1
  obtain ⟨res, hres⟩ : ∃ res, (if p < n ∧ (l.getD p rg0).1 ≤ 65533 then (l.getD p rg0).2.2 else 0) = res := ⟨_, rfl⟩
  rw [hres]
  have HRES := Lib.hid hres; clear hres
  go_enter Tryz.func72, Tryz.ntmps72
  go_wp2_with fail
  refine HBS.out.mono ?_
  rintro e wz ⟨⟨b, rfl⟩, hb⟩
  have k1 := KEY.out wz hb
  have HB := Lib.hid hb
  clear hb
  dsimp only
  go_wp2
  all_goals go_ret
  all_goals exact ⟨by rw [← HRES.out, if_neg (fun h => absurd h.1 E1.out)]; rfl, HB.out⟩
 ·have dp : decide ((p : Int) < n) = true := decide_eq_true (by omega)
  have E1 := Lib.hid e1; have E2 := Lib.hid e2
  clear e1 e2
  obtain ⟨res, hres⟩ : ∃ res, (if p < n ∧ (l.getD p rg0).1 ≤ 65533 then (l.getD p rg0).2.2 else 0) = res := ⟨_, rfl⟩
  rw [hres]
  have HRES := Lib.hid hres; clear hres
  go_enter Tryz.func72, Tryz.ntmps72
  go_wp2_with fail
  refine HBS.out.mono ?_
  rintro e wz ⟨⟨b, rfl⟩, hb⟩
  have k1 := KEY.out wz hb
  have HB := Lib.hid hb
  obtain ⟨f0, f1, f2⟩ := HC.out p E1.out
  have hg := cell_lt f0
  have g0 : wz.cell? ⟨R, oR + p * 3, none⟩ = _ := (hb.cell (p := ⟨R, oR + p * 3, none⟩) hg).trans f0
  have g1 : wz.cell? ⟨R, oR + p * 3 + 1, none⟩ = _ := (hb.cell (p := ⟨R, oR + p * 3 + 1, none⟩) hg).trans f1
  have g2 : wz.cell? ⟨R, oR + p * 3 + 2, none⟩ = _ := (hb.cell (p := ⟨R, oR + p * 3 + 2, none⟩) hg).trans f2
  clear f0 f1 f2 hg hb
  have E3 := E2.out
  obtain ⟨q, hq⟩ : ∃ q, l.getD p rg0 = q := ⟨_, rfl⟩
  rw [hq] at g0 g1 g2 E3
  have HQ := Lib.hid hq; clear hq
  obtain ⟨lo, y, cl⟩ := q
  dsimp only at g0 g1 g2
  have de : decide (lo ≤ 65533) = false := decide_eq_false (show ¬ lo ≤ 65533 from Int.not_le.2 E3)
  clear E3
  dsimp only
  go_wp2
  all_goals go_ret
  all_goals exact ⟨by rw [← HRES.out, if_neg (fun h => (Int.not_le.2 E2.out) h.2)]; rfl, HB.out⟩
 ·have dp : decide ((p : Int) < n) = true := decide_eq_true (by omega)
  have E1 := Lib.hid e1; have E2 := Lib.hid e2
  clear e1 e2
  obtain ⟨res, hres⟩ : ∃ res, (if p < n ∧ (l.getD p rg0).1 ≤ 65533 then (l.getD p rg0).2.2 else 0) = res := ⟨_, rfl⟩
  rw [hres]
  have HRES := Lib.hid hres; clear hres
  go_enter Tryz.func72, Tryz.ntmps72
  go_wp2_with fail
  refine HBS.out.mono ?_
  rintro e wz ⟨⟨b, rfl⟩, hb⟩
  have k1 := KEY.out wz hb
  have HB := Lib.hid hb
  obtain ⟨f0, f1, f2⟩ := HC.out p E1.out
  have hg := cell_lt f0
  have g0 : wz.cell? ⟨R, oR + p * 3, none⟩ = _ := (hb.cell (p := ⟨R, oR + p * 3, none⟩) hg).trans f0
  have g1 : wz.cell? ⟨R, oR + p * 3 + 1, none⟩ = _ := (hb.cell (p := ⟨R, oR + p * 3 + 1, none⟩) hg).trans f1
  have g2 : wz.cell? ⟨R, oR + p * 3 + 2, none⟩ = _ := (hb.cell (p := ⟨R, oR + p * 3 + 2, none⟩) hg).trans f2
  clear f0 f1 f2 hg hb
  have E3 := E2.out
  obtain ⟨q, hq⟩ : ∃ q, l.getD p rg0 = q := ⟨_, rfl⟩
  rw [hq] at g0 g1 g2 E3
  have HQ := Lib.hid hq; clear hq
  obtain ⟨lo, y, cl⟩ := q
  dsimp only at g0 g1 g2
  have de : decide (lo ≤ 65533) = true := decide_eq_true E3
  clear E3
  dsimp only
  go_wp2
  all_goals go_ret
  all_goals exact ⟨by rw [← HRES.out, if_pos ⟨E1.out, E2.out⟩, HQ.out]; rfl, HB.out⟩
 ·have dp : decide ((p : Int) < n) = false := decide_eq_false (by omega)
  have E1 := Lib.hid e1; clear e1
  obtain ⟨res, hres⟩ : ∃ res, (if p < n ∧ (l.getD p rg0).1 ≤ x then (l.getD p rg0).2.2 else 0) = res := ⟨_, rfl⟩
  rw [hres]
  have HRES := Lib.hid hres; clear hres
  go_enter Tryz.func72, Tryz.ntmps72
  go_wp2_with fail
  refine HBS.out.mono ?_
  rintro e wz ⟨⟨b, rfl⟩, hb⟩
  have k1 := KEY.out wz hb
  have HB := Lib.hid hb
  clear hb
  dsimp only
  go_wp2
  all_goals go_ret
  all_goals exact ⟨by rw [← HRES.out, if_neg (fun h => absurd h.1 E1.out)]; rfl, HB.out⟩
 ·have dp : decide ((p : Int) < n) = true := decide_eq_true (by omega)
  have E1 := Lib.hid e1; have E2 := Lib.hid e2
  clear e1 e2
  obtain ⟨res, hres⟩ : ∃ res, (if p < n ∧ (l.getD p rg0).1 ≤ x then (l.getD p rg0).2.2 else 0) = res := ⟨_, rfl⟩
  rw [hres]
  have HRES := Lib.hid hres; clear hres
  go_enter Tryz.func72, Tryz.ntmps72
  go_wp2_with fail
  refine HBS.out.mono ?_
  rintro e wz ⟨⟨b, rfl⟩, hb⟩
  have k1 := KEY.out wz hb
  have HB := Lib.hid hb
  obtain ⟨f0, f1, f2⟩ := HC.out p E1.out
  have hg := cell_lt f0
  have g0 : wz.cell? ⟨R, oR + p * 3, none⟩ = _ := (hb.cell (p := ⟨R, oR + p * 3, none⟩) hg).trans f0
  have g1 : wz.cell? ⟨R, oR + p * 3 + 1, none⟩ = _ := (hb.cell (p := ⟨R, oR + p * 3 + 1, none⟩) hg).trans f1
  have g2 : wz.cell? ⟨R, oR + p * 3 + 2, none⟩ = _ := (hb.cell (p := ⟨R, oR + p * 3 + 2, none⟩) hg).trans f2
  clear f0 f1 f2 hg hb
  have E3 := E2.out
  obtain ⟨q, hq⟩ : ∃ q, l.getD p rg0 = q := ⟨_, rfl⟩
  rw [hq] at g0 g1 g2 E3
  have HQ := Lib.hid hq; clear hq
  obtain ⟨lo, y, cl⟩ := q
  dsimp only at g0 g1 g2
  have de : decide (lo ≤ x) = false := decide_eq_false (show ¬ lo ≤ x from Int.not_le.2 E3)
  clear E3
  dsimp only
  go_wp2
  all_goals go_ret
  all_goals exact ⟨by rw [← HRES.out, if_neg (fun h => (Int.not_le.2 E2.out) h.2)]; rfl, HB.out⟩
 ·have dp : decide ((p : Int) < n) = true := decide_eq_true (by omega)
  have E1 := Lib.hid e1; have E2 := Lib.hid e2
  clear e1 e2
  obtain ⟨res, hres⟩ : ∃ res, (if p < n ∧ (l.getD p rg0).1 ≤ x then (l.getD p rg0).2.2 else 0) = res := ⟨_, rfl⟩
  rw [hres]
  have HRES := Lib.hid hres; clear hres
  go_enter Tryz.func72, Tryz.ntmps72
  go_wp2_with fail
  refine HBS.out.mono ?_
  rintro e wz ⟨⟨b, rfl⟩, hb⟩
  have k1 := KEY.out wz hb
  have HB := Lib.hid hb
  obtain ⟨f0, f1, f2⟩ := HC.out p E1.out
  have hg := cell_lt f0
  have g0 : wz.cell? ⟨R, oR + p * 3, none⟩ = _ := (hb.cell (p := ⟨R, oR + p * 3, none⟩) hg).trans f0
  have g1 : wz.cell? ⟨R, oR + p * 3 + 1, none⟩ = _ := (hb.cell (p := ⟨R, oR + p * 3 + 1, none⟩) hg).trans f1
  have g2 : wz.cell? ⟨R, oR + p * 3 + 2, none⟩ = _ := (hb.cell (p := ⟨R, oR + p * 3 + 2, none⟩) hg).trans f2
  clear f0 f1 f2 hg hb
  have E3 := E2.out
  obtain ⟨q, hq⟩ : ∃ q, l.getD p rg0 = q := ⟨_, rfl⟩
  rw [hq] at g0 g1 g2 E3
  have HQ := Lib.hid hq; clear hq
  obtain ⟨lo, y, cl⟩ := q
  dsimp only at g0 g1 g2
  have de : decide (lo ≤ x) = true := decide_eq_true E3
  clear E3
  dsimp only
  go_wp2
  all_goals go_ret
  all_goals exact ⟨by rw [← HRES.out, if_pos ⟨E1.out, E2.out⟩, HQ.out]; rfl, HB.out⟩
end
section
open Go.Shelf Go.RowKit Go.Lib Go.Proofs.YtmpkgddioiaonaaGreatDoor.Am
theorem isNaNc_ok (x : Int) (w : World) : Calls Tryz.prog 81 #[.int .i64 x] w fun e w' => e = .returned (.bool false) ∧ w' = w := by
 go_enter Tryz.func81, Tryz.ntmps81
 go_wp2
 go_ret
 exact ⟨by simp, rfl⟩
theorem isNaNs_ok (x : Int) (w : World) : Calls Tryz.prog 52 #[.int .i64 x] w fun e w' => e = .returned (.bool false) ∧ w' = w := by
 go_enter Tryz.func52, Tryz.ntmps52
 go_wp2
 go_ret
 exact ⟨by simp, rfl⟩
theorem Less_ok (x y : Int) (w : World) : Calls Tryz.prog 51 #[.int .i64 x, .int .i64 y] w fun e w' => e = .returned (.bool (decide (x < y))) ∧ w' = w := by
 go_enter Tryz.func51, Tryz.ntmps51
 go_wp2_with (go_at_call 81; refine (isNaNc_ok _ _).mono ?_; rintro e w' ⟨rfl, rfl⟩)
 go_ret
 exact ⟨rfl, rfl⟩
/-- ints, in memory -/
structure IntsR (w : World) (A : Option Addr) (n : Nat) (zs : List Int) : Prop where
 len : zs.length = n
 small : n ≤ 100000
 at_ : 0 < n → ∃ g o, A = some ⟨g, o, none⟩ ∧ g < w.heap.size ∧ ∀ j, j < n → w.cell? ⟨g, o + j, none⟩ = some (.int .i64 (zs.getD j 0))
def BsPost (W : World) (e : Ending) (w' : World) : Prop := ∃ (m : Int) (b : Bool), e = .returned (.tuple #[.int .i64 m, .bool b]) ∧ Below W.heap.size W w'
set_option maxHeartbeats 4000000 in
set_option maxRecDepth 100000 in
theorem Bs_ok (zs : List Int) (x : Int) (A : Option Addr) (n c : Nat) (W : World) (h : IntsR W A n zs) :
 Calls Tryz.prog 27 #[.slice A n c, .int .i64 x] W (BsPost W) := by
 have hsm := h.small
 have HC := Lib.hid h; clear h
 go_enter Tryz.func27, Tryz.ntmps27
 go_wp2
 go_loopw [7, 8] (fun s7 s8 wr => ∃ lo hi : Nat, s7 = .int .i64 lo ∧ s8 = .int .i64 hi ∧ lo ≤ hi ∧ hi ≤ n ∧ Below W.heap.size W wr) (fun a b _ => (RowKit.intOf b - RowKit.intOf a).toNat)
 case atStart => exact ⟨0, n, rfl, rfl, Nat.zero_le _, Nat.le_refl _, Below.refl _ _⟩
 case round =>
  obtain ⟨lo, hi, rfl, rfl, hlh, hin, hb⟩ := hrel
  have HB := Lib.hid hb; clear hb
  by_cases hlt : lo < hi
  ·obtain ⟨g, o, rfl, hgl, hcell⟩ := HC.out.at_ (by omega)
   have cm : wr.cell? ⟨g, o + (lo + hi) / 2, none⟩ = some (.int .i64 (zs.getD ((lo + hi) / 2) 0)) := (HB.out.cell (p := ⟨g, o + (lo + hi) / 2, none⟩) hgl).trans (hcell _ (by omega))
   clear hcell
   obtain ⟨y, hy⟩ : ∃ y, zs.getD ((lo + hi) / 2) 0 = y := ⟨_, rfl⟩
   rw [hy] at cm
   clear hy
   by_cases hyx : y < x
   ·go_wp2_with (first | (go_at_call 51; refine (Less_ok _ _ _).mono ?_; rintro e w' ⟨rfl, rfl⟩) | (go_at_call 52; refine (isNaNs_ok _ _).mono ?_; rintro e w' ⟨rfl, rfl⟩))
    go_roundw
    case rel => exact ⟨(lo + hi) / 2 + 1, hi, by rw [show ((lo : Int) + (hi : Int)) / 2 + 1 = (((lo + hi) / 2 + 1 : Nat) : Int) by omega], rfl, by omega, hin, HB.out⟩
    case measure => simp [RowKit.intOf]; omega
   ·go_wp2_with (first | (go_at_call 51; refine (Less_ok _ _ _).mono ?_; rintro e w' ⟨rfl, rfl⟩) | (go_at_call 52; refine (isNaNs_ok _ _).mono ?_; rintro e w' ⟨rfl, rfl⟩))
    go_roundw
    case rel => exact ⟨lo, (lo + hi) / 2, rfl, by rw [show ((lo : Int) + (hi : Int)) / 2 = (((lo + hi) / 2 : Nat) : Int) by omega], by omega, by omega, HB.out⟩
    case measure => simp [RowKit.intOf]; omega
  ·have : hi = lo := by omega
   subst this
   by_cases hn : hi < n
   ·obtain ⟨g, o, rfl, hgl, hcell⟩ := HC.out.at_ (by omega)
    have cl : wr.cell? ⟨g, o + hi, none⟩ = some (.int .i64 (zs.getD hi 0)) := (HB.out.cell (p := ⟨g, o + hi, none⟩) hgl).trans (hcell _ hn)
    clear hcell
    obtain ⟨y, hy⟩ : ∃ y, zs.getD hi 0 = y := ⟨_, rfl⟩
    rw [hy] at cl
    clear hy
    by_cases hyx : y = x
    ·go_wp2_with (first | (go_at_call 51; refine (Less_ok _ _ _).mono ?_; rintro e w' ⟨rfl, rfl⟩) | (go_at_call 52; refine (isNaNs_ok _ _).mono ?_; rintro e w' ⟨rfl, rfl⟩))
     go_ret2
     exact ⟨_, _, rfl, HB.out⟩
    ·go_wp2_with (first | (go_at_call 51; refine (Less_ok _ _ _).mono ?_; rintro e w' ⟨rfl, rfl⟩) | (go_at_call 52; refine (isNaNs_ok _ _).mono ?_; rintro e w' ⟨rfl, rfl⟩))
     go_ret2
     exact ⟨_, _, rfl, HB.out⟩
   ·go_wp2_with (first | (go_at_call 51; refine (Less_ok _ _ _).mono ?_; rintro e w' ⟨rfl, rfl⟩) | (go_at_call 52; refine (isNaNs_ok _ _).mono ?_; rintro e w' ⟨rfl, rfl⟩))
    go_ret2
    exact ⟨_, _, rfl, HB.out⟩
end
section
open Go.Shelf Go.RowKit Go.Lib Go.Proofs.YtmpkgddioiaonaaGreatDoor.Am
/-- where a search by halves ends -/
def bsP (zs : List Int) (x : Int) : Nat → Nat → Nat → Nat
 | 0, lo, _ => lo
 | f + 1, lo, hi => if lo < hi then (if zs.getD ((lo + hi) / 2) 0 < x then bsP zs x f ((lo + hi) / 2 + 1) hi else bsP zs x f lo ((lo + hi) / 2)) else lo
def bsF (zs : List Int) (x : Int) : Bool := decide (bsP zs x zs.length 0 zs.length < zs.length) && decide (zs.getD (bsP zs x zs.length 0 zs.length) 0 = x)
theorem bsP_end (zs : List Int) (x : Int) (f lo : Nat) : bsP zs x f lo lo = lo := by
 cases f with
 | zero => rfl
 | succ f => unfold bsP; rw [if_neg (Nat.lt_irrefl _)]
def BsxPost (zs : List Int) (x : Int) (W : World) (e : Ending) (w' : World) : Prop := ∃ m : Int, e = .returned (.tuple #[.int .i64 m, .bool (bsF zs x)]) ∧ Below W.heap.size W w'
set_option maxHeartbeats 4000000 in
set_option maxRecDepth 100000 in
theorem Bsx_ok (zs : List Int) (x : Int) (A : Option Addr) (n c : Nat) (W : World) (h : IntsR W A n zs) :
 Calls Tryz.prog 27 #[.slice A n c, .int .i64 x] W (BsxPost zs x W) := by
 have hsm := h.small
 have HC := Lib.hid h; clear h
 have HF := Lib.hid (show bsF zs x = (decide (bsP zs x n 0 n < n) && decide (zs.getD (bsP zs x n 0 n) 0 = x)) by unfold bsF; rw [HC.out.len])
 obtain ⟨P, hP⟩ : ∃ P, bsP zs x n 0 n = P := ⟨_, rfl⟩
 obtain ⟨z, hz⟩ : ∃ z, bsF zs x = z := ⟨_, rfl⟩
 rw [hP, hz] at HF
 unfold BsxPost
 rw [hz]
 have HP := Lib.hid hP; clear hP hz
 go_enter Tryz.func27, Tryz.ntmps27
 go_wp2
 go_loopw [7, 8] (fun s7 s8 wr => ∃ lo hi f : Nat, s7 = .int .i64 lo ∧ s8 = .int .i64 hi ∧ lo ≤ hi ∧ hi ≤ n ∧ hi ≤ lo + f ∧ bsP zs x f lo hi = P ∧ Below W.heap.size W wr) (fun a b _ => (RowKit.intOf b - RowKit.intOf a).toNat)
 case atStart => exact ⟨0, n, n, rfl, rfl, Nat.zero_le _, Nat.le_refl _, by omega, HP.out, Below.refl _ _⟩
 case round =>
  obtain ⟨lo, hi, f, rfl, rfl, hlh, hin, hf, hp, hb⟩ := hrel
  have HB := Lib.hid hb; clear hb
  by_cases hlt : lo < hi
  ·obtain ⟨f', rfl⟩ : ∃ f', f = f' + 1 := ⟨f - 1, by omega⟩
   unfold bsP at hp
   rw [if_pos hlt] at hp
   obtain ⟨g, o, rfl, hgl, hcell⟩ := HC.out.at_ (by omega)
   have cm : wr.cell? ⟨g, o + (lo + hi) / 2, none⟩ = some (.int .i64 (zs.getD ((lo + hi) / 2) 0)) := (HB.out.cell (p := ⟨g, o + (lo + hi) / 2, none⟩) hgl).trans (hcell _ (by omega))
   clear hcell
   obtain ⟨y, hy⟩ : ∃ y, zs.getD ((lo + hi) / 2) 0 = y := ⟨_, rfl⟩
   rw [hy] at cm hp
   have HPP := Lib.hid hp
   clear hy hp
   by_cases hyx : y < x
   ·have HQ := Lib.hid (show bsP zs x f' ((lo + hi) / 2 + 1) hi = P by have := HPP.out; rwa [if_pos hyx] at this)
    go_wp2_with (first | (go_at_call 51; refine (Less_ok _ _ _).mono ?_; rintro e w' ⟨rfl, rfl⟩) | (go_at_call 52; refine (isNaNs_ok _ _).mono ?_; rintro e w' ⟨rfl, rfl⟩))
    go_roundw
    case rel => exact ⟨(lo + hi) / 2 + 1, hi, f', by rw [show ((lo : Int) + (hi : Int)) / 2 + 1 = (((lo + hi) / 2 + 1 : Nat) : Int) by omega], rfl, by omega, hin, by omega, HQ.out, HB.out⟩
    case measure => simp [RowKit.intOf]; omega
   ·have HQ := Lib.hid (show bsP zs x f' lo ((lo + hi) / 2) = P by have := HPP.out; rwa [if_neg hyx] at this)
    go_wp2_with (first | (go_at_call 51; refine (Less_ok _ _ _).mono ?_; rintro e w' ⟨rfl, rfl⟩) | (go_at_call 52; refine (isNaNs_ok _ _).mono ?_; rintro e w' ⟨rfl, rfl⟩))
    go_roundw
    case rel => exact ⟨lo, (lo + hi) / 2, f', rfl, by rw [show ((lo : Int) + (hi : Int)) / 2 = (((lo + hi) / 2 : Nat) : Int) by omega], by omega, by omega, by omega, HQ.out, HB.out⟩
    case measure => simp [RowKit.intOf]; omega
  ·have : hi = lo := by omega
   subst this
   rw [bsP_end] at hp
   have HPP := Lib.hid hp; clear hp
   by_cases hn : hi < n
   ·obtain ⟨g, o, rfl, hgl, hcell⟩ := HC.out.at_ (by omega)
    have cl : wr.cell? ⟨g, o + hi, none⟩ = some (.int .i64 (zs.getD hi 0)) := (HB.out.cell (p := ⟨g, o + hi, none⟩) hgl).trans (hcell _ hn)
    clear hcell
    obtain ⟨y, hy⟩ : ∃ y, zs.getD hi 0 = y := ⟨_, rfl⟩
    rw [hy] at cl
    have HY := Lib.hid hy
    clear hy
    by_cases hyx : y = x
    ·have HZ := Lib.hid (show z = true by rw [HF.out, ← HPP.out, HY.out, hyx]; simp; exact hn)
     go_wp2_with (first | (go_at_call 51; refine (Less_ok _ _ _).mono ?_; rintro e w' ⟨rfl, rfl⟩) | (go_at_call 52; refine (isNaNs_ok _ _).mono ?_; rintro e w' ⟨rfl, rfl⟩))
     go_ret2
     rw [HZ.out]
     exact ⟨(hi : Int), by first | rfl | simp [hyx], HB.out⟩
    ·have HZ := Lib.hid (show z = false by rw [HF.out, ← HPP.out, HY.out]; simp; intro _; exact hyx)
     go_wp2_with (first | (go_at_call 51; refine (Less_ok _ _ _).mono ?_; rintro e w' ⟨rfl, rfl⟩) | (go_at_call 52; refine (isNaNs_ok _ _).mono ?_; rintro e w' ⟨rfl, rfl⟩))
     go_ret2
     rw [HZ.out]
     exact ⟨(hi : Int), by first | rfl | simp [hyx], HB.out⟩
   ·have HZ := Lib.hid (show z = false by rw [HF.out, ← HPP.out]; simp; intro h; exact absurd h hn)
    go_wp2_with fail
    go_ret2
    rw [HZ.out]
    exact ⟨(hi : Int), by first | rfl | simp, HB.out⟩
end
end Go.Proofs.YtmpkgddioiaonaaGreatDoor.searchLeft
