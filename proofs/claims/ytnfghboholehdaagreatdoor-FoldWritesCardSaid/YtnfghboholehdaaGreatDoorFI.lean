/- FoldWrites, walked: a rune's class, passed, final, Small. -/
import Derived.Test.YtnfghboholehdaaGreatDoorFA
import Derived.Test.YtnfghboholehdaaGreatDoorFB
import Derived.IntWalk
import Derived.Test.YtnfghboholehdaaGreatDoorFC
namespace Go.Proofs.YtnfghboholehdaaGreatDoor.foldWrites
section
open Go.Shelf Go.RowKit Go.Lib Go.Proofs.YtnfghboholehdaaGreatDoor.Am
set_option maxRecDepth 100000 in
theorem isNaN_ok (r : Int) (w : World) : Calls Tryz.prog 187 #[.int .i32 r] w fun e w' => e = .returned (.bool false) ∧ w' = w := by
 go_enter Tryz.func187, Tryz.ntmps187
 go_wp2
 go_ret
 exact ⟨by simp, rfl⟩
def cmpI (x y : Int) : Int := if x < y then -1 else if y < x then 1 else 0
set_option maxRecDepth 100000 in
theorem Compare_ok (x y : Int) (w : World) : Calls Tryz.prog 134 #[.int .i32 x, .int .i32 y] w fun e w' => e = .returned (.int .i64 (cmpI x y)) ∧ w' = w := by
 by_cases h1 : x < y
 ·have d1 : decide (x < y) = true := decide_eq_true h1
  go_enter Tryz.func134, Tryz.ntmps134
  go_wp2_with (go_at_call 187; refine (isNaN_ok _ _).mono ?_; rintro e w1 ⟨rfl, rfl⟩)
  go_ret
  exact ⟨by unfold cmpI; rw [if_pos h1]; rfl, rfl⟩
 ·by_cases h2 : y < x
  ·have d1 : decide (x < y) = false := decide_eq_false h1
   have d2 : decide (y < x) = true := decide_eq_true h2
   go_enter Tryz.func134, Tryz.ntmps134
   go_wp2_with (go_at_call 187; refine (isNaN_ok _ _).mono ?_; rintro e w1 ⟨rfl, rfl⟩)
   go_ret
   exact ⟨by unfold cmpI; rw [if_neg (Int.not_lt.2 h1), if_pos h2]; rfl, rfl⟩
  ·have d1 : decide (x < y) = false := decide_eq_false h1
   have d2 : decide (y < x) = false := decide_eq_false h2
   go_enter Tryz.func134, Tryz.ntmps134
   go_wp2_with (go_at_call 187; refine (isNaN_ok _ _).mono ?_; rintro e w1 ⟨rfl, rfl⟩)
   go_ret
   exact ⟨by unfold cmpI; rw [if_neg (Int.not_lt.2 h1), if_neg (Int.not_lt.2 h2)]; rfl, rfl⟩
set_option maxRecDepth 100000 in
theorem GetCmp_ok (lo hi c r : Int) (w : World) : Calls Tryz.prog 139 #[.agg #[.int .i32 lo, .int .i32 hi, .int .i64 c], .int .i32 r] w fun e w' => e = .returned (.int .i64 (cmpI hi r)) ∧ Below w.heap.size w w' := by
 go_enter Tryz.func139, Tryz.ntmps139
 go_wp2_with (go_at_call 134; refine (Compare_ok _ _ _).mono ?_; rintro e w1 ⟨rfl, rfl⟩)
 go_ret
 exact ⟨rfl, (Below.refl _ w).alloc (Nat.le_refl _) _⟩
/-- the class of a rune: of the first range that ends at it or behind -/
def clsOf (l : List Rang) (r : Int) : Int := match l.find? (fun x => decide (r ≤ x.2.1)) with
 | some x => if x.1 ≤ r then x.2.2 else 0
 | none => 0
/-- where a rune's range would stand -/
def posOf (l : List Rang) (r : Int) : Nat := l.findIdx (fun x => decide (r ≤ x.2.1))
/-- rising ends -/
def ascR : List Rang → Bool
 | [] => true
 | [_] => true
 | x :: y :: l => decide (x.2.1 < y.2.1) && ascR (y :: l)
theorem ascR_lt : ∀ {l : List Rang} {x : Rang}, ascR (x :: l) = true → ∀ y ∈ l, x.2.1 < y.2.1
 | [], _, _, y, hy => by cases hy
 | z :: l, x, h, y, hy => by
   unfold ascR at h
   rw [Bool.and_eq_true, decide_eq_true_iff] at h
   rcases List.mem_cons.1 hy with rfl | hy
   ·exact h.1
   ·have := ascR_lt h.2 y hy; omega
theorem ascR_get : ∀ {l : List Rang}, ascR l = true → ∀ i j, i < j → j < l.length → (l.getD i rg0).2.1 < (l.getD j rg0).2.1
 | [], _, _, j, _, hj => by simp at hj
 | x :: l, h, 0, j + 1, _, hj => by
   have hj' : j < l.length := by simpa using hj
   have hm : l.getD j rg0 ∈ l := by rw [List.getD_eq_getElem?_getD, List.getElem?_eq_getElem hj']; exact List.getElem_mem hj'
   have := ascR_lt h _ hm
   simpa using this
 | x :: l, h, i + 1, j + 1, hij, hj => by
   have h' : ascR l = true := by
    cases l with
    | nil => rfl
    | cons y l => unfold ascR at h; rw [Bool.and_eq_true] at h; exact h.2
   have := ascR_get h' i j (by omega) (by simpa using hj)
   simpa using this
theorem posOf_of (l : List Rang) (r : Int) (i : Nat) (hi : i ≤ l.length) (h1 : ∀ k, k < i → (l.getD k rg0).2.1 < r) (h2 : ∀ k, i ≤ k → k < l.length → r ≤ (l.getD k rg0).2.1) : posOf l r = i := by
 unfold posOf
 rcases Nat.lt_or_ge i l.length with c | c
 ·rw [List.findIdx_eq c]
  have e := h2 i (Nat.le_refl _) c
  rw [List.getD_eq_getElem?_getD, List.getElem?_eq_getElem c] at e
  refine ⟨decide_eq_true e, fun j hj => ?_⟩
  have e := h1 j hj
  rw [List.getD_eq_getElem?_getD, List.getElem?_eq_getElem (show j < l.length by omega)] at e
  exact decide_eq_false (Int.not_le.2 e)
 ·obtain rfl : i = l.length := by omega
  rw [List.findIdx_eq_length]
  intro x hx
  obtain ⟨j, hj, rfl⟩ := List.mem_iff_getElem.1 hx
  have e := h1 j hj
  rw [List.getD_eq_getElem?_getD, List.getElem?_eq_getElem hj] at e
  exact decide_eq_false (Int.not_le.2 e)
theorem posOf_le (l : List Rang) (r : Int) : posOf l r ≤ l.length := List.findIdx_le_length
theorem clsOf_pos (l : List Rang) (r : Int) : clsOf l r = if posOf l r < l.length ∧ (l.getD (posOf l r) rg0).1 ≤ r then (l.getD (posOf l r) rg0).2.2 else 0 := by
 unfold clsOf posOf
 rcases Nat.lt_or_ge (l.findIdx fun x => decide (r ≤ x.2.1)) l.length with c | c
 ·have hf : l.find? (fun x => decide (r ≤ x.2.1)) = some l[l.findIdx fun x => decide (r ≤ x.2.1)] := by
   rw [List.find?_eq_some_iff_getElem]
   exact ⟨List.findIdx_getElem (w := c), _, c, rfl, fun j hj => by have := List.not_of_lt_findIdx hj; simpa using this⟩
  rw [hf, List.getD_eq_getElem?_getD, List.getElem?_eq_getElem c]
  dsimp only [Option.getD_some]
  by_cases d : (l[l.findIdx fun x => decide (r ≤ x.2.1)]).1 ≤ r
  ·rw [if_pos d, if_pos ⟨c, d⟩]
  ·rw [if_neg d, if_neg (fun h => d h.2)]
 ·have hf : l.find? (fun x => decide (r ≤ x.2.1)) = none := by
   rw [List.find?_eq_none]
   have := List.findIdx_eq_length.1 (Nat.le_antisymm List.findIdx_le_length c)
   intro x hx
   rw [this x hx]; exact Bool.false_ne_true
  rw [hf, if_neg (fun h => by omega)]
end
section
open Go.Shelf Go.RowKit Go.Lib Go.Proofs.YtnfghboholehdaaGreatDoor.Am
def BsfPost (l : List Rang) (r : Int) (W : World) (e : Ending) (w' : World) : Prop := (∃ b, e = .returned (.tuple #[.int .i64 (posOf l r), .bool b])) ∧ Below W.heap.size W w'
theorem cmpI_cases (y r : Int) : (y < r ∧ cmpI y r = -1) ∨ (r < y ∧ cmpI y r = 1) ∨ (y = r ∧ cmpI y r = 0) := by
 unfold cmpI
 rcases Int.lt_trichotomy y r with h | h | h
 ·exact .inl ⟨h, if_pos h⟩
 ·subst h; exact .inr (.inr ⟨rfl, by simp⟩)
 ·exact .inr (.inl ⟨h, by rw [if_neg (by omega), if_pos h]⟩)
set_option maxHeartbeats 2000000 in
set_option maxRecDepth 100000 in
theorem Bsf_ok (l : List Rang) (hl : ascR l = true) (r : Int) (R oR c n : Nat) (hn : l.length = n) (hsm : n ≤ 100000) (W : World)
 (hc : ∀ k, k < n → W.cell? ⟨R, oR + k * 3, none⟩ = some (.int .i32 (l.getD k rg0).1) ∧ W.cell? ⟨R, oR + k * 3 + 1, none⟩ = some (.int .i32 (l.getD k rg0).2.1) ∧ W.cell? ⟨R, oR + k * 3 + 2, none⟩ = some (.int .i64 (l.getD k rg0).2.2)) :
 Calls Tryz.prog 138 #[.slice (some ⟨R, oR, none⟩) n c, .int .i32 r, .func (.func 139) #[] #[]] W (BsfPost l r W) := by
 have HC := Lib.hid hc; have HN := Lib.hid hn; have HA := Lib.hid hl
 clear hc hn hl
 go_enter Tryz.func138, Tryz.ntmps138
 go_wp2
 go_loopw [9, 10] (fun a b wr => ∃ i j : Nat, i ≤ j ∧ j ≤ n ∧ a = .int .i64 i ∧ b = .int .i64 j ∧ (∀ k, k < i → (l.getD k rg0).2.1 < r) ∧ (∀ k, j ≤ k → k < n → r ≤ (l.getD k rg0).2.1) ∧ Below W.heap.size W wr) (fun a b _ => (RowKit.intOf b).toNat - (RowKit.intOf a).toNat)
 case atStart => exact ⟨0, n, Nat.zero_le _, Nat.le_refl _, rfl, rfl, fun k hk => by omega, fun k h1 h2 => by omega, Below.refl _ _⟩
 case round =>
  obtain ⟨i, j, hij, hjn, rfl, rfl, h1, h2, hb⟩ := hrel
  have H1 := Lib.hid h1; have H2 := Lib.hid h2; have HB := Lib.hid hb; clear h1 h2 hb
  by_cases hlt : i < j
  ·have hm1 : (i + j) / 2 < n := by omega
   obtain ⟨f0, f1, f2⟩ := HC.out ((i + j) / 2) hm1
   have hg := cell_lt f0
   have g0 : wr.cell? ⟨R, oR + (i + j) / 2 * 3, none⟩ = _ := (HB.out.cell (p := ⟨R, oR + (i + j) / 2 * 3, none⟩) hg).trans f0
   have g1 : wr.cell? ⟨R, oR + (i + j) / 2 * 3 + 1, none⟩ = _ := (HB.out.cell (p := ⟨R, oR + (i + j) / 2 * 3 + 1, none⟩) hg).trans f1
   have g2 : wr.cell? ⟨R, oR + (i + j) / 2 * 3 + 2, none⟩ = _ := (HB.out.cell (p := ⟨R, oR + (i + j) / 2 * 3 + 2, none⟩) hg).trans f2
   clear f0 f1 f2 hg
   obtain ⟨p, hp⟩ : ∃ p, l.getD ((i + j) / 2) rg0 = p := ⟨_, rfl⟩
   rw [hp] at g0 g1 g2
   have HP := Lib.hid hp; clear hp
   obtain ⟨lo, y, cl⟩ := p
   dsimp only at g0 g1 g2
   rcases cmpI_cases y r with ⟨hy, hcm⟩ | ⟨hy, hcm⟩ | ⟨hy, hcm⟩
   ·go_wp2_with (go_at_call 139
                 refine (GetCmp_ok lo y cl r _).mono ?_
                 rintro x wz ⟨rfl, hbz⟩
                 rw [hcm]
                 have HBZ := Lib.hid (HB.out.trans (hbz.mono HB.out.size)); clear hbz g0 g1 g2)
    go_roundw
    case rel =>
     refine ⟨(i + j) / 2 + 1, j, by omega, hjn, by rw [show ((i : Int) + (j : Int)) / 2 + 1 = (((i + j) / 2 + 1 : Nat) : Int) by omega], rfl, fun k hk => ?_, H2.out, HBZ.out⟩
     rcases Nat.lt_or_ge k ((i + j) / 2) with d | d
     ·have := ascR_get HA.out k ((i + j) / 2) d (by rw [HN.out]; exact hm1)
      rw [HP.out] at this
      exact Int.lt_trans this hy
     ·obtain rfl : k = (i + j) / 2 := by omega
      rw [HP.out]; exact hy
    case measure => simp [RowKit.intOf]; omega
   ·go_wp2_with (go_at_call 139
                 refine (GetCmp_ok lo y cl r _).mono ?_
                 rintro x wz ⟨rfl, hbz⟩
                 rw [hcm]
                 have HBZ := Lib.hid (HB.out.trans (hbz.mono HB.out.size)); clear hbz g0 g1 g2)
    go_roundw
    case rel =>
     refine ⟨i, (i + j) / 2, by omega, by omega, rfl, by rw [show ((i : Int) + (j : Int)) / 2 = (((i + j) / 2 : Nat) : Int) by omega], H1.out, fun k h1 h2 => ?_, HBZ.out⟩
     rcases Nat.lt_or_ge ((i + j) / 2) k with d | d
     ·have := ascR_get HA.out ((i + j) / 2) k d (by rw [HN.out]; exact h2)
      rw [HP.out] at this
      exact Int.le_of_lt (Int.lt_trans hy this)
     ·obtain rfl : k = (i + j) / 2 := by omega
      rw [HP.out]; exact Int.le_of_lt hy
    case measure => simp [RowKit.intOf]; omega
   ·subst hy
    go_wp2_with (go_at_call 139
                 refine (GetCmp_ok lo y cl y _).mono ?_
                 rintro x wz ⟨rfl, hbz⟩
                 rw [hcm]
                 have HBZ := Lib.hid (HB.out.trans (hbz.mono HB.out.size)); clear hbz g0 g1 g2)
    go_roundw
    case rel =>
     refine ⟨i, (i + j) / 2, by omega, by omega, rfl, by rw [show ((i : Int) + (j : Int)) / 2 = (((i + j) / 2 : Nat) : Int) by omega], H1.out, fun k h1 h2 => ?_, HBZ.out⟩
     rcases Nat.lt_or_ge ((i + j) / 2) k with d | d
     ·have := ascR_get HA.out ((i + j) / 2) k d (by rw [HN.out]; exact h2)
      rw [HP.out] at this
      exact Int.le_of_lt this
     ·obtain rfl : k = (i + j) / 2 := by omega
      rw [HP.out]; exact Int.le_refl _
    case measure => simp [RowKit.intOf]; omega
  ·obtain rfl : i = j := by omega
   have hpos : posOf l r = i := posOf_of l r i (by rw [HN.out]; exact hjn) H1.out (fun k h1 h2 => H2.out k h1 (by rw [← HN.out]; exact h2))
   have HPOS := Lib.hid hpos; clear hpos
   by_cases hin : i < n
   ·obtain ⟨f0, f1, f2⟩ := HC.out i hin
    have hg := cell_lt f0
    have g0 : wr.cell? ⟨R, oR + i * 3, none⟩ = _ := (HB.out.cell (p := ⟨R, oR + i * 3, none⟩) hg).trans f0
    have g1 : wr.cell? ⟨R, oR + i * 3 + 1, none⟩ = _ := (HB.out.cell (p := ⟨R, oR + i * 3 + 1, none⟩) hg).trans f1
    have g2 : wr.cell? ⟨R, oR + i * 3 + 2, none⟩ = _ := (HB.out.cell (p := ⟨R, oR + i * 3 + 2, none⟩) hg).trans f2
    clear f0 f1 f2 hg
    obtain ⟨p, hp⟩ : ∃ p, l.getD i rg0 = p := ⟨_, rfl⟩
    rw [hp] at g0 g1 g2
    obtain ⟨lo, y, cl⟩ := p
    dsimp only at g0 g1 g2
    go_wp2_with (go_at_call 139
                 refine (GetCmp_ok lo y cl r _).mono ?_
                 rintro x wz ⟨rfl, hbz⟩
                 have HBZ := Lib.hid (HB.out.trans (hbz.mono HB.out.size)); clear hbz g0 g1 g2)
    go_ret2
    exact ⟨⟨_, by rw [HPOS.out]; rfl⟩, HBZ.out⟩
   ·go_wp2
    go_ret2
    exact ⟨⟨_, by rw [HPOS.out]; rfl⟩, HB.out⟩
end
section
open Go.Shelf Go.RowKit Go.Lib Go.Proofs.YtnfghboholehdaaGreatDoor.Am
/-- what is asked in the place of a number that is no rune -/
def runeOr (r : Int) : Int := if r < 0 ∨ 1114111 < r then 65533 else r
def GetPost (c : Int) (W : World) (e : Ending) (w' : World) : Prop := e = .returned (.int .i64 c) ∧ Below W.heap.size W w'
set_option maxHeartbeats 2000000 in
set_option maxRecDepth 100000 in
theorem Get_ok (l : List Rang) (hl : ascR l = true) (r : Int) (v : Value) (n : Nat) (hn : l.length = n) (hsm : n ≤ 100000) (W : World) (h : DbAt W v l) :
 Calls Tryz.prog 95 #[v, .int .i32 r] W (GetPost (clsOf l (runeOr r)) W) := by
 obtain ⟨D, o, R, oR, c, rfl, c1, c2, c3⟩ := h
 rw [hn] at c1 c2 c3
 rw [clsOf_pos, hn]
 obtain ⟨x, hx⟩ : ∃ x, runeOr r = x := ⟨_, rfl⟩
 have HBS := Lib.hid (Bsf_ok l hl x R oR c n hn hsm W c3)
 have HPL := Lib.hid (posOf_le l x)
 have HX := Lib.hid hx
 rw [hx]
 have HC := Lib.hid c3; have HN := Lib.hid hn
 obtain ⟨p, hp⟩ : ∃ p, posOf l x = p := ⟨_, rfl⟩
 unfold BsfPost at HBS
 rw [hp] at HBS HPL
 rw [hp]
 clear hx hp c3 hl hn
 have hD := cell_lt c1
 have key : ∀ wz : World, Below W.heap.size W wz → wz.cell? ⟨D, o + 3, none⟩ = some (.slice (some ⟨R, oR, none⟩) n c) := fun wz hb => by rw [hb.cell hD]; exact c1
 have KEY := Lib.hid key; clear key hD
 have hrx : (r < 0 ∧ x = 65533) ∨ (¬ r < 0 ∧ 1114111 < r ∧ x = 65533) ∨ (¬ r < 0 ∧ ¬ 1114111 < r ∧ x = r) := by
  have := HX.out
  unfold runeOr at this
  by_cases a : r < 0
  ·rw [if_pos (.inl a)] at this; exact .inl ⟨a, this.symm⟩
  ·by_cases b : 1114111 < r
   ·rw [if_pos (.inr b)] at this; exact .inr (.inl ⟨a, b, this.symm⟩)
   ·rw [if_neg (by omega)] at this; exact .inr (.inr ⟨a, b, this.symm⟩)
 have hend : (¬ p < n) ∨ (p < n ∧ ¬ (l.getD p rg0).1 ≤ x) ∨ (p < n ∧ (l.getD p rg0).1 ≤ x) := by
  by_cases a : p < n
  ·by_cases b : (l.getD p rg0).1 ≤ x
   ·exact .inr (.inr ⟨a, b⟩)
   ·exact .inr (.inl ⟨a, b⟩)
  ·exact .inl a
 rcases hrx with ⟨r1, rfl⟩ | ⟨r1, r2, rfl⟩ | ⟨r1, r2, rfl⟩ <;> rcases hend with e1 | ⟨e1, e2⟩ | ⟨e1, e2⟩
 ·have dp : decide ((p : Int) < n) = false := decide_eq_false (by omega)
  have E1 := Lib.hid e1; clear e1
  obtain ⟨res, hres⟩ : ∃ res, (if p < n ∧ (l.getD p rg0).1 ≤ 65533 then (l.getD p rg0).2.2 else 0) = res := ⟨_, rfl⟩
  rw [hres]
  have HRES := Lib.hid hres; clear hres
  go_enter Tryz.func95, Tryz.ntmps95
  go_wp2_with fail
  refine HBS.out.mono ?_
  rintro e wz ⟨⟨b, rfl⟩, hb⟩
  have k1 := KEY.out wz hb
  have HB := Lib.hid hb
  clear hb
  dsimp only
  go_wp2
  all_goals go_ret
  all_goals exact ⟨by rw [← HRES.out, if_neg (fun h => absurd h.1 E1.out)]; rfl, HB.out⟩
 ·have dp : decide ((p : Int) < n) = true := decide_eq_true (by omega)
  have E1 := Lib.hid e1; have E2 := Lib.hid e2
  clear e1 e2
  obtain ⟨res, hres⟩ : ∃ res, (if p < n ∧ (l.getD p rg0).1 ≤ 65533 then (l.getD p rg0).2.2 else 0) = res := ⟨_, rfl⟩
  rw [hres]
  have HRES := Lib.hid hres; clear hres
  go_enter Tryz.func95, Tryz.ntmps95
  go_wp2_with fail
  refine HBS.out.mono ?_
  rintro e wz ⟨⟨b, rfl⟩, hb⟩
  have k1 := KEY.out wz hb
  have HB := Lib.hid hb
  obtain ⟨f0, f1, f2⟩ := HC.out p E1.out
  have hg := cell_lt f0
  have g0 : wz.cell? ⟨R, oR + p * 3, none⟩ = _ := (hb.cell (p := ⟨R, oR + p * 3, none⟩) hg).trans f0
  have g1 : wz.cell? ⟨R, oR + p * 3 + 1, none⟩ = _ := (hb.cell (p := ⟨R, oR + p * 3 + 1, none⟩) hg).trans f1
  have g2 : wz.cell? ⟨R, oR + p * 3 + 2, none⟩ = _ := (hb.cell (p := ⟨R, oR + p * 3 + 2, none⟩) hg).trans f2
  clear f0 f1 f2 hg hb
  have E3 := E2.out
  obtain ⟨q, hq⟩ : ∃ q, l.getD p rg0 = q := ⟨_, rfl⟩
  rw [hq] at g0 g1 g2 E3
  have HQ := Lib.hid hq; clear hq
  obtain ⟨lo, y, cl⟩ := q
  dsimp only at g0 g1 g2
  have de : decide (lo ≤ 65533) = false := decide_eq_false (show ¬ lo ≤ 65533 from Int.not_le.2 E3)
  clear E3
  dsimp only
  go_wp2
  all_goals go_ret
  all_goals exact ⟨by rw [← HRES.out, if_neg (fun h => (Int.not_le.2 E2.out) h.2)]; rfl, HB.out⟩
 ·have dp : decide ((p : Int) < n) = true := decide_eq_true (by omega)
  have E1 := Lib.hid e1; have E2 := Lib.hid e2
  clear e1 e2
  obtain ⟨res, hres⟩ : ∃ res, (if p < n ∧ (l.getD p rg0).1 ≤ 65533 then (l.getD p rg0).2.2 else 0) = res := ⟨_, rfl⟩
  rw [hres]
  have HRES := Lib.hid hres; clear hres
  go_enter Tryz.func95, Tryz.ntmps95
  go_wp2_with fail
  refine HBS.out.mono ?_
  rintro e wz ⟨⟨b, rfl⟩, hb⟩
  have k1 := KEY.out wz hb
  have HB := Lib.hid hb
  obtain ⟨f0, f1, f2⟩ := HC.out p E1.out
  have hg := cell_lt f0
  have g0 : wz.cell? ⟨R, oR + p * 3, none⟩ = _ := (hb.cell (p := ⟨R, oR + p * 3, none⟩) hg).trans f0
  have g1 : wz.cell? ⟨R, oR + p * 3 + 1, none⟩ = _ := (hb.cell (p := ⟨R, oR + p * 3 + 1, none⟩) hg).trans f1
  have g2 : wz.cell? ⟨R, oR + p * 3 + 2, none⟩ = _ := (hb.cell (p := ⟨R, oR + p * 3 + 2, none⟩) hg).trans f2
  clear f0 f1 f2 hg hb
  have E3 := E2.out
  obtain ⟨q, hq⟩ : ∃ q, l.getD p rg0 = q := ⟨_, rfl⟩
  rw [hq] at g0 g1 g2 E3
  have HQ := Lib.hid hq; clear hq
  obtain ⟨lo, y, cl⟩ := q
  dsimp only at g0 g1 g2
  have de : decide (lo ≤ 65533) = true := decide_eq_true E3
  clear E3
  dsimp only
  go_wp2
  all_goals go_ret
  all_goals exact ⟨by rw [← HRES.out, if_pos ⟨E1.out, E2.out⟩, HQ.out]; rfl, HB.out⟩
 ·have dp : decide ((p : Int) < n) = false := decide_eq_false (by omega)
  have E1 := Lib.hid e1; clear e1
  obtain ⟨res, hres⟩ : ∃ res, (if p < n ∧ (l.getD p rg0).1 ≤ 65533 then (l.getD p rg0).2.2 else 0) = res := ⟨_, rfl⟩
  rw [hres]
  have HRES := Lib.hid hres; clear hres
  go_enter Tryz.func95, Tryz.ntmps95
  go_wp2_with fail
  refine HBS.out.mono ?_
  rintro e wz ⟨⟨b, rfl⟩, hb⟩
  have k1 := KEY.out wz hb
  have HB := Lib.hid hb
  clear hb
  dsimp only
  go_wp2
  all_goals go_ret
  all_goals exact ⟨by rw [← HRES.out, if_neg (fun h => absurd h.1 E1.out)]; rfl, HB.out⟩
 ·have dp : decide ((p : Int) < n) = true := decide_eq_true (by omega)
  have E1 := Lib.hid e1; have E2 := Lib.hid e2
  clear e1 e2
  obtain ⟨res, hres⟩ : ∃ res, (if p < n ∧ (l.getD p rg0).1 ≤ 65533 then (l.getD p rg0).2.2 else 0) = res := ⟨_, rfl⟩
  rw [hres]
  have HRES := Lib.hid hres; clear hres
  go_enter Tryz.func95, Tryz.ntmps95
  go_wp2_with fail
  refine HBS.out.mono ?_
  rintro e wz ⟨⟨b, rfl⟩, hb⟩
  have k1 := KEY.out wz hb
  have HB := Lib.hid hb
  obtain ⟨f0, f1, f2⟩ := HC.out p E1.out
  have hg := cell_lt f0
  have g0 : wz.cell? ⟨R, oR + p * 3, none⟩ = _ := (hb.cell (p := ⟨R, oR + p * 3, none⟩) hg).trans f0
  have g1 : wz.cell? ⟨R, oR + p * 3 + 1, none⟩ = _ := (hb.cell (p := ⟨R, oR + p * 3 + 1, none⟩) hg).trans f1
  have g2 : wz.cell? ⟨R, oR + p * 3 + 2, none⟩ = _ := (hb.cell (p := ⟨R, oR + p * 3 + 2, none⟩) hg).trans f2
  clear f0 f1 f2 hg hb
  have E3 := E2.out
  obtain ⟨q, hq⟩ : ∃ q, l.getD p rg0 = q := ⟨_, rfl⟩
  rw [hq] at g0 g1 g2 E3
  have HQ := Lib.hid hq; clear hq
  obtain ⟨lo, y, cl⟩ := q
  dsimp only at g0 g1 g2
  have de : decide (lo ≤ 65533) = false := decide_eq_false (show ¬ lo ≤ 65533 from Int.not_le.2 E3)
  clear E3
  dsimp only
  go_wp2
  all_goals go_ret
  all_goals exact ⟨by rw [← HRES.out, if_neg (fun h => (Int.not_le.2 E2.out) h.2)]; rfl, HB.out⟩
 ·have dp : decide ((p : Int) < n) = true := decide_eq_true (by omega)
  have E1 := Lib.hid e1; have E2 := Lib.hid e2
  clear e1 e2
  obtain ⟨res, hres⟩ : ∃ res, (if p < n ∧ (l.getD p rg0).1 ≤ 65533 then (l.getD p rg0).2.2 else 0) = res := ⟨_, rfl⟩
  rw [hres]
  have HRES := Lib.hid hres; clear hres
  go_enter Tryz.func95, Tryz.ntmps95
  go_wp2_with fail
  refine HBS.out.mono ?_
  rintro e wz ⟨⟨b, rfl⟩, hb⟩
  have k1 := KEY.out wz hb
  have HB := Lib.hid hb
  obtain ⟨f0, f1, f2⟩ := HC.out p E1.out
  have hg := cell_lt f0
  have g0 : wz.cell? ⟨R, oR + p * 3, none⟩ = _ := (hb.cell (p := ⟨R, oR + p * 3, none⟩) hg).trans f0
  have g1 : wz.cell? ⟨R, oR + p * 3 + 1, none⟩ = _ := (hb.cell (p := ⟨R, oR + p * 3 + 1, none⟩) hg).trans f1
  have g2 : wz.cell? ⟨R, oR + p * 3 + 2, none⟩ = _ := (hb.cell (p := ⟨R, oR + p * 3 + 2, none⟩) hg).trans f2
  clear f0 f1 f2 hg hb
  have E3 := E2.out
  obtain ⟨q, hq⟩ : ∃ q, l.getD p rg0 = q := ⟨_, rfl⟩
  rw [hq] at g0 g1 g2 E3
  have HQ := Lib.hid hq; clear hq
  obtain ⟨lo, y, cl⟩ := q
  dsimp only at g0 g1 g2
  have de : decide (lo ≤ 65533) = true := decide_eq_true E3
  clear E3
  dsimp only
  go_wp2
  all_goals go_ret
  all_goals exact ⟨by rw [← HRES.out, if_pos ⟨E1.out, E2.out⟩, HQ.out]; rfl, HB.out⟩
 ·have dp : decide ((p : Int) < n) = false := decide_eq_false (by omega)
  have E1 := Lib.hid e1; clear e1
  obtain ⟨res, hres⟩ : ∃ res, (if p < n ∧ (l.getD p rg0).1 ≤ x then (l.getD p rg0).2.2 else 0) = res := ⟨_, rfl⟩
  rw [hres]
  have HRES := Lib.hid hres; clear hres
  go_enter Tryz.func95, Tryz.ntmps95
  go_wp2_with fail
  refine HBS.out.mono ?_
  rintro e wz ⟨⟨b, rfl⟩, hb⟩
  have k1 := KEY.out wz hb
  have HB := Lib.hid hb
  clear hb
  dsimp only
  go_wp2
  all_goals go_ret
  all_goals exact ⟨by rw [← HRES.out, if_neg (fun h => absurd h.1 E1.out)]; rfl, HB.out⟩
 ·have dp : decide ((p : Int) < n) = true := decide_eq_true (by omega)
  have E1 := Lib.hid e1; have E2 := Lib.hid e2
  clear e1 e2
  obtain ⟨res, hres⟩ : ∃ res, (if p < n ∧ (l.getD p rg0).1 ≤ x then (l.getD p rg0).2.2 else 0) = res := ⟨_, rfl⟩
  rw [hres]
  have HRES := Lib.hid hres; clear hres
  go_enter Tryz.func95, Tryz.ntmps95
  go_wp2_with fail
  refine HBS.out.mono ?_
  rintro e wz ⟨⟨b, rfl⟩, hb⟩
  have k1 := KEY.out wz hb
  have HB := Lib.hid hb
  obtain ⟨f0, f1, f2⟩ := HC.out p E1.out
  have hg := cell_lt f0
  have g0 : wz.cell? ⟨R, oR + p * 3, none⟩ = _ := (hb.cell (p := ⟨R, oR + p * 3, none⟩) hg).trans f0
  have g1 : wz.cell? ⟨R, oR + p * 3 + 1, none⟩ = _ := (hb.cell (p := ⟨R, oR + p * 3 + 1, none⟩) hg).trans f1
  have g2 : wz.cell? ⟨R, oR + p * 3 + 2, none⟩ = _ := (hb.cell (p := ⟨R, oR + p * 3 + 2, none⟩) hg).trans f2
  clear f0 f1 f2 hg hb
  have E3 := E2.out
  obtain ⟨q, hq⟩ : ∃ q, l.getD p rg0 = q := ⟨_, rfl⟩
  rw [hq] at g0 g1 g2 E3
  have HQ := Lib.hid hq; clear hq
  obtain ⟨lo, y, cl⟩ := q
  dsimp only at g0 g1 g2
  have de : decide (lo ≤ x) = false := decide_eq_false (show ¬ lo ≤ x from Int.not_le.2 E3)
  clear E3
  dsimp only
  go_wp2
  all_goals go_ret
  all_goals exact ⟨by rw [← HRES.out, if_neg (fun h => (Int.not_le.2 E2.out) h.2)]; rfl, HB.out⟩
 ·have dp : decide ((p : Int) < n) = true := decide_eq_true (by omega)
  have E1 := Lib.hid e1; have E2 := Lib.hid e2
  clear e1 e2
  obtain ⟨res, hres⟩ : ∃ res, (if p < n ∧ (l.getD p rg0).1 ≤ x then (l.getD p rg0).2.2 else 0) = res := ⟨_, rfl⟩
  rw [hres]
  have HRES := Lib.hid hres; clear hres
  go_enter Tryz.func95, Tryz.ntmps95
  go_wp2_with fail
  refine HBS.out.mono ?_
  rintro e wz ⟨⟨b, rfl⟩, hb⟩
  have k1 := KEY.out wz hb
  have HB := Lib.hid hb
  obtain ⟨f0, f1, f2⟩ := HC.out p E1.out
  have hg := cell_lt f0
  have g0 : wz.cell? ⟨R, oR + p * 3, none⟩ = _ := (hb.cell (p := ⟨R, oR + p * 3, none⟩) hg).trans f0
  have g1 : wz.cell? ⟨R, oR + p * 3 + 1, none⟩ = _ := (hb.cell (p := ⟨R, oR + p * 3 + 1, none⟩) hg).trans f1
  have g2 : wz.cell? ⟨R, oR + p * 3 + 2, none⟩ = _ := (hb.cell (p := ⟨R, oR + p * 3 + 2, none⟩) hg).trans f2
  clear f0 f1 f2 hg hb
  have E3 := E2.out
  obtain ⟨q, hq⟩ : ∃ q, l.getD p rg0 = q := ⟨_, rfl⟩
  rw [hq] at g0 g1 g2 E3
  have HQ := Lib.hid hq; clear hq
  obtain ⟨lo, y, cl⟩ := q
  dsimp only at g0 g1 g2
  have de : decide (lo ≤ x) = true := decide_eq_true E3
  clear E3
  dsimp only
  go_wp2
  all_goals go_ret
  all_goals exact ⟨by rw [← HRES.out, if_pos ⟨E1.out, E2.out⟩, HQ.out]; rfl, HB.out⟩
end
section
open Go.Shelf Go.RowKit Go.Lib Go.Proofs.YtnfghboholehdaaGreatDoor.Am
def IdxPost (l : List Int) (x : Int) (W : World) (e : Ending) (w' : World) : Prop := (∃ i, e = .returned (.int .i64 i) ∧ decide (0 ≤ i) = l.contains x) ∧ w' = W
set_option maxHeartbeats 1000000 in
set_option maxRecDepth 100000 in
theorem IndexR_ok (l : List Int) (x : Int) (g o n c : Nat) (hn : l.length = n) (hsm : n ≤ 1000000) (W : World) (hc : ∀ j, j < n → W.cell? ⟨g, o + j, none⟩ = some (.int .i32 (l.getD j 0))) :
 Calls Tryz.prog 188 #[.slice (some ⟨g, o, none⟩) n c, .int .i32 x] W (IdxPost l x W) := by
 have HC := Lib.hid hc; have HN := Lib.hid hn
 clear hc hn
 go_enter Tryz.func188, Tryz.ntmps188
 go_wp2
 go_loop [8] (fun i => ∃ k : Nat, k ≤ n ∧ i = .int .i64 k ∧ ∀ j, j < k → l.getD j 0 ≠ x) (fun i => n - (RowKit.intOf i).toNat)
 case atStart => exact ⟨0, Nat.zero_le _, rfl, fun j hj => by omega⟩
 case round =>
  obtain ⟨k, hk, rfl, hlo⟩ := hrel
  have HLO := Lib.hid hlo; clear hlo
  by_cases hlt : k < n
  ·have d1 := HC.out k hlt
   obtain ⟨y, hy⟩ : ∃ y, l.getD k 0 = y := ⟨_, rfl⟩
   rw [hy] at d1
   have HY := Lib.hid hy; clear hy
   by_cases he : x = y
   ·subst he
    go_wp2
    go_ret
    refine ⟨⟨_, rfl, ?_⟩, rfl⟩
    have hm : x ∈ l := by
     rw [← HY.out, List.getD_eq_getElem?_getD, List.getElem?_eq_getElem (by rw [HN.out]; exact hlt)]
     exact List.getElem_mem _
    rw [List.contains_iff_mem.2 hm]
    exact decide_eq_true (Int.natCast_nonneg k)
   ·have hd : (x == y) = false := beq_eq_false_iff_ne.2 he
    have HE := Lib.hid he; clear he
    go_wp2
    refine ⟨⟨k + 1, hlt, by go_num, fun j hj => ?_⟩, by simp [RowKit.intOf]; omega⟩
    rcases Nat.lt_or_ge j k with c | c
    ·exact HLO.out j c
    ·obtain rfl : j = k := by omega
     rw [HY.out]; exact fun h => HE.out h.symm
  ·obtain rfl : k = n := by omega
   go_wp2
   go_ret
   refine ⟨⟨_, rfl, ?_⟩, rfl⟩
   have hm : l.contains x = false := by
    rw [Bool.eq_false_iff]
    intro h
    obtain ⟨j, hj, he⟩ := List.mem_iff_getElem.1 (List.contains_iff_mem.1 h)
    exact HLO.out j (by rw [← HN.out]; exact hj) (by rw [List.getD_eq_getElem?_getD, List.getElem?_eq_getElem hj]; exact he)
   rw [hm]; rfl
set_option maxRecDepth 100000 in
theorem ContainsR_ok (l : List Int) (x : Int) (g o n c : Nat) (hn : l.length = n) (hsm : n ≤ 1000000) (W : World) (hc : ∀ j, j < n → W.cell? ⟨g, o + j, none⟩ = some (.int .i32 (l.getD j 0))) :
 Calls Tryz.prog 136 #[.slice (some ⟨g, o, none⟩) n c, .int .i32 x] W fun e w' => e = .returned (.bool (l.contains x)) ∧ w' = W := by
 have H := Lib.hid (IndexR_ok l x g o n c hn hsm W hc)
 obtain ⟨b, hb⟩ : ∃ b, l.contains x = b := ⟨_, rfl⟩
 unfold IdxPost at H
 rw [hb] at H
 rw [hb]
 clear hc hb hn
 go_enter Tryz.func136, Tryz.ntmps136
 go_wp2_with fail
 refine H.out.mono ?_
 rintro e w1 ⟨⟨i, rfl, hi⟩, rfl⟩
 have HI := Lib.hid hi; clear hi
 dsimp only
 go_wp2
 go_ret
 exact ⟨by rw [← HI.out]; rfl, rfl⟩
set_option maxHeartbeats 1000000 in
set_option maxRecDepth 100000 in
theorem IndexI_ok (l : List Int) (x : Int) (g o n c : Nat) (hn : l.length = n) (hsm : n ≤ 1000000) (W : World) (hc : ∀ j, j < n → W.cell? ⟨g, o + j, none⟩ = some (.int .i64 (l.getD j 0))) :
 Calls Tryz.prog 189 #[.slice (some ⟨g, o, none⟩) n c, .int .i64 x] W (IdxPost l x W) := by
 have HC := Lib.hid hc; have HN := Lib.hid hn
 clear hc hn
 go_enter Tryz.func189, Tryz.ntmps189
 go_wp2
 go_loop [8] (fun i => ∃ k : Nat, k ≤ n ∧ i = .int .i64 k ∧ ∀ j, j < k → l.getD j 0 ≠ x) (fun i => n - (RowKit.intOf i).toNat)
 case atStart => exact ⟨0, Nat.zero_le _, rfl, fun j hj => by omega⟩
 case round =>
  obtain ⟨k, hk, rfl, hlo⟩ := hrel
  have HLO := Lib.hid hlo; clear hlo
  by_cases hlt : k < n
  ·have d1 := HC.out k hlt
   obtain ⟨y, hy⟩ : ∃ y, l.getD k 0 = y := ⟨_, rfl⟩
   rw [hy] at d1
   have HY := Lib.hid hy; clear hy
   by_cases he : x = y
   ·subst he
    go_wp2
    go_ret
    refine ⟨⟨_, rfl, ?_⟩, rfl⟩
    have hm : x ∈ l := by
     rw [← HY.out, List.getD_eq_getElem?_getD, List.getElem?_eq_getElem (by rw [HN.out]; exact hlt)]
     exact List.getElem_mem _
    rw [List.contains_iff_mem.2 hm]
    exact decide_eq_true (Int.natCast_nonneg k)
   ·have hd : (x == y) = false := beq_eq_false_iff_ne.2 he
    have HE := Lib.hid he; clear he
    go_wp2
    refine ⟨⟨k + 1, hlt, by go_num, fun j hj => ?_⟩, by simp [RowKit.intOf]; omega⟩
    rcases Nat.lt_or_ge j k with c | c
    ·exact HLO.out j c
    ·obtain rfl : j = k := by omega
     rw [HY.out]; exact fun h => HE.out h.symm
  ·obtain rfl : k = n := by omega
   go_wp2
   go_ret
   refine ⟨⟨_, rfl, ?_⟩, rfl⟩
   have hm : l.contains x = false := by
    rw [Bool.eq_false_iff]
    intro h
    obtain ⟨j, hj, he⟩ := List.mem_iff_getElem.1 (List.contains_iff_mem.1 h)
    exact HLO.out j (by rw [← HN.out]; exact hj) (by rw [List.getD_eq_getElem?_getD, List.getElem?_eq_getElem hj]; exact he)
   rw [hm]; rfl
set_option maxRecDepth 100000 in
theorem ContainsI_ok (l : List Int) (x : Int) (g o n c : Nat) (hn : l.length = n) (hsm : n ≤ 1000000) (W : World) (hc : ∀ j, j < n → W.cell? ⟨g, o + j, none⟩ = some (.int .i64 (l.getD j 0))) :
 Calls Tryz.prog 137 #[.slice (some ⟨g, o, none⟩) n c, .int .i64 x] W fun e w' => e = .returned (.bool (l.contains x)) ∧ w' = W := by
 have H := Lib.hid (IndexI_ok l x g o n c hn hsm W hc)
 obtain ⟨b, hb⟩ : ∃ b, l.contains x = b := ⟨_, rfl⟩
 unfold IdxPost at H
 rw [hb] at H
 rw [hb]
 clear hc hb hn
 go_enter Tryz.func137, Tryz.ntmps137
 go_wp2_with fail
 refine H.out.mono ?_
 rintro e w1 ⟨⟨i, rfl, hi⟩, rfl⟩
 have HI := Lib.hid hi; clear hi
 dsimp only
 go_wp2
 go_ret
 exact ⟨by rw [← HI.out]; rfl, rfl⟩
end
section
open Go.Shelf Go.RowKit Go.Lib Go.Proofs.YtnfghboholehdaaGreatDoor.Am
def passedL : List Int := [39, 46, 58, 183, 8217]
def overL : List Int := [4, 5, 6]
def clsG (r : Int) : Int := clsOf rangedG (runeOr r)
/-- has a rune no part in what is final? -/
def passedF (r : Int) : Bool := passedL.contains r || overL.contains (clsG r)
theorem rangedG_asc : ascR rangedG = true := by decide +kernel
theorem rangedG_len : rangedG.length = 54 := rfl
def PassPost (r : Int) (W : World) (e : Ending) (w' : World) : Prop := e = .returned (.bool (passedF r)) ∧ Below W.heap.size W w'
theorem below_drew {B : Nat} {W w : World} (h : Below B W w) : Below B W w.drew := ⟨h.os, h.tape, h.output, h.size, h.block⟩
def fiveO : Obj := .cells #[.int .i32 39, .int .i32 46, .int .i32 58, .int .i32 183, .int .i32 8217] 21
theorem five_cells (W : World) : ∀ j, j < 5 → (W.alloc (.cells #[.int .i32 39, .int .i32 46, .int .i32 58, .int .i32 183, .int .i32 8217] 21)).drew.cell? ⟨W.heap.size, 0 + j, none⟩ = some (.int .i32 (passedL.getD j 0)) := by
 intro j hj
 show (W.alloc _).cell? _ = _
 rw [Nat.zero_add, cell_of_row _ _ _ _ _ _ (heap_alloc_new W _)]
 match j, hj with
 | 0, _ => rfl
 | 1, _ => rfl
 | 2, _ => rfl
 | 3, _ => rfl
 | 4, _ => rfl
 | j + 5, h => exact absurd h (by omega)
set_option maxHeartbeats 4000000 in
set_option maxRecDepth 100000 in
theorem passed_yes (r : Int) (v : Value) (W : World) (h : OpenW W v) (hc : passedL.contains r = true) : Calls Tryz.prog 94 #[v, .int .i32 r] W (PassPost r W) := by
 have hp : passedF r = true := by unfold passedF; rw [hc]; rfl
 obtain ⟨B, o, rfl, hop, ⟨d, c3, hdb⟩, i, c4, hi⟩ := h
 have HDB := Lib.hid hdb
 obtain ⟨D, oD, rfl⟩ : ∃ D oD, d = .pointer (some ⟨D, oD, none⟩) := by obtain ⟨D, o, _, _, _, rfl, _⟩ := hdb; exact ⟨_, _, rfl⟩
 obtain ⟨g, oI, cI, rfl, hle, hi⟩ := hi
 have HI := Lib.hid hi
 have hk := And.intro (cell_lt c3) (cell_lt c4)
 have key : ∀ w, Below W.heap.size W w → w.cell? ⟨B, o + 3, none⟩ = some (.pointer (some ⟨D, oD, none⟩)) ∧ w.cell? ⟨B, o + 4, none⟩ = some (.slice (some ⟨g, oI, none⟩) 3 cI) := fun w hb => ⟨by rw [hb.cell hk.1]; exact c3, by rw [hb.cell hk.2]; exact c4⟩
 have KEY := Lib.hid key
 have HB0 := Lib.hid ((Below.refl W.heap.size W).alloc (Nat.le_refl _) fiveO)
 unfold fiveO at HB0
 have HP := Lib.hid hp; have HC := Lib.hid hc
 clear hp hc c3 c4 hi hk key hle hop hdb
 go_enter Tryz.func94, Tryz.ntmps94
 go_wp2_with fail
 refine wp_region_any (by kernel_rfl) ?_
 change wpAny _ _ _ _ _ _ _ (World.drew _)
 refine wpAny_take (i := 1) (v := ?_) rfl (by kernel_rfl) (by kernel_rfl) (by kernel_rfl) (fun _ _ _ h => h) (Or.inl ⟨by kernel_rfl, ?_⟩) ?_
 rotate_left
 ·intro w; go_simp; try with_reducible rfl
 (try simp only [Act.put]); (try simp only [List.setIfInBounds_toArray]); (try simp only [List.set_cons_succ]); (try simp only [List.set_cons_zero])
 refine wpAny_ready (rs := [0]) (by kernel_rfl) (by simp) ?_
 refine AllReady.cons rfl (fun K hK => ?_) ?_
 ·go_simp
  have HB := Lib.hid (below_drew HB0.out)
  obtain ⟨k3, k4⟩ := KEY.out _ HB.out
  refine hK _ _ ?_; clear hK K
  refine wpAny_ready (rs := [2]) (by kernel_rfl) (by simp) ?_
  refine AllReady.cons rfl (fun K hK => ?_) ?_
  ·go_simp
   refine (ContainsR_ok passedL r W.heap.size 0 5 5 rfl (by decide) _ (five_cells W)).mono ?_
   rintro e wz ⟨rfl, rfl⟩
   rw [HC.out]
   dsimp only
   refine hK _ _ ?_; clear hK K
   refine wpAny_take (i := 3) (v := ?_) rfl (by kernel_rfl) (by kernel_rfl) (by kernel_rfl) (fun _ _ _ h => h) (Or.inl ⟨by kernel_rfl, ?_⟩) ?_
   rotate_left
   ·intro w; go_simp; try with_reducible rfl
   (try simp only [Act.put]); (try simp only [List.setIfInBounds_toArray]); (try simp only [List.set_cons_succ]); (try simp only [List.set_cons_zero])
   refine wpAny_take (i := 4) (v := undef) rfl (by kernel_rfl) (by kernel_rfl) (by kernel_rfl) (fun _ _ _ h => h) (Or.inr ⟨by kernel_rfl, rfl⟩) ?_
   (try simp only [Act.put]); (try simp only [List.setIfInBounds_toArray]); (try simp only [List.set_cons_succ]); (try simp only [List.set_cons_zero])
   refine wpAny_take (i := 5) (v := undef) rfl (by kernel_rfl) (by kernel_rfl) (by kernel_rfl) (fun _ _ _ h => h) (Or.inr ⟨by kernel_rfl, rfl⟩) ?_
   (try simp only [Act.put]); (try simp only [List.setIfInBounds_toArray]); (try simp only [List.set_cons_succ]); (try simp only [List.set_cons_zero])
   refine wpAny_take (i := 6) (v := undef) rfl (by kernel_rfl) (by kernel_rfl) (by kernel_rfl) (fun _ _ _ h => h) (Or.inr ⟨by kernel_rfl, rfl⟩) ?_
   (try simp only [Act.put]); (try simp only [List.setIfInBounds_toArray]); (try simp only [List.set_cons_succ]); (try simp only [List.set_cons_zero])
   refine wpAny_take (i := 7) (v := undef) rfl (by kernel_rfl) (by kernel_rfl) (by kernel_rfl) (fun _ _ _ h => h) (Or.inr ⟨by kernel_rfl, rfl⟩) ?_
   (try simp only [Act.put]); (try simp only [List.setIfInBounds_toArray]); (try simp only [List.set_cons_succ]); (try simp only [List.set_cons_zero])
   refine wpAny_take (i := 8) (v := undef) rfl (by kernel_rfl) (by kernel_rfl) (by kernel_rfl) (fun _ _ _ h => h) (Or.inr ⟨by kernel_rfl, rfl⟩) ?_
   (try simp only [Act.put]); (try simp only [List.setIfInBounds_toArray]); (try simp only [List.set_cons_succ]); (try simp only [List.set_cons_zero])
   refine wpAny_take (i := 9) (v := undef) rfl (by kernel_rfl) (by kernel_rfl) (by kernel_rfl) (fun _ _ _ h => h) (Or.inr ⟨by kernel_rfl, rfl⟩) ?_
   (try simp only [Act.put]); (try simp only [List.setIfInBounds_toArray]); (try simp only [List.set_cons_succ]); (try simp only [List.set_cons_zero])
   refine wpAny_take (i := 10) (v := undef) rfl (by kernel_rfl) (by kernel_rfl) (by kernel_rfl) (fun _ _ _ h => h) (Or.inr ⟨by kernel_rfl, rfl⟩) ?_
   (try simp only [Act.put]); (try simp only [List.setIfInBounds_toArray]); (try simp only [List.set_cons_succ]); (try simp only [List.set_cons_zero])
   refine wpAny_take (i := 11) (v := undef) rfl (by kernel_rfl) (by kernel_rfl) (by kernel_rfl) (fun _ _ _ h => h) (Or.inr ⟨by kernel_rfl, rfl⟩) ?_
   (try simp only [Act.put]); (try simp only [List.setIfInBounds_toArray]); (try simp only [List.set_cons_succ]); (try simp only [List.set_cons_zero])
   refine wpAny_take (i := 12) (v := undef) rfl (by kernel_rfl) (by kernel_rfl) (by kernel_rfl) (fun _ _ _ h => h) (Or.inr ⟨by kernel_rfl, rfl⟩) ?_
   (try simp only [Act.put]); (try simp only [List.setIfInBounds_toArray]); (try simp only [List.set_cons_succ]); (try simp only [List.set_cons_zero])
   refine wpAny_take (i := 13) (v := undef) rfl (by kernel_rfl) (by kernel_rfl) (by kernel_rfl) (fun _ _ _ h => h) (Or.inr ⟨by kernel_rfl, rfl⟩) ?_
   (try simp only [Act.put]); (try simp only [List.setIfInBounds_toArray]); (try simp only [List.set_cons_succ]); (try simp only [List.set_cons_zero])
   refine wpAny_take (i := 14) (v := undef) rfl (by kernel_rfl) (by kernel_rfl) (by kernel_rfl) (fun _ _ _ h => h) (Or.inr ⟨by kernel_rfl, rfl⟩) ?_
   (try simp only [Act.put]); (try simp only [List.setIfInBounds_toArray]); (try simp only [List.set_cons_succ]); (try simp only [List.set_cons_zero])
   refine wpAny_take (i := 15) (v := ?_) rfl (by kernel_rfl) (by kernel_rfl) (by kernel_rfl) (fun _ _ _ h => h) (Or.inl ⟨by kernel_rfl, ?_⟩) ?_
   rotate_left
   ·intro w; go_simp; try with_reducible rfl
   (try simp only [Act.put]); (try simp only [List.setIfInBounds_toArray]); (try simp only [List.set_cons_succ]); (try simp only [List.set_cons_zero])
   refine wpAny_take (i := 16) (v := ?_) rfl (by kernel_rfl) (by kernel_rfl) (by kernel_rfl) (fun _ _ _ h => h) (Or.inl ⟨by kernel_rfl, ?_⟩) ?_
   rotate_left
   ·intro w; go_simp; try with_reducible rfl
   (try simp only [Act.put]); (try simp only [List.setIfInBounds_toArray]); (try simp only [List.set_cons_succ]); (try simp only [List.set_cons_zero])
   refine wpAny_done (by kernel_rfl) ?_ _
   simp only [List.getElem_toArray, List.getElem_cons_succ, List.getElem_cons_zero, List.setIfInBounds_toArray, List.set_cons_zero, List.set_cons_succ]
   go_wp2
   go_ret
   exact ⟨by rw [HP.out]; rfl, HB.out⟩
  exact AllReady.nil
 exact AllReady.nil
set_option maxHeartbeats 4000000 in
set_option maxRecDepth 100000 in
theorem passed_no (r : Int) (v : Value) (W : World) (h : OpenW W v) (hc : passedL.contains r = false) : Calls Tryz.prog 94 #[v, .int .i32 r] W (PassPost r W) := by
 obtain ⟨z, hz⟩ : ∃ z, overL.contains (clsG r) = z := ⟨_, rfl⟩
 have hp : passedF r = z := by unfold passedF; rw [hc, hz]; rfl
 have HZ := Lib.hid hz; clear hz
 obtain ⟨B, o, rfl, hop, ⟨d, c3, hdb⟩, i, c4, hi⟩ := h
 have HDB := Lib.hid hdb
 obtain ⟨D, oD, rfl⟩ : ∃ D oD, d = .pointer (some ⟨D, oD, none⟩) := by obtain ⟨D, o, _, _, _, rfl, _⟩ := hdb; exact ⟨_, _, rfl⟩
 obtain ⟨g, oI, cI, rfl, hle, hi⟩ := hi
 have HI := Lib.hid hi
 have hk := And.intro (cell_lt c3) (cell_lt c4)
 have key : ∀ w, Below W.heap.size W w → w.cell? ⟨B, o + 3, none⟩ = some (.pointer (some ⟨D, oD, none⟩)) ∧ w.cell? ⟨B, o + 4, none⟩ = some (.slice (some ⟨g, oI, none⟩) 3 cI) := fun w hb => ⟨by rw [hb.cell hk.1]; exact c3, by rw [hb.cell hk.2]; exact c4⟩
 have KEY := Lib.hid key
 have HB0 := Lib.hid ((Below.refl W.heap.size W).alloc (Nat.le_refl _) fiveO)
 unfold fiveO at HB0
 have HP := Lib.hid hp; have HC := Lib.hid hc
 clear hp hc c3 c4 hi hk key hle hop hdb
 go_enter Tryz.func94, Tryz.ntmps94
 go_wp2_with fail
 refine wp_region_any (by kernel_rfl) ?_
 change wpAny _ _ _ _ _ _ _ (World.drew _)
 refine wpAny_take (i := 1) (v := ?_) rfl (by kernel_rfl) (by kernel_rfl) (by kernel_rfl) (fun _ _ _ h => h) (Or.inl ⟨by kernel_rfl, ?_⟩) ?_
 rotate_left
 ·intro w; go_simp; try with_reducible rfl
 (try simp only [Act.put]); (try simp only [List.setIfInBounds_toArray]); (try simp only [List.set_cons_succ]); (try simp only [List.set_cons_zero])
 refine wpAny_ready (rs := [0]) (by kernel_rfl) (by simp) ?_
 refine AllReady.cons rfl (fun K hK => ?_) ?_
 ·go_simp
  have HB := Lib.hid (below_drew HB0.out)
  obtain ⟨k3, k4⟩ := KEY.out _ HB.out
  refine hK _ _ ?_; clear hK K
  refine wpAny_ready (rs := [2]) (by kernel_rfl) (by simp) ?_
  refine AllReady.cons rfl (fun K hK => ?_) ?_
  ·go_simp
   refine (ContainsR_ok passedL r W.heap.size 0 5 5 rfl (by decide) _ (five_cells W)).mono ?_
   rintro e wz ⟨rfl, rfl⟩
   rw [HC.out]
   dsimp only
   refine hK _ _ ?_; clear hK K
   refine wpAny_take (i := 3) (v := ?_) rfl (by kernel_rfl) (by kernel_rfl) (by kernel_rfl) (fun _ _ _ h => h) (Or.inl ⟨by kernel_rfl, ?_⟩) ?_
   rotate_left
   ·intro w; go_simp; try with_reducible rfl
   (try simp only [Act.put]); (try simp only [List.setIfInBounds_toArray]); (try simp only [List.set_cons_succ]); (try simp only [List.set_cons_zero])
   refine wpAny_take (i := 4) (v := ?_) rfl (by kernel_rfl) (by kernel_rfl) (by kernel_rfl) (fun _ _ _ h => h) (Or.inl ⟨by kernel_rfl, ?_⟩) ?_
   rotate_left
   ·intro w; go_simp; try with_reducible rfl
   (try simp only [Act.put]); (try simp only [List.setIfInBounds_toArray]); (try simp only [List.set_cons_succ]); (try simp only [List.set_cons_zero])
   refine wpAny_take (i := 5) (v := ?_) rfl (by kernel_rfl) (by kernel_rfl) (by kernel_rfl) (fun _ _ _ h => h) (Or.inl ⟨by kernel_rfl, ?_⟩) ?_
   rotate_left
   ·intro w; go_simp; try with_reducible rfl
   (try simp only [Act.put]); (try simp only [List.setIfInBounds_toArray]); (try simp only [List.set_cons_succ]); (try simp only [List.set_cons_zero])
   refine wpAny_take (i := 6) (v := ?_) rfl (by kernel_rfl) (by kernel_rfl) (by kernel_rfl) (fun _ _ _ h => h) (Or.inl ⟨by kernel_rfl, ?_⟩) ?_
   rotate_left
   ·intro w; go_simp; try with_reducible rfl
   (try simp only [Act.put]); (try simp only [List.setIfInBounds_toArray]); (try simp only [List.set_cons_succ]); (try simp only [List.set_cons_zero])
   refine wpAny_take (i := 8) (v := ?_) rfl (by kernel_rfl) (by kernel_rfl) (by kernel_rfl) (fun _ _ _ h => h) (Or.inl ⟨by kernel_rfl, ?_⟩) ?_
   rotate_left
   ·intro w; go_simp; try with_reducible rfl
   (try simp only [Act.put]); (try simp only [List.setIfInBounds_toArray]); (try simp only [List.set_cons_succ]); (try simp only [List.set_cons_zero])
   refine wpAny_take (i := 9) (v := ?_) rfl (by kernel_rfl) (by kernel_rfl) (by kernel_rfl) (fun _ _ _ h => h) (Or.inl ⟨by kernel_rfl, ?_⟩) ?_
   rotate_left
   ·intro w; go_simp; try with_reducible rfl
   (try simp only [Act.put]); (try simp only [List.setIfInBounds_toArray]); (try simp only [List.set_cons_succ]); (try simp only [List.set_cons_zero])
   refine wpAny_take (i := 10) (v := ?_) rfl (by kernel_rfl) (by kernel_rfl) (by kernel_rfl) (fun _ _ _ h => h) (Or.inl ⟨by kernel_rfl, ?_⟩) ?_
   rotate_left
   ·intro w; go_simp; try with_reducible rfl
   (try simp only [Act.put]); (try simp only [List.setIfInBounds_toArray]); (try simp only [List.set_cons_succ]); (try simp only [List.set_cons_zero])
   refine wpAny_take (i := 12) (v := ?_) rfl (by kernel_rfl) (by kernel_rfl) (by kernel_rfl) (fun _ _ _ h => h) (Or.inl ⟨by kernel_rfl, ?_⟩) ?_
   rotate_left
   ·intro w; go_simp; try with_reducible rfl
   (try simp only [Act.put]); (try simp only [List.setIfInBounds_toArray]); (try simp only [List.set_cons_succ]); (try simp only [List.set_cons_zero])
   refine wpAny_ready (rs := [7, 11]) (by kernel_rfl) (by simp) ?_
   refine AllReady.cons rfl (fun K hK => ?_) ?_
   ·go_simp
    refine hK _ _ ?_; clear hK K
    refine wpAny_ready (rs := [11]) (by kernel_rfl) (by simp) ?_
    refine AllReady.cons rfl (fun K hK => ?_) ?_
    ·go_simp
     refine hK _ _ ?_; clear hK K
     refine wpAny_ready (rs := [13]) (by kernel_rfl) (by simp) ?_
     refine AllReady.cons rfl (fun K hK => ?_) ?_
     ·go_simp
      refine (Get_ok rangedG rangedG_asc r _ 54 rangedG_len (by decide) _ (dbAt_below HDB.out HB.out)).mono ?_
      rintro e wz ⟨rfl, hbz⟩
      have HB := Lib.hid (HB.out.trans (hbz.mono HB.out.size)); clear hbz
      obtain ⟨k3, k4⟩ := KEY.out _ HB.out
      dsimp only
      refine hK _ _ ?_; clear hK K
      refine wpAny_ready (rs := [14]) (by kernel_rfl) (by simp) ?_
      refine AllReady.cons rfl (fun K hK => ?_) ?_
      ·go_simp
       refine (ContainsI_ok overL (clsG r) g oI 3 cI rfl (by decide) _ (fun j hj => by rw [HB.out.cell (cell_lt (HI.out j hj))]; exact HI.out j hj)).mono ?_
       rintro e wz ⟨rfl, rfl⟩
       rw [HZ.out]
       dsimp only
       refine hK _ _ ?_; clear hK K
       refine wpAny_take (i := 15) (v := ?_) rfl (by kernel_rfl) (by kernel_rfl) (by kernel_rfl) (fun _ _ _ h => h) (Or.inl ⟨by kernel_rfl, ?_⟩) ?_
       rotate_left
       ·intro w; go_simp; try with_reducible rfl
       (try simp only [Act.put]); (try simp only [List.setIfInBounds_toArray]); (try simp only [List.set_cons_succ]); (try simp only [List.set_cons_zero])
       refine wpAny_take (i := 16) (v := ?_) rfl (by kernel_rfl) (by kernel_rfl) (by kernel_rfl) (fun _ _ _ h => h) (Or.inl ⟨by kernel_rfl, ?_⟩) ?_
       rotate_left
       ·intro w; go_simp; try with_reducible rfl
       (try simp only [Act.put]); (try simp only [List.setIfInBounds_toArray]); (try simp only [List.set_cons_succ]); (try simp only [List.set_cons_zero])
       refine wpAny_done (by kernel_rfl) ?_ _
       simp only [List.getElem_toArray, List.getElem_cons_succ, List.getElem_cons_zero, List.setIfInBounds_toArray, List.set_cons_zero, List.set_cons_succ]
       go_wp2
       go_ret
       exact ⟨by rw [HP.out]; rfl, HB.out⟩
      exact AllReady.nil
     exact AllReady.nil
    exact AllReady.nil
   refine AllReady.cons rfl (fun K hK => ?_) ?_
   ·go_simp
    refine hK _ _ ?_; clear hK K
    refine wpAny_ready (rs := [7, 13]) (by kernel_rfl) (by simp) ?_
    refine AllReady.cons rfl (fun K hK => ?_) ?_
    ·go_simp
     refine hK _ _ ?_; clear hK K
     refine wpAny_ready (rs := [13]) (by kernel_rfl) (by simp) ?_
     refine AllReady.cons rfl (fun K hK => ?_) ?_
     ·go_simp
      refine (Get_ok rangedG rangedG_asc r _ 54 rangedG_len (by decide) _ (dbAt_below HDB.out HB.out)).mono ?_
      rintro e wz ⟨rfl, hbz⟩
      have HB := Lib.hid (HB.out.trans (hbz.mono HB.out.size)); clear hbz
      obtain ⟨k3, k4⟩ := KEY.out _ HB.out
      dsimp only
      refine hK _ _ ?_; clear hK K
      refine wpAny_ready (rs := [14]) (by kernel_rfl) (by simp) ?_
      refine AllReady.cons rfl (fun K hK => ?_) ?_
      ·go_simp
       refine (ContainsI_ok overL (clsG r) g oI 3 cI rfl (by decide) _ (fun j hj => by rw [HB.out.cell (cell_lt (HI.out j hj))]; exact HI.out j hj)).mono ?_
       rintro e wz ⟨rfl, rfl⟩
       rw [HZ.out]
       dsimp only
       refine hK _ _ ?_; clear hK K
       refine wpAny_take (i := 15) (v := ?_) rfl (by kernel_rfl) (by kernel_rfl) (by kernel_rfl) (fun _ _ _ h => h) (Or.inl ⟨by kernel_rfl, ?_⟩) ?_
       rotate_left
       ·intro w; go_simp; try with_reducible rfl
       (try simp only [Act.put]); (try simp only [List.setIfInBounds_toArray]); (try simp only [List.set_cons_succ]); (try simp only [List.set_cons_zero])
       refine wpAny_take (i := 16) (v := ?_) rfl (by kernel_rfl) (by kernel_rfl) (by kernel_rfl) (fun _ _ _ h => h) (Or.inl ⟨by kernel_rfl, ?_⟩) ?_
       rotate_left
       ·intro w; go_simp; try with_reducible rfl
       (try simp only [Act.put]); (try simp only [List.setIfInBounds_toArray]); (try simp only [List.set_cons_succ]); (try simp only [List.set_cons_zero])
       refine wpAny_done (by kernel_rfl) ?_ _
       simp only [List.getElem_toArray, List.getElem_cons_succ, List.getElem_cons_zero, List.setIfInBounds_toArray, List.set_cons_zero, List.set_cons_succ]
       go_wp2
       go_ret
       exact ⟨by rw [HP.out]; rfl, HB.out⟩
      exact AllReady.nil
     exact AllReady.nil
    refine AllReady.cons rfl (fun K hK => ?_) ?_
    ·go_simp
     refine (Get_ok rangedG rangedG_asc r _ 54 rangedG_len (by decide) _ (dbAt_below HDB.out HB.out)).mono ?_
     rintro e wz ⟨rfl, hbz⟩
     have HB := Lib.hid (HB.out.trans (hbz.mono HB.out.size)); clear hbz
     obtain ⟨k3, k4⟩ := KEY.out _ HB.out
     dsimp only
     refine hK _ _ ?_; clear hK K
     refine wpAny_ready (rs := [7]) (by kernel_rfl) (by simp) ?_
     refine AllReady.cons rfl (fun K hK => ?_) ?_
     ·go_simp
      refine hK _ _ ?_; clear hK K
      refine wpAny_ready (rs := [14]) (by kernel_rfl) (by simp) ?_
      refine AllReady.cons rfl (fun K hK => ?_) ?_
      ·go_simp
       refine (ContainsI_ok overL (clsG r) g oI 3 cI rfl (by decide) _ (fun j hj => by rw [HB.out.cell (cell_lt (HI.out j hj))]; exact HI.out j hj)).mono ?_
       rintro e wz ⟨rfl, rfl⟩
       rw [HZ.out]
       dsimp only
       refine hK _ _ ?_; clear hK K
       refine wpAny_take (i := 15) (v := ?_) rfl (by kernel_rfl) (by kernel_rfl) (by kernel_rfl) (fun _ _ _ h => h) (Or.inl ⟨by kernel_rfl, ?_⟩) ?_
       rotate_left
       ·intro w; go_simp; try with_reducible rfl
       (try simp only [Act.put]); (try simp only [List.setIfInBounds_toArray]); (try simp only [List.set_cons_succ]); (try simp only [List.set_cons_zero])
       refine wpAny_take (i := 16) (v := ?_) rfl (by kernel_rfl) (by kernel_rfl) (by kernel_rfl) (fun _ _ _ h => h) (Or.inl ⟨by kernel_rfl, ?_⟩) ?_
       rotate_left
       ·intro w; go_simp; try with_reducible rfl
       (try simp only [Act.put]); (try simp only [List.setIfInBounds_toArray]); (try simp only [List.set_cons_succ]); (try simp only [List.set_cons_zero])
       refine wpAny_done (by kernel_rfl) ?_ _
       simp only [List.getElem_toArray, List.getElem_cons_succ, List.getElem_cons_zero, List.setIfInBounds_toArray, List.set_cons_zero, List.set_cons_succ]
       go_wp2
       go_ret
       exact ⟨by rw [HP.out]; rfl, HB.out⟩
      exact AllReady.nil
     exact AllReady.nil
    exact AllReady.nil
   exact AllReady.nil
  exact AllReady.nil
 exact AllReady.nil
theorem passed_ok (r : Int) (v : Value) (W : World) (h : OpenW W v) : Calls Tryz.prog 94 #[v, .int .i32 r] W (PassPost r W) := by
 cases hc : passedL.contains r
 ·exact passed_no r v W h hc
 ·exact passed_yes r v W h hc
end
section
open Go.Shelf Go.RowKit Go.Lib Go.Proofs.YtnfghboholehdaaGreatDoor.Am
/-- the last rune ahead of a place that has a part -/
def backF (rs : List Int) : Nat → Option Nat
 | 0 => none
 | k + 1 => if passedF (rs.getD k 0) = true then backF rs k else some k
/-- the first rune from a place on that has a part -/
def onF (rs : List Int) : Nat → Nat → Nat
 | 0, j => j
 | n + 1, j => if j < rs.length ∧ passedF (rs.getD j 0) = true then onF rs n (j + 1) else j
def finalF (rs : List Int) (i : Nat) : Bool := match backF rs i with
 | none => false
 | some k => Cases.cased (rs.getD k 0) && (decide (onF rs rs.length (i + 1) = rs.length) || !Cases.cased (rs.getD (onF rs rs.length (i + 1)) 0))
theorem openW_P {w : World} {v : Value} (h : OpenW w v) : OpenP w v := by
 obtain ⟨_, _, _, h, _⟩ := h
 exact h
theorem cased_ok (r : Int) (v : Value) (w : World) (h : OpenP w v) : Calls Tryz.prog 32 #[v, .int .i32 r] w fun e w' => e = .returned (.bool (Cases.cased r)) ∧ Below w.heap.size w w' := bcased_ok r v w (openP_at h)
def FinalPost (b : Bool) (W : World) (e : Ending) (w' : World) : Prop := e = .returned (.bool b) ∧ Below W.heap.size W w'
set_option maxHeartbeats 2000000 in
set_option maxRecDepth 100000 in
theorem final_ok (rs : List Int) (v : Value) (g o n c i : Nat) (hn : rs.length = n) (hsm : n ≤ 1000000) (hi : i < n) (W : World) (h : OpenW W v) (hc : ∀ j, j < n → W.cell? ⟨g, o + j, none⟩ = some (.int .i32 (rs.getD j 0))) :
 Calls Tryz.prog 61 #[v, .slice (some ⟨g, o, none⟩) n c, .int .i64 i] W (FinalPost (finalF rs i) W) := by
 obtain ⟨B, oB, rfl⟩ : ∃ B o, v = .pointer (some ⟨B, o, none⟩) := by obtain ⟨B, o, rfl, _⟩ := h; exact ⟨B, o, rfl⟩
 obtain ⟨z, hz⟩ : ∃ z, finalF rs i = z := ⟨_, rfl⟩
 rw [hz]
 have HZ := Lib.hid hz; have HO := Lib.hid h; have HC := Lib.hid hc; have HN := Lib.hid hn
 clear hz h hc hn
 go_enter Tryz.func61, Tryz.ntmps61
 go_wp2
 go_loopw [7] (fun a wr => ∃ k : Nat, k ≤ i ∧ a = .int .i64 ((k : Int) - 1) ∧ backF rs k = backF rs i ∧ Below W.heap.size W wr) (fun a _ => (RowKit.intOf a + 1).toNat)
 case atStart => exact ⟨i, Nat.le_refl _, rfl, rfl, Below.refl _ _⟩
 case round =>
  obtain ⟨k, hk, rfl, hbk, hb⟩ := hrel
  have HB := Lib.hid hb; have HBK := Lib.hid hbk; clear hb hbk
  rcases Nat.eq_zero_or_pos k with rfl | hpos
  ·have hz : z = false := by rw [← HZ.out]; unfold finalF; rw [← HBK.out]; rfl
   have HZ2 := Lib.hid hz; clear hz
   go_wp2
   go_ret
   exact ⟨by rw [HZ2.out]; rfl, HB.out⟩
  ·obtain ⟨k', rfl⟩ : ∃ k', k = k' + 1 := ⟨k - 1, by omega⟩
   have e1 : ((k' + 1 : Nat) : Int) - 1 = (k' : Int) := by omega
   rw [e1]
   clear e1 hpos
   have d1 := HC.out k' (by omega)
   have hg := cell_lt d1
   have d2 : wr.cell? ⟨g, o + k', none⟩ = _ := (HB.out.cell (p := ⟨g, o + k', none⟩) hg).trans d1
   obtain ⟨r, hr⟩ : ∃ r, rs.getD k' 0 = r := ⟨_, rfl⟩
   rw [hr] at d2
   have HR := Lib.hid hr
   clear hr d1 hg
   have hstep : backF rs (k' + 1) = if passedF r = true then backF rs k' else some k' := by show (if passedF (rs.getD k' 0) = true then _ else _) = _; rw [HR.out]
   have HS := Lib.hid hstep; clear hstep
   cases hp : passedF r
   ·have HP := Lib.hid hp; clear hp
    have hbf : backF rs i = some k' := by rw [← HBK.out, HS.out, HP.out]; rfl
    have HBF := Lib.hid hbf; clear hbf
    cases hcs : Cases.cased r
    ·have hz : z = false := by rw [← HZ.out]; unfold finalF; rw [HBF.out]; dsimp only; rw [HR.out, hcs]; rfl
     have HZ2 := Lib.hid hz; have HCS := Lib.hid hcs; clear hz hcs
     go_wp2_with (first
      | (go_at_call 94
         refine (passed_ok r _ _ (openW_below HO.out HB.out)).mono ?_
         rintro x wz ⟨rfl, hbz⟩
         rw [HP.out]
         have HB := Lib.hid (HB.out.trans (hbz.mono HB.out.size)); clear hbz
         have d2 : wz.cell? ⟨g, o + k', none⟩ = some (.int .i32 r) := by rw [HB.out.cell (cell_lt (HC.out k' (by omega))), ← HR.out]; exact HC.out k' (by omega))
      | (go_at_call 32
         refine (cased_ok r _ _ (openW_P (openW_below HO.out HB.out))).mono ?_
         rintro x wz ⟨rfl, hbz⟩
         rw [HCS.out]
         have HB := Lib.hid (HB.out.trans (hbz.mono HB.out.size)); clear hbz))
     go_ret
     exact ⟨by rw [HZ2.out]; rfl, HB.out⟩
    ·have HCS := Lib.hid hcs; clear hcs
     go_wp2_with (first
      | (go_at_call 94
         refine (passed_ok r _ _ (openW_below HO.out HB.out)).mono ?_
         rintro x wz ⟨rfl, hbz⟩
         rw [HP.out]
         have HB := Lib.hid (HB.out.trans (hbz.mono HB.out.size)); clear hbz
         have d2 : wz.cell? ⟨g, o + k', none⟩ = some (.int .i32 r) := by rw [HB.out.cell (cell_lt (HC.out k' (by omega))), ← HR.out]; exact HC.out k' (by omega))
      | (go_at_call 32
         refine (cased_ok r _ _ (openW_P (openW_below HO.out HB.out))).mono ?_
         rintro x wz ⟨rfl, hbz⟩
         rw [HCS.out]
         have HB := Lib.hid (HB.out.trans (hbz.mono HB.out.size)); clear hbz))
     go_loopw [7] (fun a w2 => ∃ j f : Nat, j ≤ n ∧ a = .int .i64 j ∧ onF rs f j = onF rs n (i + 1) ∧ n ≤ f + j ∧ Below W.heap.size W w2) (fun a _ => n - (RowKit.intOf a).toNat)
     case atStart => exact ⟨i + 1, n, hi, by go_num, rfl, by omega, HB.out⟩
     case round =>
      obtain ⟨j, f, hjn, rfl, hon, hf, hb⟩ := hrel
      have HB := Lib.hid hb; have HON := Lib.hid hon; clear hb hon
      by_cases hlt : j < n
      ·obtain ⟨f', rfl⟩ : ∃ f', f = f' + 1 := ⟨f - 1, by omega⟩
       have d3 := HC.out j hlt
       have hg := cell_lt d3
       have d4 : wr.cell? ⟨g, o + j, none⟩ = _ := (HB.out.cell (p := ⟨g, o + j, none⟩) hg).trans d3
       obtain ⟨r2, hr2⟩ : ∃ r2, rs.getD j 0 = r2 := ⟨_, rfl⟩
       rw [hr2] at d4
       have HR2 := Lib.hid hr2
       clear hr2 d3 hg
       have hstep : onF rs (f' + 1) j = if passedF r2 = true then onF rs f' (j + 1) else j := by
        show (if j < rs.length ∧ passedF (rs.getD j 0) = true then _ else _) = _
        rw [HR2.out]
        by_cases q : passedF r2 = true
        ·rw [if_pos ⟨by rw [HN.out]; exact hlt, q⟩, if_pos q]
        ·rw [if_neg (fun h => q h.2), if_neg q]
       have HS2 := Lib.hid hstep; clear hstep
       cases hp2 : passedF r2
       ·have HP2 := Lib.hid hp2; clear hp2
        have hon2 : onF rs rs.length (i + 1) = j := by rw [HN.out, ← HON.out, HS2.out, HP2.out]; rfl
        have hz : z = !Cases.cased r2 := by
         rw [← HZ.out]; unfold finalF; rw [HBF.out]; dsimp only
         rw [HR.out, HCS.out, hon2, HR2.out, HN.out, decide_eq_false (show ¬ j = n by omega)]; rfl
        have HZ2 := Lib.hid hz; clear hz hon2
        obtain ⟨cz, hcz⟩ : ∃ cz, Cases.cased r2 = cz := ⟨_, rfl⟩
        rw [hcz] at HZ2
        have HCZ := Lib.hid hcz; clear hcz
        have dn : ((j : Int) == n) = false := by rw [beq_eq_false_iff_ne]; omega
        have DN := Lib.hid dn
        go_wp2_with (first
         | (go_at_call 94
            refine (passed_ok r2 _ _ (openW_below HO.out HB.out)).mono ?_
            rintro x wy ⟨rfl, hbz⟩
            rw [HP2.out]
            have HB := Lib.hid (HB.out.trans (hbz.mono HB.out.size)); clear hbz
            have d5 : wy.cell? ⟨g, o + j, none⟩ = some (.int .i32 r2) := by rw [HB.out.cell (cell_lt (HC.out j hlt)), ← HR2.out]; exact HC.out j hlt)
         | (go_at_call 32
            refine (cased_ok r2 _ _ (openW_P (openW_below HO.out HB.out))).mono ?_
            rintro x wy ⟨rfl, hbz⟩
            rw [HCZ.out]
            have HB := Lib.hid (HB.out.trans (hbz.mono HB.out.size)); clear hbz))
        go_ret
        exact ⟨by rw [HZ2.out]; first | rfl | (show Ending.returned (.bool ((j : Int) == n || !cz)) = _; rw [DN.out]; rfl), HB.out⟩
       ·have HP2 := Lib.hid hp2; clear hp2
        go_wp2_with (go_at_call 94
                     refine (passed_ok r2 _ _ (openW_below HO.out HB.out)).mono ?_
                     rintro x wy ⟨rfl, hbz⟩
                     rw [HP2.out]
                     have HB := Lib.hid (HB.out.trans (hbz.mono HB.out.size)); clear hbz)
        refine ⟨⟨j + 1, f', by omega, by go_num, ?_, by omega, HB.out⟩, by simp [RowKit.intOf]; omega⟩
        rw [← HON.out, HS2.out, HP2.out]; rfl
      ·obtain rfl : j = n := by omega
       have hend : onF rs rs.length (i + 1) = rs.length := by
        rw [HN.out, ← HON.out]
        cases f with
        | zero => rfl
        | succ f' => show (if j < rs.length ∧ _ then _ else _) = _; rw [if_neg (fun h => by have := HN.out; omega)]
       have hz : z = true := by rw [← HZ.out]; unfold finalF; rw [HBF.out]; dsimp only; rw [HR.out, HCS.out, hend]; simp
       have HZ2 := Lib.hid hz; clear hz hend
       go_wp2
       go_ret
       exact ⟨by rw [HZ2.out]; rfl, HB.out⟩
   ·have HP := Lib.hid hp; clear hp
    go_wp2_with (go_at_call 94
                 refine (passed_ok r _ _ (openW_below HO.out HB.out)).mono ?_
                 rintro x wz ⟨rfl, hbz⟩
                 rw [HP.out]
                 have HB := Lib.hid (HB.out.trans (hbz.mono HB.out.size)); clear hbz)
    refine ⟨⟨k', by omega, by go_num, ?_, HB.out⟩, ?_⟩
    ·rw [← HBK.out, HS.out, HP.out]; rfl
    ·simp [RowKit.intOf]; try omega
theorem finals_ok (rs : List Int) (hl : rs.length ≤ 1000000) (v : Value) (W : World) (h : OpenW W v) : Finals v rs (finalF rs) W := by
 intro w A c i hb hs hi
 obtain ⟨A', c', he, _, hc⟩ := hs
 injection he with he1 he2 he3
 subst he1
 subst he3
 obtain ⟨g, o, rfl, hg⟩ := hc (by omega)
 exact final_ok rs v g o rs.length c i rfl hl hi w (openW_below h hb) hg
end
section
open Go.Shelf Go.RowKit Go.Lib Go.Proofs.YtnfghboholehdaaGreatDoor.Am
/-- what open() is to do, with the classes -/
def OpensW (w : World) : Prop := Calls Tryz.prog 28 #[] w fun e w' => ∃ v, e = .returned v ∧ OpenW w' v ∧ Below w.heap.size w w'
/-- a text in small letters -/
def smallT (t : List UInt8) : List UInt8 := catP (pcsOf 0 (finalF (runesOf t)) t)
theorem runesOf_len (t : List UInt8) : (runesOf t).length ≤ t.length := by
 unfold runesOf marks
 rw [List.length_map]
 have := marks_len t t.length 0 (Nat.zero_le _)
 omega
def SmallPost (t : List UInt8) (W : World) (e : Ending) (w' : World) : Prop := e = .returned (.string ⟨(smallT t).toArray⟩) ∧ Below W.heap.size W w'
set_option maxRecDepth 100000 in
theorem Small_ok (t : List UInt8) (W : World) (ho : OpensW W) (hT : Lib.Utf8Tabs 0 1 W) (hn : t.length ≤ 10000) : Calls Tryz.prog 18 #[.string ⟨t.toArray⟩] W (SmallPost t W) := by
 have HT := Lib.hid hT; have HO := Lib.hid ho; have HN := Lib.hid hn; clear hT ho hn
 have HL := Lib.hid (pcs_len (encW 0 (finalF (runesOf t))) (encW_len 0 _) t t.length 0 0)
 go_enter Tryz.func18, Tryz.ntmps18
 go_wp2_with (first
  | (go_at_call 28; refine HO.out.mono ?_; rintro e w1 ⟨v, rfl, h1, h2⟩; have H1 := Lib.hid h1; have B1 := Lib.hid h2; clear h1 h2)
  | (go_at_call 29; refine (write_zero t (finalF (runesOf t)) _ _ (openW_P H1.out) (tabs_below B1.out HT.out) (Nat.le_trans HN.out (by decide)) (finals_ok _ (Nat.le_trans (runesOf_len t) (Nat.le_trans HN.out (by decide))) _ _ H1.out)).mono ?_; rintro e w2 ⟨v2, rfl, hown, h2⟩; have OW := Lib.hid hown; have B2 := Lib.hid (B1.out.trans (h2.mono B1.out.size)); clear hown h2)
  | (go_at_call 35; refine (joined_ok _ _ _ _ OW.out (Nat.le_trans HL.out.2 (Nat.le_trans HN.out (by decide))) (Nat.le_trans HL.out.1 (by have := HN.out; omega))).mono ?_; rintro e w3 ⟨rfl, h3⟩; have B3 := Lib.hid (B2.out.trans (h3.mono B2.out.size)); clear h3))
 go_ret
 exact ⟨rfl, B3.out⟩
end
end Go.Proofs.YtnfghboholehdaaGreatDoor.foldWrites
