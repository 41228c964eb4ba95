/- FoldWrites, walked: the document's classes, passed, final, small, Write in small letters. -/
import Derived.Test.YtnfghboholehdaaGreatDoorFA
import Derived.Test.YtnfghboholehdaaGreatDoorFI
import Derived.Test.YtnfghboholehdaaGreatDoorFE
import Derived.Test.YtnfghboholehdaaGreatDoorFG
namespace Go.Proofs.YtnfghboholehdaaGreatDoor.foldWrites
section
open Go.Shelf Go.RowKit Go.Lib Go.Proofs.YtnfghboholehdaaGreatDoor.Am
/-- stands a rune in a set? -/
def hasR (l : List (Int × Int)) (r : Int) : Bool := l.any fun p => decide (p.1 ≤ r) && decide (r ≤ p.2)
theorem hasR_yes {l : List (Int × Int)} {r : Int} {k : Nat} (hk : k < l.length) (h1 : (l.getD k (0, 0)).1 ≤ r) (h2 : r ≤ (l.getD k (0, 0)).2) : hasR l r = true := by
 unfold hasR
 rw [List.any_eq_true]
 rw [List.getD_eq_getElem?_getD, List.getElem?_eq_getElem hk] at h1 h2
 exact ⟨_, List.getElem_mem hk, by have h1 : l[k].1 ≤ r := h1; have h2 : r ≤ l[k].2 := h2; rw [decide_eq_true h1, decide_eq_true h2]; rfl⟩
theorem hasR_no {l : List (Int × Int)} {r : Int} (h : ∀ j, j < l.length → ¬ ((l.getD j (0, 0)).1 ≤ r ∧ r ≤ (l.getD j (0, 0)).2)) : hasR l r = false := by
 rw [Bool.eq_false_iff]
 intro c
 unfold hasR at c
 rw [List.any_eq_true] at c
 obtain ⟨p, hp, hc⟩ := c
 obtain ⟨j, hj, he⟩ := List.mem_iff_getElem.1 hp
 rw [Bool.and_eq_true, decide_eq_true_iff, decide_eq_true_iff] at hc
 refine h j hj ?_
 rw [List.getD_eq_getElem?_getD, List.getElem?_eq_getElem hj]
 subst he
 exact hc
def HasPost (b : Bool) (W : World) (e : Ending) (w' : World) : Prop := e = .returned (.bool b) ∧ w' = W
set_option maxHeartbeats 800000 in
set_option maxRecDepth 100000 in
theorem Has_ok (l : List (Int × Int)) (r : Int) (hr0 : 0 ≤ r) (hr1 : r ≤ 1114111) (v : Value) (n : Nat) (hn : l.length = n) (hsm : n ≤ 100000) (W : World) (h : SetIs W v l) : Calls Tryz.prog 160 #[v, .int .i32 r] W (HasPost (hasR l r) W) := by
 obtain ⟨g, o, c, rfl, l1, hS⟩ := h
 have HS := Lib.hid hS; clear hS
 rw [hn] at l1
 rw [hn]
 have HN := Lib.hid hn; clear hn
 have d0 : decide (0 ≤ r) = true := decide_eq_true hr0
 have d1 : decide (r ≤ 1114111) = true := decide_eq_true hr1
 go_enter Tryz.func160, Tryz.ntmps160
 go_wp2
 go_loop [5] (fun i => ∃ k : Nat, k ≤ n ∧ i = .int .i64 k ∧ ∀ j, j < k → ¬ ((l.getD j (0, 0)).1 ≤ r ∧ r ≤ (l.getD j (0, 0)).2)) (fun i => n - (RowKit.intOf i).toNat)
 case atStart => exact ⟨0, by omega, rfl, fun j hj => by omega⟩
 case round =>
  obtain ⟨k, hk, rfl, hlo⟩ := hrel
  have HLO := Lib.hid hlo; clear hlo
  by_cases hlt : k < n
  ·have hkl : k < l.length := by rw [HN.out]; exact hlt
   obtain ⟨e1, e2⟩ := HS.out k hkl
   have HY := Lib.hid (hasR_yes (r := r) hkl)
   obtain ⟨x, hx⟩ : ∃ x, l.getD k (0, 0) = x := ⟨_, rfl⟩
   obtain ⟨a, b⟩ := x
   rw [hx] at e1 e2 HY
   dsimp only at e1 e2
   have HX := Lib.hid hx
   clear hx hkl
   by_cases ha : a ≤ r
   ·have HA := Lib.hid ha
    have da : decide (a ≤ r) = true := decide_eq_true ha
    clear ha
    by_cases hb : r ≤ b
    ·have HB := Lib.hid hb
     have db : decide (r ≤ b) = true := decide_eq_true hb
     clear hb
     go_wp2
     go_ret
     exact ⟨by rw [HY.out HA.out HB.out]; rfl, rfl⟩
    ·have HB := Lib.hid hb
     have db : decide (r ≤ b) = false := decide_eq_false hb
     clear hb
     go_wp2
     go_round
     case rel => exact ⟨k + 1, hlt, by go_num, fun j hj => by
      rcases Nat.lt_or_ge j k with c | c
      ·exact HLO.out j c
      ·obtain rfl : j = k := by omega
       rw [HX.out]
       exact fun h => HB.out h.2⟩
     case measure => simp [RowKit.intOf]; omega
   ·have HA := Lib.hid ha
    have da : decide (a ≤ r) = false := decide_eq_false ha
    clear ha
    go_wp2
    go_round
    case rel => exact ⟨k + 1, hlt, by go_num, fun j hj => by
     rcases Nat.lt_or_ge j k with c | c
     ·exact HLO.out j c
     ·obtain rfl : j = k := by omega
      rw [HX.out]
      exact fun h => HA.out h.1⟩
    case measure => simp [RowKit.intOf]; omega
  ·obtain rfl : k = n := by omega
   go_wp2
   go_ret
   exact ⟨by rw [hasR_no (fun j hj => HLO.out j (by rw [← HN.out]; exact hj))]; rfl, rfl⟩
end
section
open Go.Shelf Go.RowKit Go.Lib Go.Proofs.YtnfghboholehdaaGreatDoor.Am
/-- the first set that has a rune -/
def setNo (L : List (List (Int × Int))) (q : Int) : Nat := L.findIdx fun l => hasR l q
def classD (L : List (List (Int × Int))) (q : Int) : Int := if setNo L q < 13 then (setNo L q : Int) + 1 else 0
theorem setNo_of {L : List (List (Int × Int))} (hL : L.length = 13) {q : Int} {k : Nat} (hk : k < 13) (h : hasR (L.getD k []) q = true) (hlo : ∀ j, j < k → hasR (L.getD j []) q = false) : setNo L q = k := by
 have hk' : k < L.length := by rw [hL]; exact hk
 unfold setNo
 rw [List.findIdx_eq hk']
 rw [List.getD_eq_getElem?_getD, List.getElem?_eq_getElem hk'] at h
 refine ⟨h, fun j hj => ?_⟩
 have := hlo j hj
 rw [List.getD_eq_getElem?_getD, List.getElem?_eq_getElem (Nat.lt_trans hj hk')] at this
 exact this
theorem setNo_no {L : List (List (Int × Int))} (hL : L.length = 13) {q : Int} (hlo : ∀ j, j < 13 → hasR (L.getD j []) q = false) : setNo L q = 13 := by
 unfold setNo
 rw [← hL]
 refine List.findIdx_eq_length_of_false fun l hl => ?_
 obtain ⟨j, hj, he⟩ := List.mem_iff_getElem.1 hl
 have := hlo j (by rw [← hL]; exact hj)
 rw [List.getD_eq_getElem?_getD, List.getElem?_eq_getElem hj] at this
 subst he
 exact this
theorem sets_small : ∀ j, j < 13 → (setsG.getD j []).length ≤ 100000 := by decide +kernel
set_option maxHeartbeats 800000 in
set_option maxRecDepth 100000 in
theorem DGet_gen (L : List (List (Int × Int))) (hL : L.length = 13) (hs : ∀ j, j < 13 → (L.getD j []).length ≤ 100000) (r : Int) (v : Value) (W : World) (h : SetsAt W v L) : Calls Tryz.prog 114 #[v, .int .i32 r] W (GetPost (classD L (runeOr r)) W) := by
 obtain ⟨D, o, S, oS, c, rfl, c1, l1, hS⟩ := h
 rw [hL] at c1 l1
 have HLL := Lib.hid hL; have HSM := Lib.hid hs
 have HS := Lib.hid (show ∀ i, i < 13 → ∃ s, W.cell? ⟨S, oS + (i + 1), none⟩ = some s ∧ SetIs W s (L.getD i []) from fun i hi => hS i (by rw [hL]; exact hi)); clear hS hL hs
 obtain ⟨q, hq⟩ : ∃ q, runeOr r = q := ⟨_, rfl⟩
 have HQ := Lib.hid (show 0 ≤ q ∧ q ≤ 1114111 by rw [← hq]; unfold runeOr; split <;> omega)
 rw [hq]
 go_enter Tryz.func114, Tryz.ntmps114
 have hcase : (decide (r < 0) = true ∧ q = 65533) ∨ (decide (r < 0) = false ∧ decide (1114111 < r) = true ∧ q = 65533) ∨ (decide (r < 0) = false ∧ decide (1114111 < r) = false ∧ r = q) := by
  unfold runeOr at hq
  by_cases h0 : r < 0
  ·rw [if_pos (Or.inl h0)] at hq; exact Or.inl ⟨decide_eq_true h0, hq.symm⟩
  ·by_cases h1 : 1114111 < r
   ·rw [if_pos (Or.inr h1)] at hq; exact Or.inr (Or.inl ⟨decide_eq_false h0, decide_eq_true h1, hq.symm⟩)
   ·rw [if_neg (by omega)] at hq; exact Or.inr (Or.inr ⟨decide_eq_false h0, decide_eq_false h1, hq⟩)
 clear hq
 rcases hcase with ⟨d0, hq⟩ | ⟨d0, d1, hq⟩ | ⟨d0, d1, hq⟩
 ·go_wp2
  rw [← hq]
  clear d0 hq
  go_loop [5] (fun i => ∃ k : Nat, k ≤ 13 ∧ i = .int .i64 ((k : Int) + 1) ∧ ∀ j, j < k → hasR (L.getD j []) q = false) (fun i => 14 - (RowKit.intOf i).toNat)
  case atStart => exact ⟨0, by omega, rfl, fun j hj => by omega⟩
  case round =>
   obtain ⟨k, hk, rfl, hlo⟩ := hrel
   have HLO := Lib.hid hlo; clear hlo
   by_cases hlt : k < 13
   ·obtain ⟨s, e1, e2⟩ := HS.out k hlt
    have HE := Lib.hid e2
    obtain ⟨sg, so, sc, rfl, _⟩ := e2
    have HB := Lib.hid (setNo_of HLL.out (q := q) hlt)
    have HL := Lib.hid (HSM.out k hlt)
    obtain ⟨l, hl⟩ : ∃ l, L.getD k [] = l := ⟨_, rfl⟩
    rw [hl] at HE HB HL e1
    have HN := Lib.hid hl; clear hl
    obtain ⟨n, hn⟩ : ∃ n, l.length = n := ⟨_, rfl⟩
    rw [hn] at e1 HL HE
    have HM := Lib.hid hn; clear hn
    rcases Bool.eq_false_or_eq_true (hasR l q) with hb | hb
    ·have HH := Lib.hid hb; clear hb
     go_wp2_with (go_at_call 160; refine (Has_ok l _ HQ.out.1 HQ.out.2 _ _ rfl (by rw [HM.out]; exact HL.out) _ HE.out).mono ?_; rintro e w1 ⟨rfl, rfl⟩; rw [HH.out])
     go_ret
     refine ⟨?_, Below.refl _ _⟩
     have := HB.out HH.out HLO.out
     unfold classD
     rw [this, if_pos hlt]
     rfl
    ·have HH := Lib.hid hb; clear hb
     go_wp2_with (go_at_call 160; refine (Has_ok l _ HQ.out.1 HQ.out.2 _ _ rfl (by rw [HM.out]; exact HL.out) _ HE.out).mono ?_; rintro e w1 ⟨rfl, rfl⟩; rw [HH.out])
     go_round
     case rel => exact ⟨k + 1, hlt, by go_num, fun j hj => by
      rcases Nat.lt_or_ge j k with c | c
      ·exact HLO.out j c
      ·obtain rfl : j = k := by omega
       rw [HN.out]
       exact HH.out⟩
     case measure => simp [RowKit.intOf]; omega
   ·obtain rfl : k = 13 := by omega
    go_wp2
    go_ret
    refine ⟨?_, Below.refl _ _⟩
    unfold classD
    rw [setNo_no HLL.out HLO.out, if_neg (by decide)]
    rfl
 ·go_wp2
  rw [← hq]
  clear d0 d1 hq
  go_loop [5] (fun i => ∃ k : Nat, k ≤ 13 ∧ i = .int .i64 ((k : Int) + 1) ∧ ∀ j, j < k → hasR (L.getD j []) q = false) (fun i => 14 - (RowKit.intOf i).toNat)
  case atStart => exact ⟨0, by omega, rfl, fun j hj => by omega⟩
  case round =>
   obtain ⟨k, hk, rfl, hlo⟩ := hrel
   have HLO := Lib.hid hlo; clear hlo
   by_cases hlt : k < 13
   ·obtain ⟨s, e1, e2⟩ := HS.out k hlt
    have HE := Lib.hid e2
    obtain ⟨sg, so, sc, rfl, _⟩ := e2
    have HB := Lib.hid (setNo_of HLL.out (q := q) hlt)
    have HL := Lib.hid (HSM.out k hlt)
    obtain ⟨l, hl⟩ : ∃ l, L.getD k [] = l := ⟨_, rfl⟩
    rw [hl] at HE HB HL e1
    have HN := Lib.hid hl; clear hl
    obtain ⟨n, hn⟩ : ∃ n, l.length = n := ⟨_, rfl⟩
    rw [hn] at e1 HL HE
    have HM := Lib.hid hn; clear hn
    rcases Bool.eq_false_or_eq_true (hasR l q) with hb | hb
    ·have HH := Lib.hid hb; clear hb
     go_wp2_with (go_at_call 160; refine (Has_ok l _ HQ.out.1 HQ.out.2 _ _ rfl (by rw [HM.out]; exact HL.out) _ HE.out).mono ?_; rintro e w1 ⟨rfl, rfl⟩; rw [HH.out])
     go_ret
     refine ⟨?_, Below.refl _ _⟩
     have := HB.out HH.out HLO.out
     unfold classD
     rw [this, if_pos hlt]
     rfl
    ·have HH := Lib.hid hb; clear hb
     go_wp2_with (go_at_call 160; refine (Has_ok l _ HQ.out.1 HQ.out.2 _ _ rfl (by rw [HM.out]; exact HL.out) _ HE.out).mono ?_; rintro e w1 ⟨rfl, rfl⟩; rw [HH.out])
     go_round
     case rel => exact ⟨k + 1, hlt, by go_num, fun j hj => by
      rcases Nat.lt_or_ge j k with c | c
      ·exact HLO.out j c
      ·obtain rfl : j = k := by omega
       rw [HN.out]
       exact HH.out⟩
     case measure => simp [RowKit.intOf]; omega
   ·obtain rfl : k = 13 := by omega
    go_wp2
    go_ret
    refine ⟨?_, Below.refl _ _⟩
    unfold classD
    rw [setNo_no HLL.out HLO.out, if_neg (by decide)]
    rfl
 ·subst hq
  go_wp2
  clear d0 d1
  go_loop [5] (fun i => ∃ k : Nat, k ≤ 13 ∧ i = .int .i64 ((k : Int) + 1) ∧ ∀ j, j < k → hasR (L.getD j []) r = false) (fun i => 14 - (RowKit.intOf i).toNat)
  case atStart => exact ⟨0, by omega, rfl, fun j hj => by omega⟩
  case round =>
   obtain ⟨k, hk, rfl, hlo⟩ := hrel
   have HLO := Lib.hid hlo; clear hlo
   by_cases hlt : k < 13
   ·obtain ⟨s, e1, e2⟩ := HS.out k hlt
    have HE := Lib.hid e2
    obtain ⟨sg, so, sc, rfl, _⟩ := e2
    have HB := Lib.hid (setNo_of HLL.out (q := r) hlt)
    have HL := Lib.hid (HSM.out k hlt)
    obtain ⟨l, hl⟩ : ∃ l, L.getD k [] = l := ⟨_, rfl⟩
    rw [hl] at HE HB HL e1
    have HN := Lib.hid hl; clear hl
    obtain ⟨n, hn⟩ : ∃ n, l.length = n := ⟨_, rfl⟩
    rw [hn] at e1 HL HE
    have HM := Lib.hid hn; clear hn
    rcases Bool.eq_false_or_eq_true (hasR l r) with hb | hb
    ·have HH := Lib.hid hb; clear hb
     go_wp2_with (go_at_call 160; refine (Has_ok l _ HQ.out.1 HQ.out.2 _ _ rfl (by rw [HM.out]; exact HL.out) _ HE.out).mono ?_; rintro e w1 ⟨rfl, rfl⟩; rw [HH.out])
     go_ret
     refine ⟨?_, Below.refl _ _⟩
     have := HB.out HH.out HLO.out
     unfold classD
     rw [this, if_pos hlt]
     rfl
    ·have HH := Lib.hid hb; clear hb
     go_wp2_with (go_at_call 160; refine (Has_ok l _ HQ.out.1 HQ.out.2 _ _ rfl (by rw [HM.out]; exact HL.out) _ HE.out).mono ?_; rintro e w1 ⟨rfl, rfl⟩; rw [HH.out])
     go_round
     case rel => exact ⟨k + 1, hlt, by go_num, fun j hj => by
      rcases Nat.lt_or_ge j k with c | c
      ·exact HLO.out j c
      ·obtain rfl : j = k := by omega
       rw [HN.out]
       exact HH.out⟩
     case measure => simp [RowKit.intOf]; omega
   ·obtain rfl : k = 13 := by omega
    go_wp2
    go_ret
    refine ⟨?_, Below.refl _ _⟩
    unfold classD
    rw [setNo_no HLL.out HLO.out, if_neg (by decide)]
    rfl
theorem DGet_ok (r : Int) (v : Value) (W : World) (h : SetsAt W v setsG) : Calls Tryz.prog 114 #[v, .int .i32 r] W (GetPost (classD setsG (runeOr r)) W) := DGet_gen setsG rfl sets_small r v W h
end
section
open Go.Shelf Go.RowKit Go.Lib Go.Proofs.YtnfghboholehdaaGreatDoor.Am
theorem hasR_setOf (c q : Int) : hasR (setOf c) q = true ↔ ∃ x ∈ rangedG, x.2.2 = c ∧ x.1 ≤ q ∧ q ≤ x.2.1 := by
 unfold hasR setOf
 rw [List.any_eq_true]
 constructor
 ·rintro ⟨p, hp, hc⟩
  obtain ⟨x, hx, rfl⟩ := List.mem_map.1 hp
  obtain ⟨h1, h2⟩ := List.mem_filter.1 hx
  rw [Bool.and_eq_true, decide_eq_true_iff, decide_eq_true_iff] at hc
  exact ⟨x, h1, of_decide_eq_true h2, hc.1, hc.2⟩
 ·rintro ⟨x, h1, h2, h3, h4⟩
  exact ⟨(x.1, x.2.1), List.mem_map.2 ⟨x, List.mem_filter.2 ⟨h1, decide_eq_true h2⟩, rfl⟩, by rw [decide_eq_true h3, decide_eq_true h4]; rfl⟩
/-- ranges one behind the other -/
def sepR : List Rang → Bool
 | [] => true
 | x :: l => decide (x.1 ≤ x.2.1) && (l.all (fun y => decide (x.2.1 < y.1)) && sepR l)
theorem clsOf_in (q : Int) : ∀ l : List Rang, sepR l = true → (∃ x ∈ l, x.1 ≤ q ∧ q ≤ x.2.1 ∧ clsOf l q = x.2.2 ∧ ∀ y ∈ l, y.1 ≤ q → q ≤ y.2.1 → y = x) ∨ ((∀ x ∈ l, ¬ (x.1 ≤ q ∧ q ≤ x.2.1)) ∧ clsOf l q = 0)
 | [], _ => .inr ⟨fun x h => absurd h List.not_mem_nil, rfl⟩
 | a :: l, h => by
   unfold sepR at h
   rw [Bool.and_eq_true, Bool.and_eq_true, decide_eq_true_iff, List.all_eq_true] at h
   obtain ⟨h1, h2, h3⟩ := h
   have h2 : ∀ y ∈ l, a.2.1 < y.1 := fun y hy => of_decide_eq_true (h2 y hy)
   by_cases c : q ≤ a.2.1
   ·have hf : clsOf (a :: l) q = if a.1 ≤ q then a.2.2 else 0 := by unfold clsOf; rw [List.find?_cons_of_pos (by exact decide_eq_true c)]
    by_cases d : a.1 ≤ q
    ·refine .inl ⟨a, List.mem_cons_self, d, c, by rw [hf, if_pos d], fun y hy e1 e2 => ?_⟩
     rcases List.mem_cons.1 hy with rfl | hy
     ·rfl
     ·have := h2 y hy; omega
    ·refine .inr ⟨fun x hx e => ?_, by rw [hf, if_neg d]⟩
     rcases List.mem_cons.1 hx with rfl | hx
     ·exact d e.1
     ·have := h2 x hx; omega
   ·have hf : clsOf (a :: l) q = clsOf l q := by unfold clsOf; rw [List.find?_cons_of_neg (by simpa using c)]
    rcases clsOf_in q l h3 with ⟨x, hx, e1, e2, e3, e4⟩ | ⟨e1, e2⟩
    ·refine .inl ⟨x, List.mem_cons_of_mem _ hx, e1, e2, by rw [hf, e3], fun y hy f1 f2 => ?_⟩
     rcases List.mem_cons.1 hy with rfl | hy
     ·exact absurd f2 c
     ·exact e4 y hy f1 f2
    ·refine .inr ⟨fun x hx e => ?_, by rw [hf, e2]⟩
     rcases List.mem_cons.1 hx with rfl | hx
     ·exact c e.2
     ·exact e1 x hx e
theorem rangedG_sep : sepR rangedG = true := by decide +kernel
theorem rangedG_cls : (rangedG.all fun x => decide (1 ≤ x.2.2) && decide (x.2.2 ≤ 13)) = true := by decide +kernel
theorem setsG_get : ∀ k, k < 13 → setsG.getD k [] = setOf ((k : Int) + 1) := fun k hk => match k, hk with
 | 0, _ => rfl
 | 1, _ => rfl
 | 2, _ => rfl
 | 3, _ => rfl
 | 4, _ => rfl
 | 5, _ => rfl
 | 6, _ => rfl
 | 7, _ => rfl
 | 8, _ => rfl
 | 9, _ => rfl
 | 10, _ => rfl
 | 11, _ => rfl
 | 12, _ => rfl
 | n + 13, h => absurd h (by omega)
/-- the document's class of a rune is the program's -/
theorem class_eq (q : Int) : classD setsG q = clsOf rangedG q := by
 unfold classD
 rcases clsOf_in q rangedG rangedG_sep with ⟨x, hx, e1, e2, e3, e4⟩ | ⟨e1, e2⟩
 ·have hc := List.all_eq_true.1 rangedG_cls x hx
  rw [Bool.and_eq_true, decide_eq_true_iff, decide_eq_true_iff] at hc
  obtain ⟨k, hk⟩ : ∃ k : Nat, x.2.2 = (k : Int) + 1 := ⟨(x.2.2 - 1).toNat, by omega⟩
  have hk13 : k < 13 := by omega
  have hs : setNo setsG q = k := setNo_of rfl hk13 (by rw [setsG_get k hk13, hasR_setOf]; exact ⟨x, hx, hk, e1, e2⟩) (fun j hj => by
   rw [setsG_get j (by omega), Bool.eq_false_iff]
   intro h
   obtain ⟨y, hy, f1, f2, f3⟩ := (hasR_setOf _ _).1 h
   have := e4 y hy f2 f3
   subst this
   omega)
  rw [hs, if_pos hk13, e3, hk]
 ·have hs : setNo setsG q = 13 := setNo_no rfl (fun j hj => by
   rw [setsG_get j hj, Bool.eq_false_iff]
   intro h
   obtain ⟨y, hy, f1, f2, f3⟩ := (hasR_setOf _ _).1 h
   exact e1 y hy ⟨f2, f3⟩)
  rw [hs, if_neg (by decide), e2]
theorem bookG_below {w w' : World} {v : Value} (h : BookG w v) (hb : Below w.heap.size w w') : BookG w' v := by
 obtain ⟨h1, B, o, G, oG, d, rfl, c1, c2, h2⟩ := h
 exact ⟨bookP_below h1 hb, B, o, G, oG, d, rfl, by rw [hb.cell (cell_lt c1)]; exact c1, by rw [hb.cell (cell_lt c2)]; exact c2, setsAt_below h2 hb⟩
def passB (c r : Int) : Bool := decide (c = 4) || (decide (c = 5) || (decide (c = 6) || (decide (r = 39) || (decide (r = 46) || (decide (r = 58) || (decide (r = 183) || decide (r = 8217)))))))
theorem passF_bits (r : Int) : passedF r = passB (clsG r) r := by
 unfold passedF passB passedL overL
 rw [Bool.eq_iff_iff]
 simp only [Bool.or_eq_true, List.contains_iff_mem, List.mem_cons, List.not_mem_nil, or_false, decide_eq_true_iff]
 omega
set_option maxHeartbeats 2000000 in
set_option maxRecDepth 100000 in
theorem BPassed_ok (r : Int) (v : Value) (W : World) (h : BookG W v) : Calls Tryz.prog 115 #[v, .int .i32 r] W (PassPost r W) := by
 obtain ⟨_, B, o, G, oG, d, rfl, c1, c2, hs⟩ := h
 have HD := Lib.hid (DGet_ok r d W hs)
 obtain ⟨c, hc⟩ : ∃ c, clsG r = c := ⟨_, rfl⟩
 have HP := Lib.hid (show passedF r = passB c r by rw [← hc]; exact passF_bits r)
 rw [class_eq, show clsOf rangedG (runeOr r) = c from hc] at HD
 clear hs hc
 unfold PassPost
 rw [HP.out]
 unfold passB
 go_enter Tryz.func115, Tryz.ntmps115
 go_wp2_with (go_at_call 114; refine HD.out.mono ?_; rintro e w1 ⟨rfl, hb⟩; have HB := Lib.hid hb; clear hb)
 all_goals go_ret
 all_goals refine ⟨?_, HB.out⟩
 all_goals (clear HD HP HB c1 c2; simp_all)
 rw [Bool.eq_iff_iff]
 simp [*]
end
section
open Go.Shelf Go.RowKit Go.Lib Go.Proofs.YtnfghboholehdaaGreatDoor.Am
/-- marks, in memory: their runes -/
structure MarksR (w : World) (g n : Nat) (rs : List Int) : Prop where
 len : rs.length = n
 small : n ≤ 10000
 rune : ∀ j, j < n → isR (rs.getD j 0) = true
 lt : 0 < n → g < w.heap.size
 cell : ∀ j, j < n → w.cell? ⟨g, j * 4 + 2, none⟩ = some (.int .i32 (rs.getD j 0))
theorem MarksR.below {w w' : World} {g n : Nat} {rs : List Int} (h : MarksR w g n rs) (hb : Below w.heap.size w w') : MarksR w' g n rs :=
 ⟨h.len, h.small, h.rune, fun hn => Nat.lt_of_lt_of_le (h.lt hn) hb.size, fun j hj => by rw [hb.cell (p := ⟨g, j * 4 + 2, none⟩) (h.lt (by omega))]; exact h.cell j hj⟩
theorem MarksR.int {w : World} {g n : Nat} {rs : List Int} (h : MarksR w g n rs) {j : Nat} (hj : j < n) : -2147483648 ≤ rs.getD j 0 ∧ rs.getD j 0 ≤ 2147483647 := by
 have := (isR_iff _).1 (h.rune j hj)
 omega
theorem bcasedD (r : Int) (hr : -2147483648 ≤ r ∧ r ≤ 2147483647) (v : Value) (W : World) (h : BookG W v) : Calls Tryz.prog 43 #[v, .int .i32 r] W (FinalPost (Cases.cased r) W) := by
 rw [Cases.cased_doc]
 exact BCased_ok r hr v W h.1.1
set_option maxHeartbeats 4000000 in
set_option maxRecDepth 100000 in
theorem BFinal_ok (rs : List Int) (v : Value) (g n c i : Nat) (hi : i < n) (W : World) (h : BookG W v) (hm : MarksR W g n rs) :
 Calls Tryz.prog 78 #[v, .slice (some ⟨g, 0, none⟩) n c, .int .i64 i] W (FinalPost (finalF rs i) W) := by
 have hsm := hm.small
 obtain ⟨B, oB, rfl⟩ : ∃ B o, v = .pointer (some ⟨B, o, none⟩) := by obtain ⟨_, B, o, _, _, _, rfl, _⟩ := h; exact ⟨B, o, rfl⟩
 obtain ⟨z, hz⟩ : ∃ z, finalF rs i = z := ⟨_, rfl⟩
 rw [hz]
 have HZ := Lib.hid hz; have HO := Lib.hid h; have HM := Lib.hid hm
 clear hz h hm
 go_enter Tryz.func78, Tryz.ntmps78
 go_wp2
 go_loopw [7] (fun a wr => ∃ k : Nat, k ≤ i ∧ a = .int .i64 ((k : Int) - 1) ∧ backF rs k = backF rs i ∧ Below W.heap.size W wr) (fun a _ => (RowKit.intOf a + 1).toNat)
 case atStart => exact ⟨i, Nat.le_refl _, rfl, rfl, Below.refl _ _⟩
 case round =>
  obtain ⟨k, hk, rfl, hbk, hb⟩ := hrel
  have HB := Lib.hid hb; have HBK := Lib.hid hbk; clear hb hbk
  rcases Nat.eq_zero_or_pos k with rfl | hpos
  ·have hz : z = false := by rw [← HZ.out]; unfold finalF; rw [← HBK.out]; rfl
   have HZ2 := Lib.hid hz; clear hz
   rw [show ((0 : Nat) : Int) - 1 = -1 from rfl]
   go_wp2
   go_loopw [8] (fun a w2 => ∃ j f : Nat, j ≤ n ∧ a = .int .i64 j ∧ onF rs f j = onF rs n (i + 1) ∧ n ≤ f + j ∧ Below W.heap.size W w2) (fun a _ => n - (RowKit.intOf a).toNat)
   case atStart => exact ⟨i + 1, n, hi, by go_num, rfl, by omega, HB.out⟩
   case round =>
    obtain ⟨j, f, hjn, rfl, hon, hf, hb⟩ := hrel
    have HB := Lib.hid hb; have HON := Lib.hid hon; clear hb hon
    by_cases hlt : j < n
    ·obtain ⟨f', rfl⟩ : ∃ f', f = f' + 1 := ⟨f - 1, by omega⟩
     have d4 := (HM.out.below HB.out).cell j hlt
     have HI2 := Lib.hid (HM.out.int hlt)
     obtain ⟨r2, hr2⟩ : ∃ r2, rs.getD j 0 = r2 := ⟨_, rfl⟩
     rw [hr2] at d4 HI2
     have HR2 := Lib.hid hr2
     clear hr2
     have hstep : onF rs (f' + 1) j = if passedF r2 = true then onF rs f' (j + 1) else j := by
      show (if j < rs.length ∧ passedF (rs.getD j 0) = true then _ else _) = _
      rw [HR2.out]
      by_cases q : passedF r2 = true
      ·rw [if_pos ⟨by rw [HM.out.len]; exact hlt, q⟩, if_pos q]
      ·rw [if_neg (fun h => q h.2), if_neg q]
     have HS2 := Lib.hid hstep; clear hstep
     cases hp2 : passedF r2
     ·have HP2 := Lib.hid hp2; clear hp2
      have HO2 := Lib.hid (show onF rs rs.length (i + 1) = j by rw [HM.out.len, ← HON.out, HS2.out, HP2.out]; rfl)
      go_wp2_with (go_at_call 115; refine (BPassed_ok r2 _ _ (bookG_below HO.out HB.out)).mono ?_; rintro x wz ⟨rfl, hbz⟩; rw [HP2.out]; have HB := Lib.hid (HB.out.trans (hbz.mono HB.out.size)); clear hbz)
      go_ret
      exact ⟨by rw [HZ2.out]; rfl, HB.out⟩
     ·have HP2 := Lib.hid hp2; clear hp2
      go_wp2_with (go_at_call 115; refine (BPassed_ok r2 _ _ (bookG_below HO.out HB.out)).mono ?_; rintro x wz ⟨rfl, hbz⟩; rw [HP2.out]; have HB := Lib.hid (HB.out.trans (hbz.mono HB.out.size)); clear hbz)
      refine ⟨⟨j + 1, f', by omega, by go_num, ?_, by omega, HB.out⟩, by simp [RowKit.intOf]; omega⟩
      rw [← HON.out, HS2.out, HP2.out]; rfl
    ·obtain rfl : j = n := by omega
     have HO2 := Lib.hid (show onF rs rs.length (i + 1) = rs.length by
      rw [HM.out.len, ← HON.out]
      cases f with
      | zero => rfl
      | succ f' => show (if j < rs.length ∧ _ then _ else _) = _; rw [if_neg (fun h => by have := HM.out.len; omega)])
     go_wp2
     go_ret
     exact ⟨by rw [HZ2.out]; rfl, HB.out⟩
  ·obtain ⟨k', rfl⟩ : ∃ k', k = k' + 1 := ⟨k - 1, by omega⟩
   have e1 : ((k' + 1 : Nat) : Int) - 1 = (k' : Int) := by omega
   rw [e1]
   clear e1 hpos
   have hkn : k' < n := by omega
   have d2 := (HM.out.below HB.out).cell k' hkn
   have HI1 := Lib.hid (HM.out.int hkn)
   have hK2 := fun w (hb : Below W.heap.size W w) => (HM.out.below hb).cell k' hkn
   obtain ⟨r, hr⟩ : ∃ r, rs.getD k' 0 = r := ⟨_, rfl⟩
   rw [hr] at d2 HI1 hK2
   have HK2 := Lib.hid hK2
   have HR := Lib.hid hr
   clear hr hK2
   have hstep : backF rs (k' + 1) = if passedF r = true then backF rs k' else some k' := by show (if passedF (rs.getD k' 0) = true then _ else _) = _; rw [HR.out]
   have HS := Lib.hid hstep; clear hstep
   cases hp : passedF r
   ·have HP := Lib.hid hp; clear hp
    have hbf : backF rs i = some k' := by rw [← HBK.out, HS.out, HP.out]; rfl
    have HBF := Lib.hid hbf; clear hbf
    cases hcs : Cases.cased r
    ·have HCS := Lib.hid hcs; clear hcs
     go_wp2_with (go_at_call 115; refine (BPassed_ok r _ _ (bookG_below HO.out HB.out)).mono ?_; rintro x wz ⟨rfl, hbz⟩; rw [HP.out]; have HB := Lib.hid (HB.out.trans (hbz.mono HB.out.size)); clear hbz; have d2 := HK2.out _ HB.out)
     go_loopw [8] (fun a w2 => ∃ j f : Nat, j ≤ n ∧ a = .int .i64 j ∧ onF rs f j = onF rs n (i + 1) ∧ n ≤ f + j ∧ Below W.heap.size W w2) (fun a _ => n - (RowKit.intOf a).toNat)
     case atStart => exact ⟨i + 1, n, hi, by go_num, rfl, by omega, HB.out⟩
     case round =>
      obtain ⟨j, f, hjn, rfl, hon, hf, hb⟩ := hrel
      have HB := Lib.hid hb; have HON := Lib.hid hon; clear hb hon
      by_cases hlt : j < n
      ·obtain ⟨f', rfl⟩ : ∃ f', f = f' + 1 := ⟨f - 1, by omega⟩
       have d4 := (HM.out.below HB.out).cell j hlt
       have HI2 := Lib.hid (HM.out.int hlt)
       obtain ⟨r2, hr2⟩ : ∃ r2, rs.getD j 0 = r2 := ⟨_, rfl⟩
       rw [hr2] at d4 HI2
       have HR2 := Lib.hid hr2
       clear hr2
       have hstep : onF rs (f' + 1) j = if passedF r2 = true then onF rs f' (j + 1) else j := by
        show (if j < rs.length ∧ passedF (rs.getD j 0) = true then _ else _) = _
        rw [HR2.out]
        by_cases q : passedF r2 = true
        ·rw [if_pos ⟨by rw [HM.out.len]; exact hlt, q⟩, if_pos q]
        ·rw [if_neg (fun h => q h.2), if_neg q]
       have HS2 := Lib.hid hstep; clear hstep
       cases hp2 : passedF r2
       ·have HP2 := Lib.hid hp2; clear hp2
        have HO2 := Lib.hid (show onF rs rs.length (i + 1) = j by rw [HM.out.len, ← HON.out, HS2.out, HP2.out]; rfl)
        have hz : z = false := by rw [← HZ.out]; unfold finalF; rw [HBF.out]; dsimp only; rw [HR.out, HCS.out]; rfl
        have HZ2 := Lib.hid hz; clear hz
        go_wp2_with (first
         | (go_at_call 115; refine (BPassed_ok r2 _ _ (bookG_below HO.out HB.out)).mono ?_; rintro x wy ⟨rfl, hbz⟩; rw [HP2.out]; have HB := Lib.hid (HB.out.trans (hbz.mono HB.out.size)); clear hbz; have d2 := HK2.out _ HB.out; have d4 := (HM.out.below HB.out).cell j hlt; rw [HR2.out] at d4)
         | (go_at_call 43; refine (bcasedD r HI1.out _ _ (bookG_below HO.out HB.out)).mono ?_; rintro x wx ⟨rfl, hbz⟩; rw [HCS.out]; have HB := Lib.hid (HB.out.trans (hbz.mono HB.out.size)); clear hbz))
        go_ret
        exact ⟨by rw [HZ2.out]; first | rfl | simp, HB.out⟩
       ·have HP2 := Lib.hid hp2; clear hp2
        go_wp2_with (go_at_call 115; refine (BPassed_ok r2 _ _ (bookG_below HO.out HB.out)).mono ?_; rintro x wz ⟨rfl, hbz⟩; rw [HP2.out]; have HB := Lib.hid (HB.out.trans (hbz.mono HB.out.size)); clear hbz)
        refine ⟨⟨j + 1, f', by omega, by go_num, ?_, by omega, HB.out⟩, by simp [RowKit.intOf]; omega⟩
        rw [← HON.out, HS2.out, HP2.out]; rfl
      ·obtain rfl : j = n := by omega
       have HO2 := Lib.hid (show onF rs rs.length (i + 1) = rs.length by
        rw [HM.out.len, ← HON.out]
        cases f with
        | zero => rfl
        | succ f' => show (if j < rs.length ∧ _ then _ else _) = _; rw [if_neg (fun h => by have := HM.out.len; omega)])
       have hz : z = false := by rw [← HZ.out]; unfold finalF; rw [HBF.out]; dsimp only; rw [HR.out, HCS.out]; rfl
       have HZ2 := Lib.hid hz; clear hz
       have d2 := HK2.out _ HB.out
       go_wp2_with (first
        | (go_at_call 43; refine (bcasedD r HI1.out _ _ (bookG_below HO.out HB.out)).mono ?_; rintro x wx ⟨rfl, hbz⟩; rw [HCS.out]; have HB := Lib.hid (HB.out.trans (hbz.mono HB.out.size)); clear hbz))
       go_ret
       exact ⟨by rw [HZ2.out]; first | rfl | simp, HB.out⟩
    ·have HCS := Lib.hid hcs; clear hcs
     go_wp2_with (go_at_call 115; refine (BPassed_ok r _ _ (bookG_below HO.out HB.out)).mono ?_; rintro x wz ⟨rfl, hbz⟩; rw [HP.out]; have HB := Lib.hid (HB.out.trans (hbz.mono HB.out.size)); clear hbz; have d2 := HK2.out _ HB.out)
     go_loopw [8] (fun a w2 => ∃ j f : Nat, j ≤ n ∧ a = .int .i64 j ∧ onF rs f j = onF rs n (i + 1) ∧ n ≤ f + j ∧ Below W.heap.size W w2) (fun a _ => n - (RowKit.intOf a).toNat)
     case atStart => exact ⟨i + 1, n, hi, by go_num, rfl, by omega, HB.out⟩
     case round =>
      obtain ⟨j, f, hjn, rfl, hon, hf, hb⟩ := hrel
      have HB := Lib.hid hb; have HON := Lib.hid hon; clear hb hon
      by_cases hlt : j < n
      ·obtain ⟨f', rfl⟩ : ∃ f', f = f' + 1 := ⟨f - 1, by omega⟩
       have d4 := (HM.out.below HB.out).cell j hlt
       have HI2 := Lib.hid (HM.out.int hlt)
       obtain ⟨r2, hr2⟩ : ∃ r2, rs.getD j 0 = r2 := ⟨_, rfl⟩
       rw [hr2] at d4 HI2
       have HR2 := Lib.hid hr2
       clear hr2
       have hstep : onF rs (f' + 1) j = if passedF r2 = true then onF rs f' (j + 1) else j := by
        show (if j < rs.length ∧ passedF (rs.getD j 0) = true then _ else _) = _
        rw [HR2.out]
        by_cases q : passedF r2 = true
        ·rw [if_pos ⟨by rw [HM.out.len]; exact hlt, q⟩, if_pos q]
        ·rw [if_neg (fun h => q h.2), if_neg q]
       have HS2 := Lib.hid hstep; clear hstep
       cases hp2 : passedF r2
       ·have HP2 := Lib.hid hp2; clear hp2
        have HO2 := Lib.hid (show onF rs rs.length (i + 1) = j by rw [HM.out.len, ← HON.out, HS2.out, HP2.out]; rfl)
        have hz : z = !Cases.cased r2 := by
         rw [← HZ.out]; unfold finalF; rw [HBF.out]; dsimp only
         rw [HR.out, HCS.out, HO2.out, HR2.out, HM.out.len, decide_eq_false (show ¬ j = n by omega)]; rfl
        have HZ2 := Lib.hid hz; clear hz
        obtain ⟨cz, hcz⟩ : ∃ cz, Cases.cased r2 = cz := ⟨_, rfl⟩
        rw [hcz] at HZ2
        have HCZ := Lib.hid hcz; clear hcz
        have dn : ((j : Int) == n) = false := by rw [beq_eq_false_iff_ne]; omega
        have DN := Lib.hid dn
        go_wp2_with (first
         | (go_at_call 115; refine (BPassed_ok r2 _ _ (bookG_below HO.out HB.out)).mono ?_; rintro x wy ⟨rfl, hbz⟩; rw [HP2.out]; have HB := Lib.hid (HB.out.trans (hbz.mono HB.out.size)); clear hbz; have d2 := HK2.out _ HB.out; have d4 := (HM.out.below HB.out).cell j hlt; rw [HR2.out] at d4)
         | (go_at_call 43; refine (bcasedD r HI1.out _ _ (bookG_below HO.out HB.out)).mono ?_; rintro x wx ⟨rfl, hbz⟩; rw [HCS.out]; have HB := Lib.hid (HB.out.trans (hbz.mono HB.out.size)); clear hbz; clear HI1; have d4 := (HM.out.below HB.out).cell j hlt; rw [HR2.out] at d4)
         | (go_at_call 43; refine (bcasedD r2 HI2.out _ _ (bookG_below HO.out HB.out)).mono ?_; rintro x wv ⟨rfl, hbz⟩; rw [HCZ.out]; have HB := Lib.hid (HB.out.trans (hbz.mono HB.out.size)); clear hbz))
        go_ret
        exact ⟨by rw [HZ2.out]; first | rfl | (show Ending.returned (.bool ((j : Int) == n || !cz)) = _; rw [DN.out]; rfl), HB.out⟩
       ·have HP2 := Lib.hid hp2; clear hp2
        go_wp2_with (go_at_call 115; refine (BPassed_ok r2 _ _ (bookG_below HO.out HB.out)).mono ?_; rintro x wz ⟨rfl, hbz⟩; rw [HP2.out]; have HB := Lib.hid (HB.out.trans (hbz.mono HB.out.size)); clear hbz)
        refine ⟨⟨j + 1, f', by omega, by go_num, ?_, by omega, HB.out⟩, by simp [RowKit.intOf]; omega⟩
        rw [← HON.out, HS2.out, HP2.out]; rfl
      ·obtain rfl : j = n := by omega
       have HO2 := Lib.hid (show onF rs rs.length (i + 1) = rs.length by
        rw [HM.out.len, ← HON.out]
        cases f with
        | zero => rfl
        | succ f' => show (if j < rs.length ∧ _ then _ else _) = _; rw [if_neg (fun h => by have := HM.out.len; omega)])
       have hz : z = true := by
        rw [← HZ.out]; unfold finalF; rw [HBF.out]; dsimp only
        rw [HR.out, HCS.out, HO2.out]; simp
       have HZ2 := Lib.hid hz; clear hz
       have d2 := HK2.out _ HB.out
       go_wp2_with (first
        | (go_at_call 43; refine (bcasedD r HI1.out _ _ (bookG_below HO.out HB.out)).mono ?_; rintro x wx ⟨rfl, hbz⟩; rw [HCS.out]; have HB := Lib.hid (HB.out.trans (hbz.mono HB.out.size)); clear hbz))
       go_ret
       exact ⟨by rw [HZ2.out]; first | rfl | simp, HB.out⟩
   ·have HP := Lib.hid hp; clear hp
    go_wp2_with (go_at_call 115; refine (BPassed_ok r _ _ (bookG_below HO.out HB.out)).mono ?_; rintro x wz ⟨rfl, hbz⟩; rw [HP.out]; have HB := Lib.hid (HB.out.trans (hbz.mono HB.out.size)); clear hbz)
    refine ⟨⟨k', by omega, by go_num, ?_, HB.out⟩, ?_⟩
    ·rw [← HBK.out, HS.out, HP.out]; rfl
    ·simp [RowKit.intOf]; try omega
end
section
open Go.Shelf Go.RowKit Go.Lib Go.Proofs.YtnfghboholehdaaGreatDoor.Am
/-- the small form of the rune number i of a text -/
def smallV (rs : List Int) (i : Nat) : List Int := if rs.getD i 0 = 931 ∧ finalF rs i = true then [962] else formV (rs.getD i 0) 0
theorem smallV_len (rs : List Int) (i : Nat) : (smallV rs i).length ≤ 3 := by
 unfold smallV
 split
 ·simp
 ·exact formV_len _ _
theorem smallV_isR (rs : List Int) (i : Nat) (h : isR (rs.getD i 0) = true) : ∀ x ∈ smallV rs i, isR x = true := by
 unfold smallV
 split
 ·intro x hx
  rw [List.mem_singleton] at hx
  subst hx
  decide
 ·exact (form_facts _ h 0 (by decide)).2.1
set_option maxHeartbeats 2000000 in
set_option maxRecDepth 100000 in
theorem BSmall_ok (rs : List Int) (v : Value) (g n c i : Nat) (hi : i < n) (W : World) (h : BookG W v) (hm : MarksR W g n rs) :
 Calls Tryz.prog 46 #[v, .slice (some ⟨g, 0, none⟩) n c, .int .i64 i] W (FormPost (smallV rs i) W) := by
 have HFI := Lib.hid (BFinal_ok rs v g n c i hi W h hm)
 have hsm := hm.small
 have d2 := hm.cell i hi
 have hri := hm.int hi
 obtain ⟨B, o, rfl⟩ : ∃ B o, v = .pointer (some ⟨B, o, none⟩) := by obtain ⟨_, B, o, _, _, _, rfl, _⟩ := h; exact ⟨B, o, rfl⟩
 have HF := Lib.hid (fun w (hb : Below W.heap.size W w) => form2_ok (rs.getD i 0) hri 0 (by decide) _ _ (bookP_below h.1 hb))
 have HV := Lib.hid (show smallV rs i = if rs.getD i 0 = 931 ∧ finalF rs i = true then [962] else formV (rs.getD i 0) 0 from rfl)
 obtain ⟨r, hr⟩ : ∃ r, rs.getD i 0 = r := ⟨_, rfl⟩
 rw [hr] at d2 HF HV
 have hg := hm.lt (by omega)
 have HK := Lib.hid (fun w (hb : Below W.heap.size W w) => show w.cell? ⟨g, i * 4 + 2, none⟩ = some (.int .i32 r) from (hb.cell (p := ⟨g, i * 4 + 2, none⟩) hg).trans d2)
 clear h hm hri hr hg
 by_cases h9 : r = 931
 ·subst h9
  cases hf : finalF rs i
  ·have HF2 := Lib.hid hf; clear hf
   have HV2 := Lib.hid (show smallV rs i = formV 931 0 by rw [HV.out, if_neg (fun h => by rw [HF2.out] at h; exact Bool.false_ne_true h.2)])
   rw [HV2.out]
   go_enter Tryz.func46, Tryz.ntmps46
   go_wp2_with (first
    | (go_at_call 78; refine HFI.out.mono ?_; rintro e w1 ⟨rfl, hb⟩; rw [HF2.out]; have HB := Lib.hid hb; have d3 := HK.out _ hb; clear hb)
    | (go_at_call 45; refine (HF.out _ HB.out).mono ?_; rintro e w2 ⟨s, rfl, hs, hb⟩; have HS := Lib.hid hs; have HB2 := Lib.hid (HB.out.trans (hb.mono HB.out.size)); clear hs hb))
   go_ret
   exact ⟨_, rfl, HS.out, HB2.out⟩
  ·have HF2 := Lib.hid hf; clear hf
   have HV2 := Lib.hid (show smallV rs i = [962] by rw [HV.out, if_pos ⟨rfl, HF2.out⟩])
   rw [HV2.out]
   go_enter Tryz.func46, Tryz.ntmps46
   go_wp2_with (go_at_call 78; refine HFI.out.mono ?_; rintro e w1 ⟨rfl, hb⟩; rw [HF2.out]; have HB := Lib.hid hb; have d3 := HK.out _ hb; clear hb)
   go_ret
   exact ⟨_, rfl, slice_one _ _ _ rfl, HB.out.alloc HB.out.size _⟩
 ·have hd : decide (r = 931) = false := decide_eq_false h9
  have HV2 := Lib.hid (show smallV rs i = formV r 0 by rw [HV.out, if_neg (fun h => h9 h.1)])
  rw [HV2.out]
  have hd2 : (r == 931) = false := by rw [beq_eq_false_iff_ne]; exact h9
  clear h9
  go_enter Tryz.func46, Tryz.ntmps46
  go_wp2_with (go_at_call 45; refine (HF.out _ (Below.refl _ _)).mono ?_; rintro e w2 ⟨s, rfl, hs, hb⟩; have HS := Lib.hid hs; have HB2 := Lib.hid hb; clear hs hb)
  go_ret
  exact ⟨_, rfl, HS.out, HB2.out⟩
end
section
open Go.Shelf Go.RowKit Go.Lib Go.Proofs.YtnfghboholehdaaGreatDoor.Am
open Folds (dec dec_pos dec_le)
/-- what stands in the place of the mark number i -/
def tx0 (rs : List Int) (t : List UInt8) (i : Nat) (m : Mk) : List UInt8 := if m.2.2.2 = true then (t.drop m.1).take m.2.1 else encL (smallV rs i)
def outS (rs : List Int) (t : List UInt8) : List Mk → Nat → List UInt8
 | [], _ => []
 | m :: l, i => tx0 rs t i m ++ outS rs t l (i + 1)
theorem outS_app (rs : List Int) (t : List UInt8) (m : Mk) : ∀ l i, outS rs t (l ++ [m]) i = outS rs t l i ++ tx0 rs t (i + l.length) m
 | [], i => by show tx0 rs t i m ++ [] = [] ++ tx0 rs t (i + 0) m; simp
 | a :: l, i => by
   show tx0 rs t i a ++ outS rs t (l ++ [m]) (i + 1) = tx0 rs t i a ++ outS rs t l (i + 1) ++ _
   rw [outS_app rs t m l (i + 1), List.append_assoc, List.length_cons, show i + 1 + l.length = i + (l.length + 1) by omega]
theorem tx0_len (rs : List Int) (t : List UInt8) (i : Nat) (m : Mk) (h : m.2.1 ≤ 4) : (tx0 rs t i m).length ≤ 12 := by
 unfold tx0
 split
 ·rw [List.length_take]; omega
 ·exact Nat.le_trans (encL_len _) (by have := smallV_len rs i; omega)
theorem outS_len (rs : List Int) (t : List UInt8) : ∀ l i, (∀ m ∈ l, m.2.1 ≤ 4) → (outS rs t l i).length ≤ 12 * l.length
 | [], _, _ => Nat.zero_le _
 | a :: l, i, h => by
   show (tx0 rs t i a ++ outS rs t l (i + 1)).length ≤ 12 * (l.length + 1)
   rw [List.length_append]
   have h1 := tx0_len rs t i a (h a List.mem_cons_self)
   have h2 := outS_len rs t l (i + 1) (fun m hm => h m (List.mem_cons_of_mem _ hm))
   omega
theorem runes_mk (t : List UInt8) : ∀ n e, (mk4 t n e).map (fun m => (m.2.2.1 : Int)) = (marksFrom t n e).map fun x => (x.2 : Int)
 | 0, _ => rfl
 | n + 1, e => by
   unfold mk4 marksFrom
   split
   ·rw [List.map_cons, List.map_cons, runes_mk t n]
   ·rfl
theorem rs_get (l : List Mk) (j : Nat) : (l.map fun m => (m.2.2.1 : Int)).getD j 0 = ((l.getD j mk0).2.2.1 : Int) := by
 rw [List.getD_eq_getElem?_getD, List.getD_eq_getElem?_getD, List.getElem?_map]
 cases l[j]? <;> rfl
theorem enc962 : encL [962] = [207, 130] := by decide +kernel
theorem out_pcs (rs : List Int) (t : List UInt8) : ∀ n e i, (∀ j, j < (mk4 t n e).length → rs.getD (i + j) 0 = (((mk4 t n e).getD j mk0).2.2.1 : Int)) → catP (pcs (encW 0 (finalF rs)) t n i e) = outS rs t (mk4 t n e) i
 | 0, _, _, _ => rfl
 | n + 1, e, i, h => by
   show catP (if e < t.length then _ else _ : List Pc) = outS rs t (if e < t.length then _ else _ : List Mk) i
   by_cases c : e < t.length
   ·unfold mk4 at h
    rw [if_pos c] at h
    rw [if_pos c, if_pos c]
    have h0 : rs.getD i 0 = ((dec (t.drop e)).1 : Int) := by have := h 0 (by rw [List.length_cons]; exact Nat.succ_pos _); rwa [Nat.add_zero] at this
    have ih := out_pcs rs t n (e + (dec (t.drop e)).2) (i + 1) (fun j hj => by
     have := h (j + 1) (by rw [List.length_cons]; exact Nat.succ_lt_succ hj)
     rw [show i + 1 + j = i + (j + 1) by omega, this]
     rfl)
    show Folds.one (encW 0 (finalF rs) i) (t.drop e) ++ catP _ = tx0 rs t i _ ++ outS rs t _ (i + 1)
    rw [ih]
    congr 1
    unfold tx0 Folds.one encW smallV
    dsimp only
    rw [h0]
    by_cases b : (dec (t.drop e)).1 = 65533 ∧ (dec (t.drop e)).2 = 1
    ·rw [if_pos b, if_pos (by rw [b.1, b.2]; rfl), b.2]
    ·have hb : (((dec (t.drop e)).2 : Int) == 1 && ((dec (t.drop e)).1 : Int) == 65533) = false := by
      rw [Bool.eq_false_iff]
      intro hb
      rw [Bool.and_eq_true, beq_iff_eq, beq_iff_eq] at hb
      exact b ⟨by omega, by omega⟩
     rw [if_neg b, hb, if_neg Bool.false_ne_true]
     by_cases d : (dec (t.drop e)).1 = 931 ∧ finalF rs i = true
     ·rw [if_pos ⟨⟨rfl, d.1⟩, d.2⟩, if_pos ⟨by omega, d.2⟩, enc962]
     ·rw [if_neg (fun h => d ⟨h.1.2, h.2⟩), if_neg (fun h => d ⟨by omega, h.2⟩)]
   ·rw [if_neg c, if_neg c]
    rfl
theorem outS_small (t : List UInt8) : outS (runesOf t) t (mk4s t) 0 = smallT t := by
 have hm : (mk4s t).map (fun m => (m.2.2.1 : Int)) = runesOf t := runes_mk t t.length 0
 unfold smallT pcsOf
 refine (out_pcs (runesOf t) t t.length 0 0 fun j _ => ?_).symm
 rw [← hm, rs_get, Nat.zero_add]
 rfl
def BSmPost (t : List UInt8) (W : World) (e : Ending) (w' : World) : Prop := ∃ v, e = .returned (.tuple #[.string ⟨(smallT t).toArray⟩, v]) ∧ Below W.heap.size W w'
set_option maxRecDepth 100000 in
set_option maxHeartbeats 4000000 in
theorem BWrite0_ok (t : List UInt8) (v : Value) (W : World) (h : BookG W v) (hn : t.length ≤ 10000) : Calls Tryz.prog 16 #[v, .string ⟨t.toArray⟩, .int .i64 0] W (BSmPost t W) := by
 obtain ⟨B, o, rfl⟩ : ∃ B o, v = .pointer (some ⟨B, o, none⟩) := by obtain ⟨_, B, o, _, _, _, rfl, _⟩ := h; exact ⟨B, o, rfl⟩
 have HMK := Lib.hid (Marks_ok t W (by omega))
 obtain ⟨s, hs⟩ : ∃ s : ByteArray, (⟨t.toArray⟩ : ByteArray) = s := ⟨_, rfl⟩
 have hss : s.size = t.length := size_mk t s hs
 rw [hs] at HMK ⊢
 have HS := Lib.hid hs; have HSS := Lib.hid hss; have HB := Lib.hid h; have HN := Lib.hid hn
 obtain ⟨rs, hrs⟩ : ∃ rs, runesOf t = rs := ⟨_, rfl⟩
 obtain ⟨M, hM⟩ : ∃ M, mk4s t = M := ⟨_, rfl⟩
 have HML := Lib.hid (show M.length ≤ 10000 by rw [← hM]; exact Nat.le_trans (mk4_len t t.length 0) hn)
 have HMM := Lib.hid (show ∀ m ∈ M, m.1 + m.2.1 ≤ t.length ∧ 1 ≤ m.2.1 ∧ isR (m.2.2.1 : Int) = true by rw [← hM]; exact mk4_mem t t.length 0)
 have HMW := Lib.hid (show ∀ m ∈ M, m.2.1 ≤ 4 by rw [← hM]; exact mk4_wid t t.length 0)
 have HWR := Lib.hid (show outS rs t M 0 = smallT t by rw [← hM, ← hrs]; exact outS_small t)
 have HRG := Lib.hid (show ∀ j, rs.getD j 0 = ((M.getD j mk0).2.2.1 : Int) by intro j; rw [← hM, ← hrs, ← rs_get]; congr 1; exact (runes_mk t t.length 0).symm)
 have HRL := Lib.hid (show rs.length = M.length by rw [← hM, ← hrs]; have := congrArg List.length (runes_mk t t.length 0); rw [List.length_map] at this; exact this.symm)
 have HMQ := Lib.hid hM
 clear hs hss h hn hM hrs
 obtain ⟨i0, hI0, hz0, hz1, hz2⟩ := info_parts int_info
 go_enter Tryz.func16, Tryz.ntmps16
 go_wp2_with (go_at_call 41; refine HMK.out.mono ?_; rintro e w1 ⟨vm, rfl, hown, hb⟩; rw [HMQ.out] at hown; obtain ⟨Am, cm, rfl, _⟩ := own_slice3 hown; have HOM := Lib.hid hown; have HB1 := Lib.hid hb; clear hown hb)
 obtain ⟨N, hN⟩ : ∃ N, M.length = N := ⟨_, rfl⟩
 rw [hN] at HOM HML HRL ⊢
 have HNN := Lib.hid hN; clear hN
 go_loopw [9, 10, 11] (fun vo va vi wr => ∃ (i m c : Nat) (A : Option Addr) (al : List Int), i ≤ N ∧ vi = .int .i64 i ∧ vo = .string ⟨(outS rs t (M.take i) 0).toArray⟩ ∧ va = .slice A m c ∧ m = al.length ∧ al.length ≤ 12 * i ∧ BWL W w1 (.slice A m c) al wr) (fun _ _ vi _ => N - (RowKit.intOf vi).toNat)
 case atStart => exact ⟨0, 0, 0, none, [], Nat.zero_le _, rfl, rfl, rfl, rfl, Nat.le_refl _, Below.refl _ _, ⟨rfl, .inl ⟨rfl, rfl⟩⟩⟩
 case round =>
  obtain ⟨i, m, c, A, al, hi, rfl, rfl, rfl, hm, hal12, hbw⟩ := hrel
  have HW := Lib.hid hbw; have HM := Lib.hid hm; clear hbw hm
  by_cases hlt : i < N
  ·obtain ⟨g, rfl⟩ := own_some HOM.out (by omega)
   have hg1 := (own_lt HOM.out (g := g) rfl).2.1
   have hc := World.ownsRow.cells (g := g) HOM.out rfl
   have HMR := Lib.hid (show MarksR w1 g N rs from ⟨HRL.out, HML.out, fun j hj => by
    rw [HRG.out]
    refine (HMM.out _ ?_).2.2
    rw [List.getD_eq_getElem?_getD, List.getElem?_eq_getElem (by rw [HNN.out]; exact hj)]
    exact List.getElem_mem _, fun _ => hg1, fun j hj => by
    have c2 := hc _ _ (marksW_get M j (by rw [HNN.out]; exact hj)).2.2.1
    rw [add_none, Nat.zero_add] at c2
    rw [HRG.out]
    exact c2⟩)
   have hget := marksW_get M i (by rw [HNN.out]; exact hlt)
   obtain ⟨x, hx⟩ : ∃ x, M.getD i mk0 = x := ⟨_, rfl⟩
   have HRI2 := Lib.hid (show rs.getD i 0 = (x.2.2.1 : Int) by rw [HRG.out, hx])
   rw [hx] at hget
   have hxm : x ∈ M := by
    rw [← hx, List.getD_eq_getElem?_getD, List.getElem?_eq_getElem (by rw [HNN.out]; exact hlt)]
    exact List.getElem_mem _
   have HX1 := HMM.out x hxm
   have HX2 := HMW.out x hxm
   have HTK := Lib.hid (take_mk M (i := i) (by rw [HNN.out]; exact hlt))
   rw [hx] at HTK
   obtain ⟨g0, g1, g2, g3⟩ := hget
   have c0 := hc _ _ g0; have c1 := hc _ _ g1; have c2 := hc _ _ g2; have c3 := hc _ _ g3
   rw [add_none, Nat.zero_add] at c0 c1 c2 c3
   clear hc g0 g1 g2 g3 hx hxm
   have key : ∀ w, Below w1.heap.size w1 w → w.cell? ⟨g, i * 4, none⟩ = some (.int .i64 x.1) ∧ w.cell? ⟨g, i * 4 + 1, none⟩ = some (.int .i64 x.2.1) ∧ w.cell? ⟨g, i * 4 + 2, none⟩ = some (.int .i32 x.2.2.1) ∧ w.cell? ⟨g, i * 4 + 3, none⟩ = some (.bool x.2.2.2) := fun w hb => ⟨by rw [hb.cell (p := ⟨g, i * 4, none⟩) hg1]; exact c0, by rw [hb.cell (p := ⟨g, i * 4 + 1, none⟩) hg1]; exact c1, by rw [hb.cell (p := ⟨g, i * 4 + 2, none⟩) hg1]; exact c2, by rw [hb.cell (p := ⟨g, i * 4 + 3, none⟩) hg1]; exact c3⟩
   have KC := Lib.hid key
   clear key c0 c1 c2 c3 hg1
   obtain ⟨a, wd, r, bd⟩ := x
   dsimp only at HX1 HX2 KC HRI2
   obtain ⟨hx1, hx2, hx3⟩ := HX1
   obtain ⟨d0, d1, d2, d3⟩ := KC.out wr HW.out.bel
   have ha0 : (0 : Int) ≤ a := Int.natCast_nonneg a
   have ha1 : (a : Int) ≤ (a : Int) + wd := by omega
   have ha2 : (a : Int) + wd ≤ s.size := by have := HSS.out; omega
   have hsl : ∀ W, (Instr.slice 9 (.string s) (some (.int .i64 (a : Int))) (some (.int .i64 (wrap64 ((a : Int) + (wd : Int))))) none).run Tryz.prog W = .ok (.string ⟨((t.drop a).take wd).toArray⟩) W := fun W => by
    rw [show wrap64 ((a : Int) + (wd : Int)) = (a : Int) + wd by have := HN.out; unfold wrap64; omega, run_slice_string _ _ _ _ _ _ _ Tryz.underlying9 ha0 ha1 ha2, Int.toNat_natCast, show ((a : Int) + (wd : Int)).toNat = a + wd by omega, ← HS.out, ByteArray.extract_mk, Nat.add_sub_cancel_left]
   have HX3 := Lib.hid hx3
   clear hx3
   obtain ⟨X, hX⟩ : ∃ X, tx0 rs t i (a, wd, r, bd) = X := ⟨_, rfl⟩
   have hxl : X.length ≤ 12 := by rw [← hX]; exact tx0_len rs t i _ HX2
   have holen : (outS rs t (M.take i) 0).length ≤ 12 * i := by
    refine Nat.le_trans (outS_len rs t (M.take i) 0 fun m hm => HMW.out m (List.mem_of_mem_take hm)) ?_
    rw [List.length_take]
    omega
   obtain ⟨ol, hol⟩ : ∃ ol, outS rs t (M.take i) 0 = ol := ⟨_, rfl⟩
   have HOL := Lib.hid (show outS rs t (M.take (i + 1)) 0 = ol ++ X by rw [HTK.out, outS_app, hol, Nat.zero_add, List.length_take, Nat.min_eq_left (by rw [HNN.out]; exact hi), hX])
   rw [hol] at holen
   rw [hol]
   clear hol
   obtain ⟨XB, hXB⟩ : ∃ XB : ByteArray, (⟨X.toArray⟩ : ByteArray) = XB := ⟨_, rfl⟩
   have hxs : XB.size = X.length := size_mk X XB hXB
   obtain ⟨XN, hXN⟩ : ∃ XN, X.length = XN := ⟨_, rfl⟩
   rw [hXN] at hxs hxl
   have happ : (⟨ol.toArray⟩ : ByteArray) ++ XB = ⟨(outS rs t (M.take (i + 1)) 0).toArray⟩ := by rw [HOL.out, ← hXB, ba_app]
   have HXS := Lib.hid hxs; have HAPP := Lib.hid happ
   have HIN := Lib.hid (show al.length + XN ≤ 1000000 ∧ al.length + XN ≤ 12 * (i + 1) by have := HML.out; omega)
   obtain ⟨i1, hi1⟩ : ∃ i1, i + 1 = i1 := ⟨_, rfl⟩
   have HI1 := Lib.hid hi1
   rw [hi1] at HAPP HIN
   have hov : ¬ 9223372036854775807 < ol.length + XB.size := by have := HML.out; omega
   clear hxs happ hi1 hxl hXN holen hal12
   cases bd
   case true =>
    have hxx : (⟨((t.drop a).take wd).toArray⟩ : ByteArray) = XB := by rw [← hXB, ← hX]; unfold tx0; rw [if_pos rfl]
    have HXX := Lib.hid hxx
    rw [hxx] at hsl
    clear hxx hX hXB
    go_wp2_with fail
    go_quiet (fail)
    go_wp2_with fail
    rw [HAPP.out]
    have HWQ := Lib.hid (show BWL W w1 (.slice A m c) al (wr.drewN nq) from ⟨⟨HW.out.bel.os, HW.out.bel.tape, HW.out.bel.output, HW.out.bel.size, HW.out.bel.block⟩, HW.out.own⟩)
    clear d0 d1 d2 d3 hsl
    go_loopw [14, 10] (fun vn va wq => ∃ (j m' c' : Nat) (A' : Option Addr), j ≤ XN ∧ vn = .int .i64 j ∧ va = .slice A' m' c' ∧ (al ++ List.replicate j (a : Int)).length = m' ∧ BWL W w1 (.slice A' m' c') (al ++ List.replicate j (a : Int)) wq) (fun vn _ _ => XN - (RowKit.intOf vn).toNat)
    case atStart => exact ⟨0, m, c, A, Nat.zero_le _, rfl, rfl, by rw [List.replicate_zero, List.append_nil]; exact HM.out.symm, by rw [List.replicate_zero, List.append_nil]; exact HWQ.out⟩
    case round =>
     obtain ⟨j, m', c', A', hj, rfl, rfl, hjm, hjw⟩ := hrel
     have HJ := Lib.hid hjw; have HJM := Lib.hid hjm
     have HOJ := Lib.hid (show wr.ownsRow w1.heap.size 3 1 (.slice A' m' c') m' (intsW (al ++ List.replicate j (a : Int))) by have := hjw.own; rwa [hjm] at this)
     have HLJ := Lib.hid (show m' + 1 ≤ maxLen ∧ (m' + 1) * 8 ≤ 140737488355328 by rw [List.length_append, List.length_replicate] at hjm; have := HIN.out; exact ⟨by simp only [maxLen]; omega, by omega⟩)
     obtain ⟨d0, d1, d2, d3⟩ := KC.out wr hjw.bel
     clear hjw hjm
     have hxs := HXS.out
     by_cases hlt2 : j < XN
     ·go_wp2_with (at_builtin; refine wpList_app _ rfl (.tmp 72) (.tmp 78) 30 rfl w1.heap.size 3 i0 _ 8 Tryz.underlying30 hI0 hz0 hz1 hz2 rfl (.slice A' m' c') m' (intsW (al ++ List.replicate j (a : Int))) rfl (own_alloc HOJ.out) _ 1 1 [.int .i64 (a : Int)] rfl (src_one _ _ _) (by simp [Value.oneCell']) HLJ.out.1 HLJ.out.2 (by rw [World.size_alloc]; have := HJ.out.bel.size; omega) ?_; intro v' wp ho hg hn; obtain ⟨A2, d2, rfl, _⟩ := own_slice3 ho; have HJG := Lib.hid (HJ.out.grown HJM.out ho hg); clear ho hg hn)
      go_roundw
      case rel => exact ⟨j + 1, m' + 1, d2, A2, hlt2, by go_num, rfl, by rw [List.replicate_succ', ← List.append_assoc, List.length_append, HJM.out]; rfl, by rw [List.replicate_succ', ← List.append_assoc]; exact HJG.out⟩
      case measure => simp [RowKit.intOf]; omega
     ·obtain rfl : j = XN := by omega
      go_wp2_with fail
      rw [show wrap64 ((i : Int) + 1) = (i1 : Int) by have := HI1.out; have := HML.out; unfold wrap64; omega]
      have hi1 := HI1.out
      exact ⟨⟨i1, m', c', A', al ++ List.replicate j (a : Int), by omega, rfl, rfl, rfl, HJM.out.symm, by rw [List.length_append, List.length_replicate]; exact HIN.out.2, HJ.out⟩, by simp [RowKit.intOf]; omega⟩
   case false =>
    have hxx : (⟨(encL (smallV rs i)).toArray⟩ : ByteArray) = XB := by rw [← hXB, ← hX]; unfold tx0; rw [if_neg Bool.false_ne_true]
    have HXX := Lib.hid hxx
    clear hxx hX hXB
    go_wp2_with fail
    go_quiet (fail)
    have HWQ := Lib.hid (show BWL W w1 (.slice A m c) al (wr.drewN nq) from ⟨⟨HW.out.bel.os, HW.out.bel.tape, HW.out.bel.output, HW.out.bel.size, HW.out.bel.block⟩, HW.out.own⟩)
    have hri := (isR_iff _).1 HX3.out
    have HRI := Lib.hid (show -2147483648 ≤ (r : Int) ∧ (r : Int) ≤ 2147483647 by omega)
    have HIR := Lib.hid (show isR (rs.getD i 0) = true by rw [HRI2.out]; exact HX3.out)
    clear hri
    go_wp2_with (first
     | (go_at_call 45; refine (form2_ok r HRI.out 0 (by decide) _ _ (bookP_below HB.out.1 (HB1.out.trans (HWQ.out.bel.mono HB1.out.size)))).mono ?_; rintro e w5 ⟨sf, rfl, hsf, hb⟩; have HW5 := Lib.hid (HWQ.out.below hb); clear hb hsf)
     | (go_at_call 46; refine (BSmall_ok rs _ g N _ i hlt _ (bookG_below HB.out (HB1.out.trans (HW5.out.bel.mono HB1.out.size))) (HMR.out.below HW5.out.bel)).mono ?_; rintro e w7 ⟨sg, rfl, hsf, hb⟩; have HSF := Lib.hid hsf; have HW7 := Lib.hid (HW5.out.below hb); clear hb hsf)
     | (go_at_call 44; refine (tText_ok (smallV rs i) _ _ HSF.out (Nat.le_trans (smallV_len rs i) (by decide)) (smallV_isR rs i HIR.out)).mono ?_; rintro e w6 ⟨rfl, hb⟩; rw [HXX.out]; have HW6 := Lib.hid (HW7.out.below hb); clear hb))
    rw [HAPP.out]
    clear d0 d1 d2 d3 hsl
    go_loopw [14, 10] (fun vn va wq => ∃ (j m' c' : Nat) (A' : Option Addr), j ≤ XN ∧ vn = .int .i64 j ∧ va = .slice A' m' c' ∧ (al ++ List.replicate j (a : Int)).length = m' ∧ BWL W w1 (.slice A' m' c') (al ++ List.replicate j (a : Int)) wq) (fun vn _ _ => XN - (RowKit.intOf vn).toNat)
    case atStart => exact ⟨0, m, c, A, Nat.zero_le _, rfl, rfl, by rw [List.replicate_zero, List.append_nil]; exact HM.out.symm, by rw [List.replicate_zero, List.append_nil]; exact HW6.out⟩
    case round =>
     obtain ⟨j, m', c', A', hj, rfl, rfl, hjm, hjw⟩ := hrel
     have HJ := Lib.hid hjw; have HJM := Lib.hid hjm
     have HOJ := Lib.hid (show wr.ownsRow w1.heap.size 3 1 (.slice A' m' c') m' (intsW (al ++ List.replicate j (a : Int))) by have := hjw.own; rwa [hjm] at this)
     have HLJ := Lib.hid (show m' + 1 ≤ maxLen ∧ (m' + 1) * 8 ≤ 140737488355328 by rw [List.length_append, List.length_replicate] at hjm; have := HIN.out; exact ⟨by simp only [maxLen]; omega, by omega⟩)
     obtain ⟨d0, d1, d2, d3⟩ := KC.out wr hjw.bel
     clear hjw hjm
     have hxs := HXS.out
     by_cases hlt2 : j < XN
     ·go_wp2_with (at_builtin; refine wpList_app _ rfl (.tmp 72) (.tmp 78) 30 rfl w1.heap.size 3 i0 _ 8 Tryz.underlying30 hI0 hz0 hz1 hz2 rfl (.slice A' m' c') m' (intsW (al ++ List.replicate j (a : Int))) rfl (own_alloc HOJ.out) _ 1 1 [.int .i64 (a : Int)] rfl (src_one _ _ _) (by simp [Value.oneCell']) HLJ.out.1 HLJ.out.2 (by rw [World.size_alloc]; have := HJ.out.bel.size; omega) ?_; intro v' wp ho hg hn; obtain ⟨A2, d2, rfl, _⟩ := own_slice3 ho; have HJG := Lib.hid (HJ.out.grown HJM.out ho hg); clear ho hg hn)
      go_roundw
      case rel => exact ⟨j + 1, m' + 1, d2, A2, hlt2, by go_num, rfl, by rw [List.replicate_succ', ← List.append_assoc, List.length_append, HJM.out]; rfl, by rw [List.replicate_succ', ← List.append_assoc]; exact HJG.out⟩
      case measure => simp [RowKit.intOf]; omega
     ·obtain rfl : j = XN := by omega
      go_wp2_with fail
      rw [show wrap64 ((i : Int) + 1) = (i1 : Int) by have := HI1.out; have := HML.out; unfold wrap64; omega]
      have hi1 := HI1.out
      exact ⟨⟨i1, m', c', A', al ++ List.replicate j (a : Int), by omega, rfl, rfl, rfl, HJM.out.symm, by rw [List.length_append, List.length_replicate]; exact HIN.out.2, HJ.out⟩, by simp [RowKit.intOf]; omega⟩
  ·obtain rfl : i = N := by omega
   have htk : M.take i = M := List.take_of_length_le (by rw [HNN.out]; exact Nat.le_refl _)
   rw [htk, HWR.out]
   clear htk
   go_wp2_with fail
   go_ret2
   exact ⟨_, rfl, HB1.out.trans (HW.out.bel.mono HB1.out.size)⟩
end
end Go.Proofs.YtnfghboholehdaaGreatDoor.foldWrites
