/- FoldWrites, the plain law of texts: a text is written rune by rune. -/
import Derived.Lib.DecodeN
import Derived.Lib.TrimUEq
import Derived.Lib.ValidU
namespace Go.Proofs.YtnfghboholehdaaGreatDoor.foldWrites
section
namespace Pieces
def bt (l : List UInt8) (i : Nat) : Nat := (l.getD i 0).toNat
theorem bt_lt (l : List UInt8) (i : Nat) : bt l i < 256 := (l.getD i 0).toNat_lt
theorem bt_app {l x : List UInt8} {i : Nat} (h : i < l.length) : bt (l ++ x) i = bt l i := by
 unfold bt
 rw [List.getD_eq_getElem?_getD, List.getD_eq_getElem?_getD, List.getElem?_append_left h]
end Pieces
namespace Folds
open Pieces (bt bt_lt bt_app)
open Go.Lib (decodeN)
set_option maxHeartbeats 4000000 in
theorem dec_stable (n m b0 b1 b2 b3 c1 c2 c3 : Nat) (hn : 1 ≤ n) (h1 : 1 < n → c1 = b1) (h2 : 2 < n → c2 = b2) (h3 : 3 < n → c3 = b3) (hw : (decodeN (n + m) b0 c1 c2 c3).2 ≤ n) : decodeN n b0 b1 b2 b3 = decodeN (n + m) b0 c1 c2 c3 := by
 rcases (by omega : n = 1 ∨ n = 2 ∨ n = 3 ∨ 4 ≤ n) with rfl | rfl | rfl | h4
 ·clear h1 h2 h3
  revert hw
  unfold decodeN
  repeat' split
  all_goals intro hw
  all_goals first | with_reducible rfl | (exfalso; dsimp only at hw; omega) | (exfalso; omega)
 ·obtain rfl := h1 (by omega)
  clear h1 h2 h3
  revert hw
  unfold decodeN
  repeat' split
  all_goals intro hw
  all_goals first | with_reducible rfl | (exfalso; dsimp only at hw; omega) | (exfalso; omega)
 ·obtain rfl := h1 (by omega)
  obtain rfl := h2 (by omega)
  clear h1 h2 h3
  revert hw
  unfold decodeN
  repeat' split
  all_goals intro hw
  all_goals first | with_reducible rfl | (exfalso; dsimp only at hw; omega) | (exfalso; omega)
 ·obtain rfl := h1 (by omega)
  obtain rfl := h2 (by omega)
  obtain rfl := h3 (by omega)
  clear h1 h2 h3 hw
  have e1 : (1 < n) = True := eq_true (by omega)
  have e2 : (2 < n) = True := eq_true (by omega)
  have e3 : (3 < n) = True := eq_true (by omega)
  have f1 : (1 < n + m) = True := eq_true (by omega)
  have f2 : (2 < n + m) = True := eq_true (by omega)
  have f3 : (3 < n + m) = True := eq_true (by omega)
  unfold decodeN
  simp only [e1, e2, e3, f1, f2, f3]
/-- the first rune, and how many bytes it has -/
def dec (l : List UInt8) : Nat × Nat := decodeN l.length (bt l 0) (bt l 1) (bt l 2) (bt l 3)
theorem dec_pos (l : List UInt8) : 1 ≤ (dec l).2 := by
 unfold dec decodeN
 repeat' split
 all_goals simp
theorem dec_le4 (l : List UInt8) : (dec l).2 ≤ 4 := by
 unfold dec decodeN
 repeat' split
 all_goals simp
theorem dec_le (l : List UInt8) (h : l ≠ []) : (dec l).2 ≤ l.length := by
 have h0 : 1 ≤ l.length := by cases l with | nil => exact absurd rfl h | cons a b => simp
 unfold dec decodeN
 repeat' split
 all_goals (try dsimp only)
 all_goals omega
theorem dec_app (l t : List UInt8) (h : l ≠ []) (hw : (dec (l ++ t)).2 ≤ l.length) : dec (l ++ t) = dec l := by
 have h0 : 1 ≤ l.length := by cases l with | nil => exact absurd rfl h | cons a b => simp
 unfold dec at hw ⊢
 rw [bt_app (show 0 < l.length by omega), List.length_append] at hw ⊢
 exact (dec_stable l.length t.length _ (bt l 1) (bt l 2) (bt l 3) _ _ _ h0 (fun h => bt_app h) (fun h => bt_app h) (fun h => bt_app h) hw).symm
/-- what is written for the first rune: a fault stays -/
def one (enc : Nat → List UInt8) (l : List UInt8) : List UInt8 := if (dec l).1 = 65533 ∧ (dec l).2 = 1 then l.take 1 else enc (dec l).1
def out (enc : Nat → List UInt8) : Nat → List UInt8 → List UInt8
 | 0, _ => []
 | n + 1, l => if l = [] then [] else one enc l ++ out enc n (l.drop (dec l).2)
theorem out_more (enc : Nat → List UInt8) : ∀ (n m : Nat) (l : List UInt8), l.length ≤ n → l.length ≤ m → out enc n l = out enc m l
 | 0, 0, _, _, _ => rfl
 | 0, m + 1, l, h, _ => by
   obtain rfl : l = [] := List.eq_nil_of_length_eq_zero (by omega)
   show [] = if ([] : List UInt8) = [] then [] else _
   rw [if_pos rfl]
 | n + 1, 0, l, _, h => by
   obtain rfl : l = [] := List.eq_nil_of_length_eq_zero (by omega)
   show (if ([] : List UInt8) = [] then [] else _) = []
   rw [if_pos rfl]
 | n + 1, m + 1, l, h, k => by
   show (if l = [] then [] else _) = (if l = [] then [] else _)
   by_cases c : l = []
   ·rw [if_pos c, if_pos c]
   ·rw [if_neg c, if_neg c, out_more enc n m (l.drop (dec l).2) (by have := dec_pos l; rw [List.length_drop]; omega) (by have := dec_pos l; rw [List.length_drop]; omega)]
/-- a text written -/
def wrt (enc : Nat → List UInt8) (l : List UInt8) : List UInt8 := out enc l.length l
theorem wrt_step (enc : Nat → List UInt8) (l : List UInt8) (h : l ≠ []) : wrt enc l = one enc l ++ wrt enc (l.drop (dec l).2) := by
 unfold wrt
 obtain ⟨n, hn⟩ : ∃ n, l.length = n + 1 := ⟨l.length - 1, by cases l with | nil => exact absurd rfl h | cons a b => simp⟩
 rw [hn]
 show (if l = [] then [] else _) = _
 rw [if_neg h, out_more enc n _ (l.drop (dec l).2) (by have := dec_pos l; rw [List.length_drop]; omega) (Nat.le_refl _)]
theorem decL (l : List UInt8) : Go.Lib.decodeL l = dec l := Go.Lib.decodeL_N l
end Folds
end
end Go.Proofs.YtnfghboholehdaaGreatDoor.foldWrites
