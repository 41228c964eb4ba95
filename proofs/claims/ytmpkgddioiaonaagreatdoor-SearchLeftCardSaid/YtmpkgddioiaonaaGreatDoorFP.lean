/- SearchLeft, the plain law of texts: a text is written rune by rune; the plain law of matches; a region that draws its order. -/
import Derived.Lib.DecodeN
import Derived.Lib.TrimUEq
import Derived.Lib.ValidU
import Derived.OrdersHeld
import Derived.RegionTactic
import Derived.Deep.RegionHeld
namespace Go.Proofs.YtmpkgddioiaonaaGreatDoor.searchLeft
section
namespace Pieces
def bt (l : List UInt8) (i : Nat) : Nat := (l.getD i 0).toNat
theorem bt_lt (l : List UInt8) (i : Nat) : bt l i < 256 := (l.getD i 0).toNat_lt
theorem bt_app {l x : List UInt8} {i : Nat} (h : i < l.length) : bt (l ++ x) i = bt l i := by
 unfold bt
 rw [List.getD_eq_getElem?_getD, List.getD_eq_getElem?_getD, List.getElem?_append_left h]
end Pieces
namespace Folds
open Pieces (bt bt_lt bt_app)
open Go.Lib (decodeN)
set_option maxHeartbeats 4000000 in
theorem dec_stable (n m b0 b1 b2 b3 c1 c2 c3 : Nat) (hn : 1 ≤ n) (h1 : 1 < n → c1 = b1) (h2 : 2 < n → c2 = b2) (h3 : 3 < n → c3 = b3) (hw : (decodeN (n + m) b0 c1 c2 c3).2 ≤ n) : decodeN n b0 b1 b2 b3 = decodeN (n + m) b0 c1 c2 c3 := by
 rcases (by omega : n = 1 ∨ n = 2 ∨ n = 3 ∨ 4 ≤ n) with rfl | rfl | rfl | h4
 ·clear h1 h2 h3
  revert hw
  unfold decodeN
  repeat' split
  all_goals intro hw
  all_goals first | with_reducible rfl | (exfalso; dsimp only at hw; omega) | (exfalso; omega)
 ·obtain rfl := h1 (by omega)
  clear h1 h2 h3
  revert hw
  unfold decodeN
  repeat' split
  all_goals intro hw
  all_goals first | with_reducible rfl | (exfalso; dsimp only at hw; omega) | (exfalso; omega)
 ·obtain rfl := h1 (by omega)
  obtain rfl := h2 (by omega)
  clear h1 h2 h3
  revert hw
  unfold decodeN
  repeat' split
  all_goals intro hw
  all_goals first | with_reducible rfl | (exfalso; dsimp only at hw; omega) | (exfalso; omega)
 ·obtain rfl := h1 (by omega)
  obtain rfl := h2 (by omega)
  obtain rfl := h3 (by omega)
  clear h1 h2 h3 hw
  have e1 : (1 < n) = True := eq_true (by omega)
  have e2 : (2 < n) = True := eq_true (by omega)
  have e3 : (3 < n) = True := eq_true (by omega)
  have f1 : (1 < n + m) = True := eq_true (by omega)
  have f2 : (2 < n + m) = True := eq_true (by omega)
  have f3 : (3 < n + m) = True := eq_true (by omega)
  unfold decodeN
  simp only [e1, e2, e3, f1, f2, f3]
/-- the first rune, and how many bytes it has -/
def dec (l : List UInt8) : Nat × Nat := decodeN l.length (bt l 0) (bt l 1) (bt l 2) (bt l 3)
theorem dec_pos (l : List UInt8) : 1 ≤ (dec l).2 := by
 unfold dec decodeN
 repeat' split
 all_goals simp
theorem dec_le4 (l : List UInt8) : (dec l).2 ≤ 4 := by
 unfold dec decodeN
 repeat' split
 all_goals simp
theorem dec_le (l : List UInt8) (h : l ≠ []) : (dec l).2 ≤ l.length := by
 have h0 : 1 ≤ l.length := by cases l with | nil => exact absurd rfl h | cons a b => simp
 unfold dec decodeN
 repeat' split
 all_goals (try dsimp only)
 all_goals omega
theorem dec_app (l t : List UInt8) (h : l ≠ []) (hw : (dec (l ++ t)).2 ≤ l.length) : dec (l ++ t) = dec l := by
 have h0 : 1 ≤ l.length := by cases l with | nil => exact absurd rfl h | cons a b => simp
 unfold dec at hw ⊢
 rw [bt_app (show 0 < l.length by omega), List.length_append] at hw ⊢
 exact (dec_stable l.length t.length _ (bt l 1) (bt l 2) (bt l 3) _ _ _ h0 (fun h => bt_app h) (fun h => bt_app h) (fun h => bt_app h) hw).symm
/-- what is written for the first rune: a fault stays -/
def one (enc : Nat → List UInt8) (l : List UInt8) : List UInt8 := if (dec l).1 = 65533 ∧ (dec l).2 = 1 then l.take 1 else enc (dec l).1
def out (enc : Nat → List UInt8) : Nat → List UInt8 → List UInt8
 | 0, _ => []
 | n + 1, l => if l = [] then [] else one enc l ++ out enc n (l.drop (dec l).2)
theorem out_more (enc : Nat → List UInt8) : ∀ (n m : Nat) (l : List UInt8), l.length ≤ n → l.length ≤ m → out enc n l = out enc m l
 | 0, 0, _, _, _ => rfl
 | 0, m + 1, l, h, _ => by
   obtain rfl : l = [] := List.eq_nil_of_length_eq_zero (by omega)
   show [] = if ([] : List UInt8) = [] then [] else _
   rw [if_pos rfl]
 | n + 1, 0, l, _, h => by
   obtain rfl : l = [] := List.eq_nil_of_length_eq_zero (by omega)
   show (if ([] : List UInt8) = [] then [] else _) = []
   rw [if_pos rfl]
 | n + 1, m + 1, l, h, k => by
   show (if l = [] then [] else _) = (if l = [] then [] else _)
   by_cases c : l = []
   ·rw [if_pos c, if_pos c]
   ·rw [if_neg c, if_neg c, out_more enc n m (l.drop (dec l).2) (by have := dec_pos l; rw [List.length_drop]; omega) (by have := dec_pos l; rw [List.length_drop]; omega)]
/-- a text written -/
def wrt (enc : Nat → List UInt8) (l : List UInt8) : List UInt8 := out enc l.length l
theorem wrt_step (enc : Nat → List UInt8) (l : List UInt8) (h : l ≠ []) : wrt enc l = one enc l ++ wrt enc (l.drop (dec l).2) := by
 unfold wrt
 obtain ⟨n, hn⟩ : ∃ n, l.length = n + 1 := ⟨l.length - 1, by cases l with | nil => exact absurd rfl h | cons a b => simp⟩
 rw [hn]
 show (if l = [] then [] else _) = _
 rw [if_neg h, out_more enc n _ (l.drop (dec l).2) (by have := dec_pos l; rw [List.length_drop]; omega) (Nat.le_refl _)]
theorem decL (l : List UInt8) : Go.Lib.decodeL l = dec l := Go.Lib.decodeL_N l
end Folds
end
section
namespace Left
/-- an edge of a text: where, whether a match may begin or end there, what is shown behind it -/
abbrev Pl := Nat × Bool × List UInt8
def cut (rest sh : List UInt8) : Option (List UInt8) := if rest.take sh.length = sh then some (rest.drop sh.length) else none
def look : List UInt8 → List Pl → Option Nat
 | _, [] => none
 | rest, p :: r => if rest = [] then (if p.2.1 = true then some p.1 else none) else match cut rest p.2.2 with
   | none => none
   | some nx => if p.2.2 = [] then none else look nx r
def every (want : List UInt8) : List Pl → List (Nat × Nat)
 | [] => []
 | p :: r => if p.2.1 = true then (match look want (p :: r) with | some b => (p.1, b) :: every want r | none => every want r) else every want r
/-- rising places, none above n -/
def asc (n : Nat) : List Pl → Prop
 | [] => True
 | p :: r => p.1 ≤ n ∧ (∀ q ∈ r, p.1 < q.1) ∧ asc n r
theorem look_at {n : Nat} : ∀ {l : List Pl} {rest : List UInt8} {b : Nat}, asc n l → look rest l = some b → b ≤ n ∧ ∃ q ∈ l, q.1 = b
 | [], _, _, _, h => by cases h
 | p :: r, rest, b, ha, h => by
   unfold look at h
   obtain ⟨h1, h2, h3⟩ := ha
   split at h
   ·split at h
    ·cases h; exact ⟨h1, p, List.mem_cons_self, rfl⟩
    ·cases h
   ·split at h
    ·cases h
    ·split at h
     ·cases h
     ·obtain ⟨e1, q, e2, e3⟩ := look_at h3 h
      exact ⟨e1, q, List.mem_cons_of_mem _ e2, e3⟩
theorem look_above {n : Nat} {p : Pl} {r : List Pl} {want : List UInt8} {b : Nat} (hw : want ≠ []) (ha : asc n (p :: r)) (h : look want (p :: r) = some b) : p.1 < b ∧ b ≤ n := by
 obtain ⟨h1, h2, h3⟩ := ha
 unfold look at h
 rw [if_neg hw] at h
 split at h
 ·cases h
 ·split at h
  ·cases h
  ·obtain ⟨e1, q, e2, e3⟩ := look_at h3 h
   exact ⟨by rw [← e3]; exact h2 q e2, e1⟩
/-- matches, rising, none empty, none above n -/
def rise (n : Nat) : List (Nat × Nat) → Prop
 | [] => True
 | m :: l => m.1 < m.2 ∧ m.2 ≤ n ∧ (∀ x ∈ l, m.1 < x.1) ∧ rise n l
theorem every_mem {want : List UInt8} : ∀ {l : List Pl} {x : Nat × Nat}, x ∈ every want l → ∃ q ∈ l, q.1 = x.1
 | [], x, h => by cases h
 | p :: r, x, h => by
   unfold every at h
   split at h
   ·split at h
    ·rcases List.mem_cons.1 h with rfl | h
     ·exact ⟨p, List.mem_cons_self, rfl⟩
     ·obtain ⟨q, e1, e2⟩ := every_mem h
      exact ⟨q, List.mem_cons_of_mem _ e1, e2⟩
    ·obtain ⟨q, e1, e2⟩ := every_mem h
     exact ⟨q, List.mem_cons_of_mem _ e1, e2⟩
   ·obtain ⟨q, e1, e2⟩ := every_mem h
    exact ⟨q, List.mem_cons_of_mem _ e1, e2⟩
theorem every_rise {n : Nat} {want : List UInt8} (hw : want ≠ []) : ∀ {l : List Pl}, asc n l → rise n (every want l)
 | [], _ => trivial
 | p :: r, ha => by
   have ih := every_rise hw ha.2.2
   unfold every
   split
   ·split
    ·rename_i b hb
     obtain ⟨e1, e2⟩ := look_above hw ha hb
     refine ⟨e1, e2, fun x hx => ?_, ih⟩
     obtain ⟨q, f1, f2⟩ := every_mem hx
     rw [← f2]
     exact ha.2.1 q f1
    ·exact ih
   ·exact ih
/-! ### counted off -/
/-- how many matches stand ahead of a pair -/
def cnt : List (Nat × Nat) → Nat → Nat → Nat
 | [], _, _ => 0
 | m :: l, a, b => if m.1 < a ∨ (m.1 = a ∧ m.2 < b) then cnt l a b + 1 else 0
theorem cnt_le : ∀ (l : List (Nat × Nat)) (a b : Nat), cnt l a b ≤ l.length
 | [], _, _ => Nat.le_refl _
 | m :: l, a, b => by unfold cnt; have := cnt_le l a b; split <;> simp only [List.length_cons] <;> omega
theorem cnt_hit {n : Nat} : ∀ {l : List (Nat × Nat)} {a b : Nat}, rise n l → (a, b) ∈ l → l[cnt l a b]? = some (a, b) ∧ cnt l a (b + 1) = cnt l a b + 1
 | [], _, _, _, h => by cases h
 | m :: l, a, b, hr, h => by
   obtain ⟨h1, h2, h3, h4⟩ := hr
   rcases List.mem_cons.1 h with rfl | h
   ·have e0 : cnt ((a, b) :: l) a b = 0 := by unfold cnt; rw [if_neg (by dsimp only; omega)]
    have e1 : cnt l a (b + 1) = 0 := by
     cases l with
     | nil => rfl
     | cons x l =>
       have := h3 x List.mem_cons_self
       unfold cnt
       rw [if_neg (by dsimp only at this; omega)]
    refine ⟨by rw [e0]; rfl, ?_⟩
    rw [e0]
    unfold cnt
    rw [if_pos (by dsimp only; omega), e1]
   ·have hm := h3 _ h
    dsimp only at hm
    obtain ⟨e1, e2⟩ := cnt_hit h4 h
    have c1 : cnt (m :: l) a b = cnt l a b + 1 := by rw [cnt, if_pos (by omega)]
    have c2 : cnt (m :: l) a (b + 1) = cnt l a (b + 1) + 1 := by rw [cnt, if_pos (by omega)]
    rw [c1, c2, e2]
    exact ⟨by rw [List.getElem?_cons_succ]; exact e1, rfl⟩
theorem cnt_miss {n : Nat} : ∀ {l : List (Nat × Nat)} {a b : Nat}, rise n l → (a, b) ∉ l → cnt l a (b + 1) = cnt l a b
 | [], _, _, _, _ => rfl
 | m :: l, a, b, hr, h => by
   obtain ⟨h1, h2, h3, h4⟩ := hr
   have hm : m ≠ (a, b) := fun c => h (c ▸ List.mem_cons_self)
   have ih := cnt_miss h4 (fun c => h (List.mem_cons_of_mem _ c))
   have hne : ¬ (m.1 = a ∧ m.2 = b) := fun c => hm (by obtain ⟨x, y⟩ := m; dsimp only at c; rw [c.1, c.2])
   unfold cnt
   by_cases c : m.1 < a ∨ (m.1 = a ∧ m.2 < b)
   ·rw [if_pos c, if_pos (by omega), ih]
   ·rw [if_neg c, if_neg (by omega)]
theorem cnt_next {n : Nat} : ∀ {l : List (Nat × Nat)} {a : Nat}, rise n l → cnt l a (n + 1) = cnt l (a + 1) (a + 1)
 | [], _, _ => rfl
 | m :: l, a, hr => by
   obtain ⟨h1, h2, h3, h4⟩ := hr
   have ih := cnt_next (a := a) h4
   unfold cnt
   by_cases c : m.1 < a ∨ (m.1 = a ∧ m.2 < n + 1)
   ·rw [if_pos c, if_pos (by omega), ih]
   ·rw [if_neg c, if_neg (by omega)]
theorem cnt_zero {n : Nat} {l : List (Nat × Nat)} (hr : rise n l) : cnt l 0 0 = 0 := by
 cases l with
 | nil => rfl
 | cons m l => unfold cnt; rw [if_neg (by omega)]
theorem cnt_end {n : Nat} : ∀ {l : List (Nat × Nat)}, rise n l → cnt l (n + 1) (n + 1) = l.length
 | [], _ => rfl
 | m :: l, hr => by
   obtain ⟨h1, h2, h3, h4⟩ := hr
   unfold cnt
   rw [if_pos (by omega), cnt_end h4, List.length_cons]
/-! ### taken from the front -/
def allG : Nat → List (Nat × Nat) → List (Nat × Nat)
 | _, [] => []
 | e, m :: l => if e ≤ m.1 then m :: allG m.2 l else allG e l
theorem allG_sub {n : Nat} : ∀ {l : List (Nat × Nat)} {e : Nat} {x : Nat × Nat}, rise n l → x ∈ allG e l → x ∈ l ∧ e ≤ x.1 ∧ x.1 < x.2
 | [], _, _, _, h => by cases h
 | m :: l, e, x, hr, h => by
   obtain ⟨h1, h2, h3, h4⟩ := hr
   unfold allG at h
   split at h
   ·rename_i c
    rcases List.mem_cons.1 h with rfl | h
    ·exact ⟨List.mem_cons_self, c, h1⟩
    ·obtain ⟨e1, e2, e3⟩ := allG_sub h4 h
     exact ⟨List.mem_cons_of_mem _ e1, by omega, e3⟩
   ·obtain ⟨e1, e2⟩ := allG_sub h4 h
    exact ⟨List.mem_cons_of_mem _ e1, e2⟩
/-- none begins ahead of another's end -/
def apart : List (Nat × Nat) → Prop
 | [] => True
 | m :: l => m.1 < m.2 ∧ (∀ x ∈ l, m.2 ≤ x.1) ∧ apart l
theorem allG_apart {n : Nat} : ∀ {l : List (Nat × Nat)} {e : Nat}, rise n l → apart (allG e l)
 | [], _, _ => trivial
 | m :: l, e, hr => by
   obtain ⟨h1, h2, h3, h4⟩ := hr
   unfold allG
   split
   ·exact ⟨h1, fun x hx => (allG_sub h4 hx).2.1, allG_apart h4⟩
   ·exact allG_apart h4
theorem allG_cover {n : Nat} : ∀ {l : List (Nat × Nat)} {e : Nat} {m : Nat × Nat}, rise n l → m ∈ l → e ≤ m.1 → ∃ a ∈ allG e l, a.1 ≤ m.1 ∧ m.1 < a.2
 | [], _, _, _, h, _ => by cases h
 | x :: l, e, m, hr, hm, he => by
   obtain ⟨h1, h2, h3, h4⟩ := hr
   unfold allG
   split
   ·rcases List.mem_cons.1 hm with rfl | hm
    ·exact ⟨m, List.mem_cons_self, Nat.le_refl _, h1⟩
    ·have hx := h3 m hm
     rcases Nat.lt_or_ge m.1 x.2 with c | c
     ·exact ⟨x, List.mem_cons_self, Nat.le_of_lt hx, c⟩
     ·obtain ⟨a, e1, e2⟩ := allG_cover h4 hm c
      exact ⟨a, List.mem_cons_of_mem _ e1, e2⟩
   ·rename_i c
    rcases List.mem_cons.1 hm with rfl | hm
    ·exact absurd he c
    ·exact allG_cover h4 hm he
def m0 : Nat × Nat := (0, 0)
theorem getD_mem {l : List (Nat × Nat)} {i : Nat} (h : i < l.length) : l.getD i m0 ∈ l := by
 rw [List.getD_eq_getElem?_getD, List.getElem?_eq_getElem h]
 exact List.getElem_mem h
theorem mem_getD {l : List (Nat × Nat)} {x : Nat × Nat} (h : x ∈ l) : ∃ i, i < l.length ∧ l.getD i m0 = x := by
 obtain ⟨i, hi, e⟩ := List.mem_iff_getElem.1 h
 exact ⟨i, hi, by rw [List.getD_eq_getElem?_getD, List.getElem?_eq_getElem hi]; exact e⟩
theorem apart_at : ∀ {l : List (Nat × Nat)}, apart l → ∀ i j, i < j → j < l.length → (l.getD i m0).1 < (l.getD i m0).2 ∧ (l.getD i m0).2 ≤ (l.getD j m0).1
 | [], _, _, j, _, hj => by simp at hj
 | m :: l, h, 0, j + 1, _, hj => by
   have hj' : j < l.length := by simpa using hj
   exact ⟨h.1, h.2.1 _ (getD_mem hj')⟩
 | m :: l, h, i + 1, j + 1, hij, hj => by
   have := apart_at h.2.2 i j (by omega) (by simpa using hj)
   simpa using this
theorem rise_at {n : Nat} : ∀ {l : List (Nat × Nat)}, rise n l → ∀ i j, i < j → j < l.length → (l.getD i m0).1 < (l.getD j m0).1
 | [], _, _, j, _, hj => by simp at hj
 | m :: l, h, 0, j + 1, _, hj => by
   have hj' : j < l.length := by simpa using hj
   exact h.2.2.1 _ (getD_mem hj')
 | m :: l, h, i + 1, j + 1, hij, hj => by
   have := rise_at h.2.2.2 i j (by omega) (by simpa using hj)
   simpa using this
theorem rise_mem {n : Nat} : ∀ {l : List (Nat × Nat)}, rise n l → ∀ x ∈ l, x.1 < x.2 ∧ x.2 ≤ n
 | [], _, x, hx => by cases hx
 | m :: l, h, x, hx => by
   rcases List.mem_cons.1 hx with rfl | hx
   ·exact ⟨h.1, h.2.1⟩
   ·exact rise_mem h.2.2.2 x hx
/-- where the taken ones up to a place end ahead of a match, there is one more, and it begins no later or ends ahead of it too -/
theorem cover_at {n : Nat} {l : List (Nat × Nat)} (hr : rise n l) {i : Nat} (hi : i < l.length) {j : Nat} (hj : ∀ k, k < j → ((allG 0 l).getD k m0).2 ≤ (l.getD i m0).1) :
 j < (allG 0 l).length ∧ (((allG 0 l).getD j m0).1 ≤ (l.getD i m0).1 ∨ ((allG 0 l).getD j m0).2 ≤ (l.getD i m0).1) := by
 obtain ⟨a, ha, e1, e2⟩ := allG_cover hr (getD_mem hi) (Nat.zero_le _)
 obtain ⟨q, hq, rfl⟩ := mem_getD ha
 have hjq : j ≤ q := by
  rcases Nat.lt_or_ge q j with c | c
  ·have := hj q c; omega
  ·exact c
 refine ⟨Nat.lt_of_le_of_lt hjq hq, ?_⟩
 rcases Nat.lt_or_ge j q with c | c
 ·have := apart_at (allG_apart hr) j q c hq
  exact .inl (by omega)
 ·obtain rfl : j = q := by omega
  exact .inl e1
theorem all_in {n : Nat} {l : List (Nat × Nat)} (hr : rise n l) {i : Nat} (hi : i < (allG 0 l).length) : ∃ k, k < l.length ∧ l.getD k m0 = (allG 0 l).getD i m0 := by
 obtain ⟨k, hk, e⟩ := mem_getD (allG_sub hr (getD_mem hi)).1
 exact ⟨k, hk, e⟩
theorem allG_len : ∀ (l : List (Nat × Nat)) (e : Nat), (allG e l).length ≤ l.length
 | [], _ => Nat.le_refl _
 | m :: l, e => by
   unfold allG
   split
   ·simp only [List.length_cons]; have := allG_len l m.2; omega
   ·simp only [List.length_cons]; have := allG_len l e; omega
end Left
end
section
section
variable {P : Program} {ops : Array Oper} {Q : Exit → Act → World → Prop} {md : Region.Mode} {S : World → Prop} {k : Nat}
/-- whatever order is picked: S holds behind every operation but the number k -/
def wpAnyG (P : Program) (md : Region.Mode) (ops : Array Oper) (Q : Exit → Act → World → Prop) (S : World → Prop) (k : Nat) : Nat → Array Bool → Act → World → Prop
 | 0, listed, a, w => Region.ready md ops listed = [] ∧ Q .normal a w
 | fuel + 1, listed, a, w =>
   (Region.ready md ops listed = [] → Q .normal a w) ∧
   ∀ i ∈ Region.ready md ops listed, wpOp P ops Q i (fun a' w' => (i = k ∨ S w') ∧ wpAnyG P md ops Q S k fuel (listed.setIfInBounds i true) a' w') a w
theorem wpAny_of_G : ∀ (fuel : Nat) (listed : Array Bool) (a : Act) (w : World), wpAnyG P md ops Q S k fuel listed a w → wpAny P md ops Q fuel listed a w
 | 0, _, _, _, h => h
 | fuel + 1, _, _, _, h => ⟨h.1, fun i hi => wpOp_mono (fun a' w' h' => wpAny_of_G fuel _ a' w' h'.2) (h.2 i hi)⟩
theorem wpAnyG_first {i : Nat} {oi : Oper} {v : Value} (hi : ops[i]? = some oi) (hk : ∀ ok, ops[k]? = some ok → ∃ e ∈ ok.after, Region.binds md e = true ∧ e.on = i)
 (hsel : ∀ (j : Nat) (o : Oper) cs b, ops[j]? = some o → o.op ≠ .select cs b) (hQ : ∀ c a w, Q (.panic c) (a.put oi.dst v) w → Q (.panic c) a w) :
 ∀ (fuel : Nat) (listed : Array Bool) (a : Act) (w : World),
  (∀ j oj, ops[j]? = some oj → j ≠ i → listed.getD j true = false → (∀ e ∈ oj.after, Region.binds md e = true → e.on ≠ i) → oi.apart ops oj = true) →
  i ∈ Region.ready md ops listed → YieldsIf P ops S oi v a → S w →
  wpAnyG P md ops Q S k fuel (listed.setIfInBounds i true) (a.put oi.dst v) w → wpAnyG P md ops Q S k (fuel + 1) listed a w := by
 intro fuel
 induction fuel with
 | zero =>
   intro listed a w _ hr hy hS H
   refine ⟨fun h => (by rw [h] at hr; cases hr), fun j hj => ?_⟩
   by_cases hji : j = i
   ·subst hji
    exact hy.wpOp hi hS ⟨.inr hS, H⟩
   ·have := ready_mono hj hji
    rw [H.1] at this
    cases this
 | succ fuel ih =>
   intro listed a w hfree hr hy hS H
   refine ⟨fun h => (by rw [h] at hr; cases hr), fun j hj => ?_⟩
   by_cases hji : j = i
   ·subst hji
    exact hy.wpOp hi hS ⟨.inr hS, H⟩
   ·have h1 := H.2 j (ready_mono hj hji)
    obtain ⟨hjun, oj, hoj, hall⟩ := mem_ready.1 hj
    have hnot : ∀ e ∈ oj.after, Region.binds md e = true → e.on ≠ i := fun e he hb heq => by
     have h1 := hall e he hb
     have h0 := (mem_ready.1 hr).1
     rw [heq] at h1
     rcases Nat.lt_or_ge i listed.size with h' | h'
     ·simp [h'] at h0 h1; rw [h0] at h1; cases h1
     ·simp [Array.getElem?_eq_none h'] at h1
    have hjk : j ≠ k := fun c => by
     subst c
     obtain ⟨e, he, hb, hon⟩ := hk oj hoj
     exact hnot e he hb hon
    have h2 := wpOp_putIf hoj (hfree j oj hoj hji hjun hnot) (fun cs b => hsel i oi cs b hi) (fun cs b => hsel j oj cs b hoj) hQ hy h1
    have hfree' : ∀ k ok, ops[k]? = some ok → k ≠ i → (listed.setIfInBounds j true).getD k true = false →
     (∀ e ∈ ok.after, Region.binds md e = true → e.on ≠ i) → oi.apart ops ok = true := fun k ok hk hki hun hno => by
     refine hfree k ok hk hki ?_ hno
     by_cases hjk : j = k
     ·subst hjk; exact hjun
     ·rw [getD_set_ne true hjk] at hun; exact hun
    refine wpOp_mono (fun a' w' h3 => ?_) h2
    have hS' := h3.2.1.resolve_left hjk
    refine ⟨.inr hS', ih (listed.setIfInBounds j true) a' w' hfree' (ready_mono hr (Ne.symm hji)) h3.1 hS' ?_⟩
    rw [Array.setIfInBounds_comm _ _ hji]
    exact h3.2.2
/-- does the number k wait for the number i? -/
def waitsFor (md : Region.Mode) (ops : Array Oper) (k i : Nat) : Bool := match ops[k]? with
 | some ok => ok.after.any fun e => Region.binds md e && e.on == i
 | none => true
theorem waitsFor_spec {i : Nat} (h : waitsFor md ops k i = true) : ∀ ok, ops[k]? = some ok → ∃ e ∈ ok.after, Region.binds md e = true ∧ e.on = i := fun ok hk => by
 unfold waitsFor at h
 rw [hk] at h
 obtain ⟨e, he, hb⟩ := Array.any_eq_true'.1 h
 rw [Bool.and_eq_true, beq_iff_eq] at hb
 exact ⟨e, he, hb.1, hb.2⟩
theorem wpAnyG_take {i : Nat} {oi : Oper} {v : Value} {fuel : Nat} {listed : Array Bool} {a : Act} {w : World} (hi : ops[i]? = some oi)
 (hs : Region.noSelect ops = true) (hf : Region.free md ops listed i = true) (hr : (Region.ready md ops listed).contains i = true) (hk : waitsFor md ops k i = true)
 (hQ : ∀ c a w, Q (.panic c) (a.put oi.dst v) w → Q (.panic c) a w) (hS : S w) (hy : YieldsIf P ops S oi v a)
 (h : wpAnyG P md ops Q S k fuel (listed.setIfInBounds i true) (a.put oi.dst v) w) : wpAnyG P md ops Q S k (fuel + 1) listed a w :=
 wpAnyG_first hi (waitsFor_spec hk) (Region.noSelect_spec hs) hQ fuel listed a w (Region.free_spec hi hf) (by simpa using hr) hy hS h
/-- the one operation that may come up -/
theorem wpAnyG_one {i : Nat} {o : Oper} {fuel : Nat} {listed : Array Bool} {a : Act} {w : World} (hr : Region.ready md ops listed = [i]) (ho : ops[i]? = some o)
 (h : ∀ K' : Act → World → Prop, Shut (∀ a w, (i = k ∨ S w) → wpAnyG P md ops Q S k fuel (listed.setIfInBounds i true) a w → K' a w) → if Region.wanted o (yielded ops a.tmps) = true then Oper.wp P o a w K' Q else K' (a.put o.dst undef) w) :
 wpAnyG P md ops Q S k (fuel + 1) listed a w :=
 ⟨fun h0 => (by rw [hr] at h0; cases h0), fun j hj => by
  rw [hr, List.mem_singleton] at hj
  subst hj
  exact wpOp_step ho (fun K' hK => h K' (fun a w hS hW => hK a w (And.intro hS hW)))⟩
theorem wpAnyG_done {listed : Array Bool} {a : Act} {w : World} (hr : Region.ready md ops listed = []) (h : Q .normal a w) :
 ∀ fuel, wpAnyG P md ops Q S k fuel listed a w
 | 0 => ⟨hr, h⟩
 | _ + 1 => ⟨fun _ => h, by rw [hr]; simp⟩
theorem wp_region_G {id : Nat} {a : Act} {w : World} (S : World → Prop) (k : Nat) (hm : P.follows .mixedOrders = true)
 (h : wpAnyG P .any ops Q S k ops.size (Array.replicate ops.size false) a w.drew) : (Code.region id ops true).wp P Q a w :=
 wp_region_any hm (wpAny_of_G _ _ _ _ h)
end
end
end Go.Proofs.YtmpkgddioiaonaaGreatDoor.searchLeft
