/- FoldOnce, the plain law: folded once it is folded; small, great and title letters have no part in what is folded; turned twice. -/
import Derived.Test.YtnfghboholehdaaGreatDoorFE
import Derived.Lib.QuoteLoop
import Derived.Lib.MapLaws
namespace Go.Proofs.YtnfghboholehdaaGreatDoor.foldOnce
section
open Go.Shelf Go.RowKit Go.Lib Go.Proofs.YtnfghboholehdaaGreatDoor.Am
open Folds (dec dec_pos dec_le wrt wrt_step)
open Pieces (bt bt_lt bt_app)
/-! ### a rune's bytes -/
def encN (c : Nat) : List UInt8 :=
  if c < 0x80 then [UInt8.ofNat c]
  else if c < 0x800 then [UInt8.ofNat (0xC0 + c / 64), UInt8.ofNat (0x80 + c % 64)]
  else if c < 0x10000 then [UInt8.ofNat (0xE0 + c / 4096), UInt8.ofNat (0x80 + c / 64 % 64), UInt8.ofNat (0x80 + c % 64)]
  else [UInt8.ofNat (0xF0 + c / 262144), UInt8.ofNat (0x80 + c / 4096 % 64), UInt8.ofNat (0x80 + c / 64 % 64), UInt8.ofNat (0x80 + c % 64)]
theorem isR_iff (r : Int) : isR r = true ↔ (0 ≤ r ∧ r ≤ 1114111 ∧ (r < 55296 ∨ 57343 < r)) := by
  unfold isR
  simp only [Bool.and_eq_true, Bool.or_eq_true, decide_eq_true_iff]
theorem raw_N (r : Int) (h : isR r = true) : (Utf8.encode r).data.toList = encN r.toNat := by
  have hv : Utf8.valid r = true := by
    have := (isR_iff r).1 h
    unfold Utf8.valid
    simp only [Bool.and_eq_true, Bool.or_eq_true, decide_eq_true_iff]
    omega
  unfold Utf8.encode encN
  simp only [hv, if_true]
  repeat' split
  all_goals rfl
theorem encR_raw (r : Int) (h : isR r = true) : encR r = (Utf8.encode r).data.toList := by unfold encR; rw [if_pos h]
theorem encR_N (r : Int) (h : isR r = true) : encR r = encN r.toNat := by rw [encR_raw r h, raw_N r h]
theorem d2 (n c b2 b3 : Nat) (hn : 1 < n) (h1 : 128 ≤ c) (h2 : c < 2048) : decodeN n (192 + c / 64) (128 + c % 64) b2 b3 = (c, 2) := by
  unfold decodeN
  rw [if_neg (by omega), if_pos ⟨by omega, hn, by omega⟩, if_pos (by omega), show (192 + c / 64) % 32 * 64 + (128 + c % 64) % 64 = c by omega]
theorem d3 (n c b3 : Nat) (hn : 2 < n) (h1 : 2048 ≤ c) (h2 : c < 65536) (h3 : c < 55296 ∨ 57343 < c) : decodeN n (224 + c / 4096) (128 + c / 64 % 64) (128 + c % 64) b3 = (c, 3) := by
  unfold decodeN
  rw [if_neg (by omega), if_neg (by omega), if_pos ⟨by omega, ⟨by omega, by omega⟩, by omega, by omega⟩, show (224 + c / 4096) % 16 * 4096 + (128 + c / 64 % 64) % 64 * 64 + (128 + c % 64) % 64 = c by omega, if_pos (by omega)]
theorem d4 (n c : Nat) (hn : 3 < n) (h1 : 65536 ≤ c) (h2 : c ≤ 1114111) : decodeN n (240 + c / 262144) (128 + c / 4096 % 64) (128 + c / 64 % 64) (128 + c % 64) = (c, 4) := by
  unfold decodeN
  rw [if_neg (by omega), if_neg (by omega), if_neg (by omega), if_pos ⟨by omega, ⟨by omega, by omega⟩, ⟨by omega, by omega⟩, by omega, by omega⟩, show (240 + c / 262144) % 8 * 262144 + (128 + c / 4096 % 64) % 64 * 4096 + (128 + c / 64 % 64) % 64 * 64 + (128 + c % 64) % 64 = c by omega, if_pos (by omega)]
theorem ofNat_lt (n : Nat) (h : n < 256) : (UInt8.ofNat n).toNat = n := by rw [UInt8.toNat_ofNat', Nat.mod_eq_of_lt (by simpa using h)]
theorem dec_N (c : Nat) (h : c < 55296 ∨ (57343 < c ∧ c ≤ 1114111)) (t : List UInt8) : dec (encN c ++ t) = (c, (encN c).length) := by
  unfold encN
  split
  · show decodeN (t.length + 1) (UInt8.ofNat c).toNat _ _ _ = (c, 1)
    rw [ofNat_lt c (by omega)]
    exact decodeN_ascii _ _ _ _ _ (by omega)
  · split
    · show decodeN (t.length + 1 + 1) (UInt8.ofNat (192 + c / 64)).toNat (UInt8.ofNat (128 + c % 64)).toNat _ _ = (c, 2)
      rw [ofNat_lt _ (by omega), ofNat_lt _ (by omega)]
      exact d2 _ _ _ _ (by omega) (by omega) (by omega)
    · split
      · show decodeN (t.length + 1 + 1 + 1) (UInt8.ofNat (224 + c / 4096)).toNat (UInt8.ofNat (128 + c / 64 % 64)).toNat (UInt8.ofNat (128 + c % 64)).toNat _ = (c, 3)
        rw [ofNat_lt _ (by omega), ofNat_lt _ (by omega), ofNat_lt _ (by omega)]
        exact d3 _ _ _ (by omega) (by omega) (by omega) (by omega)
      · show decodeN (t.length + 1 + 1 + 1 + 1) (UInt8.ofNat (240 + c / 262144)).toNat (UInt8.ofNat (128 + c / 4096 % 64)).toNat (UInt8.ofNat (128 + c / 64 % 64)).toNat (UInt8.ofNat (128 + c % 64)).toNat = (c, 4)
        rw [ofNat_lt _ (by omega), ofNat_lt _ (by omega), ofNat_lt _ (by omega), ofNat_lt _ (by omega)]
        exact d4 _ _ (by omega) (by omega) (by omega)
theorem encN_head (c : Nat) (h : c ≤ 1114111) : encN c ≠ [] ∧ bt (encN c) 0 / 64 ≠ 2 := by
  unfold encN
  repeat' split
  · refine ⟨List.cons_ne_nil _ _, ?_⟩
    show (UInt8.ofNat c).toNat / 64 ≠ 2
    rw [ofNat_lt _ (by omega)]; omega
  · refine ⟨List.cons_ne_nil _ _, ?_⟩
    show (UInt8.ofNat (192 + c / 64)).toNat / 64 ≠ 2
    rw [ofNat_lt _ (by omega)]; omega
  · refine ⟨List.cons_ne_nil _ _, ?_⟩
    show (UInt8.ofNat (224 + c / 4096)).toNat / 64 ≠ 2
    rw [ofNat_lt _ (by omega)]; omega
  · refine ⟨List.cons_ne_nil _ _, ?_⟩
    show (UInt8.ofNat (240 + c / 262144)).toNat / 64 ≠ 2
    rw [ofNat_lt _ (by omega)]; omega
theorem encN_fffd : (encN 65533).length = 3 := rfl
/-! ### a fault stays one, whatever rune stands behind -/
def NC (q : List UInt8) : Prop := ¬ (0 < q.length ∧ bt q 0 / 64 = 2)
theorem sw1 {n m b0 b1 b2 b3 c1 c2 c3 : Nat} (h : ¬ (1 < n ∧ b1 / 64 = 2)) (k : ¬ (1 < m ∧ c1 / 64 = 2)) : decodeN n b0 b1 b2 b3 = decodeN m b0 c1 c2 c3 := by
  unfold decodeN
  simp only [h, k, false_and, and_false, if_false]
theorem sw2 {n m b0 b1 b2 b3 c2 c3 : Nat} (h1 : 1 < n) (k1 : 1 < m) (h : ¬ (2 < n ∧ b2 / 64 = 2)) (k : ¬ (2 < m ∧ c2 / 64 = 2)) : decodeN n b0 b1 b2 b3 = decodeN m b0 b1 c2 c3 := by
  unfold decodeN
  simp only [h1, k1, true_and, h, k, false_and, and_false, if_false]
theorem sw3 {n m b0 b1 b2 b3 c3 : Nat} (h1 : 2 < n) (k1 : 2 < m) (h : ¬ (3 < n ∧ b3 / 64 = 2)) (k : ¬ (3 < m ∧ c3 / 64 = 2)) : decodeN n b0 b1 b2 b3 = decodeN m b0 b1 b2 c3 := by
  have h2 : 1 < n := by omega
  have k2 : 1 < m := by omega
  unfold decodeN
  simp only [h1, k1, h2, k2, true_and, h, k, and_false, if_false]
theorem sw4 {n m b0 b1 b2 b3 : Nat} (h1 : 3 < n) (k1 : 3 < m) : decodeN n b0 b1 b2 b3 = decodeN m b0 b1 b2 b3 := by
  have h2 : 1 < n := by omega
  have k2 : 1 < m := by omega
  have h3 : 2 < n := by omega
  have k3 : 2 < m := by omega
  unfold decodeN
  simp only [h1, k1, h2, k2, h3, k3, true_and]
theorem dec_swap (b : UInt8) (p q q' : List UInt8) (hq : NC q) (hq' : NC q') : dec (b :: (p ++ q)) = dec (b :: (p ++ q')) := by
  match p with
  | [] =>
    show decodeN (q.length + 1) b.toNat (bt q 0) (bt q 1) (bt q 2) = decodeN (q'.length + 1) b.toNat (bt q' 0) (bt q' 1) (bt q' 2)
    exact sw1 (fun h => hq ⟨by omega, h.2⟩) (fun h => hq' ⟨by omega, h.2⟩)
  | [p1] =>
    show decodeN (q.length + 1 + 1) b.toNat p1.toNat (bt q 0) (bt q 1) = decodeN (q'.length + 1 + 1) b.toNat p1.toNat (bt q' 0) (bt q' 1)
    exact sw2 (by omega) (by omega) (fun h => hq ⟨by omega, h.2⟩) (fun h => hq' ⟨by omega, h.2⟩)
  | [p1, p2] =>
    show decodeN (q.length + 1 + 1 + 1) b.toNat p1.toNat p2.toNat (bt q 0) = decodeN (q'.length + 1 + 1 + 1) b.toNat p1.toNat p2.toNat (bt q' 0)
    exact sw3 (by omega) (by omega) (fun h => hq ⟨by omega, h.2⟩) (fun h => hq' ⟨by omega, h.2⟩)
  | p1 :: p2 :: p3 :: p' =>
    show decodeN ((p' ++ q).length + 1 + 1 + 1 + 1) b.toNat p1.toNat p2.toNat p3.toNat = decodeN ((p' ++ q').length + 1 + 1 + 1 + 1) b.toNat p1.toNat p2.toNat p3.toNat
    exact sw4 (by omega) (by omega)
/-! ### texts as runes and faults -/
abbrev It := Sum UInt8 Int
def itB : It → List UInt8
  | .inl b => [b]
  | .inr r => encR r
def flat (xs : List It) : List UInt8 := xs.flatMap itB
theorem flat_bad (b : UInt8) (xs : List It) : flat (.inl b :: xs) = b :: flat xs := rfl
theorem flat_good (r : Int) (xs : List It) : flat (.inr r :: xs) = encR r ++ flat xs := rfl
theorem flat_app (xs ys : List It) : flat (xs ++ ys) = flat xs ++ flat ys := by simp [flat]
theorem flat_runes (rs : List Int) : flat (rs.map Sum.inr) = encL rs := by
  unfold flat encL
  rw [List.flatMap_map]
  rfl
def St : List It → Prop
  | [] => True
  | .inl b :: xs => dec (b :: flat xs) = (65533, 1) ∧ St xs
  | .inr r :: xs => isR r = true ∧ St xs
theorem isR_N {r : Int} (h : isR r = true) : r.toNat < 55296 ∨ (57343 < r.toNat ∧ r.toNat ≤ 1114111) := by
  have := (isR_iff r).1 h
  omega
theorem dec_R {r : Int} (h : isR r = true) (t : List UInt8) : dec (encR r ++ t) = (r.toNat, (encR r).length) := by
  rw [encR_N r h]
  exact dec_N _ (isR_N h) t
theorem encR_ne {r : Int} (h : isR r = true) : encR r ≠ [] := by
  rw [encR_N r h]
  exact (encN_head _ (by have := isR_N h; omega)).1
theorem nc_R {r : Int} (h : isR r = true) (t : List UInt8) : NC (encR r ++ t) := by
  have := encN_head r.toNat (by have := isR_N h; omega)
  rw [← encR_N r h] at this
  rintro ⟨_, h2⟩
  rw [bt_app (List.length_pos_iff.2 this.1)] at h2
  exact this.2 h2
theorem good_R {r : Int} (h : isR r = true) (t : List UInt8) : ¬ ((dec (encR r ++ t)).1 = 65533 ∧ (dec (encR r ++ t)).2 = 1) := by
  rw [dec_R h]
  rintro ⟨h1, h2⟩
  dsimp only at h1 h2
  rw [encR_N r h, h1, encN_fffd] at h2
  cases h2
theorem dec_isR (l : List UInt8) : isR ((dec l).1 : Int) = true := by
  rw [isR_iff]
  have := decodeN_valid l.length (bt l 0) (bt l 1) (bt l 2) (bt l 3) (bt_lt l 0)
  unfold dec
  omega
theorem encodeZ_N (c : Nat) (h : c < 55296 ∨ (57343 < c ∧ c ≤ 1114111)) : encodeRune (c : Int) = encN c := by
  unfold encodeRune encN
  repeat' split
  · rw [encodeRuneZ_one (by omega) (by omega)]; rfl
  · rw [encodeRuneZ_two (by omega) (by omega)]; rfl
  · rw [encodeRuneZ_three (by omega)]; rfl
  · rw [encodeRuneZ_four (by omega) (by omega)]; rfl
theorem take_good (l : List UInt8) (hne : l ≠ []) (hv : ¬ ((dec l).1 = 65533 ∧ (dec l).2 = 1)) : l.take (dec l).2 = encR ((dec l).1 : Int) := by
  have h := encode_decode l hne (by rw [Folds.decL]; exact hv)
  rw [Folds.decL] at h
  rw [← h, encR_N _ (dec_isR l), encodeZ_N _ (by have := isR_N (dec_isR l); rwa [Int.toNat_natCast] at this), Int.toNat_natCast]
/-- every text is runes and faults -/
theorem items_of : ∀ (n : Nat) (l : List UInt8), l.length ≤ n → ∃ xs, flat xs = l ∧ St xs
  | 0, l, h => ⟨[], (List.eq_nil_of_length_eq_zero (by omega)).symm, trivial⟩
  | n + 1, l, h => by
    by_cases hne : l = []
    · exact ⟨[], hne.symm, trivial⟩
    · obtain ⟨xs, h1, h2⟩ := items_of n (l.drop (dec l).2) (by have := dec_pos l; rw [List.length_drop]; omega)
      by_cases hv : (dec l).1 = 65533 ∧ (dec l).2 = 1
      · obtain ⟨b, l', rfl⟩ := List.exists_cons_of_ne_nil hne
        rw [hv.2] at h1
        have h3 : flat xs = l' := h1
        refine ⟨.inl b :: xs, by rw [flat_bad, h3], ?_, h2⟩
        rw [h3]
        exact Prod.ext hv.1 hv.2
      · refine ⟨.inr ((dec l).1 : Int) :: xs, ?_, dec_isR l, h2⟩
        rw [flat_good, h1, ← take_good l hne hv, List.take_append_drop]
/-- what is written for runes and faults -/
def catI (enc : Nat → Nat → List UInt8) : Nat → List It → List UInt8
  | _, [] => []
  | i, .inl b :: xs => b :: catI enc (i + 1) xs
  | i, .inr r :: xs => enc i r.toNat ++ catI enc (i + 1) xs
theorem flat_nil {xs : List It} (hs : St xs) (h : flat xs = []) : xs = [] := by
  match xs with
  | [] => rfl
  | .inl b :: xs => rw [flat_bad] at h; cases h
  | .inr r :: xs => rw [flat_good] at h; exact absurd (List.append_eq_nil_iff.1 h).1 (encR_ne hs.1)
theorem catP_flat (enc : Nat → Nat → List UInt8) (t : List UInt8) : ∀ (n i e : Nat) (xs : List It), St xs → t.drop e = flat xs → xs.length ≤ n → catP (pcs enc t n i e) = catI enc i xs
  | 0, _, _, xs, _, _, h => by rw [List.eq_nil_of_length_eq_zero (Nat.le_zero.1 h)]; rfl
  | n + 1, i, e, xs, hs, hd, hn => by
    show catP (if e < t.length then _ else _) = _
    match xs, hs with
    | [], _ =>
      have : t.drop e = [] := hd
      rw [if_neg (by rw [List.drop_eq_nil_iff] at this; omega)]
      rfl
    | .inl b :: xs, hs =>
      rw [flat_bad] at hd
      have hlt : e < t.length := by rcases Nat.lt_or_ge e t.length with c | c; exact c; rw [List.drop_eq_nil_of_le c] at hd; cases hd
      rw [if_pos hlt]
      show Folds.one (enc i) (t.drop e) ++ catP (pcs enc t n (i + 1) (e + (dec (t.drop e)).2)) = b :: catI enc (i + 1) xs
      rw [catP_flat enc t n (i + 1) _ xs hs.2 (by rw [← List.drop_drop, hd, hs.1]; rfl) (by simp only [List.length_cons] at hn; omega), hd]
      unfold Folds.one
      rw [hs.1, if_pos ⟨rfl, rfl⟩]
      rfl
    | .inr r :: xs, hs =>
      rw [flat_good] at hd
      have hlt : e < t.length := by
        rcases Nat.lt_or_ge e t.length with c | c
        · exact c
        · rw [List.drop_eq_nil_of_le c] at hd; exact absurd (List.append_eq_nil_iff.1 hd.symm).1 (encR_ne hs.1)
      rw [if_pos hlt]
      show Folds.one (enc i) (t.drop e) ++ catP (pcs enc t n (i + 1) (e + (dec (t.drop e)).2)) = enc i r.toNat ++ catI enc (i + 1) xs
      rw [catP_flat enc t n (i + 1) _ xs hs.2 (by rw [← List.drop_drop, hd, dec_R hs.1, List.drop_left]) (by simp only [List.length_cons] at hn; omega), hd]
      unfold Folds.one
      rw [if_neg (good_R hs.1 _), dec_R hs.1]
theorem St_len : ∀ {xs : List It}, St xs → xs.length ≤ (flat xs).length
  | [], _ => Nat.le_refl _
  | .inl b :: xs, h => by rw [flat_bad]; have := St_len h.2; simp only [List.length_cons]; omega
  | .inr r :: xs, h => by
    rw [flat_good, List.length_append]
    have := St_len h.2
    have := List.length_pos_iff.2 (encR_ne h.1)
    simp only [List.length_cons]; omega
theorem wr_pcs (e1 : Nat → List UInt8) (t : List UInt8) : wrt e1 t = catP (pcs (fun _ => e1) t t.length 0 0) := by
  rw [catP_pcs (fun _ => e1) e1 (fun _ _ => rfl) t t.length 0 0, List.drop_zero]
  rfl
theorem wrt_flat (e1 : Nat → List UInt8) (xs : List It) (h : St xs) : wrt e1 (flat xs) = catI (fun _ => e1) 0 xs := by
  rw [wr_pcs]
  exact catP_flat _ _ _ 0 0 xs h (List.drop_zero) (St_len h)
/-! ### runes put in the place of runes -/
inductive Rep : List It → List It → Prop
  | nil : Rep [] []
  | bad (b : UInt8) {xs ys : List It} : Rep xs ys → Rep (.inl b :: xs) (.inl b :: ys)
  | good (r : Int) (rs : List Int) {xs ys : List It} : rs ≠ [] → (∀ x ∈ rs, isR x = true) → Rep xs ys → Rep (.inr r :: xs) (rs.map Sum.inr ++ ys)
def Sim (u v : List UInt8) : Prop := ∃ p q q', u = p ++ q ∧ v = p ++ q' ∧ NC q ∧ NC q'
theorem St_runes : ∀ (rs : List Int) {ys : List It}, (∀ x ∈ rs, isR x = true) → St ys → St (rs.map Sum.inr ++ ys)
  | [], _, _, h => h
  | r :: rs, _, hr, h => ⟨hr r List.mem_cons_self, St_runes rs (fun x hx => hr x (List.mem_cons_of_mem _ hx)) h⟩
theorem rep_St {xs ys : List It} (h : Rep xs ys) : St xs → St ys ∧ Sim (flat xs) (flat ys) := by
  induction h with
  | nil => exact fun _ => ⟨trivial, [], [], [], rfl, rfl, fun h => absurd h.1 (Nat.lt_irrefl 0), fun h => absurd h.1 (Nat.lt_irrefl 0)⟩
  | @bad b xs ys hr ih =>
    intro hs
    obtain ⟨h1, p, q, q', e1, e2, n1, n2⟩ := ih hs.2
    refine ⟨⟨?_, h1⟩, b :: p, q, q', by rw [flat_bad, e1]; rfl, by rw [flat_bad, e2]; rfl, n1, n2⟩
    have := hs.1
    rw [e1] at this
    rw [e2, ← this]
    exact dec_swap b p q' q n2 n1
  | @good r rs xs ys hne hrs hr ih =>
    intro hs
    obtain ⟨h1, _⟩ := ih hs.2
    refine ⟨St_runes rs hrs h1, [], _, _, rfl, rfl, ?_, ?_⟩
    · exact nc_R (r := r) hs.1 (flat xs)
    · obtain ⟨x, rs', rfl⟩ := List.exists_cons_of_ne_nil hne
      exact nc_R (r := x) (hrs x List.mem_cons_self) (flat (rs'.map Sum.inr ++ ys))
end
section
open Go.Shelf Go.RowKit Go.Lib Go.Proofs.YtnfghboholehdaaGreatDoor.Am
open Cases (smalls greats)
open Folds (dec dec_pos dec_le wrt wrt_step)
def okp (p : Int × Int) : Bool := decide (Cases.look smalls p.1 = some p.2) && decide (Cases.look greats p.1 = none) && decide (Cases.look greats p.2 = some p.1) && decide (Cases.look smalls p.2 = none) && (formsOf p.1).isNone && (formsOf p.2).isNone && isR p.1 && isR p.2
theorem okp0 : ((smalls.drop 0).take 60).all okp = true := by decide +kernel
theorem okp1 : ((smalls.drop 60).take 60).all okp = true := by decide +kernel
theorem okp2 : ((smalls.drop 120).take 60).all okp = true := by decide +kernel
theorem okp3 : ((smalls.drop 180).take 60).all okp = true := by decide +kernel
theorem okp4 : ((smalls.drop 240).take 60).all okp = true := by decide +kernel
theorem okp5 : ((smalls.drop 300).take 60).all okp = true := by decide +kernel
theorem okp6 : (smalls.drop 360).all okp = true := by decide +kernel
theorem okp_all {p : Int × Int} (h : p ∈ smalls) : okp p = true := by
  have step : ∀ c, ((smalls.drop c).take 60).all okp = true → (smalls.drop (c + 60)).all okp = true → (smalls.drop c).all okp = true := fun c h1 h2 => by
    rw [← List.take_append_drop 60 (smalls.drop c), List.all_append, h1, List.drop_drop, h2]
    rfl
  have h3 : (smalls.drop 0).all okp = true := step 0 okp0 (step 60 okp1 (step 120 okp2 (step 180 okp3 (step 240 okp4 (step 300 okp5 okp6)))))
  exact List.all_eq_true.1 h3 p h
structure Okp (r s : Int) : Prop where
  a : Cases.look smalls r = some s
  b : Cases.look greats r = none
  c : Cases.look greats s = some r
  d : Cases.look smalls s = none
  e : formsOf r = none
  f : formsOf s = none
  g : isR r = true
  h : isR s = true
theorem okp_of {r s : Int} (h : (r, s) ∈ smalls) : Okp r s := by
  have := okp_all h
  unfold okp at this
  simp only [Bool.and_eq_true, decide_eq_true_iff, Option.isNone_iff_eq_none] at this
  obtain ⟨⟨⟨⟨⟨⟨⟨a, b⟩, c⟩, d⟩, e⟩, f⟩, g⟩, h⟩ := this
  exact ⟨a, b, c, d, e, f, g, h⟩
theorem look_mem {l : List (Int × Int)} {r s : Int} (h : Cases.look l r = some s) : (r, s) ∈ l := by
  unfold Cases.look at h
  obtain ⟨p, hp, rfl⟩ := Option.map_eq_some_iff.1 h
  have h1 := List.mem_of_find?_eq_some hp
  have h2 := of_decide_eq_true (List.find?_some (p := fun x : Int × Int => decide (x.1 = r)) hp)
  rw [← h2]
  exact h1
theorem small_okp {r s : Int} (h : Cases.look smalls r = some s) : Okp r s := okp_of (look_mem h)
theorem great_okp {r s : Int} (h : Cases.look greats s = some r) : Okp r s := by
  have := look_mem h
  unfold greats at this
  obtain ⟨p, hp, he⟩ := List.mem_map.1 this
  obtain ⟨a, b⟩ := p
  injection he with e1 e2
  dsimp only at e1 e2
  subst e1 e2
  exact okp_of hp
theorem formV_none {r : Int} (h : formsOf r = none) (k : Nat) : formV r k = if k = 0 ∨ k = 3 then [(Cases.pair r).1] else [(Cases.pair r).2] := by
  unfold formV
  rw [h]
theorem Okp.big {r s : Int} (h : Okp r s) (k : Nat) : formV r k = if k = 0 ∨ k = 3 then [s] else [r] := by
  rw [formV_none h.e]
  unfold Cases.pair
  rw [h.a]
theorem Okp.low {r s : Int} (h : Okp r s) (k : Nat) : formV s k = if k = 0 ∨ k = 3 then [s] else [r] := by
  rw [formV_none h.f]
  unfold Cases.pair
  rw [h.d, h.c]
def okForm (r : Int) : Bool := [0, 1, 2, 3].all fun k => (!(formV r k).isEmpty) && ((formV r k).all isR && ((decide (k < 3) && (decide (r = 304) || decide (r = 305))) || decide ((formV r k).flatMap (fun x => formV x 3) = formV r 3)))
theorem okForm_all : Cases.specials.all okForm = true := by decide +kernel
theorem form_facts (r : Int) (hr : isR r = true) (k : Nat) (hk : k < 4) : formV r k ≠ [] ∧ (∀ x ∈ formV r k, isR x = true) ∧ (k = 3 ∨ (r ≠ 304 ∧ r ≠ 305) → (formV r k).flatMap (fun x => formV x 3) = formV r 3) := by
  cases hf : formsOf r with
  | some fs =>
    have hm : r ∈ Cases.specials := by
      rw [← List.contains_iff_mem, ← formsOf_iff, hf]; rfl
    have := List.all_eq_true.1 (List.all_eq_true.1 okForm_all r hm) k (by
      rcases (by omega : k = 0 ∨ k = 1 ∨ k = 2 ∨ k = 3) with rfl | rfl | rfl | rfl <;> decide)
    simp only [Bool.and_eq_true, Bool.or_eq_true, decide_eq_true_iff, Bool.not_eq_true', List.isEmpty_eq_false_iff, List.all_eq_true] at this
    refine ⟨this.1, this.2.1, fun h => ?_⟩
    rcases this.2.2 with ⟨h1, h2⟩ | h1
    · rcases h with h | h
      · omega
      · rcases h2 with h2 | h2
        · exact absurd h2 h.1
        · exact absurd h2 h.2
    · exact h1
  | none =>
    cases hs : Cases.look smalls r with
    | some s =>
      have ho := small_okp hs
      have hl := ho.low 3
      have hb := ho.big 3
      rw [if_pos (.inr rfl)] at hl hb
      rw [hb, ho.big k]
      split
      · exact ⟨List.cons_ne_nil _ _, fun x hx => by rw [List.mem_singleton.1 hx]; exact ho.h, fun _ => by rw [List.flatMap_singleton, hl]⟩
      · exact ⟨List.cons_ne_nil _ _, fun x hx => by rw [List.mem_singleton.1 hx]; exact ho.g, fun _ => by rw [List.flatMap_singleton, hb]⟩
    | none =>
      cases hg : Cases.look greats r with
      | some g =>
        have ho := great_okp hg
        have hl := ho.low 3
        have hb := ho.big 3
        rw [if_pos (.inr rfl)] at hl hb
        rw [hl, ho.low k]
        split
        · exact ⟨List.cons_ne_nil _ _, fun x hx => by rw [List.mem_singleton.1 hx]; exact ho.h, fun _ => by rw [List.flatMap_singleton, hl]⟩
        · exact ⟨List.cons_ne_nil _ _, fun x hx => by rw [List.mem_singleton.1 hx]; exact ho.g, fun _ => by rw [List.flatMap_singleton, hb]⟩
      | none =>
        have hp : Cases.pair r = (r, r) := by unfold Cases.pair; rw [hs, hg]
        have h1 : ∀ k, formV r k = [r] := fun k => by rw [formV_none hf, hp]; split <;> rfl
        rw [h1 k, h1 3]
        exact ⟨List.cons_ne_nil _ _, fun x hx => by rw [List.mem_singleton.1 hx]; exact hr, fun _ => by rw [List.flatMap_singleton, h1]⟩
/-! ### folded -/
def foldI : It → List It
  | .inl b => [.inl b]
  | .inr r => (formV r 3).map Sum.inr
theorem fold_runes (rs : List Int) : (rs.map Sum.inr : List It).flatMap foldI = (rs.flatMap fun x => formV x 3).map Sum.inr := by
  induction rs with
  | nil => rfl
  | cons r rs ih =>
    rw [List.map_cons, List.flatMap_cons, ih, List.flatMap_cons, List.map_append]
    rfl
/-- what enc is to write for a rune -/
def Says (enc : Nat → Nat → List UInt8) (r : Int) : Prop := ∀ i, ∃ rs : List Int, rs ≠ [] ∧ (∀ x ∈ rs, isR x = true) ∧ enc i r.toNat = encL rs ∧ rs.flatMap (fun x => formV x 3) = formV r 3
theorem says_rep (enc : Nat → Nat → List UInt8) : ∀ (xs : List It) (i : Nat), (∀ r, Sum.inr r ∈ xs → Says enc r) → ∃ ys, flat ys = catI enc i xs ∧ Rep xs ys ∧ ys.flatMap foldI = xs.flatMap foldI
  | [], _, _ => ⟨[], rfl, .nil, rfl⟩
  | .inl b :: xs, i, h => by
    obtain ⟨ys, h1, h2, h3⟩ := says_rep enc xs (i + 1) (fun r hr => h r (List.mem_cons_of_mem _ hr))
    refine ⟨.inl b :: ys, by rw [flat_bad, h1]; rfl, .bad b h2, ?_⟩
    rw [List.flatMap_cons, List.flatMap_cons, h3]
  | .inr r :: xs, i, h => by
    obtain ⟨ys, h1, h2, h3⟩ := says_rep enc xs (i + 1) (fun r hr => h r (List.mem_cons_of_mem _ hr))
    obtain ⟨rs, a, b, c, d⟩ := h r List.mem_cons_self i
    refine ⟨rs.map Sum.inr ++ ys, ?_, .good r rs a b h2, ?_⟩
    · rw [flat_app, flat_runes, h1]
      show _ = enc i r.toNat ++ catI enc (i + 1) xs
      rw [c]
    · rw [List.flatMap_append, fold_runes, d, List.flatMap_cons, h3]
      rfl
def encF (r : Nat) : List UInt8 := encL (formV r 3)
theorem catI_fold : ∀ (xs : List It) (i : Nat), St xs → catI (fun _ => encF) i xs = flat (xs.flatMap foldI)
  | [], _, _ => rfl
  | .inl b :: xs, i, h => by
    show b :: catI _ (i + 1) xs = _
    rw [catI_fold xs (i + 1) h.2]
    rfl
  | .inr r :: xs, i, h => by
    show encF r.toNat ++ catI _ (i + 1) xs = _
    rw [catI_fold xs (i + 1) h.2, List.flatMap_cons, flat_app]
    show _ = flat ((formV r 3).map Sum.inr) ++ _
    rw [flat_runes]
    unfold encF
    rw [Int.toNat_of_nonneg ((isR_iff r).1 h.1).1]
theorem wr_flat (xs : List It) (h : St xs) : wr 3 (flat xs) = flat (xs.flatMap foldI) := by
  rw [← catI_fold xs 0 h]
  exact wrt_flat encF xs h
theorem St_mem : ∀ {xs : List It} {r : Int}, St xs → Sum.inr r ∈ xs → isR r = true
  | [], _, _, h => by cases h
  | .inl b :: xs, r, hs, h => by
    rcases List.mem_cons.1 h with h | h
    · cases h
    · exact St_mem hs.2 h
  | .inr x :: xs, r, hs, h => by
    rcases List.mem_cons.1 h with h | h
    · cases h; exact hs.1
    · exact St_mem hs.2 h
theorem says_fold (enc : Nat → Nat → List UInt8) (xs : List It) (hs : St xs) (h : ∀ r, Sum.inr r ∈ xs → Says enc r) : wr 3 (catI enc 0 xs) = wr 3 (flat xs) := by
  obtain ⟨ys, h1, h2, h3⟩ := says_rep enc xs 0 h
  rw [← h1, wr_flat _ (rep_St h2 hs).1, wr_flat _ hs, h3]
theorem items (t : List UInt8) : ∃ xs, flat xs = t ∧ St xs := items_of t.length t (Nat.le_refl _)
/-- once is enough -/
theorem fold_twice (t : List UInt8) : wr 3 (wr 3 t) = wr 3 t := by
  obtain ⟨xs, rfl, hs⟩ := items t
  have h := says_fold (fun _ => encF) xs hs fun r hr i => by
    have hR := St_mem hs hr
    obtain ⟨a, b, c⟩ := form_facts r hR 3 (by decide)
    refine ⟨formV r 3, a, b, ?_, c (.inl rfl)⟩
    show encL (formV (r.toNat : Nat) 3) = _
    rw [Int.toNat_of_nonneg ((isR_iff r).1 hR).1]
  rw [← wrt_flat encF xs hs] at h
  exact h
theorem marks_flat (t : List UInt8) : ∀ (n e : Nat) (xs : List It), St xs → t.drop e = flat xs → xs.length ≤ n → ∀ r, Sum.inr r ∈ xs → r ∈ (marksFrom t n e).map fun x => (x.2 : Int)
  | 0, _, xs, _, _, h, r, hr => by rw [List.eq_nil_of_length_eq_zero (Nat.le_zero.1 h)] at hr; cases hr
  | n + 1, e, xs, hs, hd, hn, r, hr => by
    unfold marksFrom
    match xs, hs with
    | [], _ => cases hr
    | .inl b :: xs, hs =>
      rw [flat_bad] at hd
      have hlt : e < t.length := by rcases Nat.lt_or_ge e t.length with c | c; exact c; rw [List.drop_eq_nil_of_le c] at hd; cases hd
      rw [if_pos hlt, List.map_cons]
      rcases List.mem_cons.1 hr with hr | hr
      · cases hr
      · exact List.mem_cons_of_mem _ (marks_flat t n _ xs hs.2 (by rw [← List.drop_drop, hd, hs.1]; rfl) (by simp only [List.length_cons] at hn; omega) r hr)
    | .inr x :: xs, hs =>
      rw [flat_good] at hd
      have hlt : e < t.length := by
        rcases Nat.lt_or_ge e t.length with c | c
        · exact c
        · rw [List.drop_eq_nil_of_le c] at hd; exact absurd (List.append_eq_nil_iff.1 hd.symm).1 (encR_ne hs.1)
      rw [if_pos hlt, List.map_cons]
      rcases List.mem_cons.1 hr with hr | hr
      · cases hr
        rw [hd, dec_R hs.1]
        dsimp only
        rw [Int.toNat_of_nonneg ((isR_iff _).1 hs.1).1]
        exact List.mem_cons_self
      · exact List.mem_cons_of_mem _ (marks_flat t n _ xs hs.2 (by rw [← List.drop_drop, hd, dec_R hs.1, List.drop_left]) (by simp only [List.length_cons] at hn; omega) r hr)
/-- case has no part -/
theorem fold_of (enc : Nat → Nat → List UInt8) (t : List UInt8) (hr : ∀ r ∈ runesOf t, r ≠ 304 ∧ r ≠ 305) (h : ∀ r, isR r = true → r ≠ 304 → r ≠ 305 → Says enc r) : wr 3 (catP (pcs enc t t.length 0 0)) = wr 3 t := by
  obtain ⟨xs, hx, hs⟩ := items t
  rw [catP_flat enc t t.length 0 0 xs hs (by rw [List.drop_zero, hx]) (by rw [← hx]; exact St_len hs)]
  rw [says_fold enc xs hs, hx]
  intro r hm
  have := hr r (marks_flat t t.length 0 xs hs (by rw [List.drop_zero, hx]) (by rw [← hx]; exact St_len hs) r hm)
  exact h r (St_mem hs hm) this.1 this.2
theorem says_form (k : Nat) (hk : k < 4) (r : Int) (hr : isR r = true) (h1 : r ≠ 304) (h2 : r ≠ 305) : ∃ rs : List Int, rs ≠ [] ∧ (∀ x ∈ rs, isR x = true) ∧ encL (formV (r.toNat : Nat) k) = encL rs ∧ rs.flatMap (fun x => formV x 3) = formV r 3 := by
  obtain ⟨a, b, c⟩ := form_facts r hr k hk
  exact ⟨formV r k, a, b, by rw [Int.toNat_of_nonneg ((isR_iff r).1 hr).1], c (.inr ⟨h1, h2⟩)⟩
theorem sigma_fold : formV 962 3 = formV 931 3 := by decide +kernel
theorem says_W (k : Nat) (hk : k < 4) (fin : Nat → Bool) (r : Int) (hr : isR r = true) (h1 : r ≠ 304) (h2 : r ≠ 305) (i : Nat) : ∃ rs : List Int, rs ≠ [] ∧ (∀ x ∈ rs, isR x = true) ∧ encW k fin i r.toNat = encL rs ∧ rs.flatMap (fun x => formV x 3) = formV r 3 := by
  unfold encW
  split
  · rename_i h
    have : r = 931 := by have := (isR_iff r).1 hr; have := h.1.2; omega
    subst this
    exact ⟨[962], List.cons_ne_nil _ _, fun x hx => by rw [List.mem_singleton.1 hx]; decide, by decide, by rw [List.flatMap_singleton, sigma_fold]⟩
  · exact says_form k hk r hr h1 h2
/-- letters' words with great ones first, at the places that ch names -/
def encT (ch fin : Nat → Bool) (i r : Nat) : List UInt8 := if ch i = true then encL (formV r 2) else encW 0 fin i r
theorem says_T (ch fin : Nat → Bool) (r : Int) (hr : isR r = true) (h1 : r ≠ 304) (h2 : r ≠ 305) : Says (encT ch fin) r := by
  intro i
  unfold encT
  split
  · exact says_form 2 (by decide) r hr h1 h2
  · exact says_W 0 (by decide) fin r hr h1 h2 i
theorem fold_great (t : List UInt8) (hr : ∀ r ∈ runesOf t, r ≠ 304 ∧ r ≠ 305) : wr 3 (wr 1 t) = wr 3 t := by
  rw [← catP_wr 1 (by decide) (fun _ => false) t]
  exact fold_of _ t hr fun r a b c i => says_W 1 (by decide) _ r a b c i
theorem fold_small (t : List UInt8) (hr : ∀ r ∈ runesOf t, r ≠ 304 ∧ r ≠ 305) : wr 3 (smallT t) = wr 3 t := fold_of _ t hr fun r a b c i => says_W 0 (by decide) _ r a b c i
theorem fold_title (ch : Nat → Bool) (t : List UInt8) (hr : ∀ r ∈ runesOf t, r ≠ 304 ∧ r ≠ 305) : wr 3 (catP (pcs (encT ch (finalF (runesOf t))) t t.length 0 0)) = wr 3 t := fold_of _ t hr fun r a b c => says_T ch _ r a b c
/-! ### turned -/
def turn (r : Int) : Int := match Cases.look greats r with
  | some g => g
  | none => match Cases.look smalls r with
    | some s => s
    | none => r
theorem turn_twice (r : Int) : turn (turn r) = r := by
  unfold turn
  cases hg : Cases.look greats r with
  | some g =>
    have ho := great_okp hg
    dsimp only
    rw [ho.b, ho.a]
  | none =>
    cases hs : Cases.look smalls r with
    | some s =>
      have ho := small_okp hs
      dsimp only
      rw [ho.c]
    | none =>
      dsimp only
      rw [hg, hs]
theorem turn_isR {r : Int} (h : isR r = true) : isR (turn r) = true := by
  unfold turn
  cases hg : Cases.look greats r with
  | some g => exact (great_okp hg).g
  | none =>
    cases hs : Cases.look smalls r with
    | some s => exact (small_okp hs).h
    | none => exact h
def encTurn (r : Nat) : List UInt8 := (Utf8.encode (turn r)).data.toList
def turnT (t : List UInt8) : List UInt8 := catP (pcs (fun _ => encTurn) t t.length 0 0)
def turnI : It → It
  | .inl b => .inl b
  | .inr r => .inr (turn r)
theorem turn_rep : ∀ xs : List It, St xs → Rep xs (xs.map turnI)
  | [], _ => .nil
  | .inl b :: xs, h => .bad b (turn_rep xs h.2)
  | .inr r :: xs, h => .good r [turn r] (List.cons_ne_nil _ _) (fun x hx => by rw [List.mem_singleton.1 hx]; exact turn_isR h.1) (turn_rep xs h.2)
theorem catI_turn : ∀ (xs : List It) (i : Nat), St xs → catI (fun _ => encTurn) i xs = flat (xs.map turnI)
  | [], _, _ => rfl
  | .inl b :: xs, i, h => by
    show b :: catI _ (i + 1) xs = _
    rw [catI_turn xs (i + 1) h.2]
    rfl
  | .inr r :: xs, i, h => by
    show encTurn r.toNat ++ catI _ (i + 1) xs = _
    rw [catI_turn xs (i + 1) h.2]
    show _ = encR (turn r) ++ flat (xs.map turnI)
    unfold encTurn
    rw [Int.toNat_of_nonneg ((isR_iff r).1 h.1).1, encR_raw _ (turn_isR h.1)]
theorem turn_flat (xs : List It) (h : St xs) : turnT (flat xs) = flat (xs.map turnI) := by
  unfold turnT
  rw [catP_flat _ _ _ 0 0 xs h List.drop_zero (St_len h), catI_turn xs 0 h]
/-- turned twice -/
theorem turned_twice (t : List UInt8) : turnT (turnT t) = t := by
  obtain ⟨xs, rfl, hs⟩ := items t
  rw [turn_flat xs hs, turn_flat _ (rep_St (turn_rep xs hs) hs).1, List.map_map]
  have : (turnI ∘ turnI) = id := by
    funext x
    cases x with
    | inl b => rfl
    | inr r => show Sum.inr (turn (turn r)) = _; rw [turn_twice]; rfl
  rw [this, List.map_id]
theorem turnT_len (t : List UInt8) : (turnT t).length ≤ 12 * t.length := by
  refine (pcs_len (fun _ => encTurn) (fun _ r => ?_) t t.length 0 0).1
  show (Utf8.encode (turn r)).data.toList.length ≤ 12
  unfold Utf8.encode
  dsimp only
  repeat' split
  all_goals simp
end
end Go.Proofs.YtnfghboholehdaaGreatDoor.foldOnce
