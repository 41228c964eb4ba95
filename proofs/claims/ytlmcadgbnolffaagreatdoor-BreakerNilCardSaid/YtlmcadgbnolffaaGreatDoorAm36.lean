/- The machine's soundness, for drawn regions: who waits for whom; what stands in a slot, and in a block, after some of the operations. -/
import Derived.Test.YtlmcadgbnolffaaGreatDoorAm35
namespace Go.Proofs.YtlmcadgbnolffaaGreatDoor.Am
/-! ### lists -/
theorem nthN_get : ∀ (l : List Nat) (i : Nat), nthN l i = l.getD i 0
  | [], i => by cases i <;> rfl
  | x :: l, 0 => rfl
  | x :: l, i + 1 => nthN_get l i
theorem nthN_app (a b : List Nat) (i : Nat) (h : i < a.length) : nthN (a ++ b) i = nthN a i := by
  rw [nthN_get, nthN_get, List.getD_eq_getElem?_getD, List.getElem?_append_left h, List.getD_eq_getElem?_getD]
theorem orMask_cons (ms : List Nat) (e : Nat) (es : List Nat) : orMask ms (e :: es) = ((2 ^ e ||| nthN ms e) ||| orMask ms es) := rfl
theorem orMask_congr {ms ms' : List Nat} : ∀ {es : List Nat}, (∀ e ∈ es, nthN ms e = nthN ms' e) → orMask ms es = orMask ms' es
  | [], _ => rfl
  | e :: es, h => by rw [orMask_cons, orMask_cons, h e (by simp), orMask_congr (fun x hx => h x (by simp [hx]))]
theorem orMask_bit {ms : List Nat} {k : Nat} : ∀ {es : List Nat}, (orMask ms es).testBit k = true → ∃ e ∈ es, k = e ∨ (nthN ms e).testBit k = true
  | [], h => by
    have : (0 : Nat).testBit k = true := h
    simp at this
  | e :: es, h => by
    rw [orMask_cons, Nat.testBit_or, Nat.testBit_or, Bool.or_eq_true, Bool.or_eq_true] at h
    rcases h with (h | h) | h
    · refine ⟨e, by simp, .inl ?_⟩
      rw [Nat.testBit_two_pow] at h
      exact (of_decide_eq_true h).symm
    · exact ⟨e, by simp, .inr h⟩
    · obtain ⟨e', he, r⟩ := orMask_bit h
      exact ⟨e', by simp [he], r⟩
theorem masks_cons (ms : List Nat) (o : DO) (l : List DO) : masks ms (o :: l) = masks (ms ++ [orMask ms o.es]) l := by
  show sN (orMask ms o.es) (fun m => masks (List.append ms [m]) l) = _
  rw [sN_eq]; rfl
theorem masks_pre : ∀ (l : List DO) (ms : List Nat) (i : Nat), i < ms.length → nthN (masks ms l) i = nthN ms i
  | [], _, _, _ => rfl
  | o :: l, ms, i, h => by
    rw [masks_cons, masks_pre l _ i (by simp; omega), nthN_app _ _ _ h]
theorem masks_at : ∀ (l : List DO) (ms : List Nat) (j : Nat) (o : DO), l[j]? = some o → (∀ e ∈ o.es, e < ms.length + j) → nthN (masks ms l) (ms.length + j) = orMask (masks ms l) o.es
  | [], _, _, _, h, _ => by simp at h
  | x :: l, ms, 0, o, h, he => by
    obtain rfl : x = o := by simpa using h
    rw [masks_cons, masks_pre l _ _ (by simp)]
    rw [nthN_get, List.getD_eq_getElem?_getD, Nat.add_zero, List.getElem?_append_right (Nat.le_refl _)]
    simp only [Nat.sub_self, List.getElem?_cons_zero, Option.getD_some]
    refine orMask_congr fun e hm => ?_
    have := he e hm
    rw [masks_pre l _ _ (by simp; omega), nthN_app _ _ _ (by omega)]
  | x :: l, ms, j + 1, o, h, he => by
    rw [masks_cons]
    have := masks_at l (ms ++ [orMask ms x.es]) j o (by simpa using h) (fun e hm => by have := he e hm; simp; omega)
    rw [List.length_append, List.length_singleton] at this
    rw [show ms.length + (j + 1) = ms.length + 1 + j by omega]
    exact this
theorem allLt_ok {i : Nat} : ∀ {es : List Nat}, allLt i es = true → ∀ e ∈ es, e < i
  | [], _, e, h => by cases h
  | x :: es, h, e, hm => by
    have e1 : allLt i (x :: es) = Bool.rec false (allLt i es) (Nat.ble (Nat.succ x) i) := rfl
    rw [e1] at h
    cases hb : Nat.ble (Nat.succ x) i
    · rw [hb] at h; cases h
    · rw [hb] at h
      rw [Nat.ble_eq] at hb
      rcases List.mem_cons.1 hm with rfl | hm
      · exact hb
      · exact allLt_ok h e hm
theorem apartAll_ok {o : DO} {pm : Nat} : ∀ {l : List DO} {i : Nat}, apartAll o pm l i = true → ∀ k x, l[k]? = some x → pm.testBit (i + k) = true ∨ apartD x o = true
  | [], _, _, k, x, h => by simp at h
  | y :: l, i, h, k, x, hk => by
    have e1 : apartAll o pm (y :: l) i = Bool.rec false (apartAll o pm l (i + 1)) (Bool.rec (apartD y o) true (Nat.testBit pm i)) := rfl
    rw [e1] at h
    have h2 : (Bool.rec (apartD y o) true (Nat.testBit pm i) : Bool) = true ∧ apartAll o pm l (i + 1) = true := by
      cases hb : (Bool.rec (apartD y o) true (Nat.testBit pm i) : Bool)
      · rw [hb] at h; cases h
      · rw [hb] at h; exact ⟨rfl, h⟩
    cases k with
    | zero =>
      obtain rfl : y = x := by simpa using hk
      rw [Nat.add_zero]
      cases ht : Nat.testBit pm i
      · rw [ht] at h2; exact .inr h2.1
      · exact .inl rfl
    | succ k =>
      have := apartAll_ok h2.2 k x (by simpa using hk)
      rwa [show i + 1 + k = i + (k + 1) by omega] at this
theorem okD_ok {ms : List Nat} : ∀ {l : List DO} {i : Nat} {ahead : List DO}, okD ms l i ahead = true → ∀ j o, l[j]? = some o →
    o.ok = true ∧ allLt (i + j) o.es = true ∧ apartAll o (nthN ms (i + j)) (ahead ++ l.take j) 0 = true
  | [], _, _, _, j, o, h => by simp at h
  | x :: l, i, ahead, h, j, o, hj => by
    have e1 : okD ms (x :: l) i ahead = and2 x.ok (and2 (apartAll x (nthN ms i) ahead 0) (and2 (allLt i x.es) (okD ms l (i + 1) (ahead ++ [x])))) := rfl
    rw [e1] at h
    obtain ⟨h1, h⟩ := and2_ok h
    obtain ⟨h2, h⟩ := and2_ok h
    obtain ⟨h3, h4⟩ := and2_ok h
    cases j with
    | zero =>
      obtain rfl : x = o := by simpa using hj
      rw [Nat.add_zero, List.take_zero, List.append_nil]
      exact ⟨h1, h3, h2⟩
    | succ j =>
      have := okD_ok h4 j o (by simpa using hj)
      rw [show i + 1 + j = i + (j + 1) by omega, List.append_assoc] at this
      exact this
/-- apart: neither looks at what the other says -/
theorem apartD_ok {a b : DO} (h : apartD a b = true) : (a.dn = 0 ∨ (a.dn ∉ b.rs ∧ a.dn ≠ b.dn)) ∧ (b.dn = 0 ∨ b.dn ∉ a.rs) := by
  unfold apartD at h
  obtain ⟨h1, h2⟩ := and2_ok h
  constructor
  · cases hz : Nat.beq a.dn (nat_lit 0)
    · rw [hz] at h1
      obtain ⟨h3, h4⟩ := and2_ok h1
      right
      constructor
      · intro c
        rw [memN_ok.2 c] at h3; cases h3
      · intro c
        rw [c, Nat.beq_refl] at h4; cases h4
    · exact .inl (Nat.eq_of_beq_eq_true hz)
  · cases hz : Nat.beq b.dn (nat_lit 0)
    · rw [hz] at h2
      right
      intro c
      rw [memN_ok.2 c] at h2; cases h2
    · exact .inl (Nat.eq_of_beq_eq_true hz)

/-! ### slots -/
section
variable (e0 : Nat → AV) (dn : Nat → Nat) (V : Nat → AV) (S S' : Nat → Bool)
/-- what stands in a slot, when those of S below i are done -/
def curE : Nat → Nat → AV
  | 0, t => e0 t
  | i + 1, t => if S i = true ∧ dn i = t + 1 then V i else curE i t
variable {e0 dn V S S'}
theorem curE_agree {i t : Nat} (h : ∀ k, k < i → dn k = t + 1 → S k = S' k) : curE e0 dn V S i t = curE e0 dn V S' i t := by
  induction i with
  | zero => rfl
  | succ i ih =>
    simp only [curE]
    by_cases c : dn i = t + 1
    · rw [h i (by omega) c, ih (fun k hk => h k (by omega))]
    · rw [if_neg (fun x => c x.2), if_neg (fun x => c x.2), ih (fun k hk => h k (by omega))]
theorem curE_later {i N t : Nat} (hN : i ≤ N) (h : ∀ j, i ≤ j → j < N → S j = true → dn j ≠ t + 1) : curE e0 dn V S N t = curE e0 dn V S i t := by
  induction N with
  | zero => have : i = 0 := by omega
            subst this; rfl
  | succ N ih =>
    by_cases c : i = N + 1
    · subst c; rfl
    · simp only [curE]
      rw [if_neg (fun x => h N (by omega) (by omega) x.1 x.2)]
      exact ih (by omega) (fun j h1 h2 => h j h1 (by omega))
end

/-! ### blocks -/
section
variable (Hh : Nat → H) (Tc : Nat → Nat → Prop) (S S' : Nat → Bool)
open Classical in
/-- what stands in a block, when those of S below i are done -/
noncomputable def curH : Nat → Nat → Option Blk
  | 0, b => if b < (Hh 0).next then (Hh 0).get b else none
  | i + 1, b => if S i = true ∧ Tc i b then (Hh (i + 1)).get b else curH i b
variable {Hh Tc S S'}
theorem curH_agree {i b : Nat} (h : ∀ k, k < i → Tc k b → S k = S' k) : curH Hh Tc S i b = curH Hh Tc S' i b := by
  induction i with
  | zero => rfl
  | succ i ih =>
    simp only [curH]
    by_cases c : Tc i b
    · rw [h i (by omega) c, ih (fun k hk => h k (by omega))]
    · rw [if_neg (fun x => c x.2), if_neg (fun x => c x.2), ih (fun k hk => h k (by omega))]
theorem curH_later {i N b : Nat} (hN : i ≤ N) (h : ∀ j, i ≤ j → j < N → S j = true → ¬ Tc j b) : curH Hh Tc S N b = curH Hh Tc S i b := by
  induction N with
  | zero => have : i = 0 := by omega
            subst this; rfl
  | succ N ih =>
    by_cases c : i = N + 1
    · subst c; rfl
    · simp only [curH]
      rw [if_neg (fun x => h N (by omega) (by omega) x.1 x.2)]
      exact ih (by omega) (fun j h1 h2 => h j h1 (by omega))
end

/-! ### how many are not done -/
def cnt (S : Nat → Bool) : Nat → Nat
  | 0 => 0
  | i + 1 => cnt S i + (if S i = true then 0 else 1)
def ins (S : Nat → Bool) (i : Nat) : Nat → Bool := fun j => if j = i then true else S j
theorem ins_same (S : Nat → Bool) (i : Nat) : ins S i i = true := by simp [ins]
theorem ins_ne (S : Nat → Bool) {i j : Nat} (h : j ≠ i) : ins S i j = S j := by simp [ins, h]
theorem cnt_ge {S : Nat → Bool} {i : Nat} : ∀ {N}, N ≤ i → cnt (ins S i) N = cnt S N
  | 0, _ => rfl
  | N + 1, h => by
    simp only [cnt]
    rw [cnt_ge (by omega), ins_ne S (by omega)]
theorem cnt_ins {S : Nat → Bool} {i : Nat} (hi : S i = false) : ∀ {N}, i < N → cnt (ins S i) N + 1 = cnt S N
  | 0, h => by omega
  | N + 1, h => by
    simp only [cnt]
    by_cases c : i = N
    · subst c
      rw [cnt_ge (Nat.le_refl _), ins_same, hi]
      simp
    · rw [ins_ne S (by omega)]
      have := cnt_ins hi (N := N) (by omega)
      omega
theorem cnt_zero {S : Nat → Bool} : ∀ {N}, cnt S N = 0 → ∀ j, j < N → S j = true
  | 0, _, j, h => by omega
  | N + 1, h, j, hj => by
    simp only [cnt] at h
    by_cases c : j = N
    · subst c
      by_cases hs : S j = true
      · exact hs
      · rw [if_neg hs] at h; omega
    · exact cnt_zero (N := N) (by omega) j (by omega)
theorem cnt_pos {S : Nat → Bool} : ∀ {N}, cnt S N ≠ 0 → ∃ j, j < N ∧ S j = false ∧ ∀ k, k < j → S k = true
  | 0, h => absurd rfl h
  | N + 1, h => by
    by_cases c : cnt S N = 0
    · have hall := cnt_zero c
      simp only [cnt, c] at h
      refine ⟨N, by omega, ?_, hall⟩
      cases hs : S N
      · rfl
      · rw [hs] at h; simp at h
    · obtain ⟨j, h1, h2, h3⟩ := cnt_pos (N := N) c
      exact ⟨j, by omega, h2, h3⟩

/-! ### an environment, cut down to some slots -/
noncomputable def maskE (en : Env) : List Nat → Env
  | [] => env0
  | t :: l => (pT t).f ((gT t).f en) (maskE en l)
theorem maskE_get {en : Env} {t : Nat} (ht : t < 256) : ∀ {l : List Nat}, (∀ x ∈ l, x < 256) → (gT t).f (maskE en l) = if t ∈ l then (gT t).f en else .bad
  | [], _ => by rw [if_neg (by simp)]; exact gT_env0 ht
  | x :: l, h => by
    have hx := h x (by simp)
    have ih := maskE_get (en := en) ht (l := l) (fun y hy => h y (by simp [hy]))
    simp only [maskE]
    by_cases c : x = t
    · subst c
      rw [gT_pT_same hx, if_pos (by simp)]
    · rw [gT_pT_ne hx ht c, ih]
      by_cases d : t ∈ l
      · rw [if_pos d, if_pos (by simp [d])]
      · rw [if_neg d, if_neg (by simp [d]; exact fun e => c e.symm)]
end Go.Proofs.YtlmcadgbnolffaaGreatDoor.Am
