/- FoldOnce, the plain law of texts: a text is written rune by rune. -/
import Derived.Lib.DecodeN
import Derived.Lib.TrimUEq
import Derived.Lib.ValidU
namespace Go.Proofs.YtnfghboholehdaaGreatDoor.foldOnce
section
namespace Pieces
section
variable (wd : List UInt8 → Nat)
/-- the edges between runes, in order; wd: how many bytes the first rune of a text has -/
def pos (w : List UInt8) : Nat → Nat
  | 0 => 0
  | k + 1 => if pos w k < w.length then pos w k + wd (w.drop (pos w k)) else pos w k
def Edge (w : List UInt8) (e : Nat) : Prop := ∃ k, pos wd w k = e
/-- t stands there, between edges -/
def At (t w : List UInt8) (f : Nat) : Prop := Edge wd w f ∧ Edge wd w (f + t.length) ∧ (w.drop f).take t.length = t ∧ f + t.length ≤ w.length
open Classical in
/-- where t stands, not behind c -/
noncomputable def upto (t w : List UInt8) (c : Nat) : List Nat := (List.range (w.length + 1)).filter fun f => decide (At wd t w f ∧ f + t.length ≤ c)
/-- every longer text has the same edges up to there -/
def Sure (w : List UInt8) (c : Nat) : Prop := c ≤ w.length ∧ ∃ k, pos wd w k = c ∧ ∀ x i, i ≤ k → pos wd (w ++ x) i = pos wd w i
variable {wd}
theorem pos_le (w : List UInt8) : ∀ (i j : Nat), i ≤ j → pos wd w i ≤ pos wd w j := by
  intro i j h
  induction j with
  | zero => rw [Nat.le_zero.1 h]; exact Nat.le_refl _
  | succ j ih =>
    rcases Nat.lt_or_ge j i with c | c
    · have : i = j + 1 := by omega
      rw [this]; exact Nat.le_refl _
    · refine Nat.le_trans (ih c) ?_
      show pos wd w j ≤ if pos wd w j < w.length then pos wd w j + wd (w.drop (pos wd w j)) else pos wd w j
      split
      · omega
      · exact Nat.le_refl _
theorem Sure.zero (w : List UInt8) : Sure wd w 0 := ⟨Nat.zero_le _, 0, rfl, fun x i hi => by rw [Nat.le_zero.1 hi]; rfl⟩
theorem Sure.step {w : List UInt8} {e n : Nat} (h : Sure wd w e) (hlt : e < w.length) (hn : ∀ x, wd ((w ++ x).drop e) = n) (hl : e + n ≤ w.length) : Sure wd w (e + n) := by
  obtain ⟨_, k, hk, hx⟩ := h
  have h0 := hn []
  rw [List.append_nil] at h0
  have hk1 : pos wd w (k + 1) = e + n := by
    show (if pos wd w k < w.length then pos wd w k + wd (w.drop (pos wd w k)) else pos wd w k) = _
    rw [hk, if_pos hlt, h0]
  refine ⟨hl, k + 1, hk1, fun x i hi => ?_⟩
  rcases Nat.lt_or_ge k i with c | c
  · have : i = k + 1 := by omega
    rw [this, hk1]
    show (if pos wd (w ++ x) k < (w ++ x).length then pos wd (w ++ x) k + wd ((w ++ x).drop (pos wd (w ++ x) k)) else pos wd (w ++ x) k) = _
    rw [hx x k (Nat.le_refl _), hk, if_pos (by rw [List.length_append]; omega), hn]
  · exact hx x i c
theorem Sure.more {w : List UInt8} {c : Nat} (h : Sure wd w c) (y : List UInt8) : Sure wd (w ++ y) c := by
  obtain ⟨hl, k, hk, hx⟩ := h
  refine ⟨by rw [List.length_append]; omega, k, by rw [hx y k (Nat.le_refl _)]; exact hk, fun x i hi => ?_⟩
  rw [List.append_assoc, hx (y ++ x) i hi, hx y i hi]
theorem Sure.edge {w : List UInt8} {c : Nat} (h : Sure wd w c) {e : Nat} (he : e ≤ c) (x : List UInt8) : Edge wd w e ↔ Edge wd (w ++ x) e := by
  obtain ⟨_, k, hk, hx⟩ := h
  constructor
  · rintro ⟨i, rfl⟩
    rcases Nat.lt_or_ge k i with c | c
    · have := pos_le (wd := wd) w k i (by omega)
      exact ⟨k, by rw [hx x k (Nat.le_refl _)]; omega⟩
    · exact ⟨i, hx x i c⟩
  · rintro ⟨i, rfl⟩
    rcases Nat.lt_or_ge k i with c | c
    · have := pos_le (wd := wd) (w ++ x) k i (by omega)
      rw [hx x k (Nat.le_refl _)] at this
      exact ⟨k, by omega⟩
    · exact ⟨i, (hx x i c).symm⟩
theorem At.sure {t w : List UInt8} {c : Nat} (h : Sure wd w c) {f : Nat} (hf : f + t.length ≤ c) (x : List UInt8) : At wd t w f ↔ At wd t (w ++ x) f := by
  have hl := h.1
  have ht : ((w ++ x).drop f).take t.length = (w.drop f).take t.length := by
    rw [List.drop_append_of_le_length (by omega), List.take_append_of_le_length (by rw [List.length_drop]; omega)]
  unfold At
  rw [← h.edge (show f ≤ c by omega) x, ← h.edge hf x, ht, List.length_append]
  constructor
  · rintro ⟨a, b, c, d⟩; exact ⟨a, b, c, by omega⟩
  · rintro ⟨a, b, c, _⟩; exact ⟨a, b, c, by omega⟩

/-! ### lists of numbers in order -/
theorem filter_split {p q r : Nat → Bool} (d : Nat) : ∀ (l : List Nat), l.Pairwise (· < ·) → (∀ x ∈ l, p x = true → x < d) → (∀ x ∈ l, q x = true → d ≤ x) → (∀ x ∈ l, r x = (p x || q x)) → l.filter p ++ l.filter q = l.filter r
  | [], _, _, _, _ => rfl
  | x :: l, hl, hp, hq, hr => by
    rw [List.pairwise_cons] at hl
    have ih := filter_split d l hl.2 (fun y hy => hp y (List.mem_cons_of_mem _ hy)) (fun y hy => hq y (List.mem_cons_of_mem _ hy)) (fun y hy => hr y (List.mem_cons_of_mem _ hy))
    have hx := hr x (List.mem_cons_self ..)
    cases h1 : p x
    · cases h2 : q x
      · rw [h1, h2] at hx
        rw [List.filter_cons_of_neg (by rw [h1]; decide), List.filter_cons_of_neg (by rw [h2]; decide), List.filter_cons_of_neg (by rw [hx]; decide)]
        exact ih
      · rw [h1, h2] at hx
        -- nothing of p stands behind
        have hno : l.filter p = [] := by
          rw [List.filter_eq_nil_iff]
          intro y hy h3
          have := hp y (List.mem_cons_of_mem _ hy) h3
          have := hq x (List.mem_cons_self ..) h2
          have := hl.1 y hy
          omega
        rw [hno, List.nil_append] at ih
        rw [List.filter_cons_of_neg (by rw [h1]; decide), hno, List.nil_append, List.filter_cons_of_pos h2, List.filter_cons_of_pos (by rw [hx]; rfl), ih]
    · rw [h1] at hx
      have h2 : q x = false := by
        cases h2 : q x
        · rfl
        · have := hp x (List.mem_cons_self ..) h1
          have := hq x (List.mem_cons_self ..) h2
          omega
      rw [List.filter_cons_of_pos h1, List.filter_cons_of_neg (by rw [h2]; decide), List.filter_cons_of_pos (by rw [hx]; rfl), List.cons_append, ih]
theorem range_sorted (n : Nat) : (List.range n).Pairwise (· < ·) := List.pairwise_lt_range
theorem filter_longer {p q : Nat → Bool} {n m : Nat} (hnm : n ≤ m) (h : ∀ x, x < n → p x = q x) (hq : ∀ x, n ≤ x → q x = false) : (List.range n).filter p = (List.range m).filter q := by
  obtain ⟨k, rfl⟩ : ∃ k, m = n + k := ⟨m - n, by omega⟩
  clear hnm
  have e : (List.range (n + k)).filter q = (List.range n).filter q := by
    induction k with
    | zero => rfl
    | succ k ih =>
      rw [← Nat.add_assoc, List.range_succ, List.filter_append, ih, List.filter_cons_of_neg (by rw [hq _ (by omega)]; decide)]
      simp
  rw [e]
  exact List.filter_congr fun x hx => h x (List.mem_range.1 hx)

/-! ### what is told -/
open Classical in
/-- what a Write tells: matches in what was written, not behind c, from 'done' on -/
noncomputable def told (wd : List UInt8 → Nat) (t w : List UInt8) (c done : Nat) : List Nat := (List.range (w.length + 1)).filter fun f => decide (At wd t w f ∧ f + t.length ≤ c ∧ done ≤ f)
/-- what was told ahead, and what is told now: all that stands there -/
theorem told_all {t w x : List UInt8} {c0 c done : Nat} (h0 : Sure wd w c0) (hc : c0 ≤ c) (hd : done + t.length ≤ c0 + 1 ∨ done = 0) (hb : ∀ f, At wd t w f → f + t.length ≤ c0 → f < done) :
    upto wd t w c0 ++ told wd t (w ++ x) c done = upto wd t (w ++ x) c := by
  classical
  have e : upto wd t w c0 = upto wd t (w ++ x) c0 := by
    unfold upto
    refine filter_longer (by rw [List.length_append]; omega) (fun f hf => ?_) (fun f hf => ?_)
    · by_cases hfc : f + t.length ≤ c0
      · simp only [At.sure h0 hfc x]
      · simp only [hfc, and_false]
    · have := h0.1
      rw [decide_eq_false_iff_not]
      intro ⟨_, h⟩
      omega
  rw [e]
  unfold upto told
  refine filter_split done _ (range_sorted _) (fun f _ hp => ?_) (fun f _ hq => ?_) (fun f _ => ?_)
  · rw [decide_eq_true_iff] at hp
    exact hb f ((At.sure h0 hp.2 x).2 hp.1) hp.2
  · rw [decide_eq_true_iff] at hq
    exact hq.2.2
  · rw [Bool.eq_iff_iff, Bool.or_eq_true, decide_eq_true_iff, decide_eq_true_iff, decide_eq_true_iff]
    constructor
    · rintro ⟨h1, h2⟩
      rcases Nat.lt_or_ge c0 (f + t.length) with h3 | h3
      · refine .inr ⟨h1, h2, ?_⟩
        rcases hd with hd | hd <;> omega
      · exact .inl ⟨h1, h3⟩
    · rintro (⟨h1, h2⟩ | ⟨h1, h2, _⟩)
      · exact ⟨h1, by omega⟩
      · exact ⟨h1, h2⟩
/-- what 'done' is behind a Write that told something -/
theorem done_next {t w : List UInt8} {c done : Nat} (hd : done + t.length ≤ c + 1 ∨ done = 0) (hb : ∀ f, At wd t w f → f + t.length ≤ c → f < done ∨ f ∈ told wd t w c done) :
    let d := match (told wd t w c done).getLast? with | some f => f + 1 | none => done
    (d + t.length ≤ c + 1 ∨ d = 0) ∧ ∀ f, At wd t w f → f + t.length ≤ c → f < d := by
  classical
  intro d
  have hmem : ∀ f ∈ told wd t w c done, f + t.length ≤ c ∧ done ≤ f := fun f hf => by
    have := (List.mem_filter.1 hf).2
    rw [decide_eq_true_iff] at this
    exact ⟨this.2.1, this.2.2⟩
  have hsort : (told wd t w c done).Pairwise (· < ·) := (range_sorted _).filter _
  cases hl : (told wd t w c done).getLast? with
  | none =>
    have hn : told wd t w c done = [] := List.getLast?_eq_none_iff.1 hl
    have hdd : d = done := by show (match (told wd t w c done).getLast? with | some f => f + 1 | none => done) = done; rw [hl]
    rw [hdd]
    refine ⟨hd, fun f h1 h2 => ?_⟩
    rcases hb f h1 h2 with h | h
    · exact h
    · rw [hn] at h; cases h
  | some g =>
    have hdd : d = g + 1 := by show (match (told wd t w c done).getLast? with | some f => f + 1 | none => done) = g + 1; rw [hl]
    rw [hdd]
    have hg := List.mem_of_getLast? hl
    have hgc := hmem g hg
    refine ⟨.inl (by omega), fun f h1 h2 => ?_⟩
    rcases hb f h1 h2 with h | h
    · omega
    · -- the last is the greatest
      obtain ⟨r, hr⟩ := List.getLast?_eq_some_iff.1 hl
      rw [hr] at h hsort
      rcases List.mem_append.1 h with h | h
      · have := (List.pairwise_append.1 hsort).2.2 f h g (by simp)
        omega
      · rw [List.mem_singleton] at h; omega

/-! ### a finder's life -/
/-- what is so of a finder: what was written, up to where the runes are sure, from where on nothing was told, all that was told -/
structure Inv (wd : List UInt8 → Nat) (t w : List UInt8) (c done : Nat) (got : List Nat) : Prop where
  sure : Sure wd w c
  low : done + t.length ≤ c + 1 ∨ done = 0
  all : ∀ f, At wd t w f → f + t.length ≤ c → f < done
  got : got = upto wd t w c
theorem Inv.new {t : List UInt8} (ht : t ≠ []) : Inv wd t [] 0 0 [] where
  sure := Sure.zero []
  low := .inr rfl
  all f h hf := by
    have : 0 < t.length := List.length_pos_iff.2 ht
    omega
  got := by
    classical
    unfold upto
    symm
    rw [List.filter_eq_nil_iff]
    intro f _ h
    rw [decide_eq_true_iff] at h
    have : 0 < t.length := List.length_pos_iff.2 ht
    omega
theorem mem_told {t w : List UInt8} {c done f : Nat} (h : At wd t w f) (hc : f + t.length ≤ c) (hd : done ≤ f) : f ∈ told wd t w c done := by
  classical
  refine List.mem_filter.2 ⟨List.mem_range.2 ?_, ?_⟩
  · have := h.2.2.2; omega
  · rw [decide_eq_true_iff]; exact ⟨h, hc, hd⟩
def next (l : List Nat) (done : Nat) : Nat := match l.getLast? with | some f => f + 1 | none => done
theorem Inv.write {t w x : List UInt8} {c c' done : Nat} {got : List Nat} (h : Inv wd t w c done got) (hc : c ≤ c') (hs : Sure wd (w ++ x) c') :
    Inv wd t (w ++ x) c' (next (told wd t (w ++ x) c' done) done) (got ++ told wd t (w ++ x) c' done) := by
  have hd := done_next (wd := wd) (t := t) (w := w ++ x) (c := c') (done := done) (by rcases h.low with h1 | h1; exact .inl (by omega); exact .inr h1) (fun f h1 h2 => by
    rcases Nat.lt_or_ge f done with h3 | h3
    · exact .inl h3
    · exact .inr (mem_told h1 h2 h3))
  exact ⟨hs, hd.1, hd.2, by rw [h.got]; exact told_all h.sure hc h.low h.all⟩
/-- at the end: all of it -/
theorem Inv.close {t w : List UInt8} {c done : Nat} {got : List Nat} (h : Inv wd t w c done got) : got ++ told wd t w w.length done = upto wd t w w.length := by
  rw [h.got]
  have := told_all (x := []) (c := w.length) h.sure h.sure.1 h.low h.all
  rw [List.append_nil] at this
  exact this

/-! ### where a text stands, as it is looked for: rune by rune -/
/-- the places of a text: each edge, and the rune behind it -/
def places (wd : List UInt8 → Nat) (w : List UInt8) : Nat → Nat → List (Nat × List UInt8)
  | 0, _ => []
  | n + 1, e => if e < w.length then (e, (w.drop e).take (wd (w.drop e))) :: places wd w n (e + wd (w.drop e)) else [(w.length, [])]
/-- a beginning cut off -/
def cut (s p : List UInt8) : Option (List UInt8) := if s.take p.length = p then some (s.drop p.length) else none
def look : List UInt8 → List (Nat × List UInt8) → Option Nat
  | _, [] => none
  | rest, (at_, sh) :: r => if rest = [] then some at_ else match cut rest sh with
    | some nx => if sh = [] then none else look nx r
    | none => none
/-- whether a rune's bytes are so: some, and not more than there are -/
def Good (wd : List UInt8 → Nat) : Prop := ∀ b, b ≠ [] → 0 < wd b ∧ wd b ≤ b.length
theorem pos_len (hg : Good wd) (w : List UInt8) : ∀ k, pos wd w k ≤ w.length
  | 0 => Nat.zero_le _
  | k + 1 => by
    show (if pos wd w k < w.length then pos wd w k + wd (w.drop (pos wd w k)) else pos wd w k) ≤ _
    split
    · rename_i h
      have := (hg (w.drop (pos wd w k)) (by intro c; rw [List.drop_eq_nil_iff] at c; omega)).2
      rw [List.length_drop] at this
      omega
    · exact pos_len hg w k
theorem pos_next {w : List UInt8} {k e : Nat} (h : pos wd w k = e) (hl : e < w.length) : pos wd w (k + 1) = e + wd (w.drop e) := by
  show (if pos wd w k < w.length then pos wd w k + wd (w.drop (pos wd w k)) else pos wd w k) = _
  rw [h, if_pos hl]
theorem pos_end {w : List UInt8} {k : Nat} (h : w.length ≤ pos wd w k) : ∀ j, k ≤ j → pos wd w j = pos wd w k := by
  intro j hj
  induction j with
  | zero => rw [Nat.le_zero.1 hj]
  | succ j ih =>
    rcases Nat.lt_or_ge j k with c | c
    · have : k = j + 1 := by omega
      rw [this]
    · have := ih c
      show (if pos wd w j < w.length then pos wd w j + wd (w.drop (pos wd w j)) else pos wd w j) = _
      rw [this, if_neg (by omega)]
theorem cut_some {s p n : List UInt8} : cut s p = some n ↔ s = p ++ n := by
  unfold cut
  split
  · rename_i h
    constructor
    · intro e; cases e
      conv => lhs; rw [← List.take_append_drop p.length s, h]
    · intro e; subst e; rw [List.drop_left]
  · rename_i h
    constructor
    · intro e; cases e
    · intro e; subst e; exact absurd List.take_left h
theorem look_iff (hg : Good wd) (w : List UInt8) : ∀ (n e k i : Nat) (rest : List UInt8), pos wd w i = e → w.length < n + e →
    (look rest (places wd w n e) = some k ↔ ∃ j, i ≤ j ∧ pos wd w j = k ∧ k = e + rest.length ∧ (w.drop e).take rest.length = rest)
  | 0, e, k, i, rest, he, hn => by
    have := pos_len hg w i
    omega
  | n + 1, e, k, i, rest, he, hn => by
    have hle := pos_len hg w i
    unfold places
    split
    · rename_i hlt
      have hne : w.drop e ≠ [] := by intro c; rw [List.drop_eq_nil_iff] at c; omega
      obtain ⟨h0, h1⟩ := hg _ hne
      have hsh : ((w.drop e).take (wd (w.drop e))).length = wd (w.drop e) := by rw [List.length_take]; omega
      show (if rest = [] then some e else match cut rest ((w.drop e).take (wd (w.drop e))) with
        | some nx => if (w.drop e).take (wd (w.drop e)) = [] then none else look nx (places wd w n (e + wd (w.drop e)))
        | none => none) = some k ↔ _
      by_cases hr : rest = []
      · rw [if_pos hr]; subst hr
        constructor
        · intro h; cases h; exact ⟨i, Nat.le_refl _, he, rfl, rfl⟩
        · rintro ⟨j, _, _, hk, _⟩; rw [hk]; rfl
      · rw [if_neg hr]
        have hrl : 0 < rest.length := List.length_pos_iff.2 hr
        have hshn : (w.drop e).take (wd (w.drop e)) ≠ [] := by intro c; rw [c] at hsh; simp at hsh; omega
        cases hc : cut rest ((w.drop e).take (wd (w.drop e))) with
        | none =>
          simp only [false_iff, reduceCtorEq]
          rintro ⟨j, hij, hj, hk, ht⟩
          have hji : i < j := by
            rcases Nat.lt_or_ge i j with c | c
            · exact c
            · have : i = j := by omega
              subst this; omega
          have hstep := pos_le (wd := wd) w (i + 1) j hji
          rw [pos_next he hlt, hj] at hstep
          have : cut rest ((w.drop e).take (wd (w.drop e))) = some (rest.drop (wd (w.drop e))) := by
            rw [cut_some]
            conv => lhs; rw [← List.take_append_drop (wd (w.drop e)) rest]
            congr 1
            rw [← ht, List.take_take, Nat.min_eq_left (by omega)]
          rw [hc] at this; cases this
        | some nx =>
          rw [cut_some] at hc
          simp only [hshn, if_false]
          rw [look_iff hg w n (e + wd (w.drop e)) k (i + 1) nx (pos_next he hlt) (by omega)]
          have hlen : rest.length = wd (w.drop e) + nx.length := by rw [hc, List.length_append, hsh]
          have hdr : (w.drop (e + wd (w.drop e))) = (w.drop e).drop (wd (w.drop e)) := by rw [List.drop_drop]
          have htk : (w.drop e).take rest.length = rest ↔ (w.drop (e + wd (w.drop e))).take nx.length = nx := by
            rw [hdr, hlen, List.take_add]
            conv => lhs; rhs; rw [hc]
            constructor
            · intro h; exact List.append_cancel_left h
            · intro h; rw [h]
          constructor
          · rintro ⟨j, h2, h3, h4, h5⟩
            exact ⟨j, by omega, h3, by omega, htk.2 h5⟩
          · rintro ⟨j, h2, h3, h4, h5⟩
            refine ⟨j, ?_, h3, by omega, htk.1 h5⟩
            rcases Nat.lt_or_ge i j with c | c
            · exact c
            · have : i = j := by omega
              subst this; omega
    · rename_i hge
      have hee : e = w.length := by omega
      show (if rest = [] then some w.length else match cut rest [] with
        | some nx => if ([] : List UInt8) = [] then none else look nx []
        | none => none) = some k ↔ _
      by_cases hr : rest = []
      · rw [if_pos hr]; subst hr
        constructor
        · intro h; cases h; exact ⟨i, Nat.le_refl _, by rw [he, hee], by show w.length = e + 0; omega, rfl⟩
        · rintro ⟨j, _, _, hk, _⟩; rw [hk, hee]; rfl
      · rw [if_neg hr]
        have hrl : 0 < rest.length := List.length_pos_iff.2 hr
        constructor
        · intro h
          split at h
          · simp at h
          · cases h
        · rintro ⟨j, h2, h3, h4, h5⟩
          have := pos_len hg w j
          omega
/-- the matches, from the front -/
def every (t : List UInt8) : List (Nat × List UInt8) → List (Nat × Nat)
  | [] => []
  | (a, sh) :: r => match look t ((a, sh) :: r) with
    | some k => (a, k) :: every t r
    | none => every t r
theorem look_at (hg : Good wd) {t w : List UInt8} {n e i : Nat} (he : pos wd w i = e) (hn : w.length < n + e) :
    look t (places wd w n e) = if look t (places wd w n e) = none then none else some (e + t.length) := by
  cases h : look t (places wd w n e) with
  | none => simp
  | some k =>
    obtain ⟨j, _, _, hk, _⟩ := (look_iff hg w n e k i t he hn).1 h
    simp [hk]
theorem look_At (hg : Good wd) {t w : List UInt8} (ht : t ≠ []) {n e i : Nat} (he : pos wd w i = e) (hn : w.length < n + e) : look t (places wd w n e) = some (e + t.length) ↔ At wd t w e := by
  have hl : 0 < t.length := List.length_pos_iff.2 ht
  rw [look_iff hg w n e _ i t he hn]
  constructor
  · rintro ⟨j, _, hj, _, h⟩
    exact ⟨⟨i, he⟩, ⟨j, hj⟩, h, by rw [← hj]; exact pos_len hg w j⟩
  · rintro ⟨_, ⟨j, hj⟩, h, _⟩
    refine ⟨j, ?_, hj, rfl, h⟩
    rcases Nat.lt_or_ge j i with c | c
    · have := pos_le (wd := wd) w j i (by omega)
      omega
    · exact c
/-- an edge behind e lies behind e's rune -/
theorem edge_next {w : List UInt8} {e i f : Nat} (he : pos wd w i = e) (hlt : e < w.length) (hf : Edge wd w f) (h : e < f) : e + wd (w.drop e) ≤ f := by
  obtain ⟨j, rfl⟩ := hf
  have hij : i < j := by
    rcases Nat.lt_or_ge i j with c | c
    · exact c
    · have := pos_le (wd := wd) w j i c
      omega
  have := pos_le (wd := wd) w (i + 1) j hij
  rw [pos_next he hlt] at this
  exact this
open Classical in
theorem every_from (hg : Good wd) {t w : List UInt8} (ht : t ≠ []) : ∀ (n e i : Nat), pos wd w i = e → w.length < n + e →
    every t (places wd w n e) = ((List.range (w.length + 1)).filter fun f => decide (At wd t w f ∧ e ≤ f)).map fun f => (f, f + t.length)
  | 0, e, i, he, hn => by
    have := pos_len hg w i
    omega
  | n + 1, e, i, he, hn => by
    have hl : 0 < t.length := List.length_pos_iff.2 ht
    have hlook := look_at hg he hn (t := t)
    have hAt := look_At hg ht he hn
    have hle := pos_len hg w i
    -- those at e, those behind
    have split : ∀ (e' : Nat), e < e' → (∀ f, At wd t w f → e < f → e' ≤ f) →
        ((List.range (w.length + 1)).filter fun f => decide (At wd t w f ∧ e ≤ f)) = (if At wd t w e then [e] else []) ++ ((List.range (w.length + 1)).filter fun f => decide (At wd t w f ∧ e' ≤ f)) := by
      intro e' hee' hno
      rw [← filter_split (p := fun f => decide (At wd t w f ∧ f = e)) (q := fun f => decide (At wd t w f ∧ e' ≤ f)) (e + 1) _ (range_sorted _) (fun x _ h => by
          rw [decide_eq_true_iff] at h; omega) (fun x _ h => by
          rw [decide_eq_true_iff] at h; omega) (fun x _ => by
          rw [Bool.eq_iff_iff, Bool.or_eq_true, decide_eq_true_iff, decide_eq_true_iff, decide_eq_true_iff]
          constructor
          · rintro ⟨h1, h2⟩
            rcases Nat.lt_or_ge e x with h3 | h3
            · exact .inr ⟨h1, hno x h1 h3⟩
            · exact .inl ⟨h1, by omega⟩
          · rintro (⟨h1, h2⟩ | ⟨h1, h2⟩)
            · exact ⟨h1, by omega⟩
            · exact ⟨h1, by omega⟩)]
      congr 1
      by_cases ha : At wd t w e
      · rw [if_pos ha]
        have hone : ∀ m, e < m → (List.range m).filter (fun f => decide (At wd t w f ∧ f = e)) = [e] := by
          intro m hm
          induction m with
          | zero => omega
          | succ m ih =>
            rw [List.range_succ, List.filter_append]
            by_cases hme : m = e
            · subst hme
              have hnil : (List.range m).filter (fun f => decide (At wd t w f ∧ f = m)) = [] := by
                rw [List.filter_eq_nil_iff]
                intro x hx h
                rw [decide_eq_true_iff] at h
                have := List.mem_range.1 hx
                omega
              rw [hnil, List.filter_cons_of_pos (by rw [decide_eq_true_iff]; exact ⟨ha, rfl⟩)]
              rfl
            · rw [ih (by omega), List.filter_cons_of_neg (by rw [decide_eq_true_iff]; rintro ⟨_, h⟩; exact hme h)]
              rfl
        exact hone _ (by omega)
      · rw [if_neg ha, List.filter_eq_nil_iff]
        intro x _ h
        rw [decide_eq_true_iff] at h
        exact ha (h.2 ▸ h.1)
    by_cases hlt : e < w.length
    · have hpl : places wd w (n + 1) e = (e, (w.drop e).take (wd (w.drop e))) :: places wd w n (e + wd (w.drop e)) := by
        show (if e < w.length then _ else _) = _
        rw [if_pos hlt]
      have hwd := (hg (w.drop e) (by intro c; rw [List.drop_eq_nil_iff] at c; omega)).1
      have ih := every_from hg ht n (e + wd (w.drop e)) (i + 1) (pos_next he hlt) (by omega)
      have hsp := split (e + wd (w.drop e)) (by omega) (fun f h1 h2 => edge_next he hlt h1.1 h2)
      rw [hsp, List.map_append, ← ih, hpl]
      rw [hpl] at hlook hAt
      show (match look t ((e, (w.drop e).take (wd (w.drop e))) :: places wd w n (e + wd (w.drop e))) with
        | some k => (e, k) :: every t (places wd w n (e + wd (w.drop e)))
        | none => every t (places wd w n (e + wd (w.drop e)))) = _
      by_cases ha : At wd t w e
      · rw [hAt.2 ha, if_pos ha]; rfl
      · rw [if_neg ha]
        cases hk : look t ((e, (w.drop e).take (wd (w.drop e))) :: places wd w n (e + wd (w.drop e))) with
        | none => rfl
        | some k =>
          rw [hk] at hlook hAt
          simp at hlook
          exact absurd (hAt.1 (by rw [hlook])) ha
    · have hee : e = w.length := by omega
      have hpl : places wd w (n + 1) e = [(w.length, [])] := by
        show (if e < w.length then _ else _) = _
        rw [if_neg hlt]
      rw [hpl]
      have hnone : ((List.range (w.length + 1)).filter fun f => decide (At wd t w f ∧ e ≤ f)) = [] := by
        rw [List.filter_eq_nil_iff]
        intro x _ h
        rw [decide_eq_true_iff] at h
        have := h.1.2.2.2
        omega
      rw [hnone]
      show (match look t [(w.length, [])] with
        | some k => (w.length, k) :: every t []
        | none => every t []) = []
      have : look t [(w.length, [])] = none := by
        show (if t = [] then some w.length else match cut t [] with
          | some nx => if ([] : List UInt8) = [] then none else look nx []
          | none => none) = none
        rw [if_neg ht]
        split
        · simp
        · rfl
      rw [this]; rfl
/-- ALL MATCHES, FROM THE FRONT: what the loops over the places find is where the text stands. -/
theorem every_upto (hg : Good wd) {t w : List UInt8} (ht : t ≠ []) : every t (places wd w (w.length + 1) 0) = (upto wd t w w.length).map fun f => (f, f + t.length) := by
  classical
  rw [every_from hg ht (w.length + 1) 0 0 rfl (by omega)]
  unfold upto
  congr 1
  refine List.filter_congr fun x _ => ?_
  rw [Bool.eq_iff_iff, decide_eq_true_iff, decide_eq_true_iff]
  constructor
  · rintro ⟨h, _⟩; exact ⟨h, h.2.2.2⟩
  · rintro ⟨h, _⟩; exact ⟨h, Nat.zero_le _⟩
end
end Pieces
end
section
namespace Pieces
open Go.Lib (decodeN)
def bt (l : List UInt8) (i : Nat) : Nat := (l.getD i 0).toNat
/-- how many bytes the first rune has -/
def width (l : List UInt8) : Nat := if l = [] then 0 else (decodeN l.length (bt l 0) (bt l 1) (bt l 2) (bt l 3)).2
/-- is the first rune sure? -/
def fullN (n b0 b1 b2 : Nat) : Prop :=
  if b0 < 194 ∨ 245 ≤ b0 then True
  else if b0 < 224 then 2 ≤ n
  else if b0 < 240 then 3 ≤ n ∨ (1 < n ∧ (b1 < (if b0 = 224 then 160 else 128) ∨ (if b0 = 237 then 159 else 191) < b1))
  else 4 ≤ n ∨ (1 < n ∧ (b1 < (if b0 = 240 then 144 else 128) ∨ (if b0 = 244 then 143 else 191) < b1)) ∨ (2 < n ∧ (b2 < 128 ∨ 191 < b2))
def full (l : List UInt8) : Prop := l ≠ [] ∧ fullN l.length (bt l 0) (bt l 1) (bt l 2)
theorem bt_lt (l : List UInt8) (i : Nat) : bt l i < 256 := (l.getD i 0).toNat_lt
theorem bt_app {l x : List UInt8} {i : Nat} (h : i < l.length) : bt (l ++ x) i = bt l i := by
  unfold bt
  rw [List.getD_eq_getElem?_getD, List.getD_eq_getElem?_getD, List.getElem?_append_left h]
/-- the width, by classes -/
def widthN (n b0 b1 b2 b3 : Nat) : Nat :=
  if b0 < 194 ∨ 245 ≤ b0 then 1
  else if b0 < 224 then (if 1 < n ∧ 128 ≤ b1 ∧ b1 < 192 then 2 else 1)
  else if b0 < 240 then (if 2 < n ∧ (if b0 = 224 then 160 else 128) ≤ b1 ∧ b1 ≤ (if b0 = 237 then 159 else 191) ∧ 128 ≤ b2 ∧ b2 < 192 then 3 else 1)
  else (if 3 < n ∧ (if b0 = 240 then 144 else 128) ≤ b1 ∧ b1 ≤ (if b0 = 244 then 143 else 191) ∧ 128 ≤ b2 ∧ b2 < 192 ∧ 128 ≤ b3 ∧ b3 < 192 then 4 else 1)
set_option maxHeartbeats 4000000 in
theorem width_eq (n b0 b1 b2 b3 : Nat) (h0 : b0 < 256) (h1 : b1 < 256) (h2 : b2 < 256) (h3 : b3 < 256) : (decodeN n b0 b1 b2 b3).2 = widthN n b0 b1 b2 b3 := by
  unfold widthN
  by_cases c1 : b0 < 194 ∨ 245 ≤ b0
  · rw [if_pos c1]
    unfold decodeN
    repeat' split
    all_goals first | rfl | (exfalso; omega)
  · rw [if_neg c1]
    by_cases c2 : b0 < 224
    · rw [if_pos c2]
      unfold decodeN
      repeat' split
      all_goals first | rfl | (exfalso; omega)
    · rw [if_neg c2]
      by_cases c3 : b0 < 240
      · rw [if_pos c3]
        by_cases d1 : b0 = 224
        · rw [if_pos d1]
          unfold decodeN
          repeat' split
          all_goals first | rfl | (exfalso; omega)
        · rw [if_neg d1]
          by_cases d2 : b0 = 237
          · rw [if_pos d2]
            unfold decodeN
            repeat' split
            all_goals first | rfl | (exfalso; omega)
          · rw [if_neg d2]
            unfold decodeN
            repeat' split
            all_goals first | rfl | (exfalso; omega)
      · rw [if_neg c3]
        by_cases d1 : b0 = 240
        · rw [if_pos d1]
          unfold decodeN
          repeat' split
          all_goals first | rfl | (exfalso; omega)
        · rw [if_neg d1]
          by_cases d2 : b0 = 244
          · rw [if_pos d2]
            unfold decodeN
            repeat' split
            all_goals first | rfl | (exfalso; omega)
          · rw [if_neg d2]
            unfold decodeN
            repeat' split
            all_goals first | rfl | (exfalso; omega)
theorem width_eq' {l : List UInt8} (h : l ≠ []) : width l = widthN l.length (bt l 0) (bt l 1) (bt l 2) (bt l 3) := by
  unfold width
  rw [if_neg h, width_eq _ _ _ _ _ (bt_lt _ _) (bt_lt _ _) (bt_lt _ _) (bt_lt _ _)]
theorem width_good : Good width := by
  intro b hb
  have : 0 < b.length := List.length_pos_iff.2 hb
  rw [width_eq' hb]
  unfold widthN
  repeat' split
  all_goals omega
set_option maxHeartbeats 1000000 in
theorem full_sure {l : List UInt8} (h : full l) (x : List UInt8) : width (l ++ x) = width l := by
  obtain ⟨hne, hf⟩ := h
  have hl : 0 < l.length := List.length_pos_iff.2 hne
  rw [width_eq' hne, width_eq' (by intro c; exact hne (List.append_eq_nil_iff.1 c).1), List.length_append, bt_app hl]
  have a1 : 1 < l.length → bt (l ++ x) 1 = bt l 1 := fun h => bt_app h
  have a2 : 2 < l.length → bt (l ++ x) 2 = bt l 2 := fun h => bt_app h
  have a3 : 3 < l.length → bt (l ++ x) 3 = bt l 3 := fun h => bt_app h
  generalize bt (l ++ x) 1 = c1 at *
  generalize bt (l ++ x) 2 = c2 at *
  generalize bt (l ++ x) 3 = c3 at *
  generalize bt l 0 = b0 at *
  generalize bt l 1 = b1 at *
  generalize bt l 2 = b2 at *
  generalize bt l 3 = b3 at *
  generalize l.length = n at *
  generalize x.length = m at *
  unfold widthN
  unfold fullN at hf
  by_cases k1 : b0 < 194 ∨ 245 ≤ b0
  · rw [if_pos k1, if_pos k1]
  · rw [if_neg k1] at hf ⊢
    rw [if_neg k1]
    by_cases k2 : b0 < 224
    · rw [if_pos k2] at hf ⊢
      rw [if_pos k2]
      rw [a1 (by omega)]
      repeat' split
      all_goals omega
    · rw [if_neg k2] at hf ⊢
      rw [if_neg k2]
      by_cases k3 : b0 < 240
      · rw [if_pos k3] at hf ⊢
        rw [if_pos k3]
        generalize (if b0 = 224 then 160 else 128) = lo at *
        generalize (if b0 = 237 then 159 else 191) = hi at *
        rcases hf with hf | ⟨hf, hb⟩
        · rw [a1 (by omega), a2 (by omega)]
          repeat' split
          all_goals omega
        · rw [a1 hf]
          repeat' split
          all_goals omega
      · rw [if_neg k3] at hf ⊢
        rw [if_neg k3]
        generalize (if b0 = 240 then 144 else 128) = lo at *
        generalize (if b0 = 244 then 143 else 191) = hi at *
        rcases hf with hf | ⟨hf, hb⟩ | ⟨hf, hb⟩
        · rw [a1 (by omega), a2 (by omega), a3 (by omega)]
          repeat' split
          all_goals omega
        · rw [a1 hf]
          repeat' split
          all_goals omega
        · rw [a1 (by omega), a2 hf]
          repeat' split
          all_goals omega
end Pieces
end
section
namespace Folds
open Pieces (bt bt_lt bt_app)
open Go.Lib (decodeN)
set_option maxHeartbeats 4000000 in
theorem dec_stable (n m b0 b1 b2 b3 c1 c2 c3 : Nat) (hn : 1 ≤ n) (h1 : 1 < n → c1 = b1) (h2 : 2 < n → c2 = b2) (h3 : 3 < n → c3 = b3) (hw : (decodeN (n + m) b0 c1 c2 c3).2 ≤ n) : decodeN n b0 b1 b2 b3 = decodeN (n + m) b0 c1 c2 c3 := by
  rcases (by omega : n = 1 ∨ n = 2 ∨ n = 3 ∨ 4 ≤ n) with rfl | rfl | rfl | h4
  · clear h1 h2 h3
    revert hw
    unfold decodeN
    repeat' split
    all_goals intro hw
    all_goals first | with_reducible rfl | (exfalso; dsimp only at hw; omega) | (exfalso; omega)
  · obtain rfl := h1 (by omega)
    clear h1 h2 h3
    revert hw
    unfold decodeN
    repeat' split
    all_goals intro hw
    all_goals first | with_reducible rfl | (exfalso; dsimp only at hw; omega) | (exfalso; omega)
  · obtain rfl := h1 (by omega)
    obtain rfl := h2 (by omega)
    clear h1 h2 h3
    revert hw
    unfold decodeN
    repeat' split
    all_goals intro hw
    all_goals first | with_reducible rfl | (exfalso; dsimp only at hw; omega) | (exfalso; omega)
  · obtain rfl := h1 (by omega)
    obtain rfl := h2 (by omega)
    obtain rfl := h3 (by omega)
    clear h1 h2 h3 hw
    have e1 : (1 < n) = True := eq_true (by omega)
    have e2 : (2 < n) = True := eq_true (by omega)
    have e3 : (3 < n) = True := eq_true (by omega)
    have f1 : (1 < n + m) = True := eq_true (by omega)
    have f2 : (2 < n + m) = True := eq_true (by omega)
    have f3 : (3 < n + m) = True := eq_true (by omega)
    unfold decodeN
    simp only [e1, e2, e3, f1, f2, f3]
/-- the first rune, and how many bytes it has -/
def dec (l : List UInt8) : Nat × Nat := decodeN l.length (bt l 0) (bt l 1) (bt l 2) (bt l 3)
theorem dec_pos (l : List UInt8) : 1 ≤ (dec l).2 := by
  unfold dec decodeN
  repeat' split
  all_goals simp
theorem dec_le4 (l : List UInt8) : (dec l).2 ≤ 4 := by
  unfold dec decodeN
  repeat' split
  all_goals simp
theorem dec_le (l : List UInt8) (h : l ≠ []) : (dec l).2 ≤ l.length := by
  have h0 : 1 ≤ l.length := by cases l with | nil => exact absurd rfl h | cons a b => simp
  unfold dec decodeN
  repeat' split
  all_goals (try dsimp only)
  all_goals omega
theorem dec_app (l t : List UInt8) (h : l ≠ []) (hw : (dec (l ++ t)).2 ≤ l.length) : dec (l ++ t) = dec l := by
  have h0 : 1 ≤ l.length := by cases l with | nil => exact absurd rfl h | cons a b => simp
  unfold dec at hw ⊢
  rw [bt_app (show 0 < l.length by omega), List.length_append] at hw ⊢
  exact (dec_stable l.length t.length _ (bt l 1) (bt l 2) (bt l 3) _ _ _ h0 (fun h => bt_app h) (fun h => bt_app h) (fun h => bt_app h) hw).symm
/-- what is written for the first rune: a fault stays -/
def one (enc : Nat → List UInt8) (l : List UInt8) : List UInt8 := if (dec l).1 = 65533 ∧ (dec l).2 = 1 then l.take 1 else enc (dec l).1
def out (enc : Nat → List UInt8) : Nat → List UInt8 → List UInt8
  | 0, _ => []
  | n + 1, l => if l = [] then [] else one enc l ++ out enc n (l.drop (dec l).2)
theorem out_more (enc : Nat → List UInt8) : ∀ (n m : Nat) (l : List UInt8), l.length ≤ n → l.length ≤ m → out enc n l = out enc m l
  | 0, 0, _, _, _ => rfl
  | 0, m + 1, l, h, _ => by
    obtain rfl : l = [] := List.eq_nil_of_length_eq_zero (by omega)
    show [] = if ([] : List UInt8) = [] then [] else _
    rw [if_pos rfl]
  | n + 1, 0, l, _, h => by
    obtain rfl : l = [] := List.eq_nil_of_length_eq_zero (by omega)
    show (if ([] : List UInt8) = [] then [] else _) = []
    rw [if_pos rfl]
  | n + 1, m + 1, l, h, k => by
    show (if l = [] then [] else _) = (if l = [] then [] else _)
    by_cases c : l = []
    · rw [if_pos c, if_pos c]
    · rw [if_neg c, if_neg c, out_more enc n m (l.drop (dec l).2) (by have := dec_pos l; rw [List.length_drop]; omega) (by have := dec_pos l; rw [List.length_drop]; omega)]
/-- a text written -/
def wrt (enc : Nat → List UInt8) (l : List UInt8) : List UInt8 := out enc l.length l
theorem wrt_step (enc : Nat → List UInt8) (l : List UInt8) (h : l ≠ []) : wrt enc l = one enc l ++ wrt enc (l.drop (dec l).2) := by
  unfold wrt
  obtain ⟨n, hn⟩ : ∃ n, l.length = n + 1 := ⟨l.length - 1, by cases l with | nil => exact absurd rfl h | cons a b => simp⟩
  rw [hn]
  show (if l = [] then [] else _) = _
  rw [if_neg h, out_more enc n _ (l.drop (dec l).2) (by have := dec_pos l; rw [List.length_drop]; omega) (Nat.le_refl _)]
/-- no rune reaches over a place -/
def Edge (s t : List UInt8) : Prop := ∀ k, k < s.length → (dec (s.drop k ++ t)).2 ≤ s.length - k
theorem wrt_app (enc : Nat → List UInt8) : ∀ (n : Nat) (s t : List UInt8), s.length ≤ n → Edge s t → wrt enc (s ++ t) = wrt enc s ++ wrt enc t
  | 0, s, t, h, _ => by
    obtain rfl : s = [] := List.eq_nil_of_length_eq_zero (by omega)
    rfl
  | n + 1, s, t, h, he => by
    by_cases c : s = []
    · subst c; rfl
    · have hpos : 0 < s.length := by cases s with | nil => exact absurd rfl c | cons a b => simp
      have e0 := he 0 hpos
      rw [List.drop_zero, Nat.sub_zero] at e0
      have ed := dec_app s t c e0
      have hle : (dec s).2 ≤ s.length := dec_le s c
      have hst : s ++ t ≠ [] := by intro h; exact c (List.append_eq_nil_iff.1 h).1
      rw [wrt_step enc (s ++ t) hst, wrt_step enc s c, ed]
      have e1 : one enc (s ++ t) = one enc s := by
        unfold one
        rw [ed]
        by_cases d : (dec s).1 = 65533 ∧ (dec s).2 = 1
        · rw [if_pos d, if_pos d]
          cases s with | nil => exact absurd rfl c | cons a b => rfl
        · rw [if_neg d, if_neg d]
      rw [e1, List.drop_append_of_le_length hle, wrt_app enc n (s.drop (dec s).2) t (by have := dec_pos s; rw [List.length_drop]; omega) ?_, List.append_assoc]
      intro k hk
      rw [List.length_drop] at hk ⊢
      have := he ((dec s).2 + k) (by omega)
      rw [List.drop_drop]
      omega
/-- what Is(s + t, len(s)) looks at -/
def isEdge (s t : List UInt8) : Bool := (List.range 3).all fun b => decide (s.length < b + 1) || (decide ((dec (s.drop (s.length - (b + 1)) ++ t)).2 ≤ b + 1) || (decide ((dec (s.drop (s.length - (b + 1)) ++ t)).1 = 65533) && decide ((dec (s.drop (s.length - (b + 1)) ++ t)).2 = 1)))
theorem edge_of {s t : List UInt8} (h : isEdge s t = true) : Edge s t := by
  intro k hk
  rcases Nat.lt_or_ge (s.length - k) 4 with c | c
  · have := List.all_eq_true.1 h (s.length - k - 1) (List.mem_range.2 (by omega))
    rw [show s.length - k - 1 + 1 = s.length - k by omega, show s.length - (s.length - k) = k by omega] at this
    simp only [Bool.or_eq_true, Bool.and_eq_true, decide_eq_true_iff] at this
    rcases this with q | q | q <;> omega
  · have := dec_le4 (s.drop k ++ t)
    omega
/-! ### texts without faults -/
set_option maxHeartbeats 4000000 in
theorem dec_good (n m b0 b1 b2 b3 c1 c2 c3 : Nat) (hn : 1 ≤ n) (h1 : 1 < n → c1 = b1) (h2 : 2 < n → c2 = b2) (h3 : 3 < n → c3 = b3) (hv : ¬ ((decodeN n b0 b1 b2 b3).1 = 65533 ∧ (decodeN n b0 b1 b2 b3).2 = 1)) : decodeN (n + m) b0 c1 c2 c3 = decodeN n b0 b1 b2 b3 := by
  rcases (by omega : n = 1 ∨ n = 2 ∨ n = 3 ∨ 4 ≤ n) with rfl | rfl | rfl | h4
  · clear h1 h2 h3
    revert hv
    unfold decodeN
    repeat' split
    all_goals intro hv
    all_goals first | with_reducible rfl | (exfalso; exact hv ⟨rfl, rfl⟩) | (exfalso; omega)
  · obtain rfl := h1 (by omega)
    clear h1 h2 h3
    revert hv
    unfold decodeN
    repeat' split
    all_goals intro hv
    all_goals first | with_reducible rfl | (exfalso; exact hv ⟨rfl, rfl⟩) | (exfalso; omega)
  · obtain rfl := h1 (by omega)
    obtain rfl := h2 (by omega)
    clear h1 h2 h3
    revert hv
    unfold decodeN
    repeat' split
    all_goals intro hv
    all_goals first | with_reducible rfl | (exfalso; exact hv ⟨rfl, rfl⟩) | (exfalso; omega)
  · obtain rfl := h1 (by omega)
    obtain rfl := h2 (by omega)
    obtain rfl := h3 (by omega)
    clear h1 h2 h3 hv
    have e1 : (1 < n) = True := eq_true (by omega)
    have e2 : (2 < n) = True := eq_true (by omega)
    have e3 : (3 < n) = True := eq_true (by omega)
    have f1 : (1 < n + m) = True := eq_true (by omega)
    have f2 : (2 < n + m) = True := eq_true (by omega)
    have f3 : (3 < n + m) = True := eq_true (by omega)
    unfold decodeN
    simp only [e1, e2, e3, f1, f2, f3]
theorem decL (l : List UInt8) : Go.Lib.decodeL l = dec l := Go.Lib.decodeL_N l
theorem dec_goodL (l t : List UInt8) (h : l ≠ []) (hv : ¬ ((dec l).1 = 65533 ∧ (dec l).2 = 1)) : dec (l ++ t) = dec l := by
  have h0 : 1 ≤ l.length := by cases l with | nil => exact absurd rfl h | cons a b => simp
  unfold dec at hv ⊢
  rw [bt_app (show 0 < l.length by omega), List.length_append]
  exact dec_good l.length t.length _ (bt l 1) (bt l 2) (bt l 3) _ _ _ h0 (fun h => bt_app h) (fun h => bt_app h) (fun h => bt_app h) hv
/-- behind a text without faults stands whatever stands -/
theorem wrt_valid (enc : Nat → List UInt8) : ∀ (n : Nat) (s t : List UInt8), s.length ≤ n → Go.Lib.validGoD n s = true → wrt enc (s ++ t) = wrt enc s ++ wrt enc t
  | 0, s, t, h, _ => by
    obtain rfl : s = [] := List.eq_nil_of_length_eq_zero (by omega)
    rfl
  | n + 1, s, t, h, hv => by
    by_cases c : s = []
    · subst c; rfl
    · unfold Go.Lib.validGoD at hv
      rw [if_neg c, decL] at hv
      by_cases d : (dec s).1 = 65533 ∧ (dec s).2 = 1
      · rw [if_pos d] at hv; cases hv
      · rw [if_neg d] at hv
        have ed := dec_goodL s t c d
        have hle : (dec s).2 ≤ s.length := dec_le s c
        have hst : s ++ t ≠ [] := by intro h; exact c (List.append_eq_nil_iff.1 h).1
        have e1 : one enc (s ++ t) = one enc s := by
          unfold one
          rw [ed, if_neg d, if_neg d]
        rw [wrt_step enc (s ++ t) hst, wrt_step enc s c, ed, e1, List.drop_append_of_le_length hle, wrt_valid enc n (s.drop (dec s).2) t (by have := dec_pos s; rw [List.length_drop]; omega) hv, List.append_assoc]
theorem wrt_validD (enc : Nat → List UInt8) {s : List UInt8} (h : Go.Lib.validD s = true) (t : List UInt8) : wrt enc (s ++ t) = wrt enc s ++ wrt enc t := wrt_valid enc s.length s t (Nat.le_refl _) h
end Folds
end
end Go.Proofs.YtnfghboholehdaaGreatDoor.foldOnce
