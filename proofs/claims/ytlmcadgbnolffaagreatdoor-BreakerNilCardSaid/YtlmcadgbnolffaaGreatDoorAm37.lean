/- The machine's soundness, for drawn regions: what holds after some of the operations, in any order. -/
import Derived.Test.YtlmcadgbnolffaaGreatDoorAm36
namespace Go.Proofs.YtlmcadgbnolffaaGreatDoor.Am
def dnAt (ops : Array Oper) (i : Nat) : Nat := match ops[i]? with | some o => dnOf o | none => 0
def wl (Hh : Nat → H) (i : Nat) : List Nat := (Hh (i + 1)).log.take ((Hh (i + 1)).ln - (Hh i).ln)
def Tch (Hh : Nat → H) (X : Nat → Bool) (i b : Nat) : Prop := X i = true ∧ b < (Hh (i + 1)).next ∧ (b ∈ wl Hh i ∨ (Hh i).next ≤ b)
/-- what is so of two heaps, by the machine's word alone -/
structure SF (h h' : H) (W : List Nat) : Prop where
  next : h.next ≤ h'.next
  log : h'.log = W ++ h.log
  ln : h'.ln = h.ln + W.length
  kept : ∀ b, b < h.next → b ∉ W → h'.get b = h.get b
  live : ∀ b, b ∈ W → b < h.next → ∃ x, h.get b = some x
theorem Ext.sf {ι ι' : Nam} {h h' : H} {w w' : World} {W : List Nat} (e : Ext ι h w ι' h' w' W) : SF h h' W := ⟨e.next, e.log, e.ln, e.kept, e.live⟩
noncomputable def recAt (E : Nat → Env) (Hh : Nat → H) (i : Nat) (o : Oper) : Rc := recO o.op i (E i) (Hh i) (Hh (i + 1))
/-- a region, as the machine has run it -/
structure Rg (g : G) (n : Nat) (cx : Cx) (df : List Df) (ops : Array Oper) (ms : List Nat) (E : Nat → Env) (Hh : Nat → H) (V : Nat → AV) (X : Nat → Bool) : Prop where
  st : ∀ (j : Nat) (o : Oper), ops[j]? = some o → StepT g cx df ops.toList E Hh V X j o
  ok : ∀ (j : Nat) (o : Oper), ops[j]? = some o → operOk n ops.toList o = true
  dr : ∀ (j : Nat) (o : Oper), ops[j]? = some o → drawnOk (opK g o.op) = true
  ind : ∀ (k j : Nat) (ok oj : Oper), k < j → ops[k]? = some ok → ops[j]? = some oj → X k = true → X j = true → (nthN ms j).testBit k = false → Ind (recAt E Hh k ok) (recAt E Hh j oj)
  apart : ∀ (k j : Nat) (ok oj : Oper), k < j → ops[k]? = some ok → ops[j]? = some oj → (nthN ms j).testBit k = false → apartD (mkDO g ops.toList ok) (mkDO g ops.toList oj) = true
  es : ∀ (j : Nat) (o : Oper), ops[j]? = some o → ∀ e ∈ edgesOf o, e < j
  msk : ∀ (j : Nat) (o : Oper) (k : Nat), ops[j]? = some o → (nthN ms j).testBit k = true → ∃ e ∈ edgesOf o, k = e ∨ (nthN ms e).testBit k = true
  text : ∀ (i : Nat), i ≤ ops.size → ∃ (ι : Nam) (t : Array Value) (w : World), EnvR ι n (E i) t ∧ WR ι (Hh i) w
  sf : ∀ (i : Nat), i < ops.size → X i = true → SF (Hh i) (Hh (i + 1)) (wl Hh i)
section
variable {P : Program} {g : G} {n : Nat} {cx : Cx} {df : List Df} {ops : Array Oper} {ms : List Nat} {E : Nat → Env} {Hh : Nat → H} {V : Nat → AV} {X : Nat → Bool} {S : Nat → Bool}
theorem opAt {i : Nat} (h : i < ops.size) : ∃ o, ops[i]? = some o := ⟨ops[i], Array.getElem?_eq_getElem h⟩
theorem opLt {i : Nat} {o : Oper} (h : ops[i]? = some o) : i < ops.size := (Array.getElem?_eq_some_iff.1 h).1
theorem Rg.next1 (R : Rg g n cx df ops ms E Hh V X) {i : Nat} (hi : i < ops.size) : (Hh i).next ≤ (Hh (i + 1)).next := by
  cases hx : X i with
  | true => exact (R.sf i hi hx).next
  | false =>
    obtain ⟨o, ho⟩ := opAt hi
    rw [((R.st i o ho).no hx).2.2]; exact Nat.le_refl _
theorem Rg.mono (R : Rg g n cx df ops ms E Hh V X) {i : Nat} : ∀ {j : Nat}, i ≤ j → j ≤ ops.size → (Hh i).next ≤ (Hh j).next
  | 0, h, _ => by have : i = 0 := by omega
                  subst this; exact Nat.le_refl _
  | j + 1, h, hj => by
    by_cases c : i = j + 1
    · subst c; exact Nat.le_refl _
    · exact Nat.le_trans (R.mono (j := j) (by omega) (by omega)) (R.next1 (by omega))
theorem rec_lo {i : Nat} {o : Oper} : (recAt E Hh i o).lo = (Hh i).next := by unfold recAt recO; split <;> rfl
theorem rec_hi {i : Nat} {o : Oper} : (recAt E Hh i o).hi = (Hh (i + 1)).next := by unfold recAt recO; split <;> rfl
theorem Rg.wrt (R : Rg g n cx df ops ms E Hh V X) {i : Nat} {o : Oper} (ho : ops[i]? = some o) (hx : X i = true) {b : Nat} (hb : b ∈ wl Hh i) (hl : b < (Hh i).next) : b ∈ (recAt E Hh i o).wrt := by
  have sf := R.sf i (opLt ho) hx
  have : (recAt E Hh i o).wrt = below (Hh i).next (Nat.sub (Hh (i + 1)).ln (Hh i).ln) (Hh (i + 1)).log := by unfold recAt recO; split <;> rfl
  rw [this, sf.ln, sf.log]
  have e : Nat.sub ((Hh i).ln + (wl Hh i).length) (Hh i).ln = (wl Hh i).length := Nat.add_sub_cancel_left _ _
  rw [e]
  exact below_mem hb hl
/-- a block that an operation may look at -/
def Acc (E : Nat → Env) (Hh : Nat → H) (i : Nat) (o : Oper) (b : Nat) : Prop := (recAt E Hh i o).call = true ∨ b ∈ (recAt E Hh i o).acc
theorem acc_wrt {i : Nat} {o : Oper} {b : Nat} (h : b ∈ (recAt E Hh i o).wrt) : Acc E Hh i o b := by
  unfold Acc
  unfold recAt recO at h ⊢
  split at h
  · right; exact List.mem_append_right _ h
  · left; rfl
theorem Rg.cur (R : Rg g n cx df ops ms E Hh V X) {b : Nat} : ∀ {i : Nat}, i ≤ ops.size → b < (Hh i).next → curH Hh (Tch Hh X) (fun _ => true) i b = (Hh i).get b
  | 0, _, hb => by simp only [curH]; rw [if_pos hb]
  | i + 1, hi, hb => by
    simp only [curH]
    by_cases c : Tch Hh X i b
    · rw [if_pos ⟨rfl, c⟩]
    · rw [if_neg (fun x => c x.2)]
      obtain ⟨o, ho⟩ := opAt (show i < ops.size by omega)
      cases hx : X i with
      | false =>
        have e := ((R.st i o ho).no hx).2.2
        rw [e] at hb ⊢
        exact R.cur (by omega) hb
      | true =>
        have sf := R.sf i (by omega) hx
        have h1 : b ∉ wl Hh i := fun d => c ⟨hx, hb, .inl d⟩
        have h2 : b < (Hh i).next := by
          rcases Nat.lt_or_ge b (Hh i).next with d | d
          · exact d
          · exact absurd ⟨hx, hb, .inr d⟩ c
        rw [sf.kept b h2 h1]
        exact R.cur (by omega) h2
/-- done: with each, all for whom it waits -/
def Closed (N : Nat) (ms : List Nat) (S : Nat → Bool) : Prop := ∀ j k, j < N → S j = true → (nthN ms j).testBit k = true → S k = true
theorem not_bit {S : Nat → Bool} (hc : Closed ops.size ms S) {i j : Nat} (hi : S i = false) (hj : S j = true) (hjn : j < ops.size) : (nthN ms j).testBit i = false := by
  cases hb : (nthN ms j).testBit i
  · rfl
  · rw [hc j i hjn hj hb] at hi; cases hi
/-- what an operation looks at stands as it stood in the text's order -/
theorem Rg.seen (R : Rg g n cx df ops ms E Hh V X) (hc : Closed ops.size ms S) {i : Nat} {o : Oper} (ho : ops[i]? = some o) (hS : S i = false) (hr : ∀ k, (nthN ms i).testBit k = true → S k = true) (hx : X i = true)
    {b : Nat} (hb : b < (Hh i).next) (ha : Acc E Hh i o b) : curH Hh (Tch Hh X) S ops.size b = (Hh i).get b := by
  have hi := opLt ho
  rw [curH_later (i := i) (by omega), ← R.cur (Nat.le_of_lt hi) hb]
  · refine curH_agree fun k hk ht => ?_
    obtain ⟨ok, hok⟩ := opAt (show k < ops.size by omega)
    cases hs : S k with
    | true => rfl
    | false =>
      exfalso
      have hnb : (nthN ms i).testBit k = false := by
        cases hb2 : (nthN ms i).testBit k
        · rfl
        · rw [hr k hb2] at hs; cases hs
      obtain ⟨i1, _, i3⟩ := R.ind k i ok o hk hok ho ht.1 hx hnb
      rcases Nat.lt_or_ge b (Hh k).next with d | d
      · rcases ht.2.2 with e | e
        · exact i1 b (R.wrt hok ht.1 e d) ha
        · omega
      · exact i3 b (by rw [rec_lo]; exact d) (by rw [rec_hi]; exact ht.2.1) ha
  · intro j hj hjn hsj ht
    by_cases e : j = i
    · subst e; rw [hS] at hsj; cases hsj
    · obtain ⟨oj, hoj⟩ := opAt hjn
      have hnb := not_bit hc hS hsj hjn
      obtain ⟨_, i2, _⟩ := R.ind i j o oj (by omega) ho hoj hx ht.1 hnb
      have hm := R.mono (i := i) (j := j) (by omega) (by omega)
      rcases ht.2.2 with d | d
      · exact i2 b (R.wrt hoj ht.1 d (by omega)) ha
      · omega
/-- what an operation has touched, none of those done after it in the text touches -/
theorem Rg.last (R : Rg g n cx df ops ms E Hh V X) (hc : Closed ops.size ms S) {i : Nat} {o : Oper} (ho : ops[i]? = some o) (hS : S i = false) {b : Nat} (hb : Tch Hh X i b) :
    curH Hh (Tch Hh X) (ins S i) ops.size b = (Hh (i + 1)).get b := by
  have hi := opLt ho
  rw [curH_later (i := i + 1) (by omega)]
  · simp only [curH]
    rw [if_pos ⟨ins_same _ _, hb⟩]
  · intro j hj hjn hsj ht
    rw [ins_ne _ (by omega)] at hsj
    obtain ⟨oj, hoj⟩ := opAt hjn
    have hnb := not_bit hc hS hsj hjn
    obtain ⟨i1, _, i3⟩ := R.ind i j o oj (by omega) ho hoj hb.1 ht.1 hnb
    have hm := R.mono (i := i + 1) (j := j) (by omega) (by omega)
    have hbj : b < (Hh j).next := Nat.lt_of_lt_of_le hb.2.1 hm
    have hwj : b ∈ (recAt E Hh j oj).wrt := by
      rcases ht.2.2 with d | d
      · exact R.wrt hoj ht.1 d hbj
      · omega
    rcases Nat.lt_or_ge b (Hh i).next with d | d
    · rcases hb.2.2 with e | e
      · exact i1 b (R.wrt ho hb.1 e d) (acc_wrt hwj)
      · omega
    · exact i3 b (by rw [rec_lo]; exact d) (by rw [rec_hi]; exact hb.2.1) (acc_wrt hwj)
theorem cur_other {i b : Nat} (hb : ¬ Tch Hh X i b) (N : Nat) : curH Hh (Tch Hh X) (ins S i) N b = curH Hh (Tch Hh X) S N b := by
  refine curH_agree fun k _ ht => ?_
  by_cases e : k = i
  · subst e; exact absurd ht hb
  · exact ins_ne S e

/-! ### slots -/
theorem dnOf_eq {o : Oper} : dnOf o = match o.dst with | some d => d + 1 | none => 0 := rfl
theorem Rg.slotE (R : Rg g n cx df ops ms E Hh V X) {t : Nat} (ht : t < n) (hn : n ≤ 256) : ∀ {i : Nat}, i ≤ ops.size → curE (fun t => (gT t).f (E 0)) (dnAt ops) V (fun _ => true) i t = (gT t).f (E i)
  | 0, _ => rfl
  | i + 1, hi => by
    obtain ⟨o, ho⟩ := opAt (show i < ops.size by omega)
    have he := (R.st i o ho).env
    have hok := R.ok i o ho
    have ih := R.slotE ht hn (i := i) (by omega)
    simp only [curE]
    have hd : dnAt ops i = dnOf o := by unfold dnAt; rw [ho]
    rw [hd, he, ih, dnOf_eq]
    cases hdst : o.dst with
    | none =>
      rw [if_neg (by simp)]; rfl
    | some d =>
      have hdn := oper_dst hok d hdst
      show _ = (gT t).f ((pT d).f (V i) (E i))
      by_cases c : d = t
      · subst c
        rw [if_pos ⟨trivial, rfl⟩, gT_pT_same (Nat.lt_of_lt_of_le hdn hn)]
      · rw [if_neg (by simp; exact c), gT_pT_ne (Nat.lt_of_lt_of_le hdn hn) (Nat.lt_of_lt_of_le ht hn) c]
/-- the slots that an operation looks at -/
noncomputable def rdsOf (g : G) (ops : Array Oper) (o : Oper) : List Nat := (mkDO g ops.toList o).rs
theorem Rg.slotS (R : Rg g n cx df ops ms E Hh V X) (hc : Closed ops.size ms S) {i : Nat} {o : Oper} (ho : ops[i]? = some o) (hS : S i = false) (hr : ∀ k, (nthN ms i).testBit k = true → S k = true)
    {t : Nat} (ht : t < n) (hn : n ≤ 256) (hrd : t + 1 ∈ rdsOf g ops o) : curE (fun t => (gT t).f (E 0)) (dnAt ops) V S ops.size t = (gT t).f (E i) := by
  have hi := opLt ho
  rw [curE_later (i := i) (by omega), ← R.slotE ht hn (Nat.le_of_lt hi)]
  · refine curE_agree fun k hk hd => ?_
    obtain ⟨ok, hok⟩ := opAt (show k < ops.size by omega)
    cases hs : S k with
    | true => rfl
    | false =>
      exfalso
      have hnb : (nthN ms i).testBit k = false := by
        cases hb2 : (nthN ms i).testBit k
        · rfl
        · rw [hr k hb2] at hs; cases hs
      have hd' : (mkDO g ops.toList ok).dn = t + 1 := by
        have : dnAt ops k = dnOf ok := by unfold dnAt; rw [hok]
        rw [this] at hd; exact hd
      obtain ⟨h1, _⟩ := apartD_ok (R.apart k i ok o hk hok ho hnb)
      rw [hd'] at h1
      rcases h1 with h1 | h1
      · omega
      · exact h1.1 hrd
  · intro j hj hjn hsj hd
    by_cases e : j = i
    · subst e; rw [hS] at hsj; cases hsj
    · obtain ⟨oj, hoj⟩ := opAt hjn
      have hnb := not_bit hc hS hsj hjn
      have hd' : (mkDO g ops.toList oj).dn = t + 1 := by
        have : dnAt ops j = dnOf oj := by unfold dnAt; rw [hoj]
        rw [this] at hd; exact hd
      obtain ⟨_, h2⟩ := apartD_ok (R.apart i j o oj (by omega) ho hoj hnb)
      rw [hd'] at h2
      rcases h2 with h2 | h2
      · omega
      · exact h2 hrd
theorem Rg.slotI (R : Rg g n cx df ops ms E Hh V X) (hc : Closed ops.size ms S) {i : Nat} {o : Oper} (ho : ops[i]? = some o) (hS : S i = false) {t : Nat} :
    curE (fun t => (gT t).f (E 0)) (dnAt ops) V (ins S i) ops.size t = if dnOf o = t + 1 then V i else curE (fun t => (gT t).f (E 0)) (dnAt ops) V S ops.size t := by
  have hi := opLt ho
  have hdi : dnAt ops i = dnOf o := by unfold dnAt; rw [ho]
  by_cases c : dnOf o = t + 1
  · rw [if_pos c, curE_later (i := i + 1) (by omega)]
    · simp only [curE]
      rw [if_pos ⟨ins_same _ _, by rw [hdi]; exact c⟩]
    · intro j hj hjn hsj hd
      rw [ins_ne _ (by omega)] at hsj
      obtain ⟨oj, hoj⟩ := opAt hjn
      have hnb := not_bit hc hS hsj hjn
      obtain ⟨h1, _⟩ := apartD_ok (R.apart i j o oj (by omega) ho hoj hnb)
      have hdj : dnAt ops j = dnOf oj := by unfold dnAt; rw [hoj]
      rcases h1 with h1 | h1
      · have h1 : dnOf o = 0 := h1
        omega
      · have h1 : dnOf o ≠ dnOf oj := h1.2
        rw [hdj] at hd
        omega
  · rw [if_neg c]
    refine curE_agree fun k _ hd => ?_
    by_cases e : k = i
    · subst e; rw [hdi] at hd; exact absurd hd c
    · exact ins_ne S e
end
end Go.Proofs.YtlmcadgbnolffaaGreatDoor.Am
