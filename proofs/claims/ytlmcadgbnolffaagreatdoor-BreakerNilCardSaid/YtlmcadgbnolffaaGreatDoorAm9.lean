/- The machine's soundness, fourth part: lists of values, stores, new rows. -/
import Derived.Test.YtlmcadgbnolffaaGreatDoorAm8
namespace Go.Proofs.YtlmcadgbnolffaaGreatDoor.Am

theorem run_storeCells_of {P : Program} {b : Nat} {el : TypeId} {lo hi : Nat} : ∀ (l : List Value) (o i : Nat) (arr : Array Value) (w : World), w.heap[b]? = some (.cells arr el (lo, hi)) →
    (lo = hi ∨ arr.size ≤ lo) → o + i + l.length ≤ arr.size → (∀ v ∈ l, v.oneCell' = true) →
    (storeCells ⟨b, o, none⟩ l i).run P w = .ok () (World.putCells w b (layA arr (o + i) l) el (lo, hi))
  | [], o, i, arr, w, h, _, _, _ => by simp [storeCells, layA, putCells_same h]
  | v :: r, o, i, arr, w, h, hf, hs, h1 => by
    have hsz : o + i < arr.size := by simp at hs; omega
    have hfz : w.frozen? ⟨b, o + i, none⟩ = false := by
      simp only [World.frozen?, h]
      simp only [Bool.and_eq_false_iff, decide_eq_false_iff_not]
      rcases hf with hf | hf <;> omega
    simp only [storeCells, Sem.run_bind, addr_add]
    rw [run_store P w _ _ _ (h1 v (by simp)), cell?_of h, Array.getElem?_eq_getElem hsz]
    simp only [hfz, Bool.false_eq_true, if_false, Result.andThen_ok]
    rw [setCell_of h]
    have hb : b < w.heap.size := (Array.getElem?_eq_some_iff.1 h).1
    rw [run_storeCells_of r o (i + 1) (arr.setIfInBounds (o + i) v) _ (putCells_get hb) (by simpa using hf) (by simp at hs ⊢; omega) (fun u hu => h1 u (by simp [hu]))]
    rw [putCells_put]
    rfl

theorem chk_ok {v v' : AV} {h h' : H} (e : chk v h = .ok v' h') : v' = v ∧ h' = h ∧ v ≠ .bad := by
  cases v <;> simp only [chk, frc_eq] at e <;> first | (cases e; exact ⟨rfl, rfl, by simp⟩) | cases e

theorem chkV_ok {v v' : AV} {h h' : H} (e : chkV v h = .ok v' h') : v' = v ∧ h' = h := by
  cases v <;> simp only [chkV, frc_eq] at e <;> first | (cases e; exact ⟨rfl, rfl⟩) | cases e

/-! ### lists -/
section
variable {ι : Nam}
theorem VRs_nil {l : List Value} (h : VRs ι .nil l) : l = [] := h
theorem VRs_cons {a t : AV} {l : List Value} (h : VRs ι (.cons a t) l) : ∃ x xs, l = x :: xs ∧ VR ι a x ∧ VRs ι t xs := h
/-- induction along a list of values -/
theorem VRs_ind {Q : AV → List Value → Prop} (h0 : Q .nil []) (h1 : ∀ a t x xs, VR ι a x → VRs ι t xs → Q t xs → Q (.cons a t) (x :: xs)) : ∀ (a : AV) (l : List Value), VRs ι a l → Q a l := by
  intro a
  induction a with
  | nil => intro l h; cases VRs_nil h; exact h0
  | cons h t _ iht =>
    intro l hl
    obtain ⟨x, xs, rfl, hx, hxs⟩ := VRs_cons hl
    exact h1 h t x xs hx hxs (iht xs hxs)
  | _ => intro l h; exact h.elim
theorem llen_ok {a : AV} {l : List Value} (h : VRs ι a l) : llen a = l.length :=
  VRs_ind (ι := ι) (Q := fun a l => llen a = l.length) rfl (fun _ _ _ _ _ _ ih => congrArg Nat.succ ih) a l h
theorem lnth_ok {a : AV} {l : List Value} (h : VRs ι a l) (i : Nat) : VR ι (lnth a i) (l.getD i undef) := by
  refine VRs_ind (ι := ι) (Q := fun a l => ∀ i, VR ι (lnth a i) (l.getD i undef)) (fun i => trivial) (fun a t x xs hx _ ih i => ?_) a l h i
  cases i with
  | zero => exact hx
  | succ i => exact ih i
theorem lapp_ok {a b : AV} {l k : List Value} (h : VRs ι a l) (h' : VRs ι b k) : VRs ι (lapp a b) (l ++ k) :=
  VRs_ind (ι := ι) (Q := fun a l => VRs ι (lapp a b) (l ++ k)) h' (fun _ _ _ _ hx _ ih => ⟨_, _, rfl, hx, ih⟩) a l h
theorem ltake_ok {a : AV} {l : List Value} (h : VRs ι a l) (n : Nat) : VRs ι (ltake a n) (l.take n) := by
  refine VRs_ind (ι := ι) (Q := fun a l => ∀ n, VRs ι (ltake a n) (l.take n)) (fun n => by simp; rfl) (fun a t x xs hx _ ih n => ?_) a l h n
  cases n with
  | zero => rfl
  | succ n => exact ⟨_, _, rfl, hx, ih n⟩
theorem ldrop_ok {a : AV} {l : List Value} (h : VRs ι a l) (n : Nat) : VRs ι (ldrop a n) (l.drop n) := by
  refine VRs_ind (ι := ι) (Q := fun a l => ∀ n, VRs ι (ldrop a n) (l.drop n)) (fun n => by simp; rfl) (fun a t x xs hx hxs ih n => ?_) a l h n
  cases n with
  | zero => exact ⟨_, _, rfl, hx, hxs⟩
  | succ n => exact ih n
theorem repL_ok {a : AV} {l : List Value} (h : VRs ι a l) : ∀ n, VRs ι (repL a n) ((List.replicate n l).flatten)
  | 0 => rfl
  | n + 1 => by
    rw [List.replicate_succ, List.flatten_cons]
    exact lapp_ok h (repL_ok h n)

theorem one_ok {v : AV} {x : Value} (h : VR ι v x) (h1 : one v = true) : x.oneCell' = true ∧ x.cells = #[x] ∧ cellsOf v = .cons v .nil := by
  cases v <;> simp only [one, Bool.false_eq_true] at h1
  case unk =>
    refine ⟨h, ?_, rfl⟩
    have h : x.oneCell' = true := h
    cases x <;> first | rfl | cases h
  case bool => cases h; exact ⟨rfl, rfl, rfl⟩
  case int => cases h; exact ⟨rfl, rfl, rfl⟩
  case str => obtain ⟨b, rfl, _⟩ := h; exact ⟨rfl, rfl, rfl⟩
  case ptr => obtain ⟨m, _, rfl⟩ := h; exact ⟨rfl, rfl, rfl⟩
  case nilp => cases h; exact ⟨rfl, rfl, rfl⟩
  case slice => obtain ⟨m, y, cap, _, rfl, _⟩ := h; exact ⟨rfl, rfl, rfl⟩
  case nils => cases h; exact ⟨rfl, rfl, rfl⟩
  case map => obtain ⟨m, _, rfl⟩ := h; exact ⟨rfl, rfl, rfl⟩
  case nilm => cases h; exact ⟨rfl, rfl, rfl⟩
  case fn => obtain ⟨xs, ys, rfl, _⟩ := h; exact ⟨rfl, rfl, rfl⟩
  case yld => obtain ⟨m, _, rfl⟩ := h; exact ⟨rfl, rfl, rfl⟩
  case nilf => cases h; exact ⟨rfl, rfl, rfl⟩
  case ifc => obtain ⟨y, rfl, _⟩ := h; exact ⟨rfl, rfl, rfl⟩
  case nili => cases h; exact ⟨rfl, rfl, rfl⟩
theorem ones_ok {a : AV} {l : List Value} (h : VRs ι a l) (h1 : ones a = true) : ∀ v ∈ l, v.oneCell' = true := by
  refine VRs_ind (ι := ι) (Q := fun a l => ones a = true → ∀ v ∈ l, v.oneCell' = true) (fun _ v hv => by cases hv) (fun a t x xs hx _ ih h1 => ?_) a l h h1
  have : one a = true ∧ ones t = true := by
    have h1' : Bool.rec false (ones t) (one a) = true := h1
    cases ho : one a
    · rw [ho] at h1'; cases h1'
    · rw [ho] at h1'; exact ⟨rfl, h1'⟩
  intro v hv
  rcases List.mem_cons.1 hv with rfl | hv
  · exact (one_ok hx this.1).1
  · exact ih this.2 v hv
/-- the cells that are known stand at the head of those that there are -/
theorem cellsOf_ok {v : AV} {x : Value} (h : VR ι v x) : ∃ l, VRs ι (cellsOf v) l ∧ (l = x.cells.toList ∨ l = []) := by
  cases v
  case agg cs => obtain ⟨xs, rfl, hx⟩ := h; exact ⟨_, hx, .inl rfl⟩
  case bad => exact ⟨[], rfl, .inr rfl⟩
  case tup => exact ⟨[], rfl, .inr rfl⟩
  case nil => exact h.elim
  case cons => exact h.elim
  all_goals
    obtain ⟨_, hc, _⟩ := one_ok h rfl
    rw [hc]
    exact ⟨_, ⟨_, _, rfl, h, rfl⟩, .inl rfl⟩
end

/-! ### trees of cells -/
theorem rdN_ok {ι : Nam} {d : Nat} {t : E AV d} {arr : Array Value} {sh : Nat} : ∀ (n i : Nat), (∀ j, i ≤ j → j < i + n → VR ι (E.get d (path d j) t) (arr.getD (sh + j) undef)) →
    VRs ι (rdN d t n i) ((List.range n).map fun j => arr.getD (sh + i + j) undef)
  | 0, i, _ => rfl
  | n + 1, i, h => by
    rw [List.range_succ_eq_map, List.map_cons, List.map_map]
    refine ⟨_, _, rfl, (by have := h i (by omega) (by omega); rw [Nat.add_zero]; exact this), ?_⟩
    have := rdN_ok (sh := sh) n (i + 1) (fun j h1 h2 => h j (by omega) (by omega))
    have e : ((fun j => arr.getD (sh + i + j) undef) ∘ Nat.succ) = fun j => arr.getD (sh + (i + 1) + j) undef := by
      funext j; simp only [Function.comp]; rw [show sh + i + Nat.succ j = sh + (i + 1) + j by omega]
    rw [e]; exact this
/-- values laid into a tree -/
theorem wrL_get {ι : Nam} {d : Nat} (n : Nat) (hn : n ≤ 4 ^ d) {a : AV} {l : List Value} (h : VRs ι a l) : ∀ (o i : Nat) (t : E AV d), o + l.length ≤ n → i < n →
    E.get d (path d i) (wrL d a o t) = if o ≤ i ∧ i < o + l.length then lnth a (i - o) else E.get d (path d i) t := by
  refine VRs_ind (ι := ι) (Q := fun a l => ∀ (o i : Nat) (t : E AV d), o + l.length ≤ n → i < n →
    E.get d (path d i) (wrL d a o t) = if o ≤ i ∧ i < o + l.length then lnth a (i - o) else E.get d (path d i) t) ?_ ?_ a l h
  · intro o i t _ _
    rw [if_neg (by simp)]; rfl
  · intro a r x xs _ _ ih o i t ho hi
    have e : wrL d (.cons a r) o t = wrL d r (o + 1) (E.put a d (path d o) t) := rfl
    simp only [List.length_cons] at ho ⊢
    rw [e, ih (o + 1) i _ (by omega) hi]
    by_cases h1 : i = o
    · subst h1
      rw [if_neg (by omega), if_pos (by omega), Nat.sub_self]
      exact E.get_put_same _ _ _ _
    · by_cases h2 : o + 1 ≤ i ∧ i < o + 1 + xs.length
      · rw [if_pos h2, if_pos (by omega)]
        obtain ⟨k, rfl⟩ : ∃ k, i = o + 1 + k := ⟨i - (o + 1), by omega⟩
        rw [show o + 1 + k - (o + 1) = k by omega, show o + 1 + k - o = k + 1 by omega]
        rfl
      · rw [if_neg h2, if_neg (by omega)]
        exact E.get_put_ne _ _ _ _ (by omega) (by omega) (fun e => h1 e.symm) _

end Go.Proofs.YtlmcadgbnolffaaGreatDoor.Am
