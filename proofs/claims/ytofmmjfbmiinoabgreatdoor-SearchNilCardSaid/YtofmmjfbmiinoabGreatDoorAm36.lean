/- The machine's soundness, for drawn regions: what the machine's run through the text says. -/
/- The machine's soundness, for drawn regions: who waits for whom; what stands in a slot, and in a block, after some of the operations. -/
import Derived.Test.YtofmmjfbmiinoabGreatDoorAm34
namespace Go.Proofs.YtofmmjfbmiinoabGreatDoor.Am
noncomputable section
/-- what an operation does, of which blocks it looks at -/
def recO (op : Op) (i : Nat) (en : Env) (h h' : H) : Rc :=
  match accOf op with
  | some f => ⟨i, false, List.append (f en) (below h.next (Nat.sub h'.ln h.ln) h'.log), below h.next (Nat.sub h'.ln h.ln) h'.log, h.next, h'.next⟩
  | none => ⟨i, true, [], below h.next (Nat.sub h'.ln h.ln) h'.log, h.next, h'.next⟩
/-- what a guard says -/
def gdT (ops : List Oper) (o : Oper) (en : Env) : OB :=
  match o.guard with
  | none => .t
  | some (j, w) => gsel w ((match dstAt ops j with | some t => gT t | none => (⟨fun _ => .bad⟩ : EV)).f en)
structure StepT (g : G) (cx : Cx) (df : List Df) (ops : List Oper) (E : Nat → Env) (Hh : Nat → H) (V : Nat → AV) (X : Nat → Bool) (i : Nat) (o : Oper) : Prop where
  env : E (i + 1) = (pO o.dst).f (V i) (E i)
  run : X i = true → gdT ops o (E i) = .t ∧ OpR cx (opK g o.op) (E i) (Hh i) df (V i) (Hh (i + 1)) df
  no : X i = false → gdT ops o (E i) = .f ∧ V i = .tup .nil ∧ Hh (i + 1) = Hh i
def upd {α : Type} (f : Nat → α) (i : Nat) (x : α) : Nat → α := fun j => if j = i then x else f j
theorem upd_same {α : Type} (f : Nat → α) (i : Nat) (x : α) : upd f i x i = x := by simp [upd]
theorem upd_ne {α : Type} (f : Nat → α) {i j : Nat} (x : α) (h : j ≠ i) : upd f i x j = f j := by simp [upd, h]
theorem stepD_eq (g : G) (cx : Cx) (ops : List Oper) (o : Oper) (i pm : Nat) (en : Env) (h : H) (df : List Df) (rs : List Rc) (k : List Rc → Env → H → List Df → XR) :
    stepD cx (mkDO g ops o) i pm en h df rs k = match gdT ops o en with
      | .t => (bodyK o.dst (opK g o.op) ⟨fun _ en' h' df' => doneD (mkDO g ops o) i pm en h rs k en' h' df'⟩).k cx en h df
      | .f => k rs ((pO o.dst).f (.tup .nil) en) h df
      | .none => .fail := by
  unfold stepD gdT mkDO
  cases hg : o.guard with
  | none => rfl
  | some jw => obtain ⟨j, w⟩ := jw; rfl
theorem doneD_eq (g : G) (ops : List Oper) (o : Oper) (i pm : Nat) (en : Env) (h : H) (rs : List Rc) (k : List Rc → Env → H → List Df → XR) (en' : Env) (h' : H) (df' : List Df) :
    doneD (mkDO g ops o) i pm en h rs k en' h' df' = match compats pm (recO o.op i en h h') rs with
      | true => k (match quiet (recO o.op i en h h') with | true => rs | false => recO o.op i en h h' :: rs) en' h' df'
      | false => .fail := rfl
theorem kDr_cons (g : G) (ms : List Nat) (cx : Cx) (ops : List Oper) (o : Oper) (l : List DO) (i : Nat) (rs : List Rc) (en : Env) (h : H) (df : List Df) :
    kDr ms cx (mkDO g ops o :: l) i rs en h df = stepD cx (mkDO g ops o) i (nthN ms i) en h df rs (kDr ms cx l (i + 1)) := rfl
theorem compats_ok {pm : Nat} {r : Rc} : ∀ {rs : List Rc}, compats pm r rs = true → ∀ q ∈ rs, Nat.testBit pm q.i = true ∨ compat q r = true
  | [], _, q, hq => by cases hq
  | x :: rs, h, q, hq => by
    have e : compats pm r (x :: rs) = Bool.rec false (compats pm r rs) (Bool.rec (compat x r) true (Nat.testBit pm x.i)) := rfl
    rw [e] at h
    have h1 : (Bool.rec (compat x r) true (Nat.testBit pm x.i) : Bool) = true ∧ compats pm r rs = true := by
      cases hb : (Bool.rec (compat x r) true (Nat.testBit pm x.i) : Bool)
      · rw [hb] at h; cases h
      · rw [hb] at h; exact ⟨rfl, h⟩
    rcases List.mem_cons.1 hq with rfl | hq
    · cases ht : Nat.testBit pm q.i
      · rw [ht] at h1; exact .inr h1.1
      · exact .inl rfl
    · exact compats_ok h1.2 q hq
theorem drawn_df {g : G} {cx : Cx} {o : Oper} {en : Env} {h h' : H} {df df' : List Df} {v : AV} (hd : drawnOk (opK g o.op) = true) (e : OpR cx (opK g o.op) en h df v h' df') : df' = df := by
  cases hk : opK g o.op with
  | plain x => rw [hk] at e; exact e.2
  | call f as => rw [hk] at e; exact e.2
  | defer f as => rw [hk] at hd; cases hd
  | recover => rw [hk] at hd; cases hd
theorem kDr_inv {g : G} {ms : List Nat} {cx : Cx} {df : List Df} {ops : List Oper} : ∀ (l : List Oper) (i : Nat) (rs : List Rc) (en : Env) (h : H), (∀ o ∈ l, drawnOk (opK g o.op) = true) →
    kDr ms cx (l.map (mkDO g ops)) i rs en h df ≠ .fail →
    ∃ (E : Nat → Env) (Hh : Nat → H) (V : Nat → AV) (X : Nat → Bool), E i = en ∧ Hh i = h ∧ kDr ms cx (l.map (mkDO g ops)) i rs en h df = .norm (E (i + l.length)) (Hh (i + l.length)) df ∧
      (∀ j o, l[j]? = some o → StepT g cx df ops E Hh V X (i + j) o) ∧
      (∀ j o, l[j]? = some o → X (i + j) = true → ∀ q ∈ rs, Nat.testBit (nthN ms (i + j)) q.i = true ∨ compat q (recO o.op (i + j) (E (i + j)) (Hh (i + j)) (Hh (i + j + 1))) = true) ∧
      (∀ k j ok oj, k < j → l[k]? = some ok → l[j]? = some oj → X (i + k) = true → X (i + j) = true →
        quiet (recO ok.op (i + k) (E (i + k)) (Hh (i + k)) (Hh (i + k + 1))) = true ∨ Nat.testBit (nthN ms (i + j)) (i + k) = true ∨
        compat (recO ok.op (i + k) (E (i + k)) (Hh (i + k)) (Hh (i + k + 1))) (recO oj.op (i + j) (E (i + j)) (Hh (i + j)) (Hh (i + j + 1))) = true)
  | [], i, rs, en, h, _, _ => ⟨fun _ => en, fun _ => h, fun _ => .bad, fun _ => false, rfl, rfl, rfl, fun j o e => by simp at e, fun j o e => by simp at e, fun k j ok oj _ e => by simp at e⟩
  | o :: l, i, rs, en, h, hd, hne => by
    rw [List.map_cons, kDr_cons, stepD_eq] at hne ⊢
    have hd1 := hd o (by simp)
    have hd2 : ∀ o ∈ l, drawnOk (opK g o.op) = true := fun o ho => hd o (by simp [ho])
    cases hg : gdT ops o en with
    | none => rw [hg] at hne; exact absurd rfl hne
    | f =>
      rw [hg] at hne
      dsimp only at hne ⊢
      obtain ⟨E, Hh, V, X, e1, e2, e3, s1, s2, s3⟩ := kDr_inv l (i + 1) rs _ h hd2 hne
      have i1 : i + 1 ≠ i := by omega
      have ne : ∀ j, i + 1 + j ≠ i := fun j => by omega
      have ne' : ∀ j, i + 1 + j + 1 ≠ i := fun j => by omega
      have st : ∀ j o', l[j]? = some o' → StepT g cx df ops (upd E i en) (upd Hh i h) (upd V i (.tup .nil)) (upd X i false) (i + 1 + j) o' := fun j o' ho => by
        have := s1 j o' ho
        refine ⟨?_, ?_, ?_⟩
        · rw [upd_ne _ _ (ne' j), upd_ne _ _ (ne j), upd_ne _ _ (ne j)]; exact this.env
        · rw [upd_ne _ _ (ne j), upd_ne _ _ (ne j), upd_ne _ _ (ne j), upd_ne _ _ (ne j), upd_ne _ _ (ne' j)]; exact this.run
        · rw [upd_ne _ _ (ne j), upd_ne _ _ (ne j), upd_ne _ _ (ne j), upd_ne _ _ (ne j), upd_ne _ _ (ne' j)]; exact this.no
      refine ⟨upd E i en, upd Hh i h, upd V i (.tup .nil), upd X i false, upd_same _ _ _, upd_same _ _ _, ?_, ?_, ?_, ?_⟩
      · rw [e3, List.length_cons, show i + (l.length + 1) = i + 1 + l.length by omega, upd_ne _ _ (ne _), upd_ne _ _ (ne _)]
      · intro j o' ho
        cases j with
        | zero =>
          obtain rfl : o = o' := by simpa using ho
          rw [Nat.add_zero]
          refine ⟨?_, fun hx => ?_, fun _ => ⟨?_, upd_same _ _ _, ?_⟩⟩
          · rw [upd_ne _ _ i1, upd_same, upd_same]; exact e1
          · rw [upd_same] at hx; cases hx
          · rw [upd_same]; exact hg
          · rw [upd_ne _ _ i1, upd_same]; exact e2
        | succ j =>
          rw [show i + (j + 1) = i + 1 + j by omega]
          exact st j o' (by simpa using ho)
      · intro j o' ho hx
        cases j with
        | zero => rw [Nat.add_zero, upd_same] at hx; cases hx
        | succ j =>
          rw [show i + (j + 1) = i + 1 + j by omega] at hx ⊢
          rw [upd_ne _ _ (ne j)] at hx
          have := s2 j o' (by simpa using ho) hx
          rw [upd_ne _ _ (ne j), upd_ne _ _ (ne j), upd_ne _ _ (ne' j)]
          exact this
      · intro k j ok oj hkj hk hj hxk hxj
        cases k with
        | zero => rw [Nat.add_zero, upd_same] at hxk; cases hxk
        | succ k =>
          cases j with
          | zero => omega
          | succ j =>
            rw [show i + (k + 1) = i + 1 + k by omega] at hxk ⊢
            rw [show i + (j + 1) = i + 1 + j by omega] at hxj ⊢
            rw [upd_ne _ _ (ne k)] at hxk
            rw [upd_ne _ _ (ne j)] at hxj
            have := s3 k j ok oj (by omega) (by simpa using hk) (by simpa using hj) hxk hxj
            rw [upd_ne _ _ (ne k), upd_ne _ _ (ne k), upd_ne _ _ (ne' k), upd_ne _ _ (ne j), upd_ne _ _ (ne j), upd_ne _ _ (ne' j)]
            exact this
    | t =>
      rw [hg] at hne
      dsimp only at hne ⊢
      rcases body_inv (cx := cx) (en := en) (h := h) (df := df) o.dst (opK g o.op) ⟨fun _ en' h' df' => doneD (mkDO g ops o) i (nthN ms i) en h rs (kDr ms cx (l.map (mkDO g ops)) (i + 1)) en' h' df'⟩ with hb | ⟨v, h1, df1, hb, hr⟩
      · rw [hb] at hne; exact absurd rfl hne
      · obtain rfl := drawn_df hd1 hr
        rw [hb] at hne ⊢
        dsimp only at hne ⊢
        rw [doneD_eq] at hne ⊢
        cases hc : compats (nthN ms i) (recO o.op i en h h1) rs with
        | false => rw [hc] at hne; exact absurd rfl hne
        | true =>
          rw [hc] at hne
          dsimp only at hne ⊢
          obtain ⟨E, Hh, V, X, e1, e2, e3, s1, s2, s3⟩ := kDr_inv l (i + 1) _ _ h1 hd2 hne
          have hcs := compats_ok hc
          have i1 : i + 1 ≠ i := by omega
          have ne : ∀ j, i + 1 + j ≠ i := fun j => by omega
          have ne' : ∀ j, i + 1 + j + 1 ≠ i := fun j => by omega
          have hsub : ∀ q ∈ rs, q ∈ (match quiet (recO o.op i en h h1) with | true => rs | false => recO o.op i en h h1 :: rs) := fun q hq => by
            cases quiet (recO o.op i en h h1)
            · exact List.mem_cons_of_mem _ hq
            · exact hq
          have st : ∀ j o', l[j]? = some o' → StepT g cx df1 ops (upd E i en) (upd Hh i h) (upd V i v) (upd X i true) (i + 1 + j) o' := fun j o' ho => by
            have := s1 j o' ho
            refine ⟨?_, ?_, ?_⟩
            · rw [upd_ne _ _ (ne' j), upd_ne _ _ (ne j), upd_ne _ _ (ne j)]; exact this.env
            · rw [upd_ne _ _ (ne j), upd_ne _ _ (ne j), upd_ne _ _ (ne j), upd_ne _ _ (ne j), upd_ne _ _ (ne' j)]; exact this.run
            · rw [upd_ne _ _ (ne j), upd_ne _ _ (ne j), upd_ne _ _ (ne j), upd_ne _ _ (ne j), upd_ne _ _ (ne' j)]; exact this.no
          refine ⟨upd E i en, upd Hh i h, upd V i v, upd X i true, upd_same _ _ _, upd_same _ _ _, ?_, ?_, ?_, ?_⟩
          · rw [e3, List.length_cons, show i + (l.length + 1) = i + 1 + l.length by omega, upd_ne _ _ (ne _), upd_ne _ _ (ne _)]
          · intro j o' ho
            cases j with
            | zero =>
              obtain rfl : o = o' := by simpa using ho
              rw [Nat.add_zero]
              refine ⟨?_, fun _ => ⟨?_, ?_⟩, fun hx => ?_⟩
              · rw [upd_ne _ _ i1, upd_same, upd_same]; exact e1
              · rw [upd_same]; exact hg
              · rw [upd_ne _ _ i1, upd_same, upd_same, upd_same, e2]; exact hr
              · rw [upd_same] at hx; cases hx
            | succ j =>
              rw [show i + (j + 1) = i + 1 + j by omega]
              exact st j o' (by simpa using ho)
          · intro j o' ho hx q hq
            cases j with
            | zero =>
              obtain rfl : o = o' := by simpa using ho
              rw [Nat.add_zero, upd_ne _ _ i1, upd_same, upd_same, e2]
              exact hcs q hq
            | succ j =>
              rw [show i + (j + 1) = i + 1 + j by omega] at hx ⊢
              rw [upd_ne _ _ (ne j)] at hx
              have := s2 j o' (by simpa using ho) hx q (hsub q hq)
              rw [upd_ne _ _ (ne j), upd_ne _ _ (ne j), upd_ne _ _ (ne' j)]
              exact this
          · intro k j ok oj hkj hk hj hxk hxj
            cases j with
            | zero => omega
            | succ j =>
              rw [show i + (j + 1) = i + 1 + j by omega] at hxj ⊢
              rw [upd_ne _ _ (ne j)] at hxj
              have hj : l[j]? = some oj := by simpa using hj
              cases k with
              | zero =>
                obtain rfl : o = ok := by simpa using hk
                rw [Nat.add_zero, upd_ne _ _ i1, upd_same, upd_same, e2, upd_ne _ _ (ne j), upd_ne _ _ (ne j), upd_ne _ _ (ne' j)]
                cases hq : quiet (recO o.op i en h h1) with
                | true => exact .inl rfl
                | false =>
                  have := s2 j oj hj hxj (recO o.op i en h h1) (by rw [hq]; exact List.mem_cons_self)
                  have hi : (recO o.op i en h h1).i = i := by unfold recO; split <;> rfl
                  rw [hi] at this
                  exact .inr this
              | succ k =>
                rw [show i + (k + 1) = i + 1 + k by omega] at hxk ⊢
                rw [upd_ne _ _ (ne k)] at hxk
                have := s3 k j ok oj (by omega) (by simpa using hk) hj hxk hxj
                rw [upd_ne _ _ (ne k), upd_ne _ _ (ne k), upd_ne _ _ (ne' k), upd_ne _ _ (ne j), upd_ne _ _ (ne j), upd_ne _ _ (ne' j)]
                exact this

/-! ### neither waits for the other -/
def Ind (k i : Rc) : Prop := (∀ b ∈ k.wrt, ¬ (i.call = true ∨ b ∈ i.acc)) ∧ (∀ b ∈ i.wrt, ¬ (k.call = true ∨ b ∈ k.acc)) ∧ (∀ b, k.lo ≤ b → b < k.hi → ¬ (i.call = true ∨ b ∈ i.acc))
theorem memN_ok {x : Nat} : ∀ {l : List Nat}, memN x l = true ↔ x ∈ l
  | [] => ⟨(fun h => by cases h), (fun h => by cases h)⟩
  | y :: l => by
    have e : memN x (y :: l) = Bool.rec (memN x l) true (Nat.beq x y) := rfl
    rw [e]
    cases hb : Nat.beq x y
    · have hne : x ≠ y := fun c => by rw [c, Nat.beq_refl] at hb; cases hb
      rw [List.mem_cons]
      exact ⟨fun h => .inr (memN_ok.1 h), fun h => memN_ok.2 (h.resolve_left hne)⟩
    · obtain rfl := Nat.eq_of_beq_eq_true hb
      exact ⟨fun _ => by simp, fun _ => rfl⟩
theorem disj_ok : ∀ {a b : List Nat}, disj a b = true → ∀ x ∈ a, x ∉ b
  | [], _, _, x, hx => by cases hx
  | y :: a, b, h, x, hx => by
    have e : disj (y :: a) b = Bool.rec (disj a b) false (memN y b) := rfl
    rw [e] at h
    cases hm : memN y b
    · rw [hm] at h
      rcases List.mem_cons.1 hx with rfl | hx
      · intro c; rw [memN_ok.2 c] at hm; cases hm
      · exact disj_ok h x hx
    · rw [hm] at h; cases h
theorem noneIn_ok {lo hi : Nat} : ∀ {a : List Nat}, noneIn lo hi a = true → ∀ x ∈ a, lo ≤ x → x < hi → False
  | [], _, x, hx => by cases hx
  | y :: a, h, x, hx => by
    have e : noneIn lo hi (y :: a) = Bool.rec (noneIn lo hi a) (Bool.rec false (noneIn lo hi a) (Nat.ble hi y)) (Nat.ble lo y) := rfl
    rw [e] at h
    have h2 : noneIn lo hi a = true ∧ (lo ≤ y → y < hi → False) := by
      cases h1 : Nat.ble lo y
      · rw [h1] at h
        exact ⟨h, fun c => by rw [← Nat.ble_eq] at c; rw [c] at h1; cases h1⟩
      · rw [h1] at h
        cases h3 : Nat.ble hi y
        · rw [h3] at h; cases h
        · rw [h3] at h
          rw [Nat.ble_eq] at h3
          exact ⟨h, fun _ c => by omega⟩
    rcases List.mem_cons.1 hx with rfl | hx
    · exact h2.2
    · exact noneIn_ok h2.1 x hx
theorem isNilL_ok : ∀ {a : List Nat}, isNilL a = true → a = []
  | [], _ => rfl
  | _ :: _, h => by cases h
theorem compat_ok {k i : Rc} (h : compat k i = true) : Ind k i := by
  unfold compat at h
  split at h
  · rename_i hk hi
    obtain ⟨h1, h⟩ := and2_ok h
    obtain ⟨h2, h3⟩ := and2_ok h
    refine ⟨fun b hb c => ?_, fun b hb c => ?_, fun b hl hh c => ?_⟩
    · rcases c with c | c
      · rw [hi] at c; cases c
      · exact disj_ok h1 b hb c
    · rcases c with c | c
      · rw [hk] at c; cases c
      · exact disj_ok h2 b hb c
    · rcases c with c | c
      · rw [hi] at c; cases c
      · exact noneIn_ok h3 b c hl hh
  · rename_i hk hi
    obtain ⟨h1, h⟩ := and2_ok h
    obtain ⟨h2, h3⟩ := and2_ok h
    refine ⟨fun b hb c => ?_, fun b hb c => ?_, fun b hl hh c => ?_⟩
    · rcases c with c | c
      · rw [hi] at c; cases c
      · exact disj_ok h1 b hb c
    · rw [isNilL_ok h2] at hb; cases hb
    · rcases c with c | c
      · rw [hi] at c; cases c
      · exact noneIn_ok h3 b c hl hh
  · rename_i hk hi
    obtain ⟨h1, h⟩ := and2_ok h
    obtain ⟨h2, h3⟩ := and2_ok h
    have h3 := Nat.eq_of_beq_eq_true h3
    refine ⟨fun b hb c => ?_, fun b hb c => ?_, fun b hl hh c => ?_⟩
    · rw [isNilL_ok h1] at hb; cases hb
    · rcases c with c | c
      · rw [hk] at c; cases c
      · exact disj_ok h2 b hb c
    · omega
  · cases h
theorem quiet_ok {k i : Rc} (h : quiet k = true) : Ind k i := by
  unfold quiet at h
  obtain ⟨h1, h⟩ := and2_ok h
  obtain ⟨h2, h⟩ := and2_ok h
  obtain ⟨h3, h4⟩ := and2_ok h
  have h4 := Nat.eq_of_beq_eq_true h4
  refine ⟨fun b hb c => ?_, fun b hb c => ?_, fun b hl hh c => ?_⟩
  · rw [isNilL_ok h3] at hb; cases hb
  · rcases c with c | c
    · rw [c] at h1; cases h1
    · rw [isNilL_ok h2] at c; cases c
  · omega
theorem below_mem {lo b : Nat} : ∀ {W L : List Nat}, b ∈ W → b < lo → b ∈ below lo W.length (W ++ L)
  | [], _, h, _ => by cases h
  | x :: W, L, h, hlt => by
    have e : below lo (x :: W).length (x :: W ++ L) = Bool.rec (below lo W.length (W ++ L)) (x :: below lo W.length (W ++ L)) (Nat.ble (Nat.succ x) lo) := rfl
    rw [e]
    rcases List.mem_cons.1 h with rfl | h
    · have : Nat.ble (Nat.succ b) lo = true := by rw [Nat.ble_eq]; exact hlt
      rw [this]; exact List.mem_cons_self
    · have := below_mem (lo := lo) (L := L) h hlt
      cases Nat.ble (Nat.succ x) lo
      · exact this
      · exact List.mem_cons_of_mem _ this
end
end Go.Proofs.YtofmmjfbmiinoabGreatDoor.Am
namespace Go.Proofs.YtofmmjfbmiinoabGreatDoor.Am
/-! ### lists -/
theorem nthN_get : ∀ (l : List Nat) (i : Nat), nthN l i = l.getD i 0
  | [], i => by cases i <;> rfl
  | x :: l, 0 => rfl
  | x :: l, i + 1 => nthN_get l i
theorem nthN_app (a b : List Nat) (i : Nat) (h : i < a.length) : nthN (a ++ b) i = nthN a i := by
  rw [nthN_get, nthN_get, List.getD_eq_getElem?_getD, List.getElem?_append_left h, List.getD_eq_getElem?_getD]
theorem orMask_cons (ms : List Nat) (e : Nat) (es : List Nat) : orMask ms (e :: es) = ((2 ^ e ||| nthN ms e) ||| orMask ms es) := rfl
theorem orMask_congr {ms ms' : List Nat} : ∀ {es : List Nat}, (∀ e ∈ es, nthN ms e = nthN ms' e) → orMask ms es = orMask ms' es
  | [], _ => rfl
  | e :: es, h => by rw [orMask_cons, orMask_cons, h e (by simp), orMask_congr (fun x hx => h x (by simp [hx]))]
theorem orMask_bit {ms : List Nat} {k : Nat} : ∀ {es : List Nat}, (orMask ms es).testBit k = true → ∃ e ∈ es, k = e ∨ (nthN ms e).testBit k = true
  | [], h => by
    have : (0 : Nat).testBit k = true := h
    simp at this
  | e :: es, h => by
    rw [orMask_cons, Nat.testBit_or, Nat.testBit_or, Bool.or_eq_true, Bool.or_eq_true] at h
    rcases h with (h | h) | h
    · refine ⟨e, by simp, .inl ?_⟩
      rw [Nat.testBit_two_pow] at h
      exact (of_decide_eq_true h).symm
    · exact ⟨e, by simp, .inr h⟩
    · obtain ⟨e', he, r⟩ := orMask_bit h
      exact ⟨e', by simp [he], r⟩
theorem masks_cons (ms : List Nat) (o : DO) (l : List DO) : masks ms (o :: l) = masks (ms ++ [orMask ms o.es]) l := by
  show sN (orMask ms o.es) (fun m => masks (List.append ms [m]) l) = _
  rw [sN_eq]; rfl
theorem masks_pre : ∀ (l : List DO) (ms : List Nat) (i : Nat), i < ms.length → nthN (masks ms l) i = nthN ms i
  | [], _, _, _ => rfl
  | o :: l, ms, i, h => by
    rw [masks_cons, masks_pre l _ i (by simp; omega), nthN_app _ _ _ h]
theorem masks_at : ∀ (l : List DO) (ms : List Nat) (j : Nat) (o : DO), l[j]? = some o → (∀ e ∈ o.es, e < ms.length + j) → nthN (masks ms l) (ms.length + j) = orMask (masks ms l) o.es
  | [], _, _, _, h, _ => by simp at h
  | x :: l, ms, 0, o, h, he => by
    obtain rfl : x = o := by simpa using h
    rw [masks_cons, masks_pre l _ _ (by simp)]
    rw [nthN_get, List.getD_eq_getElem?_getD, Nat.add_zero, List.getElem?_append_right (Nat.le_refl _)]
    simp only [Nat.sub_self, List.getElem?_cons_zero, Option.getD_some]
    refine orMask_congr fun e hm => ?_
    have := he e hm
    rw [masks_pre l _ _ (by simp; omega), nthN_app _ _ _ (by omega)]
  | x :: l, ms, j + 1, o, h, he => by
    rw [masks_cons]
    have := masks_at l (ms ++ [orMask ms x.es]) j o (by simpa using h) (fun e hm => by have := he e hm; simp; omega)
    rw [List.length_append, List.length_singleton] at this
    rw [show ms.length + (j + 1) = ms.length + 1 + j by omega]
    exact this
theorem allLt_ok {i : Nat} : ∀ {es : List Nat}, allLt i es = true → ∀ e ∈ es, e < i
  | [], _, e, h => by cases h
  | x :: es, h, e, hm => by
    have e1 : allLt i (x :: es) = Bool.rec false (allLt i es) (Nat.ble (Nat.succ x) i) := rfl
    rw [e1] at h
    cases hb : Nat.ble (Nat.succ x) i
    · rw [hb] at h; cases h
    · rw [hb] at h
      rw [Nat.ble_eq] at hb
      rcases List.mem_cons.1 hm with rfl | hm
      · exact hb
      · exact allLt_ok h e hm
theorem apartAll_ok {o : DO} {pm : Nat} : ∀ {l : List DO} {i : Nat}, apartAll o pm l i = true → ∀ k x, l[k]? = some x → pm.testBit (i + k) = true ∨ apartD x o = true
  | [], _, _, k, x, h => by simp at h
  | y :: l, i, h, k, x, hk => by
    have e1 : apartAll o pm (y :: l) i = Bool.rec false (apartAll o pm l (i + 1)) (Bool.rec (apartD y o) true (Nat.testBit pm i)) := rfl
    rw [e1] at h
    have h2 : (Bool.rec (apartD y o) true (Nat.testBit pm i) : Bool) = true ∧ apartAll o pm l (i + 1) = true := by
      cases hb : (Bool.rec (apartD y o) true (Nat.testBit pm i) : Bool)
      · rw [hb] at h; cases h
      · rw [hb] at h; exact ⟨rfl, h⟩
    cases k with
    | zero =>
      obtain rfl : y = x := by simpa using hk
      rw [Nat.add_zero]
      cases ht : Nat.testBit pm i
      · rw [ht] at h2; exact .inr h2.1
      · exact .inl rfl
    | succ k =>
      have := apartAll_ok h2.2 k x (by simpa using hk)
      rwa [show i + 1 + k = i + (k + 1) by omega] at this
theorem okD_ok {ms : List Nat} : ∀ {l : List DO} {i : Nat} {ahead : List DO}, okD ms l i ahead = true → ∀ j o, l[j]? = some o →
    o.ok = true ∧ allLt (i + j) o.es = true ∧ apartAll o (nthN ms (i + j)) (ahead ++ l.take j) 0 = true
  | [], _, _, _, j, o, h => by simp at h
  | x :: l, i, ahead, h, j, o, hj => by
    have e1 : okD ms (x :: l) i ahead = and2 x.ok (and2 (apartAll x (nthN ms i) ahead 0) (and2 (allLt i x.es) (okD ms l (i + 1) (ahead ++ [x])))) := rfl
    rw [e1] at h
    obtain ⟨h1, h⟩ := and2_ok h
    obtain ⟨h2, h⟩ := and2_ok h
    obtain ⟨h3, h4⟩ := and2_ok h
    cases j with
    | zero =>
      obtain rfl : x = o := by simpa using hj
      rw [Nat.add_zero, List.take_zero, List.append_nil]
      exact ⟨h1, h3, h2⟩
    | succ j =>
      have := okD_ok h4 j o (by simpa using hj)
      rw [show i + 1 + j = i + (j + 1) by omega, List.append_assoc] at this
      exact this
/-- apart: neither looks at what the other says -/
theorem apartD_ok {a b : DO} (h : apartD a b = true) : (a.dn = 0 ∨ (a.dn ∉ b.rs ∧ a.dn ≠ b.dn)) ∧ (b.dn = 0 ∨ b.dn ∉ a.rs) := by
  unfold apartD at h
  obtain ⟨h1, h2⟩ := and2_ok h
  constructor
  · cases hz : Nat.beq a.dn (nat_lit 0)
    · rw [hz] at h1
      obtain ⟨h3, h4⟩ := and2_ok h1
      right
      constructor
      · intro c
        rw [memN_ok.2 c] at h3; cases h3
      · intro c
        rw [c, Nat.beq_refl] at h4; cases h4
    · exact .inl (Nat.eq_of_beq_eq_true hz)
  · cases hz : Nat.beq b.dn (nat_lit 0)
    · rw [hz] at h2
      right
      intro c
      rw [memN_ok.2 c] at h2; cases h2
    · exact .inl (Nat.eq_of_beq_eq_true hz)

/-! ### slots -/
section
variable (e0 : Nat → AV) (dn : Nat → Nat) (V : Nat → AV) (S S' : Nat → Bool)
/-- what stands in a slot, when those of S below i are done -/
def curE : Nat → Nat → AV
  | 0, t => e0 t
  | i + 1, t => if S i = true ∧ dn i = t + 1 then V i else curE i t
variable {e0 dn V S S'}
theorem curE_agree {i t : Nat} (h : ∀ k, k < i → dn k = t + 1 → S k = S' k) : curE e0 dn V S i t = curE e0 dn V S' i t := by
  induction i with
  | zero => rfl
  | succ i ih =>
    simp only [curE]
    by_cases c : dn i = t + 1
    · rw [h i (by omega) c, ih (fun k hk => h k (by omega))]
    · rw [if_neg (fun x => c x.2), if_neg (fun x => c x.2), ih (fun k hk => h k (by omega))]
theorem curE_later {i N t : Nat} (hN : i ≤ N) (h : ∀ j, i ≤ j → j < N → S j = true → dn j ≠ t + 1) : curE e0 dn V S N t = curE e0 dn V S i t := by
  induction N with
  | zero => have : i = 0 := by omega
            subst this; rfl
  | succ N ih =>
    by_cases c : i = N + 1
    · subst c; rfl
    · simp only [curE]
      rw [if_neg (fun x => h N (by omega) (by omega) x.1 x.2)]
      exact ih (by omega) (fun j h1 h2 => h j h1 (by omega))
end

/-! ### blocks -/
section
variable (Hh : Nat → H) (Tc : Nat → Nat → Prop) (S S' : Nat → Bool)
open Classical in
/-- what stands in a block, when those of S below i are done -/
noncomputable def curH : Nat → Nat → Option Blk
  | 0, b => if b < (Hh 0).next then (Hh 0).get b else none
  | i + 1, b => if S i = true ∧ Tc i b then (Hh (i + 1)).get b else curH i b
variable {Hh Tc S S'}
theorem curH_agree {i b : Nat} (h : ∀ k, k < i → Tc k b → S k = S' k) : curH Hh Tc S i b = curH Hh Tc S' i b := by
  induction i with
  | zero => rfl
  | succ i ih =>
    simp only [curH]
    by_cases c : Tc i b
    · rw [h i (by omega) c, ih (fun k hk => h k (by omega))]
    · rw [if_neg (fun x => c x.2), if_neg (fun x => c x.2), ih (fun k hk => h k (by omega))]
theorem curH_later {i N b : Nat} (hN : i ≤ N) (h : ∀ j, i ≤ j → j < N → S j = true → ¬ Tc j b) : curH Hh Tc S N b = curH Hh Tc S i b := by
  induction N with
  | zero => have : i = 0 := by omega
            subst this; rfl
  | succ N ih =>
    by_cases c : i = N + 1
    · subst c; rfl
    · simp only [curH]
      rw [if_neg (fun x => h N (by omega) (by omega) x.1 x.2)]
      exact ih (by omega) (fun j h1 h2 => h j h1 (by omega))
end

/-! ### how many are not done -/
def cnt (S : Nat → Bool) : Nat → Nat
  | 0 => 0
  | i + 1 => cnt S i + (if S i = true then 0 else 1)
def ins (S : Nat → Bool) (i : Nat) : Nat → Bool := fun j => if j = i then true else S j
theorem ins_same (S : Nat → Bool) (i : Nat) : ins S i i = true := by simp [ins]
theorem ins_ne (S : Nat → Bool) {i j : Nat} (h : j ≠ i) : ins S i j = S j := by simp [ins, h]
theorem cnt_ge {S : Nat → Bool} {i : Nat} : ∀ {N}, N ≤ i → cnt (ins S i) N = cnt S N
  | 0, _ => rfl
  | N + 1, h => by
    simp only [cnt]
    rw [cnt_ge (by omega), ins_ne S (by omega)]
theorem cnt_ins {S : Nat → Bool} {i : Nat} (hi : S i = false) : ∀ {N}, i < N → cnt (ins S i) N + 1 = cnt S N
  | 0, h => by omega
  | N + 1, h => by
    simp only [cnt]
    by_cases c : i = N
    · subst c
      rw [cnt_ge (Nat.le_refl _), ins_same, hi]
      simp
    · rw [ins_ne S (by omega)]
      have := cnt_ins hi (N := N) (by omega)
      omega
theorem cnt_zero {S : Nat → Bool} : ∀ {N}, cnt S N = 0 → ∀ j, j < N → S j = true
  | 0, _, j, h => by omega
  | N + 1, h, j, hj => by
    simp only [cnt] at h
    by_cases c : j = N
    · subst c
      by_cases hs : S j = true
      · exact hs
      · rw [if_neg hs] at h; omega
    · exact cnt_zero (N := N) (by omega) j (by omega)
theorem cnt_pos {S : Nat → Bool} : ∀ {N}, cnt S N ≠ 0 → ∃ j, j < N ∧ S j = false ∧ ∀ k, k < j → S k = true
  | 0, h => absurd rfl h
  | N + 1, h => by
    by_cases c : cnt S N = 0
    · have hall := cnt_zero c
      simp only [cnt, c] at h
      refine ⟨N, by omega, ?_, hall⟩
      cases hs : S N
      · rfl
      · rw [hs] at h; simp at h
    · obtain ⟨j, h1, h2, h3⟩ := cnt_pos (N := N) c
      exact ⟨j, by omega, h2, h3⟩

/-! ### an environment, cut down to some slots -/
noncomputable def maskE (en : Env) : List Nat → Env
  | [] => env0
  | t :: l => (pT t).f ((gT t).f en) (maskE en l)
theorem maskE_get {en : Env} {t : Nat} (ht : t < 256) : ∀ {l : List Nat}, (∀ x ∈ l, x < 256) → (gT t).f (maskE en l) = if t ∈ l then (gT t).f en else .bad
  | [], _ => by rw [if_neg (by simp)]; exact gT_env0 ht
  | x :: l, h => by
    have hx := h x (by simp)
    have ih := maskE_get (en := en) ht (l := l) (fun y hy => h y (by simp [hy]))
    simp only [maskE]
    by_cases c : x = t
    · subst c
      rw [gT_pT_same hx, if_pos (by simp)]
    · rw [gT_pT_ne hx ht c, ih]
      by_cases d : t ∈ l
      · rw [if_pos d, if_pos (by simp [d])]
      · rw [if_neg d, if_neg (by simp [d]; exact fun e => c e.symm)]
end Go.Proofs.YtofmmjfbmiinoabGreatDoor.Am
