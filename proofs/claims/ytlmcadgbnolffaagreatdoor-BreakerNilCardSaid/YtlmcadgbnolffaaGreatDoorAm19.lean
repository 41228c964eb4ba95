/- The machine's soundness: utf-8; the next rune of a string. -/
import Derived.Test.YtlmcadgbnolffaaGreatDoorAm18
namespace Go.Proofs.YtlmcadgbnolffaaGreatDoor.Am
theorem get_byte (b : ByteArray) (j : Nat) (hj : j < b.size) : (b.get! j).toNat = (Str.of b).byte j := by
  rw [Str.byte_ok b j hj]
  have hj' : j < b.data.size := hj
  have e : b.get! j = b.data[j]! := by cases b; rfl
  rw [e, getElem!_pos b.data j hj']
  rfl
theorem and2_eq (a b : Bool) : and2 a b = (a && b) := by cases a <;> rfl
theorem vld_eq (c : Nat) : vld c = Utf8.valid c := by
  unfold vld Utf8.valid
  have h1 : Nat.ble (Nat.succ c) (nat_lit 55296) = decide (c < 55296) := ble_dec _ _
  have h2 : Nat.ble (nat_lit 57344) c = decide (57344 ≤ c) := ble_dec _ _
  have h3 : Nat.ble c (nat_lit 1114111) = decide (c ≤ 1114111) := ble_dec _ _
  rw [h1, h2, h3]
  by_cases a : c < 55296 <;> by_cases b : 57344 ≤ c <;> by_cases d : c ≤ 1114111 <;> simp [a, b, d] <;> omega
theorem cont_eq (b : ByteArray) (j : Nat) : cont (Str.of b) j = (decide (j < b.size) && (b.get! j).toNat / 64 == 2) := by
  have e : cont (Str.of b) j = Bool.rec (motive := fun _ => Bool) false (Nat.beq (Nat.div ((Str.of b).byte j) 64) 2) (Nat.ble (Nat.succ j) (Str.of b).len) := rfl
  rw [e, Str.of_len, ble_dec]
  by_cases h : j < b.size
  · have h' : Nat.succ j ≤ b.size := h
    rw [decide_eq_true h', decide_eq_true h, get_byte b j h, Bool.true_and]
    show Nat.beq _ _ = _
    rw [beq_dec, Bool.eq_iff_iff, decide_eq_true_iff, beq_iff_eq]
    rfl
  · have h' : ¬ Nat.succ j ≤ b.size := h
    rw [decide_eq_false h', decide_eq_false h]
    rfl
theorem cont_lo (b : ByteArray) (j : Nat) (h : cont (Str.of b) j = true) : lo6 (Str.of b) j = (b.get! j).toNat % 64 := by
  rw [cont_eq, Bool.and_eq_true, decide_eq_true_iff] at h
  rw [get_byte b j h.1]; rfl
noncomputable section
/-- what decR does, with all that it looks at by name -/
def decA (B : Nat) (c1 c2 c3 : Bool) (l1 l2 l3 : Nat) (k : Nat → Nat → Res) : Res :=
  match Nat.ble (Nat.succ B) (nat_lit 128) with
  | true => k B (nat_lit 1)
  | false => match and2 (Nat.beq (Nat.div B (nat_lit 32)) (nat_lit 6)) c1 with
    | true => Bool.rec (k (nat_lit 65533) (nat_lit 1)) (k (Nat.add (Nat.mul (Nat.mod B (nat_lit 32)) (nat_lit 64)) l1) (nat_lit 2)) (Nat.ble (nat_lit 128) (Nat.add (Nat.mul (Nat.mod B (nat_lit 32)) (nat_lit 64)) l1))
    | false => match and2 (Nat.beq (Nat.div B (nat_lit 16)) (nat_lit 14)) (and2 c1 c2) with
      | true => Bool.rec (k (nat_lit 65533) (nat_lit 1)) (k (Nat.add (Nat.add (Nat.mul (Nat.mod B (nat_lit 16)) (nat_lit 4096)) (Nat.mul l1 (nat_lit 64))) l2) (nat_lit 3))
          (and2 (Nat.ble (nat_lit 2048) (Nat.add (Nat.add (Nat.mul (Nat.mod B (nat_lit 16)) (nat_lit 4096)) (Nat.mul l1 (nat_lit 64))) l2)) (vld (Nat.add (Nat.add (Nat.mul (Nat.mod B (nat_lit 16)) (nat_lit 4096)) (Nat.mul l1 (nat_lit 64))) l2)))
      | false => match and2 (Nat.beq (Nat.div B (nat_lit 8)) (nat_lit 30)) (and2 c1 (and2 c2 c3)) with
        | true => Bool.rec (k (nat_lit 65533) (nat_lit 1)) (k (Nat.add (Nat.add (Nat.add (Nat.mul (Nat.mod B (nat_lit 8)) (nat_lit 262144)) (Nat.mul l1 (nat_lit 4096))) (Nat.mul l2 (nat_lit 64))) l3) (nat_lit 4))
            (and2 (Nat.ble (nat_lit 65536) (Nat.add (Nat.add (Nat.add (Nat.mul (Nat.mod B (nat_lit 8)) (nat_lit 262144)) (Nat.mul l1 (nat_lit 4096))) (Nat.mul l2 (nat_lit 64))) l3))
              (vld (Nat.add (Nat.add (Nat.add (Nat.mul (Nat.mod B (nat_lit 8)) (nat_lit 262144)) (Nat.mul l1 (nat_lit 4096))) (Nat.mul l2 (nat_lit 64))) l3)))
        | false => k (nat_lit 65533) (nat_lit 1)
theorem decR_decA (s : Str) (i : Nat) (k : Nat → Nat → Res) : decR s i k =
    decA (s.byte i) (cont s (i + 1)) (cont s (i + 2)) (cont s (i + 3)) (lo6 s (i + 1)) (lo6 s (i + 2)) (lo6 s (i + 3)) k := by
  unfold decR decA
  simp only [sN_eq]
  rfl
def decM (B : Nat) (c1 c2 c3 : Bool) (a1 a2 a3 : Nat) : Nat × Nat :=
  if B < 128 then (B, 1)
  else if B / 32 == 6 && c1 then (if B % 32 * 64 + a1 % 64 ≥ 128 then (B % 32 * 64 + a1 % 64, 2) else (65533, 1))
  else if B / 16 == 14 && c1 && c2 then (if B % 16 * 4096 + a1 % 64 * 64 + a2 % 64 ≥ 2048 && Utf8.valid (B % 16 * 4096 + a1 % 64 * 64 + a2 % 64 : Nat) then (B % 16 * 4096 + a1 % 64 * 64 + a2 % 64, 3) else (65533, 1))
  else if B / 8 == 30 && c1 && c2 && c3 then
    (if B % 8 * 262144 + a1 % 64 * 4096 + a2 % 64 * 64 + a3 % 64 ≥ 65536 && Utf8.valid (B % 8 * 262144 + a1 % 64 * 4096 + a2 % 64 * 64 + a3 % 64 : Nat) then (B % 8 * 262144 + a1 % 64 * 4096 + a2 % 64 * 64 + a3 % 64, 4) else (65533, 1))
  else (65533, 1)
theorem decode_decM (b : ByteArray) (i : Nat) : Utf8.decode b i =
    decM (b.get! i).toNat (decide (i + 1 < b.size) && (b.get! (i + 1)).toNat / 64 == 2) (decide (i + 2 < b.size) && (b.get! (i + 2)).toNat / 64 == 2) (decide (i + 3 < b.size) && (b.get! (i + 3)).toNat / 64 == 2)
      (b.get! (i + 1)).toNat (b.get! (i + 2)).toNat (b.get! (i + 3)).toNat := rfl
theorem beq_d (a b : Nat) : Nat.beq a b = (a == b) := by rw [beq_dec, Bool.eq_iff_iff, decide_eq_true_iff, beq_iff_eq]
theorem div_d (a b : Nat) : Nat.div a b = a / b := rfl
theorem mod_d (a b : Nat) : Nat.mod a b = a % b := rfl
theorem mul_d (a b : Nat) : Nat.mul a b = a * b := rfl
theorem add_d (a b : Nat) : Nat.add a b = a + b := rfl
theorem brec_if {α : Type} (c : Bool) (x y : α) : (Bool.rec x y c : α) = if c = true then y else x := by cases c <;> rfl
theorem bmatch_if {α : Type} (c : Bool) (x y : α) : (match c with | true => y | false => x) = if c = true then y else x := by cases c <;> rfl
theorem if_pair {k : Nat → Nat → Res} (c : Prop) [Decidable c] (c' : Prop) [Decidable c'] (hc : c ↔ c') (x y x' y' : Nat) : (if c then k x y else k x' y') = k (if c' then (x, y) else (x', y')).1 (if c' then (x, y) else (x', y')).2 := by
  by_cases h : c
  · rw [if_pos h, if_pos (hc.1 h)]
  · rw [if_neg h, if_neg (fun e => h (hc.2 e))]
theorem decA_decM (B : Nat) (c1 c2 c3 : Bool) (l1 l2 l3 a1 a2 a3 : Nat) (h1 : c1 = true → l1 = a1 % 64) (h2 : c2 = true → l2 = a2 % 64) (h3 : c3 = true → l3 = a3 % 64) (k : Nat → Nat → Res) :
    decA B c1 c2 c3 l1 l2 l3 k = k (decM B c1 c2 c3 a1 a2 a3).1 (decM B c1 c2 c3 a1 a2 a3).2 := by
  unfold decA decM
  simp only [and2_eq, vld_eq, ble_dec, beq_d, brec_if, bmatch_if, add_d, mul_d, div_d, mod_d]
  by_cases q0 : B < 128
  · rw [if_pos q0, if_pos (show (decide (Nat.succ B ≤ 128) = true) from decide_eq_true q0)]
  rw [if_neg q0, if_neg (show ¬ (decide (Nat.succ B ≤ 128) = true) from fun e => q0 (of_decide_eq_true e))]
  by_cases q1 : (B / 32 == 6 && c1) = true
  · rw [if_pos q1, if_pos q1]
    rw [h1 (by simp only [Bool.and_eq_true] at q1; exact q1.2)]
    exact if_pair _ _ (by simp only [decide_eq_true_iff]) _ _ _ _
  rw [if_neg q1, if_neg q1]
  by_cases q2 : (B / 16 == 14 && c1 && c2) = true
  · rw [if_pos q2, if_pos (show (B / 16 == 14 && (c1 && c2)) = true by rw [← Bool.and_assoc]; exact q2)]
    simp only [Bool.and_eq_true] at q2
    rw [h1 q2.1.2, h2 q2.2]
    exact if_pair _ _ (by simp only [Bool.and_eq_true, decide_eq_true_iff]) _ _ _ _
  rw [if_neg q2, if_neg (show ¬ (B / 16 == 14 && (c1 && c2)) = true by rw [← Bool.and_assoc]; exact q2)]
  by_cases q3 : (B / 8 == 30 && c1 && c2 && c3) = true
  · rw [if_pos q3, if_pos (show (B / 8 == 30 && (c1 && (c2 && c3))) = true by rw [← Bool.and_assoc, ← Bool.and_assoc]; exact q3)]
    simp only [Bool.and_eq_true] at q3
    rw [h1 q3.1.1.2, h2 q3.1.2, h3 q3.2]
    exact if_pair _ _ (by simp only [Bool.and_eq_true, decide_eq_true_iff]) _ _ _ _
  rw [if_neg q3, if_neg (show ¬ (B / 8 == 30 && (c1 && (c2 && c3))) = true by rw [← Bool.and_assoc, ← Bool.and_assoc]; exact q3)]
theorem decR_ok (b : ByteArray) (i : Nat) (hi : i < b.size) (k : Nat → Nat → Res) : decR (Str.of b) i k = k (Utf8.decode b i).1 (Utf8.decode b i).2 := by
  rw [decR_decA, decode_decM, ← get_byte b i hi, cont_eq, cont_eq, cont_eq]
  refine decA_decM _ _ _ _ _ _ _ _ _ _ ?_ ?_ ?_ k
  · intro h; exact cont_lo _ _ (by rw [cont_eq]; exact h)
  · intro h; exact cont_lo _ _ (by rw [cont_eq]; exact h)
  · intro h; exact cont_lo _ _ (by rw [cont_eq]; exact h)
section
variable {P : Program} {g : G} {ι : Nam} {h h' : H} {w : World} {D : Nat → Prop}
theorem next_ok (k : WR ι h w D) {x v : AV} {vx : Value} (hx : VR ι x vx) (hD : ∀ b ∈ blkOf x, D b) (t : TypeId) (e : nextA x h = .ok v h') : SimV P ι h w (Instr.next vx true t) v h' := by
  unfold nextA at e
  split at e
  · rename_i b
    obtain ⟨m, hm, rfl⟩ := hx
    split at e
    · rename_i s pos hb
      obtain ⟨o, ho, hbr⟩ := k.map (hD b (by simp [blkOf])) hm hb
      obtain ⟨hsh, bs, rfl, rfl⟩ := hbr
      have hgo : (getObj m.B).run P w = .ok (.stringIter bs pos) w := by
        show Sem.run P (Sem.getObj m.B Sem.pure) w = _
        unfold Sem.run; rw [ho]; rfl
      split at e
      · rename_i hlt
        rw [Nat.ble_eq, Str.of_len] at hlt
        have hlt : pos < bs.size := hlt
        rw [decR_ok bs pos hlt, sN_eq] at e
        cases e
        have hL := Loc.set_obj k hm hb ho (o := .stringIter bs (pos + (Utf8.decode bs pos).2)) (x := .iter (Str.of bs) (pos + (Utf8.decode bs pos).2)) ⟨hsh, bs, rfl, rfl⟩
        refine ⟨ι, _, [b], .tuple #[.bool true, goInt pos, .int .i32 (Utf8.decode bs pos).1], ?_, ?_, hL⟩
        · simp only [Instr.next, hsh, Nat.add_zero, Sem.run_bind, hgo, Result.andThen_ok, if_pos hlt]
          have hso : (setObj m.B (.stringIter bs (pos + (Utf8.decode bs pos).2))).run P w = .ok () { w with heap := w.heap.setIfInBounds m.B (.stringIter bs (pos + (Utf8.decode bs pos).2)) } := by
            show Sem.run P (Sem.setObj m.B _ (Sem.pure ())) w = _
            unfold Sem.run; rw [ho]; rfl
          rw [hso]; rfl
        · exact ⟨_, rfl, _, _, rfl, rfl, _, _, rfl, rfl, _, _, rfl, rfl, rfl⟩
      · rename_i hlt
        cases e
        rw [Str.of_len] at hlt
        have hlt : ¬ pos < bs.size := fun c => by
          have : Nat.ble (Nat.succ pos) bs.size = true := by rw [Nat.ble_eq]; exact c
          rw [this] at hlt; cases hlt
        refine SimV.ret k (v' := .tuple #[.bool false]) ?_ ⟨_, rfl, _, _, rfl, rfl, rfl⟩
        simp only [Instr.next, hsh, Nat.add_zero, Sem.run_bind, hgo, Result.andThen_ok, if_neg hlt]
        rfl
    · cases e
  · cases e
end
end
end Go.Proofs.YtlmcadgbnolffaaGreatDoor.Am
