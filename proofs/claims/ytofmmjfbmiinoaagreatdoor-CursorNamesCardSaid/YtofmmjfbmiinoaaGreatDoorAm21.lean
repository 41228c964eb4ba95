/- The machine's soundness: utf-8; the next rune of a string. -/
/- The machine's soundness: conversions; the greatest and the least; what is no nil. -/
/- The machine's soundness: conversions; the greatest and the least; what is no nil. -/
import Derived.Test.YtofmmjfbmiinoaaGreatDoorAm18
import Derived.Laws.BytesString
namespace Go.Proofs.YtofmmjfbmiinoaaGreatDoor.Am
theorem get_byte (b : ByteArray) (j : Nat) (hj : j < b.size) : (b.get! j).toNat = (Str.of b).byte j := by
  rw [Str.byte_ok b j hj]
  have hj' : j < b.data.size := hj
  have e : b.get! j = b.data[j]! := by cases b; rfl
  rw [e, getElem!_pos b.data j hj']
  rfl
theorem and2_eq (a b : Bool) : and2 a b = (a && b) := by cases a <;> rfl
theorem vld_eq (c : Nat) : vld c = Utf8.valid c := by
  unfold vld Utf8.valid
  have h1 : Nat.ble (Nat.succ c) (nat_lit 55296) = decide (c < 55296) := ble_dec _ _
  have h2 : Nat.ble (nat_lit 57344) c = decide (57344 ≤ c) := ble_dec _ _
  have h3 : Nat.ble c (nat_lit 1114111) = decide (c ≤ 1114111) := ble_dec _ _
  rw [h1, h2, h3]
  by_cases a : c < 55296 <;> by_cases b : 57344 ≤ c <;> by_cases d : c ≤ 1114111 <;> simp [a, b, d] <;> omega
theorem cont_eq (b : ByteArray) (j : Nat) : cont (Str.of b) j = (decide (j < b.size) && (b.get! j).toNat / 64 == 2) := by
  have e : cont (Str.of b) j = Bool.rec (motive := fun _ => Bool) false (Nat.beq (Nat.div ((Str.of b).byte j) 64) 2) (Nat.ble (Nat.succ j) (Str.of b).len) := rfl
  rw [e, Str.of_len, ble_dec]
  by_cases h : j < b.size
  · have h' : Nat.succ j ≤ b.size := h
    rw [decide_eq_true h', decide_eq_true h, get_byte b j h, Bool.true_and]
    show Nat.beq _ _ = _
    rw [beq_dec, Bool.eq_iff_iff, decide_eq_true_iff, beq_iff_eq]
    rfl
  · have h' : ¬ Nat.succ j ≤ b.size := h
    rw [decide_eq_false h', decide_eq_false h]
    rfl
theorem cont_lo (b : ByteArray) (j : Nat) (h : cont (Str.of b) j = true) : lo6 (Str.of b) j = (b.get! j).toNat % 64 := by
  rw [cont_eq, Bool.and_eq_true, decide_eq_true_iff] at h
  rw [get_byte b j h.1]; rfl
noncomputable section
/-- what decR does, with all that it looks at by name -/
def decA (B : Nat) (c1 c2 c3 : Bool) (l1 l2 l3 : Nat) (k : Nat → Nat → Res) : Res :=
  match Nat.ble (Nat.succ B) (nat_lit 128) with
  | true => k B (nat_lit 1)
  | false => match and2 (Nat.beq (Nat.div B (nat_lit 32)) (nat_lit 6)) c1 with
    | true => Bool.rec (k (nat_lit 65533) (nat_lit 1)) (k (Nat.add (Nat.mul (Nat.mod B (nat_lit 32)) (nat_lit 64)) l1) (nat_lit 2)) (Nat.ble (nat_lit 128) (Nat.add (Nat.mul (Nat.mod B (nat_lit 32)) (nat_lit 64)) l1))
    | false => match and2 (Nat.beq (Nat.div B (nat_lit 16)) (nat_lit 14)) (and2 c1 c2) with
      | true => Bool.rec (k (nat_lit 65533) (nat_lit 1)) (k (Nat.add (Nat.add (Nat.mul (Nat.mod B (nat_lit 16)) (nat_lit 4096)) (Nat.mul l1 (nat_lit 64))) l2) (nat_lit 3))
          (and2 (Nat.ble (nat_lit 2048) (Nat.add (Nat.add (Nat.mul (Nat.mod B (nat_lit 16)) (nat_lit 4096)) (Nat.mul l1 (nat_lit 64))) l2)) (vld (Nat.add (Nat.add (Nat.mul (Nat.mod B (nat_lit 16)) (nat_lit 4096)) (Nat.mul l1 (nat_lit 64))) l2)))
      | false => match and2 (Nat.beq (Nat.div B (nat_lit 8)) (nat_lit 30)) (and2 c1 (and2 c2 c3)) with
        | true => Bool.rec (k (nat_lit 65533) (nat_lit 1)) (k (Nat.add (Nat.add (Nat.add (Nat.mul (Nat.mod B (nat_lit 8)) (nat_lit 262144)) (Nat.mul l1 (nat_lit 4096))) (Nat.mul l2 (nat_lit 64))) l3) (nat_lit 4))
            (and2 (Nat.ble (nat_lit 65536) (Nat.add (Nat.add (Nat.add (Nat.mul (Nat.mod B (nat_lit 8)) (nat_lit 262144)) (Nat.mul l1 (nat_lit 4096))) (Nat.mul l2 (nat_lit 64))) l3))
              (vld (Nat.add (Nat.add (Nat.add (Nat.mul (Nat.mod B (nat_lit 8)) (nat_lit 262144)) (Nat.mul l1 (nat_lit 4096))) (Nat.mul l2 (nat_lit 64))) l3)))
        | false => k (nat_lit 65533) (nat_lit 1)
theorem decR_decA (s : Str) (i : Nat) (k : Nat → Nat → Res) : decR s i k =
    decA (s.byte i) (cont s (i + 1)) (cont s (i + 2)) (cont s (i + 3)) (lo6 s (i + 1)) (lo6 s (i + 2)) (lo6 s (i + 3)) k := by
  unfold decR decA
  simp only [sN_eq]
  rfl
def decM (B : Nat) (c1 c2 c3 : Bool) (a1 a2 a3 : Nat) : Nat × Nat :=
  if B < 128 then (B, 1)
  else if B / 32 == 6 && c1 then (if B % 32 * 64 + a1 % 64 ≥ 128 then (B % 32 * 64 + a1 % 64, 2) else (65533, 1))
  else if B / 16 == 14 && c1 && c2 then (if B % 16 * 4096 + a1 % 64 * 64 + a2 % 64 ≥ 2048 && Utf8.valid (B % 16 * 4096 + a1 % 64 * 64 + a2 % 64 : Nat) then (B % 16 * 4096 + a1 % 64 * 64 + a2 % 64, 3) else (65533, 1))
  else if B / 8 == 30 && c1 && c2 && c3 then
    (if B % 8 * 262144 + a1 % 64 * 4096 + a2 % 64 * 64 + a3 % 64 ≥ 65536 && Utf8.valid (B % 8 * 262144 + a1 % 64 * 4096 + a2 % 64 * 64 + a3 % 64 : Nat) then (B % 8 * 262144 + a1 % 64 * 4096 + a2 % 64 * 64 + a3 % 64, 4) else (65533, 1))
  else (65533, 1)
theorem decode_decM (b : ByteArray) (i : Nat) : Utf8.decode b i =
    decM (b.get! i).toNat (decide (i + 1 < b.size) && (b.get! (i + 1)).toNat / 64 == 2) (decide (i + 2 < b.size) && (b.get! (i + 2)).toNat / 64 == 2) (decide (i + 3 < b.size) && (b.get! (i + 3)).toNat / 64 == 2)
      (b.get! (i + 1)).toNat (b.get! (i + 2)).toNat (b.get! (i + 3)).toNat := rfl
theorem beq_d (a b : Nat) : Nat.beq a b = (a == b) := by rw [beq_dec, Bool.eq_iff_iff, decide_eq_true_iff, beq_iff_eq]
theorem div_d (a b : Nat) : Nat.div a b = a / b := rfl
theorem mod_d (a b : Nat) : Nat.mod a b = a % b := rfl
theorem mul_d (a b : Nat) : Nat.mul a b = a * b := rfl
theorem add_d (a b : Nat) : Nat.add a b = a + b := rfl
theorem brec_if {α : Type} (c : Bool) (x y : α) : (Bool.rec x y c : α) = if c = true then y else x := by cases c <;> rfl
theorem bmatch_if {α : Type} (c : Bool) (x y : α) : (match c with | true => y | false => x) = if c = true then y else x := by cases c <;> rfl
theorem if_pair {k : Nat → Nat → Res} (c : Prop) [Decidable c] (c' : Prop) [Decidable c'] (hc : c ↔ c') (x y x' y' : Nat) : (if c then k x y else k x' y') = k (if c' then (x, y) else (x', y')).1 (if c' then (x, y) else (x', y')).2 := by
  by_cases h : c
  · rw [if_pos h, if_pos (hc.1 h)]
  · rw [if_neg h, if_neg (fun e => h (hc.2 e))]
theorem decA_decM (B : Nat) (c1 c2 c3 : Bool) (l1 l2 l3 a1 a2 a3 : Nat) (h1 : c1 = true → l1 = a1 % 64) (h2 : c2 = true → l2 = a2 % 64) (h3 : c3 = true → l3 = a3 % 64) (k : Nat → Nat → Res) :
    decA B c1 c2 c3 l1 l2 l3 k = k (decM B c1 c2 c3 a1 a2 a3).1 (decM B c1 c2 c3 a1 a2 a3).2 := by
  unfold decA decM
  simp only [and2_eq, vld_eq, ble_dec, beq_d, brec_if, bmatch_if, add_d, mul_d, div_d, mod_d]
  by_cases q0 : B < 128
  · rw [if_pos q0, if_pos (show (decide (Nat.succ B ≤ 128) = true) from decide_eq_true q0)]
  rw [if_neg q0, if_neg (show ¬ (decide (Nat.succ B ≤ 128) = true) from fun e => q0 (of_decide_eq_true e))]
  by_cases q1 : (B / 32 == 6 && c1) = true
  · rw [if_pos q1, if_pos q1]
    rw [h1 (by simp only [Bool.and_eq_true] at q1; exact q1.2)]
    exact if_pair _ _ (by simp only [decide_eq_true_iff]) _ _ _ _
  rw [if_neg q1, if_neg q1]
  by_cases q2 : (B / 16 == 14 && c1 && c2) = true
  · rw [if_pos q2, if_pos (show (B / 16 == 14 && (c1 && c2)) = true by rw [← Bool.and_assoc]; exact q2)]
    simp only [Bool.and_eq_true] at q2
    rw [h1 q2.1.2, h2 q2.2]
    exact if_pair _ _ (by simp only [Bool.and_eq_true, decide_eq_true_iff]) _ _ _ _
  rw [if_neg q2, if_neg (show ¬ (B / 16 == 14 && (c1 && c2)) = true by rw [← Bool.and_assoc]; exact q2)]
  by_cases q3 : (B / 8 == 30 && c1 && c2 && c3) = true
  · rw [if_pos q3, if_pos (show (B / 8 == 30 && (c1 && (c2 && c3))) = true by rw [← Bool.and_assoc, ← Bool.and_assoc]; exact q3)]
    simp only [Bool.and_eq_true] at q3
    rw [h1 q3.1.1.2, h2 q3.1.2, h3 q3.2]
    exact if_pair _ _ (by simp only [Bool.and_eq_true, decide_eq_true_iff]) _ _ _ _
  rw [if_neg q3, if_neg (show ¬ (B / 8 == 30 && (c1 && (c2 && c3))) = true by rw [← Bool.and_assoc, ← Bool.and_assoc]; exact q3)]
theorem decR_ok (b : ByteArray) (i : Nat) (hi : i < b.size) (k : Nat → Nat → Res) : decR (Str.of b) i k = k (Utf8.decode b i).1 (Utf8.decode b i).2 := by
  rw [decR_decA, decode_decM, ← get_byte b i hi, cont_eq, cont_eq, cont_eq]
  refine decA_decM _ _ _ _ _ _ _ _ _ _ ?_ ?_ ?_ k
  · intro h; exact cont_lo _ _ (by rw [cont_eq]; exact h)
  · intro h; exact cont_lo _ _ (by rw [cont_eq]; exact h)
  · intro h; exact cont_lo _ _ (by rw [cont_eq]; exact h)
section
variable {P : Program} {g : G} {ι : Nam} {h h' : H} {w : World} {D : Nat → Prop}
theorem next_ok (k : WR ι h w D) {x v : AV} {vx : Value} (hx : VR ι x vx) (hD : ∀ b ∈ blkOf x, D b) (t : TypeId) (e : nextA x h = .ok v h') : SimV P ι h w (Instr.next vx true t) v h' := by
  unfold nextA at e
  split at e
  · rename_i b
    obtain ⟨m, hm, rfl⟩ := hx
    split at e
    · rename_i s pos hb
      obtain ⟨o, ho, hbr⟩ := k.map (hD b (by simp [blkOf])) hm hb
      obtain ⟨hsh, bs, rfl, rfl⟩ := hbr
      have hgo : (getObj m.B).run P w = .ok (.stringIter bs pos) w := by
        show Sem.run P (Sem.getObj m.B Sem.pure) w = _
        unfold Sem.run; rw [ho]; rfl
      split at e
      · rename_i hlt
        rw [Nat.ble_eq, Str.of_len] at hlt
        have hlt : pos < bs.size := hlt
        rw [decR_ok bs pos hlt, sN_eq] at e
        cases e
        have hL := Loc.set_obj k hm hb ho (o := .stringIter bs (pos + (Utf8.decode bs pos).2)) (x := .iter (Str.of bs) (pos + (Utf8.decode bs pos).2)) ⟨hsh, bs, rfl, rfl⟩
        refine ⟨ι, _, [b], .tuple #[.bool true, goInt pos, .int .i32 (Utf8.decode bs pos).1], ?_, ?_, hL⟩
        · simp only [Instr.next, hsh, Nat.add_zero, Sem.run_bind, hgo, Result.andThen_ok, if_pos hlt]
          have hso : (setObj m.B (.stringIter bs (pos + (Utf8.decode bs pos).2))).run P w = .ok () { w with heap := w.heap.setIfInBounds m.B (.stringIter bs (pos + (Utf8.decode bs pos).2)) } := by
            show Sem.run P (Sem.setObj m.B _ (Sem.pure ())) w = _
            unfold Sem.run; rw [ho]; rfl
          rw [hso]; rfl
        · exact ⟨_, rfl, _, _, rfl, rfl, _, _, rfl, rfl, _, _, rfl, rfl, rfl⟩
      · rename_i hlt
        cases e
        rw [Str.of_len] at hlt
        have hlt : ¬ pos < bs.size := fun c => by
          have : Nat.ble (Nat.succ pos) bs.size = true := by rw [Nat.ble_eq]; exact c
          rw [this] at hlt; cases hlt
        refine SimV.ret k (v' := .tuple #[.bool false]) ?_ ⟨_, rfl, _, _, rfl, rfl, rfl⟩
        simp only [Instr.next, hsh, Nat.add_zero, Sem.run_bind, hgo, Result.andThen_ok, if_neg hlt]
        rfl
    · cases e
  · cases e
end
end
end Go.Proofs.YtofmmjfbmiinoaaGreatDoor.Am
namespace Go.Proofs.YtofmmjfbmiinoaaGreatDoor.Am
section
variable {P : Program} {g : G} {ι : Nam} {h h' : H} {w : World} {D : Nat → Prop}
theorem putCells_modify {b : Nat} {arr : Array Value} {el : TypeId} {fr : Nat × Nat} (h : w.heap[b]? = some (.cells arr el fr)) (f : Obj → Obj) {arr' : Array Value} {el' : TypeId} {fr' : Nat × Nat}
    (hf : f (.cells arr el fr) = .cells arr' el' fr') : { w with heap := w.heap.modify b f } = World.putCells w b arr' el' fr' := by
  unfold World.putCells
  congr 1
  apply Array.ext_getElem?
  intro i
  have hlt : b < w.heap.size := (Array.getElem?_eq_some_iff.1 h).1
  by_cases hi : b = i
  · subst hi
    rw [Array.getElem?_modify, if_pos rfl, h]
    simp [hlt, hf]
  · rw [Array.getElem?_setIfInBounds_ne hi, Array.getElem?_modify, if_neg hi]
theorem run_markStringish {b o : Nat} {arr : Array Value} {el : TypeId} {lo hi : Nat} (hw : w.heap[b]? = some (.cells arr el (lo, hi))) :
    ∃ lo' hi', (markStringish ⟨b, o, none⟩).run P w = .ok () (World.putCells w b arr el (lo', hi')) ∧ ((lo = hi ∨ arr.size ≤ lo) → arr.size ≤ lo') := by
  have hs : w.shape? b = some (el, arr.size) := by simp only [World.shape?, hw]
  by_cases hlh : lo = hi
  · refine ⟨arr.size, arr.size + 1, ?_, fun _ => Nat.le_refl _⟩
    simp only [markStringish, Sem.run_bind, run_shape, hs, Result.andThen_ok, run_freeze]
    unfold World.freeze
    rw [if_neg (by decide), putCells_modify hw _ (arr' := arr) (el' := el) (fr' := (arr.size, arr.size + 1)) (by simp [hlh])]
  · refine ⟨min lo arr.size, max hi (arr.size + 1), ?_, fun c => ?_⟩
    · simp only [markStringish, Sem.run_bind, run_shape, hs, Result.andThen_ok, run_freeze]
      unfold World.freeze
      rw [if_neg (by decide), putCells_modify hw _ (arr' := arr) (el' := el) (fr' := (min lo arr.size, max hi (arr.size + 1))) (by simp [hlh])]
    · rcases c with c | c
      · exact absurd c hlh
      · omega
theorem run_cap (need old : Nat) (el : TypeId) (w : World) : ∃ c, (choose (.appendCap need old el)).run P w = .ok c (World.drawnTo w (w.drawn + 1)) ∧ need ≤ c := by
  refine ⟨(Question.appendCap need old el).cut (w.tape w.drawn (.appendCap need old el)), ?_, ?_⟩
  · rw [run_choose, if_neg (by simp [Question.forced])]; rfl
  · exact Nat.le_add_right _ _
noncomputable def bstep (c : AV) (f : Option Str → Option Str) (o : Option Str) : Option Str :=
  match c, o with
    | .int .u8 (.ofNat n), some s => match Nat.ble n (nat_lit 255) with
      | true => sN (Nat.add (Nat.mul s.val (nat_lit 256)) n) fun v => f (some ⟨Nat.succ s.len, v⟩)
      | false => none
    | _, _ => none
theorem bytesStr_cons (a t : AV) (o : Option Str) : bytesStr (.cons a t) o = bstep a (bytesStr t) o := rfl
/-- bytes as a string -/
theorem bytesStr_ok {a : AV} {l : List Value} (hl : VRs ι a l) : ∀ (b : ByteArray) (s : Str), bytesStr a (some (Str.of b)) = some s →
    ∃ ns : List Int, l = ns.map (Value.int .u8) ∧ s = Str.of (ns.foldl (fun r n => r.push (UInt8.ofNat n.toNat)) b) := by
  refine VRs_ind (ι := ι) (Q := fun a l => ∀ (b : ByteArray) (s : Str), bytesStr a (some (Str.of b)) = some s →
    ∃ ns : List Int, l = ns.map (Value.int .u8) ∧ s = Str.of (ns.foldl (fun r n => r.push (UInt8.ofNat n.toNat)) b)) ?_ ?_ a l hl
  · intro b s e
    have e : some (Str.of b) = some s := e
    cases e
    exact ⟨[], rfl, rfl⟩
  · intro a t x xs hx _ ih b s e
    rw [bytesStr_cons] at e
    unfold bstep at e
    split at e
    · rename_i n s0 h1
      cases h1
      cases hx
      split at e
      · rename_i hle
        rw [Nat.ble_eq] at hle
        rw [sN_eq] at e
        have hpush : (⟨Nat.succ (Str.of b).len, Nat.add (Nat.mul (Str.of b).val (nat_lit 256)) n⟩ : Str) = Str.of (b.push (UInt8.ofNat n)) := by
          rw [Str.of_eq, Str.of_eq]
          have hd : (b.push (UInt8.ofNat n)).data.toList = b.data.toList ++ [UInt8.ofNat n] := by
            cases b; simp [ByteArray.push]
          rw [hd, valL_append]
          have hn : (UInt8.ofNat n).toNat = n := by
            rw [UInt8.toNat_ofNat']; exact Nat.mod_eq_of_lt (by have : n ≤ 255 := hle; omega)
          simp only [valL, List.foldl_cons, List.foldl_nil, List.length_append, List.length_cons, List.length_nil, hn]
          simp
        rw [hpush] at e
        obtain ⟨ns, rfl, h2⟩ := ih _ _ e
        exact ⟨(n : Int) :: ns, rfl, h2⟩
      · cases e
    · cases e
theorem strL_ok (b : ByteArray) : VRs ι (strL (Str.of b) (Str.of b).len) (b.data.toList.map fun c => Value.int .u8 (c.toNat : Int)) := by
  have key : ∀ n i, i + n = b.size → VRs ι (Nat.rec (motive := fun _ => Nat → AV) (fun _ => .nil) (fun _ ih i => sN ((Str.of b).byte i) fun c => .cons (.int .u8 (.ofNat c)) (ih (Nat.succ i))) n i)
      ((b.data.toList.drop i).map fun c => Value.int .u8 (c.toNat : Int)) := by
    intro n
    induction n with
    | zero =>
      intro i hi
      have : b.data.toList.drop i = [] := List.drop_eq_nil_of_le (by have : b.data.toList.length = b.size := by simp
                                                                     omega)
      rw [this]; rfl
    | succ n ih =>
      intro i hi
      have hlt : i < b.data.toList.length := by have : b.data.toList.length = b.size := by simp
                                                omega
      rw [List.drop_eq_getElem_cons hlt, List.map_cons]
      show VRs ι (sN ((Str.of b).byte i) fun c => .cons (.int .u8 (.ofNat c)) _) _
      rw [sN_eq]
      refine ⟨_, _, rfl, ?_, ih (i + 1) (by omega)⟩
      rw [Str.byte_ok b i (by simpa using hlt)]
      rfl
  have := key b.size 0 (by omega)
  rw [Str.of_len]
  exact this
/-! ### utf-8, written -/
def encC (c : Nat) : ByteArray :=
  if c < 0x80 then ⟨#[UInt8.ofNat c]⟩
  else if c < 0x800 then ⟨#[UInt8.ofNat (0xC0 + c / 64), UInt8.ofNat (0x80 + c % 64)]⟩
  else if c < 0x10000 then ⟨#[UInt8.ofNat (0xE0 + c / 4096), UInt8.ofNat (0x80 + c / 64 % 64), UInt8.ofNat (0x80 + c % 64)]⟩
  else ⟨#[UInt8.ofNat (0xF0 + c / 262144), UInt8.ofNat (0x80 + c / 4096 % 64), UInt8.ofNat (0x80 + c / 64 % 64), UInt8.ofNat (0x80 + c % 64)]⟩
theorem encode_encC (r : Int) : Utf8.encode r = encC (if Utf8.valid r then r.toNat else 65533) := rfl
theorem u8_of {n : Nat} (h : n < 256) : (UInt8.ofNat n).toNat = n := by
  rw [UInt8.toNat_ofNat']; exact Nat.mod_eq_of_lt (by omega)
theorem enc1_ok (c : Nat) (hc : c ≤ 1114111) : enc1 c = Str.of (encC c) := by
  unfold enc1 encC
  simp only [brec_if, ble_dec, decide_eq_true_iff, add_d, mul_d, div_d, mod_d]
  by_cases h1 : c < 128
  · rw [if_pos h1, if_pos (show Nat.succ c ≤ 128 from h1), Str.of_eq]
    simp only [valL, List.foldl_cons, List.foldl_nil, u8_of (show c < 256 by omega), List.length_cons, List.length_nil]
    simp
  rw [if_neg h1, if_neg (show ¬ Nat.succ c ≤ 128 from h1)]
  by_cases h2 : c < 2048
  · rw [if_pos h2, if_pos (show Nat.succ c ≤ 2048 from h2), Str.of_eq]
    simp only [valL, List.foldl_cons, List.foldl_nil, u8_of (show 192 + c / 64 < 256 by omega), u8_of (show 128 + c % 64 < 256 by omega), List.length_cons, List.length_nil]
    simp
  rw [if_neg h2, if_neg (show ¬ Nat.succ c ≤ 2048 from h2)]
  by_cases h3 : c < 65536
  · rw [if_pos h3, if_pos (show Nat.succ c ≤ 65536 from h3), Str.of_eq]
    simp only [valL, List.foldl_cons, List.foldl_nil, u8_of (show 224 + c / 4096 < 256 by omega), u8_of (show 128 + c / 64 % 64 < 256 by omega), u8_of (show 128 + c % 64 < 256 by omega), List.length_cons, List.length_nil]
    simp
  rw [if_neg h3, if_neg (show ¬ Nat.succ c ≤ 65536 from h3), Str.of_eq]
  simp only [valL, List.foldl_cons, List.foldl_nil, u8_of (show 240 + c / 262144 < 256 by omega), u8_of (show 128 + c / 4096 % 64 < 256 by omega), u8_of (show 128 + c / 64 % 64 < 256 by omega), u8_of (show 128 + c % 64 < 256 by omega), List.length_cons, List.length_nil]
  simp
theorem encR_ok (r : Int) : encR r = Str.of (Utf8.encode r) := by
  rw [encode_encC]
  cases r with
  | ofNat c =>
    have e : encR (.ofNat c) = enc1 (Bool.rec (nat_lit 65533) c (vld c)) := rfl
    rw [e, vld_eq, brec_if]
    show enc1 (if Utf8.valid (c : Int) = true then c else 65533) = Str.of (encC (if Utf8.valid (c : Int) = true then (c : Int).toNat else 65533))
    by_cases h : Utf8.valid (c : Int) = true
    · rw [if_pos h, if_pos h, Int.toNat_natCast]
      refine enc1_ok c ?_
      simp only [Utf8.valid, Bool.or_eq_true, Bool.and_eq_true, decide_eq_true_iff] at h
      omega
    · rw [if_neg h, if_neg h]; exact enc1_ok 65533 (by omega)
  | negSucc c =>
    have e : encR (.negSucc c) = enc1 65533 := rfl
    rw [e, if_neg]
    · exact enc1_ok 65533 (by omega)
    · simp only [Utf8.valid, Bool.or_eq_true, Bool.and_eq_true, decide_eq_true_iff]
      omega
end
end Go.Proofs.YtofmmjfbmiinoaaGreatDoor.Am
namespace Go.Proofs.YtofmmjfbmiinoaaGreatDoor.Am
section
variable {P : Program} {g : G} {ι : Nam} {h h' : H} {w : World} {D : Nat → Prop}
theorem conv_ok (hg : GOk P g) (k : WR ι h w D) {s d : TypeId} {ys yd : Ty} (hs : g.ty s = some ys) (hd : g.ty d = some yd) {x v : AV} {vx : Value} (hx : VR ι x vx) (hD : ∀ b ∈ blkOf x, D b)
    (e : convA g (Nat.beq s d) ys.desc yd.desc x h = .ok v h') : SimV P ι h w (convert s d vx) v h' := by
  have hus := run_und (hg.ty _ _ hs).1
  have hud := run_und (hg.ty _ _ hd).1
  unfold convA at e
  split at e
  · -- []byte to itself
    rename_i el b off l es z hdd
    split at e
    · rename_i hsd hsrc hel
      obtain rfl := Nat.eq_of_beq_eq_true hsd
      rw [hs] at hd
      cases hd
      rw [hdd] at hsrc
      cases hsrc
      split at e
      · rename_i el1 ro n dd t hb
        cases e
        obtain ⟨m, y, cap, hm, rfl, hle, hz, hy⟩ := hx
        have hy : y = ⟨m.B, m.sh + off, none⟩ ∧ m.sh + off + cap * es ≤ m.cs := by
          rcases hy with hy | hy
          · omega
          · exact hy
        obtain ⟨rfl, hyc⟩ := hy
        obtain ⟨arr, el', lo, hi, hw, h1, h2, h3, h4, h5⟩ := k.cells (hD b (by simp [blkOf])) hm hb
        obtain ⟨lo', hi', hrun, hlo⟩ := run_markStringish (P := P) (o := m.sh + off) hw
        have hB : m.B < w.heap.size := (Array.getElem?_eq_some_iff.1 hw).1
        have hue := run_und (P := P) (hg.ty _ _ hel).1
        refine ⟨ι, World.putCells w m.B arr el' (lo', hi'), [b], _, ?_, ⟨m, _, cap, hm, rfl, hle, hz, .inr ⟨rfl, hyc⟩⟩, ?_⟩
        · simp only [convert, Sem.run_bind, hus, hdd, Result.andThen_ok, hue, beq_self_eq_true]
          simp only [hrun, Result.andThen_ok, Sem.run_pure]
        · refine Loc.mkSet k (k.lt hm) hb m hm (.cells arr el' (lo', hi')) (by simp [World.putCells]) (fun i _ hne => ?_) (putCells_get hB) ?_ rfl rfl rfl
          · simp only [World.putCells]
            rw [Array.getElem?_setIfInBounds_ne (fun e => hne e.symm)]
          · refine ⟨arr, el', lo', hi', rfl, h1, h2, h3, h4, fun hro => ?_⟩
            obtain ⟨ha, hb⟩ := h5 hro
            exact ⟨ha, .inr (by have := hlo (by rcases hb with c | c; exact .inl c; exact .inr (by omega)); omega)⟩
      · cases e
    · cases e
  · rename_i kd k0 n hdd
    cases hx
    rw [frc_eq, wr_ok] at e
    cases e
    refine SimV.ret k (v' := .int kd (kd.wrap n)) ?_ rfl
    simp only [convert, Sem.run_bind, hus, hud, hdd, Result.andThen_ok]
    cases ys.desc <;> rfl
  · rename_i s0 hdd
    obtain ⟨b, rfl, rfl⟩ := hx
    cases e
    refine SimV.ret k (v' := .string b) ?_ ⟨b, rfl, rfl⟩
    simp only [convert, Sem.run_bind, hus, hud, hdd, Result.andThen_ok]
    cases ys.desc <;> rfl
  · rename_i k0 n hdd
    cases hx
    cases e
    refine SimV.ret k (v' := .string (Utf8.encode n)) ?_ ⟨_, rfl, encR_ok n⟩
    simp only [convert, Sem.run_bind, hus, hud, hdd, Result.andThen_ok]
    cases ys.desc <;> rfl
  · rename_i hdd
    split at e
    · rename_i el hsrc
      split at e
      · rename_i el0 hel
        cases hx
        cases e
        have hue := run_und (P := P) (hg.ty _ _ hel).1
        refine SimV.ret k (v' := .string .empty) ?_ ⟨_, rfl, rfl⟩
        simp only [convert, Sem.run_bind, hus, hud, hdd, hsrc, Result.andThen_ok, hue]
        rfl
      · cases e
    · cases e
  · rename_i b off len z hdd
    split at e
    · rename_i el hsrc
      split at e
      · rename_i el0 el1 ro n dd t hel hb
        split at e
        · rename_i hle
          rw [Nat.ble_eq] at hle
          have hle : off + len ≤ n := hle
          obtain ⟨m, y, cap, hm, rfl, hlc, hz, hy⟩ := hx
          obtain ⟨arr, el', lo, hi, hw, h1, h2, h3, h4, h5⟩ := k.cells (hD b (by simp [blkOf])) hm hb
          have hue := run_und (P := P) (hg.ty _ _ hel).1
          have hrd := rdN_ok (ι := ι) (arr := arr) (sh := m.sh) len off (fun j h1 h2 => h4 j (by omega))
          unfold strRes at e
          split at e
          · rename_i s0 hbs
            cases e
            obtain ⟨ns, hns, rfl⟩ := bytesStr_ok hrd .empty s0 hbs
            refine SimV.ret k ?_ ⟨_, rfl, rfl⟩
            simp only [convert, Sem.run_bind, hus, hud, hdd, hsrc, Result.andThen_ok, hue]
            by_cases hl0 : len = 0
            · subst hl0
              have : ns = [] := by
                cases ns with
                | nil => rfl
                | cons _ _ => simp at hns
              subst this
              refine run_bytesToString w y 0 cap [] ?_
              exact rfl
            · have hy : y = ⟨m.B, m.sh + off, none⟩ ∧ m.sh + off + cap * 1 ≤ m.cs := by
                rcases hy with hy | hy
                · omega
                · exact hy
              obtain ⟨rfl, hyc⟩ := hy
              refine run_bytesToString w _ len cap ns ?_
              rw [run_loadCells_of hw (by omega), hns]
          · cases e
        · cases e
      · cases e
    · cases e
  · rename_i el s0 hdd
    obtain ⟨b, rfl, rfl⟩ := hx
    split at e
    · rename_i el0 hel
      obtain ⟨hr, hm, e⟩ := row_inv e
      cases e
      have hue := run_und (P := P) (hg.ty _ _ hel).1
      obtain ⟨c, hc, hcn⟩ := run_cap (P := P) b.size 0 el w
      have hw2 : (World.grown w (w.drawn + 1) (.cells (b.data.map (fun c => Value.int .u8 (c.toNat : Int)) ++ Array.replicate (c - b.size) (.int .u8 0)) el)).heap[w.heap.size]? = some (.cells (b.data.map (fun c => Value.int .u8 (c.toNat : Int)) ++ Array.replicate (c - b.size) (.int .u8 0)) el (0, 0)) := grown_new
      obtain ⟨lo', hi', hrun, hlo⟩ := run_markStringish (P := P) (o := 0) hw2
      have hL := strL_ok (ι := ι) b
      have hsz : (b.data.map (fun c => Value.int .u8 (c.toNat : Int)) ++ Array.replicate (c - b.size) (Value.int .u8 0)).size = c := by
        simp only [Array.size_append, Array.size_map, Array.size_replicate]
        have : b.data.size = b.size := rfl
        omega
      refine ⟨_, (World.putCells (World.grown w (w.drawn + 1) (.cells (b.data.map (fun c => Value.int .u8 (c.toNat : Int)) ++ Array.replicate (c - b.size) (.int .u8 0)) el)) w.heap.size (b.data.map (fun c => Value.int .u8 (c.toNat : Int)) ++ Array.replicate (c - b.size) (.int .u8 0)) el (lo', hi')), [], .slice (some ⟨w.heap.size, 0, none⟩) b.size c, ?_, ?_, Loc.mkNew k hr _ ⟨w.heap.size, 0, c⟩ (.cells (b.data.map (fun c => Value.int .u8 (c.toNat : Int)) ++ Array.replicate (c - b.size) (.int .u8 0)) el (lo', hi')) ?_ ?_ (Nat.le_refl _) (putCells_get (by simp [World.grown])) ?_ rfl rfl rfl⟩
      · have hnr : ∀ (w : World) (cells : Array Value), (newRow el cells).run P w = .ok ⟨w.heap.size, 0, none⟩ (World.grown w w.drawn (.cells cells el)) := fun w cells => run_newRow el cells w
        simp only [convert, Sem.run_bind, hus, hud, hdd, Result.andThen_ok, hue]
        have : (Conv.stringToBytes el b).run P w = .ok (.slice (some ⟨w.heap.size, 0, none⟩) b.size c) (World.putCells (World.grown w (w.drawn + 1) (.cells (b.data.map (fun c => Value.int .u8 (c.toNat : Int)) ++ Array.replicate (c - b.size) (.int .u8 0)) el)) w.heap.size (b.data.map (fun c => Value.int .u8 (c.toNat : Int)) ++ Array.replicate (c - b.size) (.int .u8 0)) el (lo', hi')) := by
          simp only [Conv.stringToBytes, Sem.run_bind, hc, Result.andThen_ok, hnr]
          have : (World.grown (World.drawnTo w (w.drawn + 1)) (World.drawnTo w (w.drawn + 1)).drawn (.cells (b.data.map (fun c => Value.int .u8 (c.toNat : Int)) ++ Array.replicate (c - b.size) (.int .u8 0)) el)) = World.grown w (w.drawn + 1) (.cells (b.data.map (fun c => Value.int .u8 (c.toNat : Int)) ++ Array.replicate (c - b.size) (.int .u8 0)) el) := rfl
          rw [this]
          have : (⟨(World.drawnTo w (w.drawn + 1)).heap.size, 0, none⟩ : Addr) = ⟨w.heap.size, 0, none⟩ := rfl
          rw [this, hrun]
          rfl
        cases ys.desc <;> exact this
      · refine ⟨_, _, c, Nam.add_same _ _ _, by rw [Str.of_len], by rw [Str.of_len]; exact hcn, by simp, .inr ⟨rfl, by show 0 + 0 + c * 1 ≤ c; omega⟩⟩
      · simp [World.putCells, World.grown]
      · intro i hi
        simp only [World.putCells]
        rw [Array.getElem?_setIfInBounds_ne (by omega)]
        exact grown_old i hi
      · have hlen := llen_ok hL
        have hbl : b.data.toList.length = b.size := by simp
        rw [List.length_map, hbl] at hlen
        refine ⟨_, el, lo', hi', rfl, hsz, ?_, le_dep hm, fun i hi => ?_, fun _ => ⟨rfl, .inr ?_⟩⟩
        · show 0 + llen _ ≤ c
          omega
        · rw [ofL, wrL_get _ (le_dep hm) (by exact hL) 0 i _ (by rw [List.length_map, hbl]; omega) hi, if_pos (by rw [List.length_map, hbl]; omega)]
          have := lnth_ok hL i
          rw [Nat.sub_zero]
          have e : (b.data.map (fun c => Value.int .u8 (c.toNat : Int)) ++ Array.replicate (c - b.size) (Value.int .u8 0)).getD (0 + i) undef = (b.data.toList.map fun c => Value.int .u8 (c.toNat : Int)).getD i undef := by
            rw [Array.getD_eq_getD_getElem?, ← Array.getElem?_toList, Array.toList_append, Array.toList_map, List.getElem?_append_left (by rw [List.length_map, hbl]; omega), List.getD_eq_getElem?_getD, Nat.zero_add]
          rw [e]
          exact this.mono (Nam.le_add _ (k.fresh _ (Nat.le_refl _)))
        · have := hlo (.inl rfl)
          show c ≤ lo'
          omega
    · cases e
  · cases e
theorem mm2_ok (gt : Bool) {a b : AV} {x y : Value} (ha : VR ι a x) (hb : VR ι b y) (hv : mm2 gt a b ≠ .bad) :
    ∃ z, (∀ w : World, ((if gt then Builtin.max2 else Builtin.min2) x y).run P w = .ok z w) ∧ VR ι (mm2 gt a b) z := by
  cases gt
  · have hv : int2 (fun k a b => .int k (.ofNat (Bool.rec b a (Nat.ble a b)))) (fun k a b => .int k (Bool.rec b a (decide (a ≤ b)))) a b ≠ .bad := hv
    show ∃ z, _ ∧ VR ι (int2 (fun k a b => .int k (.ofNat (Bool.rec b a (Nat.ble a b)))) (fun k a b => .int k (Bool.rec b a (decide (a ≤ b)))) a b) z
    obtain ⟨k, i, j, rfl, rfl, h⟩ := int2_ok rfl hv
    cases ha; cases hb
    refine ⟨.int k (if j < i then j else i), fun w => rfl, ?_⟩
    have e : int2 (fun k a b => .int k (.ofNat (Bool.rec b a (Nat.ble a b)))) (fun k a b => .int k (Bool.rec b a (decide (a ≤ b)))) (.int k i) (.int k j) = .int k (if j < i then j else i) := by
      rcases h with ⟨m, n, rfl, rfl, h⟩ | h
      · rw [h, brec_if, ble_dec]
        simp only [decide_eq_true_iff]
        by_cases c : m ≤ n
        · rw [if_pos c, if_neg (by omega)]; rfl
        · rw [if_neg c, if_pos (by omega)]; rfl
      · rw [h, brec_if]
        simp only [decide_eq_true_iff]
        by_cases c : i ≤ j
        · rw [if_pos c, if_neg (by omega)]
        · rw [if_neg c, if_pos (by omega)]
    rw [e]; rfl
  · have hv : int2 (fun k a b => .int k (.ofNat (Bool.rec a b (Nat.ble a b)))) (fun k a b => .int k (Bool.rec a b (decide (a ≤ b)))) a b ≠ .bad := hv
    show ∃ z, _ ∧ VR ι (int2 (fun k a b => .int k (.ofNat (Bool.rec a b (Nat.ble a b)))) (fun k a b => .int k (Bool.rec a b (decide (a ≤ b)))) a b) z
    obtain ⟨k, i, j, rfl, rfl, h⟩ := int2_ok rfl hv
    cases ha; cases hb
    refine ⟨.int k (if j > i then j else i), fun w => rfl, ?_⟩
    have e : int2 (fun k a b => .int k (.ofNat (Bool.rec a b (Nat.ble a b)))) (fun k a b => .int k (Bool.rec a b (decide (a ≤ b)))) (.int k i) (.int k j) = .int k (if j > i then j else i) := by
      rcases h with ⟨m, n, rfl, rfl, h⟩ | h
      · rw [h, brec_if, ble_dec]
        simp only [decide_eq_true_iff]
        by_cases c : m ≤ n
        · rw [if_pos c]
          by_cases c' : (n : Int) > m
          · rw [if_pos c']; rfl
          · rw [if_neg c']; obtain rfl : m = n := by omega
            rfl
        · rw [if_neg c, if_neg (by omega)]; rfl
      · rw [h, brec_if]
        simp only [decide_eq_true_iff]
        by_cases c : i ≤ j
        · rw [if_pos c]
          by_cases c' : j > i
          · rw [if_pos c']
          · rw [if_neg c']; obtain rfl : i = j := by omega
            rfl
        · rw [if_neg c, if_neg (by omega)]
    rw [e]; rfl
theorem mm2_bad (gt : Bool) (b : AV) : mm2 gt .bad b = .bad := by cases gt <;> rfl
noncomputable def mmFold (gt : Bool) : AV → AV → AV := lrec (fun a => a) (fun y _ ih a => ih (mm2 gt a y))
theorem mmFold_bad (gt : Bool) : ∀ (l : AV) (vs : List Value), VRs ι l vs → mmFold gt l .bad = .bad :=
  VRs_ind rfl (fun a t x xs _ _ ih => by show mmFold gt t (mm2 gt .bad a) = .bad; rw [mm2_bad]; exact ih)
theorem mmFold_ok (gt : Bool) : ∀ (l : AV) (vs : List Value), VRs ι l vs → ∀ (a : AV) (x : Value), VR ι a x → mmFold gt l a ≠ .bad →
    ∃ z, (∀ w : World, (vs.foldlM (if gt then Builtin.max2 else Builtin.min2) x).run P w = .ok z w) ∧ VR ι (mmFold gt l a) z := by
  refine VRs_ind ?_ ?_
  · intro a x ha hv
    exact ⟨x, fun w => rfl, ha⟩
  · intro b t y ys hb ht ih a x ha hv
    have hv : mmFold gt t (mm2 gt a b) ≠ .bad := hv
    have h2 : mm2 gt a b ≠ .bad := fun c => hv (by rw [c]; exact mmFold_bad gt t ys ht)
    obtain ⟨z, hz, hr⟩ := mm2_ok (P := P) gt ha hb h2
    obtain ⟨u, hu, hr2⟩ := ih _ z hr hv
    refine ⟨u, fun w => ?_, hr2⟩
    rw [List.foldlM_cons, Sem.run_bind, hz, Result.andThen_ok]
    exact hu w
theorem mm_ok (k : WR ι h w D) (gt : Bool) {l v : AV} {vs : Array Value} {ts : Array TypeId} {t : TypeId} (hl : VRs ι l vs.toList) (e : chk (mmA gt l) h = .ok v h') :
    SimV P ι h w (if gt then Builtin.max_ ts t vs else Builtin.min_ ts t vs) v h' := by
  obtain ⟨e1, e2, hv⟩ := chk_ok e
  subst e2; subst e1
  unfold mmA at hv ⊢
  split at hv
  · rename_i x r
    obtain ⟨y, ys, hy, hx, hr⟩ := VRs_cons hl
    obtain ⟨z, hz, hrel⟩ := mmFold_ok (P := P) gt r ys hr x y hx hv
    refine SimV.ret k (v' := z) ?_ hrel
    cases gt
    · have := hz w
      simp only [Bool.false_eq_true, if_false, Builtin.min_, hy] at this ⊢
      exact this
    · have := hz w
      simp only [if_true, Builtin.max_, hy] at this ⊢
      exact this
  · exact absurd rfl hv
noncomputable def capA (x : AV) (h : H) : Res :=
  match x with
  | .nils => .ok (.int .i64 (.ofNat (nat_lit 0))) h
  | .slice _ _ _ _ true => .ok (.int .i64 (.ofNat (nat_lit 0))) h
  | _ => .fail
theorem cap_ok (hg : GOk P g) (k : WR ι h w D) {t ty el : TypeId} {y : Ty} (ht : g.ty t = some y) (hd : y.desc = .slice el) {x v : AV} {vx : Value} {ts : Array TypeId} (hts : ts[0]? = some t) (hx : VR ι x vx)
    (e : capA x h = Res.ok v h') :
    SimV P ι h w (Builtin.cap_ ts ty #[vx]) v h' := by
  have hut := (hg.ty _ _ ht).1
  have hx0 : (#[vx] : Array Value)[0]? = some vx := rfl
  rw [hd] at hut
  unfold capA at e
  split at e
  · cases hx
    cases e
    refine SimV.ret k (v' := goInt 0) ?_ rfl
    simp only [Builtin.cap_, hts, hx0, Sem.run_bind, run_und hut, Result.andThen_ok, Sem.run_pure]
    rfl
  · obtain ⟨m, ya, cap, _, rfl, _, hz, _⟩ := hx
    cases e
    cases hz rfl
    refine SimV.ret k (v' := goInt 0) ?_ rfl
    simp only [Builtin.cap_, hts, hx0, Sem.run_bind, run_und hut, Result.andThen_ok, Sem.run_pure]
    rfl
  · cases e
/-- what nilCheck does with a value -/
theorem nilCheck_ok (_k : WR ι h w D) {x v : AV} {vx : Value} (hx : VR ι x vx) (e : chk (nilCheckA x) h = .ok v h') (o : Oper) (ρ : Operand → Value) (xo : Operand) (ho : o.op = .nilCheck xo) (hxo : ρ xo = vx) :
    (execOp ρ o).run P w = .ok (.value vx) w ∧ VR ι v vx ∧ h' = h := by
  obtain ⟨e1, e2, hv⟩ := chk_ok e
  rw [← e1] at hv
  unfold nilCheckA at e1
  unfold execOp
  rw [ho]
  dsimp only
  rw [hxo]
  split at e1
  · obtain ⟨m, hm, rfl⟩ := hx
    exact ⟨rfl, e1 ▸ ⟨m, hm, rfl⟩, e2⟩
  · obtain ⟨xs, ys, rfl, h1, h2⟩ := hx
    exact ⟨rfl, e1 ▸ ⟨xs, ys, rfl, h1, h2⟩, e2⟩
  · obtain ⟨m, hm, rfl⟩ := hx
    exact ⟨rfl, e1 ▸ ⟨m, hm, rfl⟩, e2⟩
  · obtain ⟨y, rfl, h1⟩ := hx
    exact ⟨rfl, e1 ▸ ⟨y, rfl, h1⟩, e2⟩
  · exact absurd e1 hv
end
end Go.Proofs.YtofmmjfbmiinoaaGreatDoor.Am
