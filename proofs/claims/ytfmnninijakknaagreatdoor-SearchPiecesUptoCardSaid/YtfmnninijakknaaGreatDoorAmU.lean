/- The machine's soundness: utf-8; the next rune of a string. -/
/- The machine's soundness: conversions; the greatest and the least; what is no nil. -/
/- The machine's soundness: pointers of no type, and back; bytes that become a string's. -/
import Derived.Test.YtfmnninijakknaaGreatDoorAm18
import Derived.Laws.BytesString
import Derived.Lib.UnsafeStr
namespace Go.Proofs.YtfmnninijakknaaGreatDoor.Am
theorem get_byte (b : ByteArray) (j : Nat) (hj : j < b.size) : (b.get! j).toNat = (Str.of b).byte j := by
  rw [Str.byte_ok b j hj]
  have hj' : j < b.data.size := hj
  have e : b.get! j = b.data[j]! := by cases b; rfl
  rw [e, getElem!_pos b.data j hj']
  rfl
theorem and2_eq (a b : Bool) : and2 a b = (a && b) := by cases a <;> rfl
theorem vld_eq (c : Nat) : vld c = Utf8.valid c := by
  unfold vld Utf8.valid
  have h1 : Nat.ble (Nat.succ c) (nat_lit 55296) = decide (c < 55296) := ble_dec _ _
  have h2 : Nat.ble (nat_lit 57344) c = decide (57344 ≤ c) := ble_dec _ _
  have h3 : Nat.ble c (nat_lit 1114111) = decide (c ≤ 1114111) := ble_dec _ _
  rw [h1, h2, h3]
  by_cases a : c < 55296 <;> by_cases b : 57344 ≤ c <;> by_cases d : c ≤ 1114111 <;> simp [a, b, d] <;> omega
theorem cont_eq (b : ByteArray) (j : Nat) : cont (Str.of b) j = (decide (j < b.size) && (b.get! j).toNat / 64 == 2) := by
  have e : cont (Str.of b) j = Bool.rec (motive := fun _ => Bool) false (Nat.beq (Nat.div ((Str.of b).byte j) 64) 2) (Nat.ble (Nat.succ j) (Str.of b).len) := rfl
  rw [e, Str.of_len, ble_dec]
  by_cases h : j < b.size
  · have h' : Nat.succ j ≤ b.size := h
    rw [decide_eq_true h', decide_eq_true h, get_byte b j h, Bool.true_and]
    show Nat.beq _ _ = _
    rw [beq_dec, Bool.eq_iff_iff, decide_eq_true_iff, beq_iff_eq]
    rfl
  · have h' : ¬ Nat.succ j ≤ b.size := h
    rw [decide_eq_false h', decide_eq_false h]
    rfl
theorem cont_lo (b : ByteArray) (j : Nat) (h : cont (Str.of b) j = true) : lo6 (Str.of b) j = (b.get! j).toNat % 64 := by
  rw [cont_eq, Bool.and_eq_true, decide_eq_true_iff] at h
  rw [get_byte b j h.1]; rfl
noncomputable section
/-- what decR does, with all that it looks at by name -/
def decA (B : Nat) (c1 c2 c3 : Bool) (l1 l2 l3 : Nat) (k : Nat → Nat → Res) : Res :=
  match Nat.ble (Nat.succ B) (nat_lit 128) with
  | true => k B (nat_lit 1)
  | false => match and2 (Nat.beq (Nat.div B (nat_lit 32)) (nat_lit 6)) c1 with
    | true => Bool.rec (k (nat_lit 65533) (nat_lit 1)) (k (Nat.add (Nat.mul (Nat.mod B (nat_lit 32)) (nat_lit 64)) l1) (nat_lit 2)) (Nat.ble (nat_lit 128) (Nat.add (Nat.mul (Nat.mod B (nat_lit 32)) (nat_lit 64)) l1))
    | false => match and2 (Nat.beq (Nat.div B (nat_lit 16)) (nat_lit 14)) (and2 c1 c2) with
      | true => Bool.rec (k (nat_lit 65533) (nat_lit 1)) (k (Nat.add (Nat.add (Nat.mul (Nat.mod B (nat_lit 16)) (nat_lit 4096)) (Nat.mul l1 (nat_lit 64))) l2) (nat_lit 3))
          (and2 (Nat.ble (nat_lit 2048) (Nat.add (Nat.add (Nat.mul (Nat.mod B (nat_lit 16)) (nat_lit 4096)) (Nat.mul l1 (nat_lit 64))) l2)) (vld (Nat.add (Nat.add (Nat.mul (Nat.mod B (nat_lit 16)) (nat_lit 4096)) (Nat.mul l1 (nat_lit 64))) l2)))
      | false => match and2 (Nat.beq (Nat.div B (nat_lit 8)) (nat_lit 30)) (and2 c1 (and2 c2 c3)) with
        | true => Bool.rec (k (nat_lit 65533) (nat_lit 1)) (k (Nat.add (Nat.add (Nat.add (Nat.mul (Nat.mod B (nat_lit 8)) (nat_lit 262144)) (Nat.mul l1 (nat_lit 4096))) (Nat.mul l2 (nat_lit 64))) l3) (nat_lit 4))
            (and2 (Nat.ble (nat_lit 65536) (Nat.add (Nat.add (Nat.add (Nat.mul (Nat.mod B (nat_lit 8)) (nat_lit 262144)) (Nat.mul l1 (nat_lit 4096))) (Nat.mul l2 (nat_lit 64))) l3))
              (vld (Nat.add (Nat.add (Nat.add (Nat.mul (Nat.mod B (nat_lit 8)) (nat_lit 262144)) (Nat.mul l1 (nat_lit 4096))) (Nat.mul l2 (nat_lit 64))) l3)))
        | false => k (nat_lit 65533) (nat_lit 1)
theorem decR_decA (s : Str) (i : Nat) (k : Nat → Nat → Res) : decR s i k =
    decA (s.byte i) (cont s (i + 1)) (cont s (i + 2)) (cont s (i + 3)) (lo6 s (i + 1)) (lo6 s (i + 2)) (lo6 s (i + 3)) k := by
  unfold decR decA
  simp only [sN_eq]
  rfl
def decM (B : Nat) (c1 c2 c3 : Bool) (a1 a2 a3 : Nat) : Nat × Nat :=
  if B < 128 then (B, 1)
  else if B / 32 == 6 && c1 then (if B % 32 * 64 + a1 % 64 ≥ 128 then (B % 32 * 64 + a1 % 64, 2) else (65533, 1))
  else if B / 16 == 14 && c1 && c2 then (if B % 16 * 4096 + a1 % 64 * 64 + a2 % 64 ≥ 2048 && Utf8.valid (B % 16 * 4096 + a1 % 64 * 64 + a2 % 64 : Nat) then (B % 16 * 4096 + a1 % 64 * 64 + a2 % 64, 3) else (65533, 1))
  else if B / 8 == 30 && c1 && c2 && c3 then
    (if B % 8 * 262144 + a1 % 64 * 4096 + a2 % 64 * 64 + a3 % 64 ≥ 65536 && Utf8.valid (B % 8 * 262144 + a1 % 64 * 4096 + a2 % 64 * 64 + a3 % 64 : Nat) then (B % 8 * 262144 + a1 % 64 * 4096 + a2 % 64 * 64 + a3 % 64, 4) else (65533, 1))
  else (65533, 1)
theorem decode_decM (b : ByteArray) (i : Nat) : Utf8.decode b i =
    decM (b.get! i).toNat (decide (i + 1 < b.size) && (b.get! (i + 1)).toNat / 64 == 2) (decide (i + 2 < b.size) && (b.get! (i + 2)).toNat / 64 == 2) (decide (i + 3 < b.size) && (b.get! (i + 3)).toNat / 64 == 2)
      (b.get! (i + 1)).toNat (b.get! (i + 2)).toNat (b.get! (i + 3)).toNat := rfl
theorem beq_d (a b : Nat) : Nat.beq a b = (a == b) := by rw [beq_dec, Bool.eq_iff_iff, decide_eq_true_iff, beq_iff_eq]
theorem div_d (a b : Nat) : Nat.div a b = a / b := rfl
theorem mod_d (a b : Nat) : Nat.mod a b = a % b := rfl
theorem mul_d (a b : Nat) : Nat.mul a b = a * b := rfl
theorem add_d (a b : Nat) : Nat.add a b = a + b := rfl
theorem brec_if {α : Type} (c : Bool) (x y : α) : (Bool.rec x y c : α) = if c = true then y else x := by cases c <;> rfl
theorem bmatch_if {α : Type} (c : Bool) (x y : α) : (match c with | true => y | false => x) = if c = true then y else x := by cases c <;> rfl
theorem if_pair {k : Nat → Nat → Res} (c : Prop) [Decidable c] (c' : Prop) [Decidable c'] (hc : c ↔ c') (x y x' y' : Nat) : (if c then k x y else k x' y') = k (if c' then (x, y) else (x', y')).1 (if c' then (x, y) else (x', y')).2 := by
  by_cases h : c
  · rw [if_pos h, if_pos (hc.1 h)]
  · rw [if_neg h, if_neg (fun e => h (hc.2 e))]
theorem decA_decM (B : Nat) (c1 c2 c3 : Bool) (l1 l2 l3 a1 a2 a3 : Nat) (h1 : c1 = true → l1 = a1 % 64) (h2 : c2 = true → l2 = a2 % 64) (h3 : c3 = true → l3 = a3 % 64) (k : Nat → Nat → Res) :
    decA B c1 c2 c3 l1 l2 l3 k = k (decM B c1 c2 c3 a1 a2 a3).1 (decM B c1 c2 c3 a1 a2 a3).2 := by
  unfold decA decM
  simp only [and2_eq, vld_eq, ble_dec, beq_d, brec_if, bmatch_if, add_d, mul_d, div_d, mod_d]
  by_cases q0 : B < 128
  · rw [if_pos q0, if_pos (show (decide (Nat.succ B ≤ 128) = true) from decide_eq_true q0)]
  rw [if_neg q0, if_neg (show ¬ (decide (Nat.succ B ≤ 128) = true) from fun e => q0 (of_decide_eq_true e))]
  by_cases q1 : (B / 32 == 6 && c1) = true
  · rw [if_pos q1, if_pos q1]
    rw [h1 (by simp only [Bool.and_eq_true] at q1; exact q1.2)]
    exact if_pair _ _ (by simp only [decide_eq_true_iff]) _ _ _ _
  rw [if_neg q1, if_neg q1]
  by_cases q2 : (B / 16 == 14 && c1 && c2) = true
  · rw [if_pos q2, if_pos (show (B / 16 == 14 && (c1 && c2)) = true by rw [← Bool.and_assoc]; exact q2)]
    simp only [Bool.and_eq_true] at q2
    rw [h1 q2.1.2, h2 q2.2]
    exact if_pair _ _ (by simp only [Bool.and_eq_true, decide_eq_true_iff]) _ _ _ _
  rw [if_neg q2, if_neg (show ¬ (B / 16 == 14 && (c1 && c2)) = true by rw [← Bool.and_assoc]; exact q2)]
  by_cases q3 : (B / 8 == 30 && c1 && c2 && c3) = true
  · rw [if_pos q3, if_pos (show (B / 8 == 30 && (c1 && (c2 && c3))) = true by rw [← Bool.and_assoc, ← Bool.and_assoc]; exact q3)]
    simp only [Bool.and_eq_true] at q3
    rw [h1 q3.1.1.2, h2 q3.1.2, h3 q3.2]
    exact if_pair _ _ (by simp only [Bool.and_eq_true, decide_eq_true_iff]) _ _ _ _
  rw [if_neg q3, if_neg (show ¬ (B / 8 == 30 && (c1 && (c2 && c3))) = true by rw [← Bool.and_assoc, ← Bool.and_assoc]; exact q3)]
theorem decR_ok (b : ByteArray) (i : Nat) (hi : i < b.size) (k : Nat → Nat → Res) : decR (Str.of b) i k = k (Utf8.decode b i).1 (Utf8.decode b i).2 := by
  rw [decR_decA, decode_decM, ← get_byte b i hi, cont_eq, cont_eq, cont_eq]
  refine decA_decM _ _ _ _ _ _ _ _ _ _ ?_ ?_ ?_ k
  · intro h; exact cont_lo _ _ (by rw [cont_eq]; exact h)
  · intro h; exact cont_lo _ _ (by rw [cont_eq]; exact h)
  · intro h; exact cont_lo _ _ (by rw [cont_eq]; exact h)
section
variable {P : Program} {g : G} {ι : Nam} {h h' : H} {w : World} {D : Nat → Prop}
theorem next_ok (k : WR ι h w D) {x v : AV} {vx : Value} (hx : VR ι x vx) (hD : ∀ b ∈ blkOf x, D b) (t : TypeId) (e : nextA x h = .ok v h') : SimV P ι h w (Instr.next vx true t) v h' := by
  unfold nextA at e
  split at e
  · rename_i b
    obtain ⟨m, hm, rfl⟩ := hx
    split at e
    · rename_i s pos hb
      obtain ⟨o, ho, hbr⟩ := k.map (hD b (by simp [blkOf])) hm hb
      obtain ⟨hsh, bs, rfl, rfl⟩ := hbr
      have hgo : (getObj m.B).run P w = .ok (.stringIter bs pos) w := by
        show Sem.run P (Sem.getObj m.B Sem.pure) w = _
        unfold Sem.run; rw [ho]; rfl
      split at e
      · rename_i hlt
        rw [Nat.ble_eq, Str.of_len] at hlt
        have hlt : pos < bs.size := hlt
        rw [decR_ok bs pos hlt, sN_eq] at e
        cases e
        have hL := Loc.set_obj k hm hb ho (o := .stringIter bs (pos + (Utf8.decode bs pos).2)) (x := .iter (Str.of bs) (pos + (Utf8.decode bs pos).2)) ⟨hsh, bs, rfl, rfl⟩
        refine ⟨ι, _, [b], .tuple #[.bool true, goInt pos, .int .i32 (Utf8.decode bs pos).1], ?_, ?_, hL⟩
        · simp only [Instr.next, hsh, Nat.add_zero, Sem.run_bind, hgo, Result.andThen_ok, if_pos hlt]
          have hso : (setObj m.B (.stringIter bs (pos + (Utf8.decode bs pos).2))).run P w = .ok () { w with heap := w.heap.setIfInBounds m.B (.stringIter bs (pos + (Utf8.decode bs pos).2)) } := by
            show Sem.run P (Sem.setObj m.B _ (Sem.pure ())) w = _
            unfold Sem.run; rw [ho]; rfl
          rw [hso]; rfl
        · exact ⟨_, rfl, _, _, rfl, rfl, _, _, rfl, rfl, _, _, rfl, rfl, rfl⟩
      · rename_i hlt
        cases e
        rw [Str.of_len] at hlt
        have hlt : ¬ pos < bs.size := fun c => by
          have : Nat.ble (Nat.succ pos) bs.size = true := by rw [Nat.ble_eq]; exact c
          rw [this] at hlt; cases hlt
        refine SimV.ret k (v' := .tuple #[.bool false]) ?_ ⟨_, rfl, _, _, rfl, rfl, rfl⟩
        simp only [Instr.next, hsh, Nat.add_zero, Sem.run_bind, hgo, Result.andThen_ok, if_neg hlt]
        rfl
    · cases e
  · cases e
end
end
end Go.Proofs.YtfmnninijakknaaGreatDoor.Am
namespace Go.Proofs.YtfmnninijakknaaGreatDoor.Am
section
variable {P : Program} {g : G} {ι : Nam} {h h' : H} {w : World} {D : Nat → Prop}
theorem putCells_modify {b : Nat} {arr : Array Value} {el : TypeId} {fr : Nat × Nat} (h : w.heap[b]? = some (.cells arr el fr)) (f : Obj → Obj) {arr' : Array Value} {el' : TypeId} {fr' : Nat × Nat}
    (hf : f (.cells arr el fr) = .cells arr' el' fr') : { w with heap := w.heap.modify b f } = World.putCells w b arr' el' fr' := by
  unfold World.putCells
  congr 1
  apply Array.ext_getElem?
  intro i
  have hlt : b < w.heap.size := (Array.getElem?_eq_some_iff.1 h).1
  by_cases hi : b = i
  · subst hi
    rw [Array.getElem?_modify, if_pos rfl, h]
    simp [hlt, hf]
  · rw [Array.getElem?_setIfInBounds_ne hi, Array.getElem?_modify, if_neg hi]
theorem run_markStringish {b o : Nat} {arr : Array Value} {el : TypeId} {lo hi : Nat} (hw : w.heap[b]? = some (.cells arr el (lo, hi))) :
    ∃ lo' hi', (markStringish ⟨b, o, none⟩).run P w = .ok () (World.putCells w b arr el (lo', hi')) ∧ ((lo = hi ∨ arr.size ≤ lo) → arr.size ≤ lo') := by
  have hs : w.shape? b = some (el, arr.size) := by simp only [World.shape?, hw]
  by_cases hlh : lo = hi
  · refine ⟨arr.size, arr.size + 1, ?_, fun _ => Nat.le_refl _⟩
    simp only [markStringish, Sem.run_bind, run_shape, hs, Result.andThen_ok, run_freeze]
    unfold World.freeze
    rw [if_neg (by decide), putCells_modify hw _ (arr' := arr) (el' := el) (fr' := (arr.size, arr.size + 1)) (by simp [hlh])]
  · refine ⟨min lo arr.size, max hi (arr.size + 1), ?_, fun c => ?_⟩
    · simp only [markStringish, Sem.run_bind, run_shape, hs, Result.andThen_ok, run_freeze]
      unfold World.freeze
      rw [if_neg (by decide), putCells_modify hw _ (arr' := arr) (el' := el) (fr' := (min lo arr.size, max hi (arr.size + 1))) (by simp [hlh])]
    · rcases c with c | c
      · exact absurd c hlh
      · omega
theorem run_cap (need old : Nat) (el : TypeId) (w : World) : ∃ c, (choose (.appendCap need old el)).run P w = .ok c (World.drawnTo w (w.drawn + 1)) ∧ need ≤ c := by
  refine ⟨(Question.appendCap need old el).cut (w.tape w.drawn (.appendCap need old el)), ?_, ?_⟩
  · rw [run_choose, if_neg (by simp [Question.forced])]; rfl
  · exact Nat.le_add_right _ _
noncomputable def bstep (c : AV) (f : Option Str → Option Str) (o : Option Str) : Option Str :=
  match c, o with
    | .int .u8 (.ofNat n), some s => match Nat.ble n (nat_lit 255) with
      | true => sN (Nat.add (Nat.mul s.val (nat_lit 256)) n) fun v => f (some ⟨Nat.succ s.len, v⟩)
      | false => none
    | _, _ => none
theorem bytesStr_cons (a t : AV) (o : Option Str) : bytesStr (.cons a t) o = bstep a (bytesStr t) o := rfl
/-- bytes as a string -/
theorem bytesStr_ok {a : AV} {l : List Value} (hl : VRs ι a l) : ∀ (b : ByteArray) (s : Str), bytesStr a (some (Str.of b)) = some s →
    ∃ ns : List Int, l = ns.map (Value.int .u8) ∧ s = Str.of (ns.foldl (fun r n => r.push (UInt8.ofNat n.toNat)) b) := by
  refine VRs_ind (ι := ι) (Q := fun a l => ∀ (b : ByteArray) (s : Str), bytesStr a (some (Str.of b)) = some s →
    ∃ ns : List Int, l = ns.map (Value.int .u8) ∧ s = Str.of (ns.foldl (fun r n => r.push (UInt8.ofNat n.toNat)) b)) ?_ ?_ a l hl
  · intro b s e
    have e : some (Str.of b) = some s := e
    cases e
    exact ⟨[], rfl, rfl⟩
  · intro a t x xs hx _ ih b s e
    rw [bytesStr_cons] at e
    unfold bstep at e
    split at e
    · rename_i n s0 h1
      cases h1
      cases hx
      split at e
      · rename_i hle
        rw [Nat.ble_eq] at hle
        rw [sN_eq] at e
        have hpush : (⟨Nat.succ (Str.of b).len, Nat.add (Nat.mul (Str.of b).val (nat_lit 256)) n⟩ : Str) = Str.of (b.push (UInt8.ofNat n)) := by
          rw [Str.of_eq, Str.of_eq]
          have hd : (b.push (UInt8.ofNat n)).data.toList = b.data.toList ++ [UInt8.ofNat n] := by
            cases b; simp [ByteArray.push]
          rw [hd, valL_append]
          have hn : (UInt8.ofNat n).toNat = n := by
            rw [UInt8.toNat_ofNat']; exact Nat.mod_eq_of_lt (by have : n ≤ 255 := hle; omega)
          simp only [valL, List.foldl_cons, List.foldl_nil, List.length_append, List.length_cons, List.length_nil, hn]
          simp
        rw [hpush] at e
        obtain ⟨ns, rfl, h2⟩ := ih _ _ e
        exact ⟨(n : Int) :: ns, rfl, h2⟩
      · cases e
    · cases e
theorem strL_ok (b : ByteArray) : VRs ι (strL (Str.of b) (Str.of b).len) (b.data.toList.map fun c => Value.int .u8 (c.toNat : Int)) := by
  have key : ∀ n i, i + n = b.size → VRs ι (Nat.rec (motive := fun _ => Nat → AV) (fun _ => .nil) (fun _ ih i => sN ((Str.of b).byte i) fun c => .cons (.int .u8 (.ofNat c)) (ih (Nat.succ i))) n i)
      ((b.data.toList.drop i).map fun c => Value.int .u8 (c.toNat : Int)) := by
    intro n
    induction n with
    | zero =>
      intro i hi
      have : b.data.toList.drop i = [] := List.drop_eq_nil_of_le (by have : b.data.toList.length = b.size := by simp
                                                                     omega)
      rw [this]; rfl
    | succ n ih =>
      intro i hi
      have hlt : i < b.data.toList.length := by have : b.data.toList.length = b.size := by simp
                                                omega
      rw [List.drop_eq_getElem_cons hlt, List.map_cons]
      show VRs ι (sN ((Str.of b).byte i) fun c => .cons (.int .u8 (.ofNat c)) _) _
      rw [sN_eq]
      refine ⟨_, _, rfl, ?_, ih (i + 1) (by omega)⟩
      rw [Str.byte_ok b i (by simpa using hlt)]
      rfl
  have := key b.size 0 (by omega)
  rw [Str.of_len]
  exact this
/-! ### utf-8, written -/
def encC (c : Nat) : ByteArray :=
  if c < 0x80 then ⟨#[UInt8.ofNat c]⟩
  else if c < 0x800 then ⟨#[UInt8.ofNat (0xC0 + c / 64), UInt8.ofNat (0x80 + c % 64)]⟩
  else if c < 0x10000 then ⟨#[UInt8.ofNat (0xE0 + c / 4096), UInt8.ofNat (0x80 + c / 64 % 64), UInt8.ofNat (0x80 + c % 64)]⟩
  else ⟨#[UInt8.ofNat (0xF0 + c / 262144), UInt8.ofNat (0x80 + c / 4096 % 64), UInt8.ofNat (0x80 + c / 64 % 64), UInt8.ofNat (0x80 + c % 64)]⟩
theorem encode_encC (r : Int) : Utf8.encode r = encC (if Utf8.valid r then r.toNat else 65533) := rfl
theorem u8_of {n : Nat} (h : n < 256) : (UInt8.ofNat n).toNat = n := by
  rw [UInt8.toNat_ofNat']; exact Nat.mod_eq_of_lt (by omega)
theorem enc1_ok (c : Nat) (hc : c ≤ 1114111) : enc1 c = Str.of (encC c) := by
  unfold enc1 encC
  simp only [brec_if, ble_dec, decide_eq_true_iff, add_d, mul_d, div_d, mod_d]
  by_cases h1 : c < 128
  · rw [if_pos h1, if_pos (show Nat.succ c ≤ 128 from h1), Str.of_eq]
    simp only [valL, List.foldl_cons, List.foldl_nil, u8_of (show c < 256 by omega), List.length_cons, List.length_nil]
    simp
  rw [if_neg h1, if_neg (show ¬ Nat.succ c ≤ 128 from h1)]
  by_cases h2 : c < 2048
  · rw [if_pos h2, if_pos (show Nat.succ c ≤ 2048 from h2), Str.of_eq]
    simp only [valL, List.foldl_cons, List.foldl_nil, u8_of (show 192 + c / 64 < 256 by omega), u8_of (show 128 + c % 64 < 256 by omega), List.length_cons, List.length_nil]
    simp
  rw [if_neg h2, if_neg (show ¬ Nat.succ c ≤ 2048 from h2)]
  by_cases h3 : c < 65536
  · rw [if_pos h3, if_pos (show Nat.succ c ≤ 65536 from h3), Str.of_eq]
    simp only [valL, List.foldl_cons, List.foldl_nil, u8_of (show 224 + c / 4096 < 256 by omega), u8_of (show 128 + c / 64 % 64 < 256 by omega), u8_of (show 128 + c % 64 < 256 by omega), List.length_cons, List.length_nil]
    simp
  rw [if_neg h3, if_neg (show ¬ Nat.succ c ≤ 65536 from h3), Str.of_eq]
  simp only [valL, List.foldl_cons, List.foldl_nil, u8_of (show 240 + c / 262144 < 256 by omega), u8_of (show 128 + c / 4096 % 64 < 256 by omega), u8_of (show 128 + c / 64 % 64 < 256 by omega), u8_of (show 128 + c % 64 < 256 by omega), List.length_cons, List.length_nil]
  simp
theorem encR_ok (r : Int) : encR r = Str.of (Utf8.encode r) := by
  rw [encode_encC]
  cases r with
  | ofNat c =>
    have e : encR (.ofNat c) = enc1 (Bool.rec (nat_lit 65533) c (vld c)) := rfl
    rw [e, vld_eq, brec_if]
    show enc1 (if Utf8.valid (c : Int) = true then c else 65533) = Str.of (encC (if Utf8.valid (c : Int) = true then (c : Int).toNat else 65533))
    by_cases h : Utf8.valid (c : Int) = true
    · rw [if_pos h, if_pos h, Int.toNat_natCast]
      refine enc1_ok c ?_
      simp only [Utf8.valid, Bool.or_eq_true, Bool.and_eq_true, decide_eq_true_iff] at h
      omega
    · rw [if_neg h, if_neg h]; exact enc1_ok 65533 (by omega)
  | negSucc c =>
    have e : encR (.negSucc c) = enc1 65533 := rfl
    rw [e, if_neg]
    · exact enc1_ok 65533 (by omega)
    · simp only [Utf8.valid, Bool.or_eq_true, Bool.and_eq_true, decide_eq_true_iff]
      omega
end
end Go.Proofs.YtfmnninijakknaaGreatDoor.Am
namespace Go.Proofs.YtfmnninijakknaaGreatDoor.Am
section
variable {P : Program} {w : World}
theorem lies_self {e : TypeId} {count off n : Nat} (h0 : P.cellsOf e ≠ 0) (h1 : off % P.cellsOf e = 0) (h2 : off / P.cellsOf e + n ≤ count) : liesAt P P.depth e count off e n = true := by
  have hd : P.depth = (2 * (P.types.size + Made.depth) + 1) + 1 := rfl
  rw [hd]
  simp only [liesAt, Bool.or_eq_true]
  left
  rw [hd]
  simp [rowAt, h0, h1, h2, sameLayout]
theorem cellsOf_info {t : TypeId} {i : TypeInfo} (hi : P.info? t = some i) : P.cellsOf t = i.size := by simp [Program.cellsOf, hi]
theorem shape_of {b : Nat} {arr : Array Value} {el : TypeId} {fr : Nat × Nat} (hw : w.heap[b]? = some (.cells arr el fr)) : w.shape? b = some (el, arr.size) := by simp only [World.shape?, hw]
theorem run_seenAt {b o : Nat} {arr : Array Value} {el : TypeId} {fr : Nat × Nat} (hw : w.heap[b]? = some (.cells arr el fr)) : (Conv.seenAt ⟨b, o, none⟩).run P w = .ok ⟨b, o, none⟩ w := by
  simp [Conv.seenAt, viewAt, shape_of hw]
theorem run_size {t : TypeId} {i : TypeInfo} (hi : P.info? t = some i) : (sizeOf t).run P w = .ok i.size w := by
  simp [sizeOf, typeInfo, hi]
theorem toUnsafe_run {src dst t : TypeId} (hsrc : P.underlying src = some (.pointer t)) (hdst : P.underlying dst = some .unsafePointer) {i : TypeInfo} (hi : P.info? t = some i) (hsz : i.size ≠ 0)
    {b o : Nat} {arr : Array Value} {el : TypeId} {fr : Nat × Nat} (hw : w.heap[b]? = some (.cells arr el fr)) (ho : o < arr.size) :
    (convert src dst (.pointer (some ⟨b, o, none⟩))).run P w = .ok (.pointer (some ⟨b, o, none⟩)) w := by
  have hc : (cellsIn b).run P w = .ok (some arr.size) w := by simp [cellsIn, shape_of hw]
  simp [convert, Conv.unsafePointer, run_und hsrc, run_und hdst, run_seenAt hw, hc, run_size hi, hsz, Nat.not_le.2 ho]
theorem ofUnsafe_run {src dst u : TypeId} (hsrc : P.underlying src = some .unsafePointer) (hdst : P.underlying dst = some (.pointer u)) {i : TypeInfo} (hi : P.info? u = some i) (hsz : i.size ≠ 0)
    {b : Nat} {arr : Array Value} {fr : Nat × Nat} (hw : w.heap[b]? = some (.cells arr u fr)) (ho : i.size ≤ arr.size) :
    (convert src dst (.pointer (some ⟨b, 0, none⟩))).run P w = .ok (.pointer (some ⟨b, 0, none⟩)) w := by
  have hl : liesAt P P.depth u (arr.size / P.cellsOf u) 0 u 1 = true := by
    have hc := cellsOf_info hi
    refine lies_self (by rw [hc]; exact hsz) (Nat.zero_mod _) ?_
    rw [hc, Nat.zero_div, Nat.zero_add]
    exact Nat.div_pos ho (by omega)
  have hv : (variablesAt ⟨b, 0, none⟩ u 1).run P w = .ok true w := by simp [variablesAt, shape_of hw, hl]
  simp [convert, Conv.unsafePointer, run_und hsrc, run_und hdst, run_seenAt hw, hv, run_size hi, hsz]
theorem nilUnsafe_run {src dst t : TypeId} (h : (P.underlying src = some (.pointer t) ∧ P.underlying dst = some .unsafePointer) ∨ (P.underlying src = some .unsafePointer ∧ P.underlying dst = some (.pointer t))) :
    (convert src dst (.pointer none)).run P w = .ok (.pointer none) w := by
  rcases h with ⟨h1, h2⟩ | ⟨h1, h2⟩ <;> simp [convert, Conv.unsafePointer, run_und h1, run_und h2]
theorem run_loadB : ∀ (ns : List Int) (a : Addr) (acc : ByteArray), (∀ j n, ns[j]? = some n → w.cell? (a.add j) = some (.int .u8 n)) →
    (loadBytes a acc ns.length).run P w = .ok (ns.foldl (fun r n => r.push (UInt8.ofNat n.toNat)) acc) w
  | [], a, acc, _ => by simp [loadBytes]
  | x :: l, a, acc, h => by
    have h0 : w.cell? a = some (.int .u8 x) := by
      have := h 0 x rfl
      simpa [Addr.add] using this
    have ih := run_loadB l (a.add 1) (acc.push (UInt8.ofNat x.toNat)) (fun j y hy => by
      have := h (j + 1) y (by simpa using hy)
      have e : (a.add 1).add j = a.add (j + 1) := by
        unfold Addr.add
        by_cases hj : j = 0
        · subst hj; simp
        · simp [hj]; omega
      rw [e]; exact this)
    have hx : x.toNat.toUInt8 = UInt8.ofNat x.toNat := rfl
    simp only [List.length_cons, loadBytes, Sem.run_bind, run_load, h0, Result.andThen, hx]
    exact ih
theorem freeze_put {b o n : Nat} (hn : n ≠ 0) {arr : Array Value} {el : TypeId} {lo hi : Nat} (hw : w.heap[b]? = some (.cells arr el (lo, hi))) : ∃ lo' hi', w.freeze ⟨b, o, none⟩ n = World.putCells w b arr el (lo', hi') ∧
    ∀ B, o + n ≤ B → (lo = hi ∨ hi ≤ B) → lo' = hi' ∨ hi' ≤ B := by
  unfold World.freeze
  rw [if_neg hn]
  by_cases hlh : lo = hi
  · refine ⟨o, o + n, putCells_modify hw _ (arr' := arr) (el' := el) (fr' := (o, o + n)) (by simp [hlh]), fun B h1 _ => .inr h1⟩
  · refine ⟨min lo o, max hi (o + n), putCells_modify hw _ (arr' := arr) (el' := el) (fr' := (min lo o, max hi (o + n))) (by simp [hlh]), fun B h1 h2 => .inr ?_⟩
    rcases h2 with h2 | h2
    · exact absurd h2 hlh
    · omega
theorem unsafeStr_def (ts : Array TypeId) (ty : TypeId) (a : Addr) (x : Value) : Builtin.unsafeString_ ts ty #[.pointer (some a), x] = (do
    let n ← asInt x
    let some pt := ts[0]? | stuck "unsafe.String: no argument types"
    if n < 0 then runtimePanic (.error "unsafe.String: len out of range")
    if n > IntKind.i64.max then unsupported (.unsafePointer "String: a length above the largest int")
    if n = 0 then pure (.string .empty)
    else if ← variablesAt a (← elemOf pt) n.toNat then do
      let s ← loadBytes a .empty n.toNat
      freeze a n.toNat
      pure (.string s)
    else unsupported (.unsafePointer "String: not so many bytes at ptr")) := rfl
theorem unsafeStr_defN (ts : Array TypeId) (ty : TypeId) (x : Value) : Builtin.unsafeString_ ts ty #[.pointer none, x] = (do
    let n ← asInt x
    let some _ := ts[0]? | stuck "unsafe.String: no argument types"
    if n < 0 then runtimePanic (.error "unsafe.String: len out of range")
    if n > IntKind.i64.max then unsupported (.unsafePointer "String: a length above the largest int")
    if n = 0 then pure (.string .empty)
    else runtimePanic (.error "unsafe.String: ptr is nil and len is not zero")) := rfl
theorem unsafeStr_zero {pt ty : TypeId} {ts : Array TypeId} (hts : ts[0]? = some pt) (p : Option Addr) (k : IntKind) : (Builtin.unsafeString_ ts ty #[.pointer p, .int k 0]).run P w = .ok (.string .empty) w := by
  have hmax : IntKind.i64.max = 9223372036854775807 := rfl
  cases p with
  | none => rw [unsafeStr_defN]; simp [asInt, asIntOf, hmax, hts]
  | some a => rw [unsafeStr_def]; simp [asInt, asIntOf, hmax, hts]
theorem unsafeStr_run {pt u ty : TypeId} {ts : Array TypeId} (hts : ts[0]? = some pt) (hpt : P.underlying pt = some (.pointer u)) {i : TypeInfo} (hi : P.info? u = some i) (hsz : i.size = 1)
    {b o : Nat} {arr : Array Value} {lo hi' : Nat} (hw : w.heap[b]? = some (.cells arr u (lo, hi'))) {ns : List Int} {k : IntKind} (hn : ns ≠ []) (ho : o + ns.length ≤ arr.size) (hm : ns.length ≤ 4000000)
    (hc : ∀ j n, ns[j]? = some n → arr.getD (o + j) undef = .int .u8 n) :
    ∃ lo2 hi2, (Builtin.unsafeString_ ts ty #[.pointer (some ⟨b, o, none⟩), .int k (Int.ofNat ns.length)]).run P w = .ok (.string (ns.foldl (fun r n => r.push (UInt8.ofNat n.toNat)) .empty)) (World.putCells w b arr u (lo2, hi2)) ∧
      ∀ B, o + ns.length ≤ B → (lo = hi' ∨ hi' ≤ B) → lo2 = hi2 ∨ hi2 ≤ B := by
  have hl0 : ns.length ≠ 0 := by cases ns <;> simp at hn ⊢
  have hl : liesAt P P.depth u (arr.size / P.cellsOf u) o u ns.length = true := by
    have hc := cellsOf_info hi
    rw [hsz] at hc
    refine lies_self (by rw [hc]; decide) (by rw [hc]; exact Nat.mod_one _) ?_
    rw [hc, Nat.div_one, Nat.div_one]; exact ho
  have hv : (variablesAt ⟨b, o, none⟩ u ns.length).run P w = .ok true w := by simp [variablesAt, shape_of hw, hl]
  have hld := run_loadB (P := P) (w := w) ns ⟨b, o, none⟩ .empty (fun j n hj => by
    have hlt : j < ns.length := (List.getElem?_eq_some_iff.1 hj).1
    have := hc j n hj
    rw [addr_add, cell?_of hw, Array.getElem?_eq_getElem (by omega)]
    simp [Array.getD, show o + j < arr.size by omega] at this
    rw [this])
  have hel : (elemOf pt).run P w = .ok u w := by simp [elemOf, run_und hpt]
  obtain ⟨lo2, hi2, hf, hB⟩ := freeze_put (o := o) hl0 hw
  refine ⟨lo2, hi2, ?_, hB⟩
  have h1 : ¬ ((ns.length : Int) < 0) := by omega
  rw [unsafeStr_def]
  simp [asInt, asIntOf, hts, h1, hel, hv, hld, hf, hl0]
  omega
end
end Go.Proofs.YtfmnninijakknaaGreatDoor.Am
