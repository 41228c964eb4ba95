/- The machine's strings: what they say of the model's. -/
import Derived.Test.YtlmcadgbnolffaaGreatDoorAm9
namespace Go.Proofs.YtlmcadgbnolffaaGreatDoor.Am

def valL (l : List UInt8) : Nat := l.foldl (fun v b => v * 256 + b.toNat) 0
theorem foldl_valL : ∀ (l : List UInt8) (v : Nat), l.foldl (fun v b => v * 256 + b.toNat) v = v * 256 ^ l.length + valL l
  | [], v => by simp [valL]
  | b :: r, v => by
    have e : valL (b :: r) = r.foldl (fun v b => v * 256 + b.toNat) (0 * 256 + b.toNat) := rfl
    rw [List.foldl_cons, foldl_valL r, e, foldl_valL r]
    simp only [List.length_cons, Nat.pow_succ, Nat.zero_mul, Nat.zero_add]
    rw [Nat.add_mul, Nat.mul_assoc, Nat.mul_comm 256, Nat.add_assoc]
theorem valL_cons (b : UInt8) (r : List UInt8) : valL (b :: r) = b.toNat * 256 ^ r.length + valL r := by
  rw [valL, List.foldl_cons, foldl_valL]; simp
theorem valL_append (l r : List UInt8) : valL (l ++ r) = valL l * 256 ^ r.length + valL r := by
  rw [valL, List.foldl_append, foldl_valL]; rfl
theorem valL_lt : ∀ l : List UInt8, valL l < 256 ^ l.length
  | [] => by simp [valL]
  | b :: r => by
    rw [valL_cons, List.length_cons, Nat.pow_succ]
    have h1 := valL_lt r
    have h2 : b.toNat ≤ 255 := by have := b.toNat_lt; omega
    have h3 : b.toNat * 256 ^ r.length ≤ 255 * 256 ^ r.length := Nat.mul_le_mul_right _ h2
    omega
theorem valL_inj : ∀ {l r : List UInt8}, l.length = r.length → valL l = valL r → l = r
  | [], [], _, _ => rfl
  | a :: l, b :: r, hl, hv => by
    simp only [List.length_cons, Nat.add_right_cancel_iff] at hl
    rw [valL_cons, valL_cons, hl] at hv
    have h1 := valL_lt l
    have h2 := valL_lt r
    rw [hl] at h1
    have hp : 0 < 256 ^ r.length := Nat.pow_pos (by omega)
    have e1 : (a.toNat * 256 ^ r.length + valL l) / 256 ^ r.length = a.toNat := by
      rw [Nat.mul_comm, Nat.mul_add_div hp, Nat.div_eq_of_lt h1]; omega
    have e2 : (b.toNat * 256 ^ r.length + valL r) / 256 ^ r.length = b.toNat := by
      rw [Nat.mul_comm, Nat.mul_add_div hp, Nat.div_eq_of_lt h2]; omega
    have hab : a.toNat = b.toNat := by rw [← e1, ← e2, hv]
    have : a = b := UInt8.toNat_inj.1 hab
    subst this
    rw [valL_inj hl (by omega)]
  | [], _ :: _, h, _ => by cases h
  | _ :: _, [], h, _ => by cases h

namespace Str
theorem go_eq : ∀ (l : List UInt8) (n v : Nat), go l n v = ⟨n + l.length, v * 256 ^ l.length + valL l⟩
  | [], n, v => by simp [go, valL]
  | b :: r, n, v => by
    have : go (b :: r) n v = go r (n + 1) (v * 256 + b.toNat) := sN_eq _ _
    rw [this, go_eq r, valL_cons, List.length_cons]
    congr 1
    · omega
    · rw [Nat.pow_succ, Nat.add_mul, Nat.mul_assoc, Nat.mul_comm 256, Nat.add_assoc]
theorem of_eq (b : ByteArray) : of b = ⟨b.data.toList.length, valL b.data.toList⟩ := by
  unfold of; rw [go_eq]; simp
theorem of_len (b : ByteArray) : (of b).len = b.size := by rw [of_eq]; rfl
theorem of_val (b : ByteArray) : (of b).val = valL b.data.toList := by rw [of_eq]
theorem of_inj {a b : ByteArray} (h : of a = of b) : a = b := by
  rw [of_eq, of_eq] at h
  injection h with h1 h2
  have := valL_inj h1 h2
  cases a; cases b
  congr 1
  exact Array.toList_inj.1 this
theorem eq_ok (a b : ByteArray) : (of a).eq (of b) = decide (a = b) := by
  have h : (of a).eq (of b) = true ↔ of a = of b := by
    unfold Str.eq
    cases h1 : Nat.beq (of a).len (of b).len
    · simp only [Bool.false_eq_true, false_iff]
      intro e; rw [e, Nat.beq_refl] at h1; cases h1
    · have h1' := Nat.eq_of_beq_eq_true h1
      show Nat.beq _ _ = true ↔ _
      rw [Nat.beq_eq]
      constructor
      · intro h2
        rcases ha : of a with ⟨x, y⟩; rcases hb : of b with ⟨z, t⟩
        rw [ha, hb] at h1' h2
        simp only at h1' h2
        rw [h1', h2]
      · intro h2; rw [h2]
  rw [Bool.eq_iff_iff, h, decide_eq_true_iff]
  exact ⟨of_inj, fun e => by rw [e]⟩
theorem byte_ok (b : ByteArray) (i : Nat) (hi : i < b.size) : (of b).byte i = (b.data.toList[i]'(by simpa using hi)).toNat := by
  have hi' : i < b.data.toList.length := by simpa using hi
  have hsp : b.data.toList = b.data.toList.take i ++ b.data.toList[i] :: b.data.toList.drop (i + 1) := by
    rw [List.getElem_cons_drop, List.take_append_drop]
  show ((of b).val >>> (8 * ((of b).len - 1 - i))) % 256 = _
  rw [of_len, of_val, Nat.shiftRight_eq_div_pow, Nat.pow_mul]
  have hd : (b.data.toList.drop (i + 1)).length = b.size - 1 - i := by
    rw [List.length_drop]; show b.data.toList.length - _ = _
    have : b.data.toList.length = b.size := rfl
    omega
  have hv := valL_append (b.data.toList.take i) (b.data.toList[i] :: b.data.toList.drop (i + 1))
  rw [← hsp, valL_cons, List.length_cons, hd] at hv
  rw [hv]
  have hlt := valL_lt (b.data.toList.drop (i + 1))
  rw [hd] at hlt
  show (_ / 256 ^ _) % 256 = _
  have hp : 0 < 256 ^ (b.size - 1 - i) := Nat.pow_pos (by omega)
  rw [Nat.pow_succ, Nat.mul_comm (256 ^ (b.size - 1 - i)) 256, ← Nat.mul_assoc, ← Nat.add_assoc, ← Nat.add_mul, Nat.mul_comm _ (256 ^ (b.size - 1 - i)), Nat.mul_add_div hp, Nat.div_eq_of_lt hlt, Nat.add_zero]
  have := (b.data.toList[i]).toNat_lt
  omega
theorem app_ok (a b : ByteArray) : (of a).app (of b) = of (a ++ b) := by
  have hl : (a ++ b).data.toList = a.data.toList ++ b.data.toList := by
    rw [ByteArray.data_append]; simp
  rw [of_eq (a ++ b), hl, valL_append, List.length_append]
  unfold app
  rw [of_len, of_len, of_val, of_val]
  show (⟨a.size + b.size, (valL a.data.toList) <<< (8 * b.size) + valL b.data.toList⟩ : Str) = _
  rw [Nat.shiftLeft_eq, Nat.pow_mul]
  rfl
theorem sub_ok (b : ByteArray) (x y : Nat) (h : x ≤ y) (hy : y ≤ b.size) : (of b).sub x y = of (b.extract x y) := by
  have hl : (b.extract x y).data.toList = (b.data.toList.take y).drop x := by
    rw [ByteArray.data_extract, Array.toList_extract, List.extract_eq_take_drop]
    rw [List.drop_take]
  have hlen : b.data.toList.length = b.size := rfl
  have h1 : ((b.data.toList.take y).drop x).length = y - x := by
    rw [List.length_drop, List.length_take]; omega
  rw [of_eq (b.extract x y), hl, h1]
  unfold sub
  rw [of_len, of_val]
  show (⟨y - x, (valL b.data.toList >>> (8 * (b.size - y))) % 2 ^ (8 * (y - x))⟩ : Str) = _
  congr 1
  rw [Nat.shiftRight_eq_div_pow, Nat.pow_mul, Nat.pow_mul]
  have e1 : valL b.data.toList = valL (b.data.toList.take y) * 256 ^ (b.size - y) + valL (b.data.toList.drop y) := by
    have := valL_append (b.data.toList.take y) (b.data.toList.drop y)
    rw [List.take_append_drop, List.length_drop, hlen] at this
    exact this
  have hlt := valL_lt (b.data.toList.drop y)
  rw [List.length_drop, hlen] at hlt
  have hp : 0 < 256 ^ (b.size - y) := Nat.pow_pos (by omega)
  show (_ / 256 ^ _) % 256 ^ _ = _
  rw [e1, Nat.mul_comm, Nat.mul_add_div hp, Nat.div_eq_of_lt hlt, Nat.add_zero]
  have e2 := valL_append ((b.data.toList.take y).take x) ((b.data.toList.take y).drop x)
  rw [List.take_append_drop, h1] at e2
  have hlt2 := valL_lt ((b.data.toList.take y).drop x)
  rw [h1] at hlt2
  rw [e2, Nat.mul_comm, Nat.mul_add_mod, Nat.mod_eq_of_lt hlt2]
end Str
end Go.Proofs.YtlmcadgbnolffaaGreatDoor.Am
