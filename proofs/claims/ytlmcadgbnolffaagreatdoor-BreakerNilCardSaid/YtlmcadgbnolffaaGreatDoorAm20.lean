/- The machine's soundness: conversions; the greatest and the least; what is no nil. -/
import Derived.Test.YtlmcadgbnolffaaGreatDoorAm19
import Derived.Laws.BytesString
namespace Go.Proofs.YtlmcadgbnolffaaGreatDoor.Am
section
variable {P : Program} {g : G} {ι : Nam} {h h' : H} {w : World} {D : Nat → Prop}
theorem putCells_modify {b : Nat} {arr : Array Value} {el : TypeId} {fr : Nat × Nat} (h : w.heap[b]? = some (.cells arr el fr)) (f : Obj → Obj) {arr' : Array Value} {el' : TypeId} {fr' : Nat × Nat}
    (hf : f (.cells arr el fr) = .cells arr' el' fr') : { w with heap := w.heap.modify b f } = World.putCells w b arr' el' fr' := by
  unfold World.putCells
  congr 1
  apply Array.ext_getElem?
  intro i
  have hlt : b < w.heap.size := (Array.getElem?_eq_some_iff.1 h).1
  by_cases hi : b = i
  · subst hi
    rw [Array.getElem?_modify, if_pos rfl, h]
    simp [hlt, hf]
  · rw [Array.getElem?_setIfInBounds_ne hi, Array.getElem?_modify, if_neg hi]
theorem run_markStringish {b o : Nat} {arr : Array Value} {el : TypeId} {lo hi : Nat} (hw : w.heap[b]? = some (.cells arr el (lo, hi))) :
    ∃ lo' hi', (markStringish ⟨b, o, none⟩).run P w = .ok () (World.putCells w b arr el (lo', hi')) ∧ ((lo = hi ∨ arr.size ≤ lo) → arr.size ≤ lo') := by
  have hs : w.shape? b = some (el, arr.size) := by simp only [World.shape?, hw]
  by_cases hlh : lo = hi
  · refine ⟨arr.size, arr.size + 1, ?_, fun _ => Nat.le_refl _⟩
    simp only [markStringish, Sem.run_bind, run_shape, hs, Result.andThen_ok, run_freeze]
    unfold World.freeze
    rw [if_neg (by decide), putCells_modify hw _ (arr' := arr) (el' := el) (fr' := (arr.size, arr.size + 1)) (by simp [hlh])]
  · refine ⟨min lo arr.size, max hi (arr.size + 1), ?_, fun c => ?_⟩
    · simp only [markStringish, Sem.run_bind, run_shape, hs, Result.andThen_ok, run_freeze]
      unfold World.freeze
      rw [if_neg (by decide), putCells_modify hw _ (arr' := arr) (el' := el) (fr' := (min lo arr.size, max hi (arr.size + 1))) (by simp [hlh])]
    · rcases c with c | c
      · exact absurd c hlh
      · omega
theorem run_cap (need old : Nat) (el : TypeId) (w : World) : ∃ c, (choose (.appendCap need old el)).run P w = .ok c (World.drawnTo w (w.drawn + 1)) ∧ need ≤ c := by
  refine ⟨(Question.appendCap need old el).cut (w.tape w.drawn (.appendCap need old el)), ?_, ?_⟩
  · rw [run_choose, if_neg (by simp [Question.forced])]; rfl
  · exact Nat.le_add_right _ _
noncomputable def bstep (c : AV) (f : Option Str → Option Str) (o : Option Str) : Option Str :=
  match c, o with
    | .int .u8 (.ofNat n), some s => match Nat.ble n (nat_lit 255) with
      | true => sN (Nat.add (Nat.mul s.val (nat_lit 256)) n) fun v => f (some ⟨Nat.succ s.len, v⟩)
      | false => none
    | _, _ => none
theorem bytesStr_cons (a t : AV) (o : Option Str) : bytesStr (.cons a t) o = bstep a (bytesStr t) o := rfl
/-- bytes as a string -/
theorem bytesStr_ok {a : AV} {l : List Value} (hl : VRs ι a l) : ∀ (b : ByteArray) (s : Str), bytesStr a (some (Str.of b)) = some s →
    ∃ ns : List Int, l = ns.map (Value.int .u8) ∧ s = Str.of (ns.foldl (fun r n => r.push (UInt8.ofNat n.toNat)) b) := by
  refine VRs_ind (ι := ι) (Q := fun a l => ∀ (b : ByteArray) (s : Str), bytesStr a (some (Str.of b)) = some s →
    ∃ ns : List Int, l = ns.map (Value.int .u8) ∧ s = Str.of (ns.foldl (fun r n => r.push (UInt8.ofNat n.toNat)) b)) ?_ ?_ a l hl
  · intro b s e
    have e : some (Str.of b) = some s := e
    cases e
    exact ⟨[], rfl, rfl⟩
  · intro a t x xs hx _ ih b s e
    rw [bytesStr_cons] at e
    unfold bstep at e
    split at e
    · rename_i n s0 h1
      cases h1
      cases hx
      split at e
      · rename_i hle
        rw [Nat.ble_eq] at hle
        rw [sN_eq] at e
        have hpush : (⟨Nat.succ (Str.of b).len, Nat.add (Nat.mul (Str.of b).val (nat_lit 256)) n⟩ : Str) = Str.of (b.push (UInt8.ofNat n)) := by
          rw [Str.of_eq, Str.of_eq]
          have hd : (b.push (UInt8.ofNat n)).data.toList = b.data.toList ++ [UInt8.ofNat n] := by
            cases b; simp [ByteArray.push]
          rw [hd, valL_append]
          have hn : (UInt8.ofNat n).toNat = n := by
            rw [UInt8.toNat_ofNat']; exact Nat.mod_eq_of_lt (by have : n ≤ 255 := hle; omega)
          simp only [valL, List.foldl_cons, List.foldl_nil, List.length_append, List.length_cons, List.length_nil, hn]
          simp
        rw [hpush] at e
        obtain ⟨ns, rfl, h2⟩ := ih _ _ e
        exact ⟨(n : Int) :: ns, rfl, h2⟩
      · cases e
    · cases e
theorem strL_ok (b : ByteArray) : VRs ι (strL (Str.of b) (Str.of b).len) (b.data.toList.map fun c => Value.int .u8 (c.toNat : Int)) := by
  have key : ∀ n i, i + n = b.size → VRs ι (Nat.rec (motive := fun _ => Nat → AV) (fun _ => .nil) (fun _ ih i => sN ((Str.of b).byte i) fun c => .cons (.int .u8 (.ofNat c)) (ih (Nat.succ i))) n i)
      ((b.data.toList.drop i).map fun c => Value.int .u8 (c.toNat : Int)) := by
    intro n
    induction n with
    | zero =>
      intro i hi
      have : b.data.toList.drop i = [] := List.drop_eq_nil_of_le (by have : b.data.toList.length = b.size := by simp
                                                                     omega)
      rw [this]; rfl
    | succ n ih =>
      intro i hi
      have hlt : i < b.data.toList.length := by have : b.data.toList.length = b.size := by simp
                                                omega
      rw [List.drop_eq_getElem_cons hlt, List.map_cons]
      show VRs ι (sN ((Str.of b).byte i) fun c => .cons (.int .u8 (.ofNat c)) _) _
      rw [sN_eq]
      refine ⟨_, _, rfl, ?_, ih (i + 1) (by omega)⟩
      rw [Str.byte_ok b i (by simpa using hlt)]
      rfl
  have := key b.size 0 (by omega)
  rw [Str.of_len]
  exact this
/-! ### utf-8, written -/
def encC (c : Nat) : ByteArray :=
  if c < 0x80 then ⟨#[UInt8.ofNat c]⟩
  else if c < 0x800 then ⟨#[UInt8.ofNat (0xC0 + c / 64), UInt8.ofNat (0x80 + c % 64)]⟩
  else if c < 0x10000 then ⟨#[UInt8.ofNat (0xE0 + c / 4096), UInt8.ofNat (0x80 + c / 64 % 64), UInt8.ofNat (0x80 + c % 64)]⟩
  else ⟨#[UInt8.ofNat (0xF0 + c / 262144), UInt8.ofNat (0x80 + c / 4096 % 64), UInt8.ofNat (0x80 + c / 64 % 64), UInt8.ofNat (0x80 + c % 64)]⟩
theorem encode_encC (r : Int) : Utf8.encode r = encC (if Utf8.valid r then r.toNat else 65533) := rfl
theorem u8_of {n : Nat} (h : n < 256) : (UInt8.ofNat n).toNat = n := by
  rw [UInt8.toNat_ofNat']; exact Nat.mod_eq_of_lt (by omega)
theorem enc1_ok (c : Nat) (hc : c ≤ 1114111) : enc1 c = Str.of (encC c) := by
  unfold enc1 encC
  simp only [brec_if, ble_dec, decide_eq_true_iff, add_d, mul_d, div_d, mod_d]
  by_cases h1 : c < 128
  · rw [if_pos h1, if_pos (show Nat.succ c ≤ 128 from h1), Str.of_eq]
    simp only [valL, List.foldl_cons, List.foldl_nil, u8_of (show c < 256 by omega), List.length_cons, List.length_nil]
    simp
  rw [if_neg h1, if_neg (show ¬ Nat.succ c ≤ 128 from h1)]
  by_cases h2 : c < 2048
  · rw [if_pos h2, if_pos (show Nat.succ c ≤ 2048 from h2), Str.of_eq]
    simp only [valL, List.foldl_cons, List.foldl_nil, u8_of (show 192 + c / 64 < 256 by omega), u8_of (show 128 + c % 64 < 256 by omega), List.length_cons, List.length_nil]
    simp
  rw [if_neg h2, if_neg (show ¬ Nat.succ c ≤ 2048 from h2)]
  by_cases h3 : c < 65536
  · rw [if_pos h3, if_pos (show Nat.succ c ≤ 65536 from h3), Str.of_eq]
    simp only [valL, List.foldl_cons, List.foldl_nil, u8_of (show 224 + c / 4096 < 256 by omega), u8_of (show 128 + c / 64 % 64 < 256 by omega), u8_of (show 128 + c % 64 < 256 by omega), List.length_cons, List.length_nil]
    simp
  rw [if_neg h3, if_neg (show ¬ Nat.succ c ≤ 65536 from h3), Str.of_eq]
  simp only [valL, List.foldl_cons, List.foldl_nil, u8_of (show 240 + c / 262144 < 256 by omega), u8_of (show 128 + c / 4096 % 64 < 256 by omega), u8_of (show 128 + c / 64 % 64 < 256 by omega), u8_of (show 128 + c % 64 < 256 by omega), List.length_cons, List.length_nil]
  simp
theorem encR_ok (r : Int) : encR r = Str.of (Utf8.encode r) := by
  rw [encode_encC]
  cases r with
  | ofNat c =>
    have e : encR (.ofNat c) = enc1 (Bool.rec (nat_lit 65533) c (vld c)) := rfl
    rw [e, vld_eq, brec_if]
    show enc1 (if Utf8.valid (c : Int) = true then c else 65533) = Str.of (encC (if Utf8.valid (c : Int) = true then (c : Int).toNat else 65533))
    by_cases h : Utf8.valid (c : Int) = true
    · rw [if_pos h, if_pos h, Int.toNat_natCast]
      refine enc1_ok c ?_
      simp only [Utf8.valid, Bool.or_eq_true, Bool.and_eq_true, decide_eq_true_iff] at h
      omega
    · rw [if_neg h, if_neg h]; exact enc1_ok 65533 (by omega)
  | negSucc c =>
    have e : encR (.negSucc c) = enc1 65533 := rfl
    rw [e, if_neg]
    · exact enc1_ok 65533 (by omega)
    · simp only [Utf8.valid, Bool.or_eq_true, Bool.and_eq_true, decide_eq_true_iff]
      omega
end
end Go.Proofs.YtlmcadgbnolffaaGreatDoor.Am
