/- The machine's soundness: arithmetic and comparisons. -/
import Derived.Test.YtfmnninijakknaaGreatDoorAmT
import Derived.Laws.Strings
import Derived.Laws.Concat
import Derived.Laws.BitsAllLaws
import Derived.Laws.BitsLemmas
import Derived.Laws.Bits64
import Derived.Laws.Shifts
namespace Go.Proofs.YtfmnninijakknaaGreatDoor.Am

/-- what is in a kind's range stays -/
theorem wrap_in (k : IntKind) (n : Int) (h0 : -(mnk k : Int) ≤ n) (h1 : n ≤ (mxk k : Int)) : k.wrap n = n := by
  cases k
  case i64 =>
    rw [IntKind.wrap_i64]
    have e0 : mnk .i64 = 9223372036854775808 := rfl
    have e1 : mxk .i64 = 9223372036854775807 := rfl
    rw [e0] at h0; rw [e1] at h1
    omega
  case i32 =>
    rw [IntKind.wrap_i32]
    have e0 : mnk .i32 = 2147483648 := rfl
    have e1 : mxk .i32 = 2147483647 := rfl
    rw [e0] at h0; rw [e1] at h1
    omega
  case i16 =>
    have e0 : mnk .i16 = 32768 := rfl
    have e1 : mxk .i16 = 32767 := rfl
    rw [e0] at h0; rw [e1] at h1
    simp [IntKind.wrap, IntKind.bits, IntKind.signed]
    omega
  case i8 =>
    have e0 : mnk .i8 = 128 := rfl
    have e1 : mxk .i8 = 127 := rfl
    rw [e0] at h0; rw [e1] at h1
    simp [IntKind.wrap, IntKind.bits, IntKind.signed]
    omega
  case u64 =>
    rw [IntKind.wrap_u64]
    have e0 : mnk .u64 = 0 := rfl
    have e1 : mxk .u64 = 18446744073709551615 := rfl
    rw [e0] at h0; rw [e1] at h1
    omega
  case u32 =>
    rw [IntKind.wrap_u32]
    have e0 : mnk .u32 = 0 := rfl
    have e1 : mxk .u32 = 4294967295 := rfl
    rw [e0] at h0; rw [e1] at h1
    omega
  case u16 =>
    rw [IntKind.wrap_u16]
    have e0 : mnk .u16 = 0 := rfl
    have e1 : mxk .u16 = 65535 := rfl
    rw [e0] at h0; rw [e1] at h1
    omega
  case u8 =>
    rw [IntKind.wrap_u8]
    have e0 : mnk .u8 = 0 := rfl
    have e1 : mxk .u8 = 255 := rfl
    rw [e0] at h0; rw [e1] at h1
    omega
theorem wrN_ok (k : IntKind) (m : Nat) : wrN k m = k.wrap m := by
  have e : wrN k m = Bool.rec (motive := fun _ => Int) (k.wrap (.ofNat m)) (.ofNat m) (Nat.ble m (mxk k)) := rfl
  rw [e]
  cases h : Nat.ble m (mxk k)
  · rfl
  · have h' : m ≤ mxk k := by rw [Nat.ble_eq] at h; exact h
    exact (wrap_in k m (by omega) (by omega)).symm
theorem wr_ok (k : IntKind) (n : Int) : wr k n = k.wrap n := by
  cases n with
  | ofNat m => exact wrN_ok k m
  | negSucc m =>
    have e : wr k (.negSucc m) = Bool.rec (motive := fun _ => Int) (k.wrap (.negSucc m)) (.negSucc m) (Nat.ble (Nat.succ m) (mnk k)) := rfl
    rw [e]
    cases h : Nat.ble (Nat.succ m) (mnk k)
    · rfl
    · have h' : m + 1 ≤ mnk k := by rw [Nat.ble_eq] at h; exact h
      exact (wrap_in k (.negSucc m) (by omega) (by omega)).symm
theorem kix_inj {k k' : IntKind} (h : Nat.beq (kix k) (kix k') = true) : k = k' := by
  have := Nat.eq_of_beq_eq_true h
  cases k <;> cases k' <;> first | rfl | (simp [kix] at this)

theorem toI_nn {x : AV} {k : IntKind} {n : Nat} (h : toI x = .nn k n) : x = .int k n := by
  cases x <;> simp only [toI] at h <;> first | cases h | skip
  rename_i k' i
  cases i <;> simp at h
  obtain ⟨rfl, rfl⟩ := h; rfl
theorem toI_ng {x : AV} {k : IntKind} {n : Nat} (h : toI x = .ng k n) : x = .int k (.negSucc n) := by
  cases x <;> simp only [toI] at h <;> first | cases h | skip
  rename_i k' i
  cases i <;> simp at h
  obtain ⟨rfl, rfl⟩ := h; rfl
theorem toS_some {x : AV} {s : Str} (h : toS x = .some s) : x = .str s := by
  cases x <;> simp only [toS] at h <;> first | cases h | skip
  rfl
theorem toB_t {x : AV} (h : toB x = .t) : x = .bool true := by
  cases x <;> simp only [toB] at h <;> first | cases h | skip
  rename_i b; cases b <;> simp at h; rfl
theorem toB_f {x : AV} (h : toB x = .f) : x = .bool false := by
  cases x <;> simp only [toB] at h <;> first | cases h | skip
  rename_i b; cases b <;> simp at h; rfl
theorem toP_at {x : AV} {b o : Nat} (h : toP x = .at b o) : x = .ptr b o := by
  cases x <;> simp only [toP] at h <;> cases h; rfl
theorem toL_at {x : AV} {b o l es : Nat} {z : Bool} (h : toL x = .at b o l es z) : x = .slice b o l es z := by
  cases x <;> simp only [toL] at h <;> cases h; rfl

/-- two integers: what comes out -/
theorem int2_ok {f : IntKind → Nat → Nat → AV} {s : IntKind → Int → Int → AV} {x y v : AV} (h : int2 f s x y = v) (hv : v ≠ .bad) :
    ∃ k a b, x = .int k a ∧ y = .int k b ∧ ((∃ m n : Nat, a = m ∧ b = n ∧ v = f k m n) ∨ v = s k a b) := by
  unfold int2 at h
  cases hx : toI x with
  | none => rw [hx] at h; exact absurd h.symm hv
  | nn k a =>
    rw [hx] at h
    cases hy : toI y with
    | none => rw [hy] at h; exact absurd h.symm hv
    | nn k' b =>
      rw [hy] at h
      cases hk : Nat.beq (kix k) (kix k') with
      | false => simp only [hk] at h; exact absurd h.symm hv
      | true =>
        simp only [hk] at h
        obtain rfl := kix_inj hk
        exact ⟨k, a, b, toI_nn hx, toI_nn hy, .inl ⟨a, b, rfl, rfl, h.symm⟩⟩
    | ng k' b =>
      rw [hy] at h
      cases hk : Nat.beq (kix k) (kix k') with
      | false => simp only [hk] at h; exact absurd h.symm hv
      | true =>
        simp only [hk] at h
        obtain rfl := kix_inj hk
        exact ⟨k, a, .negSucc b, toI_nn hx, toI_ng hy, .inr h.symm⟩
  | ng k a =>
    rw [hx] at h
    cases hy : toI y with
    | none => rw [hy] at h; exact absurd h.symm hv
    | nn k' b =>
      rw [hy] at h
      cases hk : Nat.beq (kix k) (kix k') with
      | false => simp only [hk] at h; exact absurd h.symm hv
      | true =>
        simp only [hk] at h
        obtain rfl := kix_inj hk
        exact ⟨k, .negSucc a, b, toI_ng hx, toI_nn hy, .inr h.symm⟩
    | ng k' b =>
      rw [hy] at h
      cases hk : Nat.beq (kix k) (kix k') with
      | false => simp only [hk] at h; exact absurd h.symm hv
      | true =>
        simp only [hk] at h
        obtain rfl := kix_inj hk
        exact ⟨k, .negSucc a, .negSucc b, toI_ng hx, toI_ng hy, .inr h.symm⟩
theorem shift2_ok {f : IntKind → Nat → Nat → AV} {x y v : AV} (h : shift2 f x y = v) (hv : v ≠ .bad) : ∃ k k' m n, x = .int k (Int.ofNat m) ∧ y = .int k' (Int.ofNat n) ∧ v = f k m n := by
  unfold shift2 at h
  cases hx : toI x with
  | none => rw [hx] at h; exact absurd h.symm hv
  | ng k a => rw [hx] at h; exact absurd h.symm hv
  | nn k a =>
    rw [hx] at h
    cases hy : toI y with
    | none => rw [hy] at h; exact absurd h.symm hv
    | ng k' b => rw [hy] at h; exact absurd h.symm hv
    | nn k' b => rw [hy] at h; exact ⟨k, k', a, b, toI_nn hx, toI_nn hy, h.symm⟩

section
variable {P : Program} {ι : Nam}
/-- an operation on two values comes to v -/
def BinSim (P : Program) (ι : Nam) (op : BinOp) (t : TypeId) (xo yo : Operand) (x y : Value) (v : AV) : Prop :=
  ∀ w : World, ∃ v', (do eqGuard op t xo yo x y; binOp op t x y : Sem Value).run P w = .ok v' w ∧ VR ι v v'
theorem guard_int (op : BinOp) (t : TypeId) (xo yo : Operand) (k k' : IntKind) (a b : Int) : eqGuard op t xo yo (.int k a) (.int k' b) = pure () := by
  unfold eqGuard; cases op <;> rfl
theorem guard_str (op : BinOp) (t : TypeId) (xo yo : Operand) (a b : ByteArray) : eqGuard op t xo yo (.string a) (.string b) = pure () := by
  unfold eqGuard; cases op <;> rfl
def intOp (op : BinOp) (k : IntKind) (a b : Int) : Sem Value :=
  match op with
  | .add | .sub | .mul => Op.intArith op k a b
  | .quo | .rem => Op.intDiv op k a b
  | .and | .or | .xor | .andNot => Op.intBits op k a b
  | _ => Op.intCmp op a b
theorem bin_int {op : BinOp} {t : TypeId} {xo yo : Operand} {k : IntKind} {a b : Int} {v : AV} {v' : Value} (hs : op ≠ .shl) (hs' : op ≠ .shr)
    (h : ∀ w, (intOp op k a b).run P w = .ok v' w) (hv : VR ι v v') : BinSim P ι op t xo yo (.int k a) (.int k b) v := by
  intro w
  refine ⟨v', ?_, hv⟩
  rw [guard_int]
  simp only [Sem.run_bind, Sem.run_pure, Result.andThen_ok]
  have : binOp op t (.int k a) (.int k b) = intOp op k a b := by
    cases op <;> first | exact absurd rfl hs | exact absurd rfl hs' | simp [binOp, intOp]
  rw [this]; exact h w

theorem int2_sim {op : BinOp} {t : TypeId} {xo yo : Operand} {f : IntKind → Nat → Nat → AV} {s : IntKind → Int → Int → AV} {x y v : AV} {vx vy : Value} (hx : VR ι x vx) (hy : VR ι y vy)
    (h : int2 f s x y = v) (hv : v ≠ .bad) (hs : op ≠ .shl) (hs' : op ≠ .shr)
    (hf : ∀ k (m n : Nat), f k m n ≠ .bad → ∃ v', (∀ w : World, (intOp op k m n).run P w = .ok v' w) ∧ VR ι (f k m n) v')
    (hsl : ∀ k (a b : Int), s k a b ≠ .bad → ∃ v', (∀ w : World, (intOp op k a b).run P w = .ok v' w) ∧ VR ι (s k a b) v') : BinSim P ι op t xo yo vx vy v := by
  obtain ⟨k, a, b, ex, ey, h'⟩ := int2_ok h hv
  clear h
  subst ex; subst ey
  have ex : vx = .int k a := hx
  have ey : vy = .int k b := hy
  rw [ex, ey]
  rcases h' with h' | h'
  · obtain ⟨m, n, ha, hb, h'⟩ := h'
    rw [h'] at hv ⊢; rw [ha, hb]
    obtain ⟨v', h1, h2⟩ := hf k m n hv
    exact bin_int hs hs' h1 h2
  · rw [h'] at hv ⊢
    obtain ⟨v', h1, h2⟩ := hsl k a b hv
    exact bin_int hs hs' h1 h2
theorem add_sim {k : IntKind} {a b : Int} : ∃ v', (∀ w : World, (intOp .add k a b).run P w = .ok v' w) ∧ VR ι (mk k (a + b)) v' :=
  ⟨_, fun w => rfl, by rw [mk, wr_ok]; rfl⟩
theorem sub_sim {k : IntKind} {a b : Int} : ∃ v', (∀ w : World, (intOp .sub k a b).run P w = .ok v' w) ∧ VR ι (mk k (a - b)) v' :=
  ⟨_, fun w => rfl, by rw [mk, wr_ok]; rfl⟩
theorem mul_sim {k : IntKind} {a b : Int} : ∃ v', (∀ w : World, (intOp .mul k a b).run P w = .ok v' w) ∧ VR ι (mk k (a * b)) v' :=
  ⟨_, fun w => rfl, by rw [mk, wr_ok]; rfl⟩
theorem mkN_eq (k : IntKind) (n : Nat) : mkN k n = mk k n := by rw [mkN, mk, wrN_ok, wr_ok]
theorem cmp_sim {op : BinOp} {k : IntKind} {a b : Int} {r : Bool} (h : ∀ w : World, (intOp op k a b).run P w = .ok (.bool r) w) (r' : Bool) (e : r' = r) : ∃ v', (∀ w : World, (intOp op k a b).run P w = .ok v' w) ∧ VR ι (.bool r') v' :=
  ⟨_, h, by rw [e]; rfl⟩
theorem beq_dec (a b : Nat) : Nat.beq a b = decide (a = b) := by
  rw [Bool.eq_iff_iff, Nat.beq_eq, decide_eq_true_iff]
theorem ble_dec (a b : Nat) : Nat.ble a b = decide (a ≤ b) := by
  rw [Bool.eq_iff_iff, Nat.ble_eq, decide_eq_true_iff]
theorem notB_eq (b : Bool) : notB b = !b := by cases b <;> rfl
theorem beqB_eq (a b : Bool) : beqB a b = (a == b) := by cases a <;> cases b <;> rfl
theorem mxk_lt (k : IntKind) : ∃ j, j ≤ k.bits ∧ mxk k + 1 = 2 ^ j := by
  cases k
  · exact ⟨7, by decide, by decide⟩
  · exact ⟨15, by decide, by decide⟩
  · exact ⟨31, by decide, by decide⟩
  · exact ⟨63, by decide, by decide⟩
  · exact ⟨8, by decide, by decide⟩
  · exact ⟨16, by decide, by decide⟩
  · exact ⟨32, by decide, by decide⟩
  · exact ⟨64, by decide, by decide⟩
theorem bit_sim (op : BinOp) (f : Nat → Nat → Nat) (hf : ∀ j a b : Nat, a < 2 ^ j → b < 2 ^ j → f a b < 2 ^ j)
    (hop : ∀ (k : IntKind) (a b : Nat), a < 2 ^ k.bits → b < 2 ^ k.bits → ∀ w : World, (intOp op k a b).run P w = .ok (.int k (k.wrap ((f a b : Nat) : Int))) w) (k : IntKind) (a b : Nat) (h : bitF f k a b ≠ .bad) :
    ∃ v', (∀ w : World, (intOp op k a b).run P w = .ok v' w) ∧ VR ι (bitF f k a b) v' := by
  unfold bitF at h ⊢
  cases h1 : Nat.ble a (mxk k)
  · rw [h1] at h; exact absurd rfl h
  · cases h2 : Nat.ble b (mxk k)
    · rw [h1, h2] at h; exact absurd rfl h
    · rw [Nat.ble_eq] at h1 h2
      obtain ⟨j, hj, hm⟩ := mxk_lt k
      have hp : 2 ^ j ≤ 2 ^ k.bits := Nat.pow_le_pow_right (by decide) hj
      have hr := hf j a b (by omega) (by omega)
      refine ⟨_, hop k a b (by omega) (by omega), ?_⟩
      rw [wrap_in k _ (by omega) (by omega)]
      rfl
theorem bits_and_run (k : IntKind) (a b : Nat) (ha : a < 2 ^ k.bits) (hb : b < 2 ^ k.bits) (w : World) : (intOp .and k a b).run P w = .ok (.int k (k.wrap ((Nat.land a b : Nat) : Int))) w := by
  simp only [intOp, Op.intBits, BitVec.ofInt_natCast, BitVec.toNat_and, BitVec.toNat_ofNat, Nat.mod_eq_of_lt ha, Nat.mod_eq_of_lt hb]; rfl
theorem bits_or_run (k : IntKind) (a b : Nat) (ha : a < 2 ^ k.bits) (hb : b < 2 ^ k.bits) (w : World) : (intOp .or k a b).run P w = .ok (.int k (k.wrap ((Nat.lor a b : Nat) : Int))) w := by
  simp only [intOp, Op.intBits, BitVec.ofInt_natCast, BitVec.toNat_or, BitVec.toNat_ofNat, Nat.mod_eq_of_lt ha, Nat.mod_eq_of_lt hb]; rfl
theorem bits_xor_run (k : IntKind) (a b : Nat) (ha : a < 2 ^ k.bits) (hb : b < 2 ^ k.bits) (w : World) : (intOp .xor k a b).run P w = .ok (.int k (k.wrap ((Nat.xor a b : Nat) : Int))) w := by
  simp only [intOp, Op.intBits, BitVec.ofInt_natCast, BitVec.toNat_xor, BitVec.toNat_ofNat, Nat.mod_eq_of_lt ha, Nat.mod_eq_of_lt hb]; rfl
end
end Go.Proofs.YtfmnninijakknaaGreatDoor.Am
