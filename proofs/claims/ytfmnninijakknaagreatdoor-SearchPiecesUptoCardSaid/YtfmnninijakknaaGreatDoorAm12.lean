/- The machine's soundness: strings compared; all binary operations. -/
/- The machine's soundness: operations on cells: new rows, loads, stores. -/
import Derived.Test.YtfmnninijakknaaGreatDoorAm10
import Derived.Laws.Append
namespace Go.Proofs.YtfmnninijakknaaGreatDoor.Am

theorem valL_take (l : List UInt8) (n : Nat) (_ : n ≤ l.length) : valL l / 256 ^ (l.length - n) = valL (l.take n) := by
  have e := valL_append (l.take n) (l.drop n)
  rw [List.take_append_drop, List.length_drop] at e
  have hlt := valL_lt (l.drop n)
  rw [List.length_drop] at hlt
  have hp : 0 < 256 ^ (l.length - n) := Nat.pow_pos (by omega)
  rw [e, Nat.mul_comm, Nat.mul_add_div hp, Nat.div_eq_of_lt hlt, Nat.add_zero]
theorem dig_lt {a b m x y : Nat} (h : a < b) (hx : x < m) : a * m + x < b * m + y := by
  have : (a + 1) * m ≤ b * m := Nat.mul_le_mul_right _ h
  rw [Nat.add_mul] at this
  omega
theorem bytesLess_le : ∀ (x y : List UInt8), x.length ≤ y.length → Op.bytesLess x y = decide (valL x < valL (y.take x.length) + (if x.length < y.length then 1 else 0))
  | [], [], _ => by simp [Op.bytesLess, valL]
  | [], _ :: _, _ => by simp [Op.bytesLess, valL]
  | _ :: _, [], h => by simp at h
  | a :: x, b :: y, h => by
    have h' : x.length ≤ y.length := by simpa using h
    have hk : (y.take x.length).length = x.length := by rw [List.length_take]; omega
    have hx := valL_lt x
    have hy := valL_lt (y.take x.length)
    rw [hk] at hy
    rw [Op.bytesLess, bytesLess_le x y h', List.length_cons, List.take_succ_cons, valL_cons, valL_cons, hk, List.length_cons]
    have e : (if x.length + 1 < y.length + 1 then 1 else 0 : Nat) = (if x.length < y.length then 1 else 0) := by simp
    rw [e]
    rcases Nat.lt_trichotomy a.toNat b.toNat with c | c | c
    · have h1 : a < b := UInt8.lt_iff_toNat_lt.2 c
      have h2 := dig_lt (y := valL (y.take x.length)) c hx
      rw [decide_eq_true h1, Bool.true_or]
      exact (decide_eq_true (by omega)).symm
    · have h1 : a = b := UInt8.toNat_inj.1 c
      subst h1
      have : ¬ a < a := by rw [UInt8.lt_iff_toNat_lt]; omega
      rw [decide_eq_false this, Bool.false_or]
      simp only [BEq.rfl, Bool.true_and]
      rw [Bool.eq_iff_iff, decide_eq_true_iff, decide_eq_true_iff]
      omega
    · have h1 : ¬ a < b := by rw [UInt8.lt_iff_toNat_lt]; omega
      have h3 : (a == b) = false := by
        rw [beq_eq_false_iff_ne]; intro e; rw [e] at c; omega
      have h2 := dig_lt (y := valL x) c hy
      rw [decide_eq_false h1, h3, Bool.false_or, Bool.false_and]
      refine (decide_eq_false ?_).symm
      split <;> omega
theorem bytesLess_gt : ∀ (x y : List UInt8), y.length < x.length → Op.bytesLess x y = decide (valL (x.take y.length) < valL y)
  | x, [], _ => by cases x <;> simp [Op.bytesLess, valL]
  | [], _ :: _, h => by simp at h
  | a :: x, b :: y, h => by
    have h' : y.length < x.length := by simpa using h
    have hk : (x.take y.length).length = y.length := by rw [List.length_take]; omega
    have hx := valL_lt (x.take y.length)
    have hy := valL_lt y
    rw [hk] at hx
    rw [Op.bytesLess, bytesLess_gt x y h', List.length_cons, List.take_succ_cons, valL_cons, valL_cons, hk]
    rcases Nat.lt_trichotomy a.toNat b.toNat with c | c | c
    · have h1 : a < b := UInt8.lt_iff_toNat_lt.2 c
      have h2 := dig_lt (y := valL y) c hx
      rw [decide_eq_true h1, Bool.true_or]
      exact (decide_eq_true (by omega)).symm
    · have h1 : a = b := UInt8.toNat_inj.1 c
      subst h1
      have : ¬ a < a := by rw [UInt8.lt_iff_toNat_lt]; omega
      rw [decide_eq_false this, Bool.false_or]
      simp only [BEq.rfl, Bool.true_and]
      rw [Bool.eq_iff_iff, decide_eq_true_iff, decide_eq_true_iff]
      omega
    · have h1 : ¬ a < b := by rw [UInt8.lt_iff_toNat_lt]; omega
      have h3 : (a == b) = false := by
        rw [beq_eq_false_iff_ne]; intro e; rw [e] at c; omega
      have h2 := dig_lt (y := valL (x.take y.length)) c hy
      rw [decide_eq_false h1, h3, Bool.false_or, Bool.false_and]
      exact (decide_eq_false (by omega)).symm
theorem Str.lt_ok (a b : ByteArray) : (Str.of a).lt (Str.of b) = Op.bytesLess a.toList b.toList := by
  rw [ByteArray.toList_eq, ByteArray.toList_eq]
  have la : a.data.toList.length = a.size := rfl
  have lb : b.data.toList.length = b.size := rfl
  have e : (Str.of a).lt (Str.of b) = Bool.rec (motive := fun _ => Bool)
    (Nat.ble (Nat.succ ((Str.of a).val >>> (8 * ((Str.of a).len - (Str.of b).len)))) (Str.of b).val)
    (Nat.ble (Nat.succ (Str.of a).val) ((Str.of b).val >>> (8 * ((Str.of b).len - (Str.of a).len)) + (Bool.rec (motive := fun _ => Nat) 0 1 (Nat.ble (Nat.succ (Str.of a).len) (Str.of b).len))))
    (Nat.ble (Str.of a).len (Str.of b).len) := rfl
  rw [e, Str.of_len, Str.of_len, Str.of_val, Str.of_val, Nat.shiftRight_eq_div_pow, Nat.shiftRight_eq_div_pow, Nat.pow_mul, Nat.pow_mul]
  cases h : Nat.ble a.size b.size
  · have h' : b.size < a.size := by
      have : ¬ a.size ≤ b.size := by rw [← Nat.ble_eq, h]; simp
      omega
    rw [bytesLess_gt _ _ (by rw [la, lb]; exact h'), lb]
    have := valL_take a.data.toList b.size (by rw [la]; omega)
    rw [la] at this
    show Nat.ble _ _ = _
    rw [ble_dec]
    show decide (Nat.succ (_ / 256 ^ _) ≤ _) = _
    rw [this]
    rfl
  · rw [Nat.ble_eq] at h
    rw [bytesLess_le _ _ (by rw [la, lb]; exact h), la, lb]
    have := valL_take b.data.toList a.size (by rw [lb]; omega)
    rw [lb] at this
    show Nat.ble _ _ = _
    rw [ble_dec]
    show decide (Nat.succ _ ≤ (_ / 256 ^ _) + _) = _
    rw [this]
    cases h2 : Nat.ble (Nat.succ a.size) b.size
    · have : ¬ a.size < b.size := by
        intro c
        have : Nat.ble (Nat.succ a.size) b.size = true := by rw [Nat.ble_eq]; exact c
        rw [this] at h2; cases h2
      rw [if_neg this]
      rfl
    · rw [Nat.ble_eq] at h2
      have h3 : a.size < b.size := h2
      rw [if_pos h3]
      rfl

section
variable {P : Program} {ι : Nam} {g : G}
theorem str2_ok {f : Str → Str → AV} {k : AV → AV → AV} {x y v : AV} (h : str2 f k x y = v) (hv : v ≠ .bad) :
    (∃ a b, x = .str a ∧ y = .str b ∧ v = f a b) ∨ (toS x = .none ∧ v = k x y) := by
  unfold str2 at h
  cases hx : toS x with
  | none => rw [hx] at h; exact .inr ⟨rfl, h.symm⟩
  | some a =>
    rw [hx] at h
    cases hy : toS y with
    | none => rw [hy] at h; exact absurd h.symm hv
    | some b => rw [hy] at h; exact .inl ⟨a, b, toS_some hx, toS_some hy, h.symm⟩
theorem orI_ok {f k : AV → AV → AV} {x y v : AV} (h : orI f k x y = v) : v = f x y ∨ (toI x = .none ∧ v = k x y) := by
  unfold orI at h
  cases hx : toI x with
  | none => rw [hx] at h; exact .inr ⟨rfl, h.symm⟩
  | nn k a => rw [hx] at h; exact .inl h.symm
  | ng k a => rw [hx] at h; exact .inl h.symm
theorem str_sim {op : BinOp} {t : TypeId} {xo yo : Operand} {a b : ByteArray} {v : AV} {v' : Value} (h : ∀ w : World, (Op.stringOp op a b).run P w = .ok v' w) (hs : op ≠ .shl) (hs' : op ≠ .shr) (hv : VR ι v v') :
    BinSim P ι op t xo yo (.string a) (.string b) v := by
  intro w
  refine ⟨v', ?_, hv⟩
  rw [guard_str]
  simp only [Sem.run_bind, Sem.run_pure, Result.andThen_ok]
  have : binOp op t (.string a) (.string b) = Op.stringOp op a b := by
    cases op <;> first | exact absurd rfl hs | exact absurd rfl hs' | simp [binOp]
  rw [this]; exact h w
theorem toList_beq (a b : ByteArray) : (a.toList == b.toList) = decide (a = b) := by
  rw [Bool.eq_iff_iff, beq_iff_eq, decide_eq_true_iff, ByteArray.toList_eq, ByteArray.toList_eq]
  constructor
  · intro h; cases a; cases b; congr 1; exact Array.toList_inj.1 h
  · intro h; rw [h]

def EKok (P : Program) (t : TypeId) : EK → Prop
  | .none => True
  | .bool => P.underlying t = some .bool
  | .ptr => ∃ el i, P.underlying t = some (.pointer el) ∧ P.info? el = some i ∧ i.size ≠ 0
  | .slice => ∃ el, P.underlying t = some (.slice el)
  | .map => ∃ a b, P.underlying t = some (.map a b)
  | .func => ∃ a b c, P.underlying t = some (.func a b c)
  | .iface => ∃ ms, P.underlying t = some (.interface ms)
  | .two => Eq2 P t
theorem eqK_ok (hg : GOk P g) (t : TypeId) : EKok P t (eqK g t) := by
  unfold eqK
  split
  · rename_i hd; exact (hg.ty _ _ hd).1
  · rename_i el s b ag z zv hd
    split
    · rename_i y hy
      cases hz : Nat.beq y.size (nat_lit 0)
      · obtain ⟨_, _, i, z, hi, hs, _⟩ := hg.ty _ _ hy
        refine ⟨el, i, (hg.ty _ _ hd).1, hi, ?_⟩
        rw [hs]; intro c; rw [c] at hz; cases hz
      · trivial
    · trivial
  · rename_i hd; exact ⟨_, (hg.ty _ _ hd).1⟩
  · rename_i hd; exact ⟨_, _, (hg.ty _ _ hd).1⟩
  · rename_i hd; exact ⟨_, _, _, (hg.ty _ _ hd).1⟩
  · rename_i hd; exact ⟨_, (hg.ty _ _ hd).1⟩
  · split
    · rename_i h2; exact hg.eq2 _ h2
    · trivial
theorem eqI_ok {a b : Int} (h : eqI a b = true) : a = b := by
  cases a <;> cases b <;> first | (cases h; done) | (have h := Nat.eq_of_beq_eq_true h; subst h; rfl)
theorem and3_ok {a b : Bool} : and3 a b = (a && b) := by cases a <;> rfl
theorem eqI_iff (a b : Int) : eqI a b = (a == b) := by
  rw [Bool.eq_iff_iff, beq_iff_eq]
  refine ⟨eqI_ok, fun h => ?_⟩
  subst h
  cases a <;> exact Nat.beq_refl _
/-- what == comes to -/
def EqSim (P : Program) (t : TypeId) (xo yo : Operand) (x y : Value) (r : Bool) : Prop :=
  ∀ w : World, (eqGuard .eql t xo yo x y).run P w = .ok () w ∧ (eqGuard .neq t xo yo x y).run P w = .ok () w ∧ (Op.equal t x y).run P w = .ok r w ∧
    binOp .eql t x y = (do pure (.bool (← Op.equal t x y))) ∧ binOp .neq t x y = (do pure (.bool (!(← Op.equal t x y))))
theorem equal_eq2 : ∃ d, ∀ t x y, Op.equal t x y = Op.equalIn (d + 2) t x y := ⟨9998, fun _ _ _ => rfl⟩
theorem part_int {t : TypeId} {k : IntKind} (h : P.underlying t = some (.int k)) {cs : Array Value} {off : Nat} {v : Value} (hv : cs[off]? = some v) (w : World) : (part t cs off).run P w = .ok v w := by
  simp only [part, isAgg, Sem.run_bind, run_und h, Result.andThen_ok, hv, Sem.run_pure, Bool.false_eq_true, if_false]
theorem equal_int {t : TypeId} {k k' : IntKind} (h : P.underlying t = some (.int k)) {a b : Int} {d : Nat} (w : World) : (Op.equalIn (d + 1) t (.int k' a) (.int k' b)).run P w = .ok (a == b) w := by
  rw [Op.equalIn]; simp [run_und h]
theorem two_eq {t : TypeId} (h2 : Eq2 P t) {k l : IntKind} {a b a' b' : Int} {xo yo : Operand} : EqSim P t xo yo (.agg #[.int k a, .int l b]) (.agg #[.int k a', .int l b']) (a == a' && b == b') := by
  obtain ⟨f0, f1, k0, k1, hd, h0, h1, o0, o1, n0, n1, hs, hq⟩ := h2
  obtain ⟨n, hn⟩ := equal_eq2
  refine fun w => ⟨?_, ?_, ?_, rfl, rfl⟩
  · simp [eqGuard, hq]
  · simp [eqGuard, hq]
  · rw [hn, Op.equalIn]
    have p1 := part_int h0 (cs := #[.int k a, .int l b]) (off := f0.offset) (v := .int k a) (by rw [o0]; rfl) w
    have p2 := part_int h0 (cs := #[.int k a', .int l b']) (off := f0.offset) (v := .int k a') (by rw [o0]; rfl) w
    have p3 := part_int h1 (cs := #[.int k a, .int l b]) (off := f1.offset) (v := .int l b) (by rw [o1]; rfl) w
    have p4 := part_int h1 (cs := #[.int k a', .int l b']) (off := f1.offset) (v := .int l b') (by rw [o1]; rfl) w
    have e1 := equal_int h0 (k' := k) (a := a) (b := a') (d := n) w
    have e2 := equal_int h1 (k' := l) (a := b) (b := b') (d := n) w
    generalize (a == a') = u at e1 ⊢
    generalize (b == b') = v at e2 ⊢
    simp only [run_und hd, Sem.run_bind, run_program, Result.andThen_ok, List.forIn_toArray, List.forIn_cons, List.forIn_nil]
    cases u <;> cases v <;> simp [hs, n0, n1, p1, p2, p3, p4, e1, e2]
theorem equal_eq : ∃ d, ∀ t x y, Op.equal t x y = Op.equalIn (d + 1) t x y := ⟨9999, fun _ _ _ => rfl⟩
theorem eqop_ok (hg : GOk P g) {t : TypeId} {xo yo : Operand} {c : Bool} (hc : c = true → (∃ v, xo = .const v) ∨ ∃ v, yo = .const v) {f : Bool → AV} {x y v : AV} {vx vy : Value}
    (hx : VR ι x vx) (hy : VR ι y vy) (h : eqop (eqK g t) c f x y = v) (hv : v ≠ .bad) : ∃ r, v = f r ∧ EqSim P t xo yo vx vy r := by
  have hk := eqK_ok hg t
  obtain ⟨n, hn⟩ := equal_eq
  generalize eqK g t = e at h hk
  cases e with
  | none => exact absurd h.symm hv
  | two =>
    simp only [eqop] at h
    split at h
    · rename_i k a l b k' a' l' b'
      rw [and3_ok, and3_ok] at h
      cases hk1 : Nat.beq (kix k) (kix k') <;> cases hk2 : Nat.beq (kix l) (kix l') <;> rw [hk1, hk2] at h <;> first | (exact absurd h.symm hv; done) | skip
      obtain rfl := kix_inj hk1
      obtain rfl := kix_inj hk2
      obtain ⟨xs, rfl, hxs⟩ := hx
      obtain ⟨ys, rfl, hys⟩ := hy
      obtain ⟨_, _, e0, rfl, hxs1⟩ := VRs_cons hxs
      obtain ⟨_, _, q0, rfl, hxs2⟩ := VRs_cons hxs1
      rw [q0, VRs_nil hxs2] at e0
      obtain ⟨_, _, e1, rfl, hys1⟩ := VRs_cons hys
      obtain ⟨_, _, q1, rfl, hys2⟩ := VRs_cons hys1
      rw [q1, VRs_nil hys2] at e1
      obtain rfl : xs = #[.int k a, .int l b] := by cases xs; simp only at e0; rw [e0]
      obtain rfl : ys = #[.int k a', .int l b'] := by cases ys; simp only at e1; rw [e1]
      refine ⟨_, h.symm, ?_⟩
      rw [eqI_iff, eqI_iff]
      exact two_eq hk
    · exact absurd h.symm hv
  | bool =>
    simp only [eqop] at h
    split at h
    · rename_i a b
      cases hx; cases hy
      rw [beqB_eq] at h
      refine ⟨_, h.symm, fun w => ⟨rfl, rfl, ?_, rfl, rfl⟩⟩
      rw [hn, Op.equalIn]; simp [run_und hk]
    · exact absurd h.symm hv
  | ptr =>
    obtain ⟨el, i, hd, hi, hs⟩ := hk
    simp only [eqop] at h
    split at h
    · cases hx; cases hy
      refine ⟨_, h.symm, fun w => ⟨rfl, rfl, ?_, rfl, rfl⟩⟩
      rw [hn, Op.equalIn]; simp [run_und hd]
    · cases hx; obtain ⟨m, hm, rfl⟩ := hy
      refine ⟨_, h.symm, fun w => ⟨rfl, rfl, ?_, rfl, rfl⟩⟩
      rw [hn, Op.equalIn]; simp [run_und hd]
    · cases hy; obtain ⟨m, hm, rfl⟩ := hx
      refine ⟨_, h.symm, fun w => ⟨rfl, rfl, ?_, rfl, rfl⟩⟩
      rw [hn, Op.equalIn]; simp [run_und hd]
    · rename_i a i' b j
      obtain ⟨m, hm, rfl⟩ := hx; obtain ⟨m', hm', rfl⟩ := hy
      cases hab : Nat.beq a b
      · rw [hab] at h; exact absurd h.symm hv
      · rw [hab] at h
        obtain rfl := Nat.eq_of_beq_eq_true hab
        rw [hm] at hm'; cases hm'
        refine ⟨_, h.symm, fun w => ⟨rfl, rfl, ?_, rfl, rfl⟩⟩
        rw [hn, Op.equalIn]; simp only [Sem.run_bind, run_und hd, Result.andThen_ok, run_so hi, ne_eq, hs, not_false_eq_true, if_true, sameAddr, BEq.rfl]
        have e : ((⟨m.B, m.sh + i', none⟩ : Addr) == ⟨m.B, m.sh + j, none⟩) = Nat.beq i' j := by
          rw [beq_dec, Bool.eq_iff_iff, beq_iff_eq, decide_eq_true_iff]
          simp
        rw [e]; rfl
    · exact absurd h.symm hv
  | slice =>
    obtain ⟨el, hd⟩ := hk
    simp only [eqop] at h
    split at h
    · cases hx; cases hy
      refine ⟨_, h.symm, fun w => ⟨rfl, rfl, ?_, rfl, rfl⟩⟩
      rw [hn, Op.equalIn]; simp [run_und hd]
    · cases hx; obtain ⟨m, y, cap, hm, rfl, _⟩ := hy
      refine ⟨_, h.symm, fun w => ⟨rfl, rfl, ?_, rfl, rfl⟩⟩
      rw [hn, Op.equalIn]; simp [run_und hd]
    · cases hy; obtain ⟨m, y, cap, hm, rfl, _⟩ := hx
      refine ⟨_, h.symm, fun w => ⟨rfl, rfl, ?_, rfl, rfl⟩⟩
      rw [hn, Op.equalIn]; simp [run_und hd]
    · exact absurd h.symm hv
  | map =>
    obtain ⟨ka, el, hd⟩ := hk
    simp only [eqop] at h
    split at h
    · cases hx; cases hy
      refine ⟨_, h.symm, fun w => ⟨rfl, rfl, ?_, rfl, rfl⟩⟩
      rw [hn, Op.equalIn]; simp [run_und hd]
    · cases hx; obtain ⟨m, hm, rfl⟩ := hy
      refine ⟨_, h.symm, fun w => ⟨rfl, rfl, ?_, rfl, rfl⟩⟩
      rw [hn, Op.equalIn]; simp [run_und hd]
    · cases hy; obtain ⟨m, hm, rfl⟩ := hx
      refine ⟨_, h.symm, fun w => ⟨rfl, rfl, ?_, rfl, rfl⟩⟩
      rw [hn, Op.equalIn]; simp [run_und hd]
    · exact absurd h.symm hv
  | func =>
    obtain ⟨ka, kb, kc, hd⟩ := hk
    simp only [eqop] at h
    split at h
    · cases hx; cases hy
      refine ⟨_, h.symm, fun w => ⟨rfl, rfl, ?_, rfl, rfl⟩⟩
      rw [hn, Op.equalIn]; simp [run_und hd]
    · cases hx; obtain ⟨xs, ys, rfl, _⟩ := hy
      refine ⟨_, h.symm, fun w => ⟨rfl, rfl, ?_, rfl, rfl⟩⟩
      rw [hn, Op.equalIn]; simp [run_und hd]
    · cases hy; obtain ⟨xs, ys, rfl, _⟩ := hx
      refine ⟨_, h.symm, fun w => ⟨rfl, rfl, ?_, rfl, rfl⟩⟩
      rw [hn, Op.equalIn]; simp [run_und hd]
    · cases hx; obtain ⟨m, hm, rfl⟩ := hy
      refine ⟨_, h.symm, fun w => ⟨rfl, rfl, ?_, rfl, rfl⟩⟩
      rw [hn, Op.equalIn]; simp [run_und hd]
    · cases hy; obtain ⟨m, hm, rfl⟩ := hx
      refine ⟨_, h.symm, fun w => ⟨rfl, rfl, ?_, rfl, rfl⟩⟩
      rw [hn, Op.equalIn]; simp [run_und hd]
    · exact absurd h.symm hv
  | iface =>
    obtain ⟨ms, hd⟩ := hk
    simp only [eqop] at h
    split at h
    · cases hx; cases hy
      cases c
      · exact absurd h.symm hv
      · have hc' := hc rfl
        refine ⟨_, h.symm, fun w => ⟨?_, ?_, ?_, rfl, rfl⟩⟩
        · rcases hc' with ⟨_, rfl⟩ | ⟨_, rfl⟩ <;> simp [eqGuard]
        · rcases hc' with ⟨_, rfl⟩ | ⟨_, rfl⟩ <;> simp [eqGuard]
        · rw [hn, Op.equalIn]; simp [run_und hd]
    · cases hx; obtain ⟨z, rfl, _⟩ := hy
      refine ⟨_, h.symm, fun w => ⟨rfl, rfl, ?_, rfl, rfl⟩⟩
      rw [hn, Op.equalIn]; simp [run_und hd]
    · cases hy; obtain ⟨z, rfl, _⟩ := hx
      refine ⟨_, h.symm, fun w => ⟨rfl, rfl, ?_, rfl, rfl⟩⟩
      rw [hn, Op.equalIn]; simp [run_und hd]
    · exact absurd h.symm hv

theorem eq_sim {t : TypeId} {xo yo : Operand} {vx vy : Value} {r : Bool} (h : EqSim P t xo yo vx vy r) : BinSim P ι .eql t xo yo vx vy (rT r) := by
  intro w
  obtain ⟨h1, _, h2, h3, _⟩ := h w
  refine ⟨.bool r, ?_, rfl⟩
  simp only [Sem.run_bind, h1, Result.andThen_ok, h3, h2, Sem.run_pure]
theorem ne_sim {t : TypeId} {xo yo : Operand} {vx vy : Value} {r : Bool} (h : EqSim P t xo yo vx vy r) : BinSim P ι .neq t xo yo vx vy (rF r) := by
  intro w
  obtain ⟨_, h1, h2, _, h3⟩ := h w
  refine ⟨.bool (!r), ?_, by rw [rF, notB_eq]; rfl⟩
  simp only [Sem.run_bind, h1, Result.andThen_ok, h3, h2, Sem.run_pure]
theorem quo_sim (k : IntKind) (m n : Nat) (h : quoF k m n ≠ .bad) : ∃ v', (∀ w : World, (intOp .quo k m n).run P w = .ok v' w) ∧ VR ι (quoF k m n) v' := by
  unfold quoF at h ⊢
  cases h0 : Nat.beq n (nat_lit 0)
  · have : (n : Int) ≠ 0 := by
      intro c
      have : n = 0 := by omega
      rw [this] at h0; cases h0
    refine ⟨.int k (k.wrap ((m : Int).tdiv n)), fun w => by simp only [intOp, Op.intDiv]; rw [if_neg this]; rfl, ?_⟩
    show VR ι (mkN k (m / n)) _
    rw [mkN_eq, mk, wr_ok]
    rfl
  · rw [h0] at h; exact absurd rfl h
theorem rem_sim (k : IntKind) (m n : Nat) (h : remF k m n ≠ .bad) : ∃ v', (∀ w : World, (intOp .rem k m n).run P w = .ok v' w) ∧ VR ι (remF k m n) v' := by
  unfold remF at h ⊢
  cases h0 : Nat.beq n (nat_lit 0)
  · have : (n : Int) ≠ 0 := by
      intro c
      have : n = 0 := by omega
      rw [this] at h0; cases h0
    exact ⟨.int k ((m : Int).tmod n), fun w => by simp only [intOp, Op.intDiv]; rw [if_neg this]; rfl, rfl⟩
  · rw [h0] at h; exact absurd rfl h
theorem shl_sim {t : TypeId} {xo yo : Operand} {x y v : AV} {vx vy : Value} (hx : VR ι x vx) (hy : VR ι y vy) (h : shift2 shlF x y = v) (hv : v ≠ .bad) : BinSim P ι .shl t xo yo vx vy v := by
  obtain ⟨k, k', m, n, rfl, rfl, h'⟩ := shift2_ok h hv
  clear h
  have ex : vx = .int k m := hx
  have ey : vy = .int k' n := hy
  rw [ex, ey]
  intro w
  rw [h'] at hv ⊢
  unfold shlF at hv ⊢
  cases h0 : Nat.ble n k.bits
  · rw [h0] at hv; exact absurd rfl hv
  · rw [Nat.ble_eq] at h0
    refine ⟨.int k (k.wrap ((m : Int) * 2 ^ n)), ?_, ?_⟩
    · rw [guard_int]
      have : binOp .shl t (.int k m) (.int k' n) = Op.shift .shl k m k' n := by simp [binOp]
      rw [this, shift_shl _ _ _ _ (by omega) (by omega)]
      simp
    · show VR ι (mkN k (m * 2 ^ n)) _
      rw [mkN_eq, mk, wr_ok]
      have : ((m * 2 ^ n : Nat) : Int) = (m : Int) * 2 ^ n := by simp
      rw [this]; rfl
theorem shr_sim {t : TypeId} {xo yo : Operand} {x y v : AV} {vx vy : Value} (hx : VR ι x vx) (hy : VR ι y vy) (h : shift2 shrF x y = v) (hv : v ≠ .bad) : BinSim P ι .shr t xo yo vx vy v := by
  obtain ⟨k, k', m, n, rfl, rfl, h'⟩ := shift2_ok h hv
  clear h
  have ex : vx = .int k m := hx
  have ey : vy = .int k' n := hy
  rw [ex, ey]
  intro w
  rw [h'] at hv ⊢
  unfold shrF at hv ⊢
  cases h0 : Nat.ble n k.bits
  · rw [h0] at hv; exact absurd rfl hv
  · rw [Nat.ble_eq] at h0
    refine ⟨.int k ((m : Int) / 2 ^ n), ?_, ?_⟩
    · rw [guard_int]
      have : binOp .shr t (.int k m) (.int k' n) = Op.shift .shr k m k' n := by simp [binOp]
      rw [this, shift_shr _ _ _ _ (by omega) (by omega)]
      simp
    · show VR ι (.int k ((m / 2 ^ n : Nat) : Int)) _
      have : ((m / 2 ^ n : Nat) : Int) = (m : Int) / 2 ^ n := by simp
      rw [this]; rfl
theorem shrA_sim {t : TypeId} {xo yo : Operand} {x y v : AV} {vx vy : Value} (hx : VR ι x vx) (hy : VR ι y vy) (h : shrA x y = v) (hv : v ≠ .bad) : BinSim P ι .shr t xo yo vx vy v := by
  unfold shrA at h
  split at h
  · rename_i k a k' n
    have ex : vx = .int k (.negSucc a) := hx
    have ey : vy = .int k' (.ofNat n) := hy
    rw [ex, ey]
    intro w
    subst h
    unfold shrS at hv ⊢
    cases h0 : Nat.ble n k.bits
    · rw [h0] at hv; exact absurd rfl hv
    · rw [Nat.ble_eq] at h0
      refine ⟨.int k ((Int.negSucc a).fdiv (2 ^ n)), ?_, rfl⟩
      rw [guard_int]
      have : binOp .shr t (.int k (.negSucc a)) (.int k' (.ofNat n)) = Op.shift .shr k (.negSucc a) k' (.ofNat n) := by simp [binOp]
      rw [this]
      have hneg : ¬ ((Int.ofNat n) < 0) := by show ¬ ((n : Int) < 0); omega
      have hmin : min (Int.ofNat n).toNat k.bits = n := Nat.min_eq_left h0
      simp only [Op.shift, if_neg hneg, hmin, Sem.run_bind, Sem.run_pure, Result.andThen_ok]
  · exact shr_sim hx hy h hv
theorem isC_ok {x y : Operand} (h : (Bool.rec (isC y) true (isC x) : Bool) = true) : (∃ v, x = .const v) ∨ ∃ v, y = .const v := by
  cases x <;> cases y <;> simp [isC] at h ⊢
theorem slow_ok {α : Prop} {k : IntKind} {a b : Int} (h : slowBad k a b ≠ .bad) : α := absurd rfl h
theorem dec_lt (a b : Nat) : Nat.ble (Nat.succ a) b = decide ((a : Int) < b) := by
  rw [ble_dec, Bool.eq_iff_iff, decide_eq_true_iff, decide_eq_true_iff]; omega
theorem dec_le (a b : Nat) : Nat.ble a b = decide ((a : Int) ≤ b) := by
  rw [ble_dec, Bool.eq_iff_iff, decide_eq_true_iff, decide_eq_true_iff]; omega
theorem dec_eq (a b : Nat) : Nat.beq a b = ((a : Int) == b) := by
  rw [beq_dec, Bool.eq_iff_iff, decide_eq_true_iff, beq_iff_eq]; omega

theorem binF_ok (hg : GOk P g) {op : BinOp} {t : TypeId} {xo yo : Operand} {x y v : AV} {vx vy : Value} (hx : VR ι x vx) (hy : VR ι y vy)
    (h : (binF op (Bool.rec (isC yo) true (isC xo)) (eqK g t)).f x y = v) (hv : v ≠ .bad) : BinSim P ι op t xo yo vx vy v := by
  cases op with
  | add =>
    rcases orI_ok h with h1 | ⟨_, h1⟩ <;> clear h
    · exact int2_sim hx hy h1.symm hv (by simp) (by simp) (fun k m n _ => by
        have e : addF k m n = mk k ((m : Int) + n) := mkN_eq k (m + n)
        rw [e]; exact add_sim) (fun k a b _ => add_sim)
    · rcases str2_ok h1.symm hv with ⟨a, b, ex, ey, h⟩ | ⟨_, h⟩ <;> clear h1
      · subst ex; subst ey; obtain ⟨a, rfl, rfl⟩ := hx; obtain ⟨b, rfl, rfl⟩ := hy
        unfold sAdd at h
        rw [Str.of_len, Str.of_len] at h
        cases hl : Nat.ble (Nat.add a.size b.size) (nat_lit 4611686018427387904)
        · rw [hl] at h; exact absurd h hv
        · rw [hl] at h
          rw [Nat.ble_eq] at hl
          have hl' : a.size + b.size ≤ 4611686018427387904 := hl
          refine str_sim (v' := .string (a ++ b)) (fun w => run_string_add_sum w a b (by omega)) (by simp) (by simp) ?_
          rw [h]
          exact ⟨a ++ b, rfl, Str.app_ok a b⟩
      · exact absurd h hv
  | sub =>
    have h : int2 subF (fun k a b => mk k (Int.sub a b)) x y = v := h
    exact int2_sim hx hy h hv (by simp) (by simp) (fun k m n _ => by
      have e : subF k m n = mk k ((m : Int) - n) := by
        unfold subF
        cases hb : Nat.ble n m
        · rfl
        · show mkN k (m - n) = _
          rw [Nat.ble_eq] at hb
          rw [mkN_eq]
          congr 1
          omega
      rw [e]; exact sub_sim) (fun k a b _ => sub_sim)
  | mul =>
    have h : int2 mulF (fun k a b => mk k (Int.mul a b)) x y = v := h
    exact int2_sim hx hy h hv (by simp) (by simp) (fun k m n _ => by
      have e : mulF k m n = mk k ((m : Int) * n) := mkN_eq k (m * n)
      rw [e]; exact mul_sim) (fun k a b _ => mul_sim)
  | quo =>
    have h : int2 quoF (slowBad) x y = v := h
    exact int2_sim hx hy h hv (by simp) (by simp) quo_sim (fun k a b hs => slow_ok hs)
  | rem =>
    have h : int2 remF (slowBad) x y = v := h
    exact int2_sim hx hy h hv (by simp) (by simp) rem_sim (fun k a b hs => slow_ok hs)
  | and =>
    have h : int2 (bitF Nat.land) andS x y = v := h
    exact int2_sim hx hy h hv (by simp) (by simp) (bit_sim .and Nat.land (fun j a b _ hb => Nat.and_lt_two_pow a hb) bits_and_run) (fun k a b _ => ⟨_, fun w => rfl, rfl⟩)
  | or =>
    have h : int2 (bitF Nat.lor) orS x y = v := h
    exact int2_sim hx hy h hv (by simp) (by simp) (bit_sim .or Nat.lor (fun j a b ha hb => Nat.or_lt_two_pow ha hb) bits_or_run) (fun k a b _ => ⟨_, fun w => rfl, rfl⟩)
  | xor =>
    have h : int2 (bitF Nat.xor) xorS x y = v := h
    exact int2_sim hx hy h hv (by simp) (by simp) (bit_sim .xor Nat.xor (fun j a b ha hb => Nat.xor_lt_two_pow ha hb) bits_xor_run) (fun k a b _ => ⟨_, fun w => rfl, rfl⟩)
  | shl => exact shl_sim hx hy h hv
  | shr => exact shrA_sim hx hy h hv
  | andNot =>
    have h : int2 (fun k a b => andNotS k (.ofNat a) (.ofNat b)) andNotS x y = v := h
    exact int2_sim hx hy h hv (by simp) (by simp) (fun k m n _ => ⟨_, fun w => rfl, rfl⟩) (fun k a b _ => ⟨_, fun w => rfl, rfl⟩)
  | eql =>
    rcases orI_ok h with h1 | ⟨_, h1⟩ <;> clear h
    · exact int2_sim hx hy h1.symm hv (by simp) (by simp) (fun k m n _ => cmp_sim (fun w => rfl) _ (dec_eq m n)) (fun k a b _ => cmp_sim (fun w => rfl) _ (by rw [Bool.eq_iff_iff, decide_eq_true_iff, beq_iff_eq]))
    · rcases str2_ok h1.symm hv with ⟨a, b, ex, ey, h⟩ | ⟨_, h⟩ <;> clear h1
      · subst ex; subst ey; obtain ⟨a, rfl, rfl⟩ := hx; obtain ⟨b, rfl, rfl⟩ := hy
        refine str_sim (v' := .bool (a.toList == b.toList)) (fun w => rfl) (by simp) (by simp) ?_
        rw [h, sEq, Str.eq_ok, toList_beq]; rfl
      · obtain ⟨r, h1, h2⟩ := eqop_ok hg isC_ok hx hy h.symm hv
        rw [h1]; exact eq_sim h2
  | neq =>
    rcases orI_ok h with h1 | ⟨_, h1⟩ <;> clear h
    · exact int2_sim hx hy h1.symm hv (by simp) (by simp) (fun k m n _ => cmp_sim (fun w => rfl) _ (by rw [notB_eq, dec_eq]; rfl)) (fun k a b _ => cmp_sim (fun w => rfl) _ (by rw [notB_eq]; rfl))
    · rcases str2_ok h1.symm hv with ⟨a, b, ex, ey, h⟩ | ⟨_, h⟩ <;> clear h1
      · subst ex; subst ey; obtain ⟨a, rfl, rfl⟩ := hx; obtain ⟨b, rfl, rfl⟩ := hy
        refine str_sim (v' := .bool !(a.toList == b.toList)) (fun w => rfl) (by simp) (by simp) ?_
        rw [h, sNe, Str.eq_ok, toList_beq, notB_eq]; rfl
      · obtain ⟨r, h1, h2⟩ := eqop_ok hg isC_ok hx hy h.symm hv
        rw [h1]; exact ne_sim h2
  | lss =>
    rcases orI_ok h with h1 | ⟨_, h1⟩ <;> clear h
    · exact int2_sim hx hy h1.symm hv (by simp) (by simp) (fun k m n _ => cmp_sim (fun w => rfl) _ (dec_lt m n)) (fun k a b _ => cmp_sim (fun w => rfl) _ rfl)
    · rcases str2_ok h1.symm hv with ⟨a, b, ex, ey, h⟩ | ⟨_, h⟩ <;> clear h1
      · subst ex; subst ey; obtain ⟨a, rfl, rfl⟩ := hx; obtain ⟨b, rfl, rfl⟩ := hy
        refine str_sim (v' := .bool (Op.bytesLess a.toList b.toList)) (fun w => rfl) (by simp) (by simp) ?_
        rw [h, sLt, Str.lt_ok]; rfl
      · exact absurd h hv
  | leq =>
    have h : int2 leF (fun _ a b => .bool (decide (a ≤ b))) x y = v := h
    exact int2_sim hx hy h hv (by simp) (by simp) (fun k m n _ => cmp_sim (fun w => rfl) _ (dec_le m n)) (fun k a b _ => cmp_sim (fun w => rfl) _ rfl)
  | gtr =>
    have h : int2 gtF (fun _ a b => .bool (decide (b < a))) x y = v := h
    exact int2_sim hx hy h hv (by simp) (by simp) (fun k m n _ => cmp_sim (fun w => rfl) _ (dec_lt n m)) (fun k a b _ => cmp_sim (fun w => rfl) _ rfl)
  | geq =>
    have h : int2 geF (fun _ a b => .bool (decide (b ≤ a))) x y = v := h
    exact int2_sim hx hy h hv (by simp) (by simp) (fun k m n _ => cmp_sim (fun w => rfl) _ (dec_le n m)) (fun k a b _ => cmp_sim (fun w => rfl) _ rfl)
theorem uop_ok {op : UnOp} {x v : AV} {vx : Value} (hx : VR ι x vx) (h : (uop op).f x = v) (hv : v ≠ .bad) : ∃ v', (∀ w : World, (Op.unary op vx).run P w = .ok v' w) ∧ VR ι v v' := by
  have h' : uop1 op x = v := h
  unfold uop1 at h'
  split at h'
  · cases hx; exact ⟨_, fun w => rfl, by rw [← h', notB_eq]; rfl⟩
  · rename_i k n
    cases hx
    refine ⟨.int k (k.wrap (0 - n)), fun w => rfl, ?_⟩
    rw [← h', mk, wr_ok]; rfl
  · rename_i k n
    cases hx
    exact ⟨_, fun w => rfl, by rw [← h']; rfl⟩
  · exact absurd h'.symm hv
end
end Go.Proofs.YtfmnninijakknaaGreatDoor.Am
namespace Go.Proofs.YtfmnninijakknaaGreatDoor.Am

/-- what an operation comes to -/
def SimV (P : Program) (ι : Nam) (h : H) (w : World) (s : Sem Value) (v : AV) (h' : H) : Prop :=
  ∃ ι' w' W v', s.run P w = .ok v' w' ∧ VR ι' v v' ∧ Loc ι h w ι' h' w' W
def SimU (P : Program) (ι : Nam) (h : H) (w : World) (s : Sem Unit) (h' : H) : Prop :=
  ∃ ι' w' W, s.run P w = .ok () w' ∧ Loc ι h w ι' h' w' W

section
variable {P : Program} {g : G} {ι : Nam} {h h' : H} {w : World} {D : Nat → Prop}

theorem SimV.ret (k : WR ι h w D) {s : Sem Value} {v : AV} {v' : Value} (hr : s.run P w = .ok v' w) (hv : VR ι v v') : SimV P ι h w s v h :=
  ⟨ι, w, [], v', hr, hv, Loc.refl k⟩
theorem SimV.chk (k : WR ι h w D) {s : Sem Value} {x v : AV} {v' : Value} (he : chk x h = .ok v h') (hr : s.run P w = .ok v' w) (hv : VR ι x v') : SimV P ι h w s v h' := by
  obtain ⟨rfl, rfl, _⟩ := chk_ok he
  exact SimV.ret k hr hv

theorem le_dep {n : Nat} (hn : n ≤ 4000000) : n ≤ 4 ^ dep n := by
  unfold dep
  have c : ∀ a b : Nat, Nat.ble a b = true → a ≤ b := fun a b e => by rwa [Nat.ble_eq] at e
  cases h1 : Nat.ble n (nat_lit 4)
  · cases h2 : Nat.ble n (nat_lit 16)
    · cases h3 : Nat.ble n (nat_lit 64)
      · cases h4 : Nat.ble n (nat_lit 256)
        · cases h5 : Nat.ble n (nat_lit 1024)
          · cases h6 : Nat.ble n (nat_lit 4096)
            · cases h7 : Nat.ble n (nat_lit 65536)
              · show n ≤ 4 ^ 11; omega
              · exact c _ _ h7
            · exact c _ _ h6
          · exact c _ _ h5
        · exact c _ _ h4
      · exact c _ _ h3
    · exact c _ _ h2
  · cases h2 : Nat.ble n (nat_lit 1)
    · exact c _ _ h1
    · exact c _ _ h2
theorem dep_lt (n : Nat) : dep n < 12 := by
  unfold dep
  have c : ∀ (b : Bool) (x y : Nat), x < 12 → y < 12 → (Bool.rec x y b : Nat) < 12 := fun b x y hx hy => by cases b <;> assumption
  repeat first | omega | (apply c) | (show (_ : Nat) < 12; decide)
theorem row_inv {el : Nat} {cs v : AV} {k : Nat → H → Res} (e : row el cs h k = .ok v h') :
    h.next < 65536 ∧ llen cs ≤ 4000000 ∧ k h.next (h.new (.cells el false (llen cs) (dep (llen cs)) (ofL (dep (llen cs)) cs))) = .ok v h' := by
  unfold row at e
  rw [sN_eq] at e
  unfold rowN at e
  cases h1 : h.room
  · rw [h1] at e; cases e
  · rw [h1] at e
    cases h2 : Nat.ble (llen cs) mxCells
    · rw [h2] at e; cases e
    · rw [h2] at e
      rw [sN_eq] at e
      rw [Nat.ble_eq] at h2
      exact ⟨H.room_iff.1 h1, h2, e⟩
/-- a world with one more block, of which the tape may have moved -/
def World.grown (w : World) (n : Nat) (o : Obj) : World := { w with heap := w.heap.push o, drawn := n }
theorem grown_old {n : Nat} {o : Obj} (i : Nat) (hi : i < w.heap.size) : (World.grown w n o).heap[i]? = w.heap[i]? := by
  simp [World.grown, Array.getElem?_push, Nat.ne_of_lt hi]
theorem grown_new {n : Nat} {o : Obj} : (World.grown w n o).heap[w.heap.size]? = some o := by
  simp [World.grown]
theorem Loc.new_cells (k : WR ι h w D) (hr : h.next < 65536) {el nb d : Nat} {t : E AV d} {cells : Array Value} (n : Nat) (hn : nb ≤ cells.size) (hd : nb ≤ 4 ^ d)
    (hc : ∀ i, i < nb → VR ι (E.get d (path d i) t) (cells.getD i undef)) :
    Loc ι h w (ι.add h.next ⟨w.heap.size, 0, cells.size⟩) (h.new (.cells el false nb d t)) (World.grown w n (.cells cells el)) [] := by
  refine Loc.mkNew k hr _ ⟨w.heap.size, 0, cells.size⟩ (.cells cells el) (by simp [World.grown]) grown_old (Nat.le_refl _) grown_new ?_ rfl rfl rfl
  refine ⟨cells, el, 0, 0, rfl, rfl, by simpa using hn, hd, fun i hi => ?_, ⟨fun _ => ⟨rfl, .inl rfl⟩, fun _ => rfl, fun c => (by cases c)⟩⟩
  have := hc i hi
  simp only [Nat.zero_add]
  exact this.mono (Nam.le_add _ (k.fresh _ (Nat.le_refl _)))
theorem Loc.new_row (k : WR ι h w D) (hr : h.next < 65536) {el : Nat} {cs : AV} {l : List Value} {cells : Array Value} (n : Nat) (hl : VRs ι cs l) (hm : llen cs ≤ 4000000) (hp : ∃ r, cells.toList = l ++ r) :
    Loc ι h w (ι.add h.next ⟨w.heap.size, 0, cells.size⟩) (h.new (.cells el false (llen cs) (dep (llen cs)) (ofL (dep (llen cs)) cs))) (World.grown w n (.cells cells el)) [] := by
  obtain ⟨r, hp⟩ := hp
  have hlen := llen_ok hl
  have hs : cells.size = l.length + r.length := by rw [← Array.length_toList, hp, List.length_append]
  refine Loc.new_cells k hr n (by omega) (le_dep hm) fun i hi => ?_
  rw [ofL, wrL_get (llen cs) (le_dep hm) hl 0 i _ (by omega) hi, if_pos (by omega)]
  have := lnth_ok hl i
  rw [Nat.sub_zero]
  have e : cells.getD i undef = l.getD i undef := by
    rw [Array.getD_eq_getD_getElem?, ← Array.getElem?_toList, hp, List.getElem?_append_left (by omega), List.getD_eq_getElem?_getD]
  rw [e]; exact this
theorem run_newRow (el : TypeId) (cells : Array Value) (w : World) : (newRow el cells).run P w = .ok ⟨w.heap.size, 0, none⟩ (World.grown w w.drawn (.cells cells el)) := by
  simp [newRow, World.grown]
theorem ptr_new {m : Nm} (b : m.sh = 0) : VR (ι.add h.next m) (.ptr h.next 0) (.pointer (some ⟨m.B, 0, none⟩)) :=
  ⟨m, Nam.add_same _ _ _, by rw [b]⟩

/-! ### loads -/
theorem withC_inv {b : Nat} {f : (el : Nat) → Bool → (n d : Nat) → E AV d → Res} {v : AV} (e : withC h b f = .ok v h') : ∃ el ro n d t, h.get b = some (.cells el ro n d t) ∧ f el ro n d t = .ok v h' := by
  unfold withC at e
  cases hb : h.get b with
  | none => rw [hb] at e; cases e
  | some x =>
    rw [hb] at e
    cases x <;> first | (cases e; done) | exact ⟨_, _, _, _, _, rfl, e⟩
theorem onP_inv {f : H → Nat → Nat → Res} {a v : AV} (e : onP f a h = .ok v h') : ∃ b o, a = .ptr b o ∧ f h b o = .ok v h' := by
  unfold onP at e
  cases ha : toP a with
  | none => rw [ha] at e; cases e
  | «at» b o => rw [ha] at e; exact ⟨b, o, toP_at ha, e⟩
/-- a block that is named, and live, lies below the next -/
theorem WR.lt (k : WR ι h w D) {b : Nat} {m : Nm} (e : ι b = some m) : b < h.next := by
  rcases Nat.lt_or_ge b h.next with c | c
  · exact c
  · rw [k.fresh b c] at e; cases e
theorem WR.cells (k : WR ι h w D) {b : Nat} (hD : D b) {m : Nm} (e : ι b = some m) {el : Nat} {ro : Bool} {n d : Nat} {t : E AV d} (hb : h.get b = some (.cells el ro n d t)) :
    ∃ arr el' lo hi, w.heap[m.B]? = some (.cells arr el' (lo, hi)) ∧ arr.size = m.cs ∧ m.sh + n ≤ m.cs ∧ n ≤ 4 ^ d ∧
      (∀ i, i < n → VR ι (E.get d (path d i) t) (arr.getD (m.sh + i) undef)) ∧ ((ro = false → el' = el ∧ (lo = hi ∨ m.cs ≤ lo)) ∧ (12 ≤ d → m.sh = 0) ∧ (ro = true → 2000000 ≤ el → el' = el - 2000000 ∧ (lo = hi ∨ hi ≤ m.sh + n))) := by
  obtain ⟨m', o, h1, h2, h3⟩ := k.blk b _ hD (k.lt e) hb
  rw [e] at h1; cases h1
  obtain ⟨arr, el', lo, hi, rfl, r⟩ := h3
  exact ⟨arr, el', lo, hi, h2, r⟩
theorem load_ok (hg : GOk P g) (k : WR ι h w D) {t : TypeId} {y : Ty} (ht : g.ty t = some y) {a v : AV} {va : Value} (ha : VR ι a va) (hD : ∀ b ∈ blkOf a, D b)
    (e : (loadA y.agg y.size).f a h = .ok v h') : SimV P ι h w (Instr.loadAt t va) v h' := by
  obtain ⟨hd, hag, i, z, hi, hs, _, _, _⟩ := hg.ty _ _ ht
  cases hy : y.agg
  · rw [hy] at e
    have e : onP load1 a h = .ok v h' := e
    obtain ⟨b, o, rfl, e⟩ := onP_inv e
    obtain ⟨m, hm, rfl⟩ := ha
    obtain ⟨el, ro, n, d, tr, hb, e⟩ := withC_inv e
    obtain ⟨arr, el', lo, hi', hw, h1, h2, _, h4, _⟩ := k.cells (hD b (by simp [blkOf])) hm hb
    cases hlt : Nat.ble (Nat.succ o) n
    · rw [hlt] at e; cases e
    · rw [hlt] at e
      rw [Nat.ble_eq] at hlt
      have hlt : o < n := hlt
      refine SimV.chk k e ?_ (h4 o hlt)
      simp only [Instr.loadAt, Instr.sureAddr, Sem.run_bind, Sem.run_pure, Result.andThen_ok, loadVar, run_ia hd, ← hag, hy, Bool.false_eq_true, if_false]
      exact run_load_of hw (by omega)
  · rw [hy] at e
    have e : onP (loadN y.size) a h = .ok v h' := e
    obtain ⟨b, o, rfl, e⟩ := onP_inv e
    obtain ⟨m, hm, rfl⟩ := ha
    obtain ⟨el, ro, n, d, tr, hb, e⟩ := withC_inv e
    obtain ⟨arr, el', lo, hi', hw, h1, h2, _, h4, _⟩ := k.cells (hD b (by simp [blkOf])) hm hb
    cases hlt : Nat.ble (Nat.add o y.size) n
    · rw [hlt] at e; cases e
    · rw [hlt] at e
      rw [Nat.ble_eq] at hlt
      have hlt : o + y.size ≤ n := hlt
      cases e
      refine SimV.ret k (v' := .agg (((List.range y.size).map fun j => arr.getD (m.sh + o + j) undef).toArray)) ?_ ⟨_, rfl, ?_⟩
      · simp only [Instr.loadAt, Instr.sureAddr, Sem.run_bind, Sem.run_pure, Result.andThen_ok, loadVar, run_ia hd, ← hag, hy, if_true, run_so hi, hs]
        rw [run_loadCells_of hw (by omega)]
        rfl
      · exact rdN_ok y.size o fun j h1 h2 => h4 j (by omega)
end
end Go.Proofs.YtfmnninijakknaaGreatDoor.Am
