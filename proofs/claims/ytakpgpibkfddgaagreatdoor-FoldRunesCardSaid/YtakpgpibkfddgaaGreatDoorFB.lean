/- FoldRunes, the walk of its own code and of what it calls but for New, open and live. -/
import Derived.Test.YtakpgpibkfddgaaGreatDoorFA
import Derived.Test.YtakpgpibkfddgaaGreatDoorProg
import Derived.WalkKit
import Derived.Outline
import Derived.Deep.QuietTactic
import Derived.BigQuiet
import Derived.LoopTactic
import Derived.Maps.OwnOps
import Derived.Lib.Hide
import Derived.IntWalk
namespace Go.Proofs.YtakpgpibkfddgaaGreatDoor.foldRunes
open Go.RowKit Go.Lib Go.Proofs.YtakpgpibkfddgaaGreatDoor.Am
/-- 'v, ok := m[k]' at a map of runes. -/
theorem wpList_look {P : Program} {w : World} {ops : Array Oper} {rest : List Oper} {o : Oper} {a : Act} {Q : Exit → Act → World → Prop} (hg : o.guard = none) (m x : Operand) (t : TypeId) (hop : o.op = Op.lookup t m x true)
    {kt et : TypeId} {i : TypeInfo} {z : Value} (ht : P.underlying t = some (.map kt et)) (hk : P.underlying kt = some (.int .i32)) (hi : P.info? et = some i) (hz : i.zero = some z) {B : Nat} {r : Int} {f : Int → Option (Value → Prop)}
    (hm : MapAt w B f) (ha : a.eval m = .map (some B)) (hx : a.eval x = .int .i32 r)
    (hK : ∀ v there, (match f r with | none => v = z ∧ there = false | some q => q v ∧ there = true) → wpList P ops Q rest (a.put o.dst (.tuple #[v, .bool there])) w) : wpList P ops Q (o :: rest) a w := by
  refine wpList_plain hg fun K' hK' => ?_
  obtain ⟨es, c, hw, hks, hm⟩ := hm
  obtain ⟨e, he, hfe⟩ := hm r
  have hr := run_lookup (P := P) (w := w) (t := t) (r := B) (es := es) (c := c) (key := .int .i32 r) true ht hk hw rfl (fun x hx => by obtain ⟨i, hi⟩ := hks x hx; rw [hi]; rfl) hi hz he
  unfold Oper.wp
  simp [execOp, hop, ha, hx, hr, Result.andThen]
  refine hK' _ _ (hK _ _ ?_)
  cases hf : f r with
  | none =>
    rw [hf] at hfe
    obtain rfl : e = none := hfe
    exact ⟨rfl, rfl⟩
  | some q =>
    rw [hf] at hfe
    obtain ⟨e', rfl, hq⟩ := hfe
    exact ⟨hq, rfl⟩
theorem wpList_look_yes {P : Program} {w : World} {ops : Array Oper} {rest : List Oper} {o : Oper} {a : Act} {Q : Exit → Act → World → Prop} (hg : o.guard = none) (m x : Operand) (t : TypeId) (hop : o.op = Op.lookup t m x true)
    {kt et : TypeId} {i : TypeInfo} {z : Value} (ht : P.underlying t = some (.map kt et)) (hk : P.underlying kt = some (.int .i32)) (hi : P.info? et = some i) (hz : i.zero = some z) {B : Nat} {r s : Int} {l : List (Int × Int)}
    (hm : MapAt w B (letters l)) (ha : a.eval m = .map (some B)) (hx : a.eval x = .int .i32 r) (hl : Cases.look l r = some s)
    (hK : wpList P ops Q rest (a.put o.dst (.tuple #[.int .i32 s, .bool true])) w) : wpList P ops Q (o :: rest) a w := by
  refine wpList_look hg m x t hop ht hk hi hz hm ha hx fun v there h => ?_
  have hf : letters l r = some fun v => v = .int .i32 s := by unfold letters; rw [hl]; rfl
  rw [hf] at h
  obtain ⟨rfl, rfl⟩ := h
  exact hK
theorem wpList_look_no {P : Program} {w : World} {ops : Array Oper} {rest : List Oper} {o : Oper} {a : Act} {Q : Exit → Act → World → Prop} (hg : o.guard = none) (m x : Operand) (t : TypeId) (hop : o.op = Op.lookup t m x true)
    {kt et : TypeId} {i : TypeInfo} {z : Value} (ht : P.underlying t = some (.map kt et)) (hk : P.underlying kt = some (.int .i32)) (hi : P.info? et = some i) (hz : i.zero = some z) {B : Nat} {r : Int} {l : List (Int × Int)}
    (hm : MapAt w B (letters l)) (ha : a.eval m = .map (some B)) (hx : a.eval x = .int .i32 r) (hl : Cases.look l r = none)
    (hK : wpList P ops Q rest (a.put o.dst (.tuple #[z, .bool false])) w) : wpList P ops Q (o :: rest) a w := by
  refine wpList_look hg m x t hop ht hk hi hz hm ha hx fun v there h => ?_
  have hf : letters l r = none := by unfold letters; rw [hl]; rfl
  rw [hf] at h
  obtain ⟨rfl, rfl⟩ := h
  exact hK
set_option maxRecDepth 100000 in
set_option maxHeartbeats 1000000 in
theorem bpair_ok (r : Int) (v : Value) (w : World) (h : OpenAt w v) : Calls Tryz.prog 16 #[v, .int .i32 r] w fun e w' => e = .returned (.tuple #[.int .i32 (Cases.pair r).1, .int .i32 (Cases.pair r).2]) ∧ w' = w := by
  obtain ⟨B, o, S, G, X, rfl, c1, c2, c3, m1, m2, m3⟩ := h
  have M1 := Lib.hid m1; have M2 := Lib.hid m2
  clear m1 m2 m3 c3
  unfold Cases.pair
  cases h1 : Cases.look Cases.smalls r with
  | some s =>
    have H1 := Lib.hid h1; clear h1
    go_enter Tryz.func16, Tryz.ntmps16
    go_wp2_with (at_lookup; refine wpList_look_yes rfl _ _ 67 rfl Tryz.underlying67 Tryz.underlying21 rfl rfl M1.out rfl rfl H1.out ?_)
    go_ret2
    exact ⟨rfl, rfl⟩
  | none =>
    have H1 := Lib.hid h1; clear h1
    cases h2 : Cases.look Cases.greats r with
    | some s =>
      have H2 := Lib.hid h2; clear h2
      go_enter Tryz.func16, Tryz.ntmps16
      go_wp2_with (first
        | (at_lookup; refine wpList_look_no rfl _ _ 67 rfl Tryz.underlying67 Tryz.underlying21 rfl rfl M1.out rfl rfl H1.out ?_)
        | (at_lookup; refine wpList_look_yes rfl _ _ 67 rfl Tryz.underlying67 Tryz.underlying21 rfl rfl M2.out rfl rfl H2.out ?_))
      go_ret2
      exact ⟨rfl, rfl⟩
    | none =>
      have H2 := Lib.hid h2; clear h2
      go_enter Tryz.func16, Tryz.ntmps16
      go_wp2_with (first
        | (at_lookup; refine wpList_look_no rfl _ _ 67 rfl Tryz.underlying67 Tryz.underlying21 rfl rfl M1.out rfl rfl H1.out ?_)
        | (at_lookup; refine wpList_look_no rfl _ _ 67 rfl Tryz.underlying67 Tryz.underlying21 rfl rfl M2.out rfl rfl H2.out ?_))
      go_ret2
      exact ⟨rfl, rfl⟩
theorem wpList_form_yes {P : Program} {w : World} {ops : Array Oper} {rest : List Oper} {o : Oper} {a : Act} {Q : Exit → Act → World → Prop} (hg : o.guard = none) (m x : Operand) (t : TypeId) (hop : o.op = Op.lookup t m x true)
    {kt et : TypeId} {i : TypeInfo} {z : Value} (ht : P.underlying t = some (.map kt et)) (hk : P.underlying kt = some (.int .i32)) (hi : P.info? et = some i) (hz : i.zero = some z) {B : Nat} {r : Int}
    (hm : MapAt w B forms) (ha : a.eval m = .map (some B)) (hx : a.eval x = .int .i32 r) (hl : Cases.specials.contains r = true)
    (hK : ∀ p1 n1 c1 p2 n2 c2 p3 n3 c3 p4 n4 c4, wpList P ops Q rest (a.put o.dst (.tuple #[.agg #[.slice p1 n1 c1, .slice p2 n2 c2, .slice p3 n3 c3, .slice p4 n4 c4], .bool true])) w) : wpList P ops Q (o :: rest) a w := by
  refine wpList_look hg m x t hop ht hk hi hz hm ha hx fun v there h => ?_
  have hf : forms r = some Forms := by unfold forms; rw [if_pos hl]
  rw [hf] at h
  obtain ⟨⟨_, _, _, _, rfl, ⟨p1, n1, c1, rfl⟩, ⟨p2, n2, c2, rfl⟩, ⟨p3, n3, c3, rfl⟩, ⟨p4, n4, c4, rfl⟩⟩, rfl⟩ := h
  exact hK _ _ _ _ _ _ _ _ _ _ _ _
theorem wpList_form_no {P : Program} {w : World} {ops : Array Oper} {rest : List Oper} {o : Oper} {a : Act} {Q : Exit → Act → World → Prop} (hg : o.guard = none) (m x : Operand) (t : TypeId) (hop : o.op = Op.lookup t m x true)
    {kt et : TypeId} {i : TypeInfo} {z : Value} (ht : P.underlying t = some (.map kt et)) (hk : P.underlying kt = some (.int .i32)) (hi : P.info? et = some i) (hz : i.zero = some z) {B : Nat} {r : Int}
    (hm : MapAt w B forms) (ha : a.eval m = .map (some B)) (hx : a.eval x = .int .i32 r) (hl : Cases.specials.contains r = false)
    (hK : wpList P ops Q rest (a.put o.dst (.tuple #[z, .bool false])) w) : wpList P ops Q (o :: rest) a w := by
  refine wpList_look hg m x t hop ht hk hi hz hm ha hx fun v there h => ?_
  have hf : forms r = none := by unfold forms; rw [if_neg (by rw [hl]; exact Bool.false_ne_true)]
  rw [hf] at h
  obtain ⟨rfl, rfl⟩ := h
  exact hK
set_option maxRecDepth 100000 in
set_option maxHeartbeats 1000000 in
theorem bcased_ok (r : Int) (v : Value) (w : World) (h : OpenAt w v) : Calls Tryz.prog 17 #[v, .int .i32 r] w fun e w' => e = .returned (.bool (Cases.cased r)) ∧ Below w.heap.size w w' := by
  obtain ⟨B, o, S, G, X, rfl, c1, c2, c3, m1, m2, m3⟩ := h
  have M1 := Lib.hid m1; have M2 := Lib.hid m2; have M3 := Lib.hid m3
  clear m1 m2 m3
  unfold Cases.cased
  cases h1 : Cases.look Cases.smalls r <;> cases h2 : Cases.look Cases.greats r <;> cases h3 : Cases.specials.contains r
  all_goals
    have H1 := Lib.hid h1; have H2 := Lib.hid h2; have H3 := Lib.hid h3; clear h1 h2 h3
    go_enter Tryz.func17, Tryz.ntmps17
    go_wp2_with (first
        | (at_lookup; refine wpList_look_no rfl _ _ 67 rfl Tryz.underlying67 Tryz.underlying21 rfl rfl M1.out rfl rfl H1.out ?_)
        | (at_lookup; refine wpList_look_yes rfl _ _ 67 rfl Tryz.underlying67 Tryz.underlying21 rfl rfl M1.out rfl rfl H1.out ?_)
        | (at_lookup; refine wpList_look_no rfl _ _ 67 rfl Tryz.underlying67 Tryz.underlying21 rfl rfl M2.out rfl rfl H2.out ?_)
        | (at_lookup; refine wpList_look_yes rfl _ _ 67 rfl Tryz.underlying67 Tryz.underlying21 rfl rfl M2.out rfl rfl H2.out ?_)
        | (at_lookup; refine wpList_form_no rfl _ _ 68 rfl Tryz.underlying68 Tryz.underlying21 rfl rfl M3.out rfl rfl H3.out ?_)
        | (at_lookup; refine wpList_form_yes rfl _ _ 68 rfl Tryz.underlying68 Tryz.underlying21 rfl rfl M3.out rfl rfl H3.out ?_; intro p1 n1 c1 p2 n2 c2 p3 n3 c3 p4 n4 c4))
    go_ret
    exact ⟨rfl, (Below.refl _ _).alloc (Nat.le_refl _) _⟩
/-- what open() is to do -/
def Opens (w : World) : Prop := Calls Tryz.prog 15 #[] w fun e w' => ∃ v, e = .returned v ∧ OpenAt w' v ∧ Below w.heap.size w w'
theorem Pair_ok (r : Int) (w : World) (h : Opens w) : Calls Tryz.prog 5 #[.int .i32 r] w fun e w' => e = .returned (.tuple #[.int .i32 (Cases.pair r).1, .int .i32 (Cases.pair r).2]) ∧ Below w.heap.size w w' := by
  have H := Lib.hid h; clear h
  go_enter Tryz.func5, Tryz.ntmps5
  go_wp2_with (first
    | (go_at_call 15; refine H.out.mono ?_; rintro e w1 ⟨v, rfl, h1, h2⟩; have H1 := Lib.hid h1; have H2 := Lib.hid h2; clear h1 h2)
    | (go_at_call 16; refine (bpair_ok r _ _ H1.out).mono ?_; rintro e w2 ⟨rfl, rfl⟩))
  go_ret2
  exact ⟨rfl, H2.out⟩
theorem Cased_ok (r : Int) (w : World) (h : Opens w) : Calls Tryz.prog 7 #[.int .i32 r] w fun e w' => e = .returned (.bool (Cases.cased r)) ∧ Below w.heap.size w w' := by
  have H := Lib.hid h; clear h
  go_enter Tryz.func7, Tryz.ntmps7
  go_wp2_with (first
    | (go_at_call 15; refine H.out.mono ?_; rintro e w1 ⟨v, rfl, h1, h2⟩; have H1 := Lib.hid h1; have H2 := Lib.hid h2; clear h1 h2)
    | (go_at_call 17; refine (bcased_ok r _ _ H1.out).mono ?_; rintro e w2 ⟨rfl, h3⟩; have H3 := Lib.hid h3; clear h3))
  go_ret
  exact ⟨rfl, H2.out.trans (H3.out.mono H2.out.size)⟩
theorem spec_split (r : Int) {k : Nat} (hk : k < 17) (he : Cases.specials.getD k 0 = r) : Cases.specials.contains r = true := by
  rw [List.contains_iff_mem, ← he, List.getD_eq_getElem?_getD, List.getElem?_eq_getElem (show k < Cases.specials.length from hk)]
  exact List.getElem_mem _
theorem spec_none (r : Int) (h : ∀ j, j < 17 → Cases.specials.getD j 0 ≠ r) : Cases.specials.contains r = false := by
  rw [Bool.eq_false_iff]
  intro c
  rw [List.contains_iff_mem] at c
  obtain ⟨j, hj, he⟩ := List.mem_iff_getElem.1 c
  exact h j hj (by rw [List.getD_eq_getElem?_getD, List.getElem?_eq_getElem hj]; exact he)
def SpecPost (r : Int) (w : World) (e : Ending) (w' : World) : Prop := (∃ p n c, e = .returned (.slice p n c) ∧ p.isSome = Cases.specials.contains r) ∧ w' = w
set_option maxHeartbeats 800000 in
set_option maxRecDepth 100000 in
theorem special_ok (r : Int) (v : Value) (w : World) (h : BookAt w v) : Calls Tryz.prog 18 #[v, .int .i32 r] w (SpecPost r w) := by
  obtain ⟨B, o, BP, oP, cP, BS, oS, cS, rfl, c0, c1, l1, l2, hP, hS⟩ := h
  have HS := Lib.hid hS; clear hS hP c0
  go_enter Tryz.func18, Tryz.ntmps18
  go_wp2
  go_loop [5] (fun i => ∃ k : Nat, k ≤ 17 ∧ i = .int .i64 k ∧ ∀ j, j < k → Cases.specials.getD j 0 ≠ r) (fun i => 17 - (RowKit.intOf i).toNat)
  case atStart => exact ⟨0, by omega, rfl, fun j hj => by omega⟩
  case round =>
    obtain ⟨k, hk, rfl, hlo⟩ := hrel
    have HLO := Lib.hid hlo; clear hlo
    by_cases hlt : k < 17
    · obtain ⟨d1, p, n, c, d2⟩ := HS.out k hlt
      rw [Nat.mul_comm 2 k] at d1 d2
      by_cases he : Cases.specials.getD k 0 = r
      · have HE := Lib.hid he
        rw [he] at d1
        clear he
        go_wp2
        go_ret
        exact ⟨⟨_, _, _, rfl, by rw [spec_split r hlt HE.out]; rfl⟩, rfl⟩
      · obtain ⟨x, hx⟩ : ∃ x, Cases.specials.getD k 0 = x := ⟨_, rfl⟩
        have HE := Lib.hid he
        rw [hx] at d1 he
        clear hx
        have hd : decide (x = r) = false := decide_eq_false he
        go_wp2
        go_round
        case rel => exact ⟨k + 1, hlt, by go_num, fun j hj => by
          rcases Nat.lt_or_ge j k with c | c
          · exact HLO.out j c
          · obtain rfl : j = k := by omega
            exact HE.out⟩
        case measure => simp [RowKit.intOf]; omega
    · obtain rfl : k = 17 := by omega
      go_wp2
      go_ret
      exact ⟨⟨_, _, _, rfl, by rw [spec_none r HLO.out]; rfl⟩, rfl⟩
theorem cell_lt {w : World} {b o : Nat} {v : Value} (h : w.cell? ⟨b, o, none⟩ = some v) : b < w.heap.size := by
  rcases Nat.lt_or_ge b w.heap.size with c | c
  · exact c
  · exfalso
    have : w.heap[b]? = none := Array.getElem?_eq_none c
    unfold World.cell? at h
    simp [this] at h
def ln (k : Nat) : Cases.Line := Cases.lines.getD k (0, 0, 0, 1)
def okLn (p : Cases.Line) : Bool := decide (0 ≤ p.1) && decide (p.1 ≤ p.2.1) && decide (p.2.1 ≤ 70000) && decide (-1000 ≤ p.2.2.1) && decide (p.2.2.1 ≤ 1000) && decide (0 ≤ p.1 + p.2.2.1) && decide (1 ≤ p.2.2.2) && decide (p.2.2.2 ≤ 2)
theorem lines_okLn : ((List.range 23).all fun k => okLn (ln k) && decide (lineInts.getD (4 * k) 0 = (ln k).1) && decide (lineInts.getD (4 * k + 1) 0 = (ln k).2.1) && decide (lineInts.getD (4 * k + 2) 0 = (ln k).2.2.1) && decide (lineInts.getD (4 * k + 3) 0 = (ln k).2.2.2)) = true := by decide +kernel
def acc (r : Int) (k : Nat) : Int × Int := (Cases.lines.take k).foldl (Cases.step r) (r, r)
theorem acc_succ (r : Int) {k : Nat} (hk : k < 23) : acc r (k + 1) = Cases.step r (acc r k) (ln k) := by
  unfold acc ln
  rw [List.take_succ_eq_append_getElem (show k < Cases.lines.length from hk), List.foldl_append, List.getD_eq_getElem?_getD, List.getElem?_eq_getElem (show k < Cases.lines.length from hk)]
  rfl
theorem acc_all (r : Int) : acc r 23 = Cases.docPair r := rfl
theorem step_eq {r a b d s x1 y1 x2 y2 sm gr : Int} (hr : -2147483648 ≤ r ∧ r ≤ 2147483647) (q : 0 ≤ a ∧ a ≤ b ∧ b ≤ 70000 ∧ -1000 ≤ d ∧ d ≤ 1000 ∧ 0 ≤ a + d ∧ 1 ≤ s ∧ s ≤ 2)
    (hx1 : wrap32 (r - a) = x1) (hy1 : Int.tmod x1 s = y1) (hx2 : wrap32 (x1 - d) = x2) (hy2 : Int.tmod x2 s = y2) :
    (Cases.step r (sm, gr) (a, b, d, s)).1 = (if (decide (a ≤ r) && decide (r ≤ b) && decide (y1 = 0)) = true then wrap32 (r + d) else sm) ∧
    (Cases.step r (sm, gr) (a, b, d, s)).2 = (if (decide (a + d ≤ r) && decide (r ≤ b + d) && decide (y2 = 0)) = true then wrap32 (r - d) else gr) := by
  have h1 : Cases.isGreat r (a, b, d, s) = (decide (a ≤ r) && decide (r ≤ b) && decide (y1 = 0)) := by
    unfold Cases.isGreat
    dsimp only
    by_cases c : a ≤ r ∧ r ≤ b
    · have e : wrap32 (r - a) = r - a := by unfold wrap32; omega
      rw [← hy1, ← hx1, e]
    · rw [← hy1]
      by_cases c1 : a ≤ r
      · rw [decide_eq_false (show ¬ r ≤ b from fun h => c ⟨c1, h⟩)]; simp
      · rw [decide_eq_false c1]; simp
  have h2 : Cases.isSmall r (a, b, d, s) = (decide (a + d ≤ r) && decide (r ≤ b + d) && decide (y2 = 0)) := by
    unfold Cases.isSmall
    dsimp only
    by_cases c : a + d ≤ r ∧ r ≤ b + d
    · have e : wrap32 (r - a) = r - a := by unfold wrap32; omega
      have e2 : wrap32 (r - a - d) = r - a - d := by unfold wrap32; omega
      rw [← hy2, ← hx2, ← hx1, e, e2]
    · by_cases c1 : a + d ≤ r
      · rw [decide_eq_false (show ¬ r ≤ b + d from fun h => c ⟨c1, h⟩)]; simp
      · rw [decide_eq_false c1]; simp
  unfold Cases.step
  rw [← h1, ← h2]
  dsimp only
  constructor
  · cases c : Cases.isGreat r (a, b, d, s) with
    | false => rfl
    | true =>
      rw [if_pos rfl, if_pos rfl]
      unfold Cases.isGreat at c
      simp only [Bool.and_eq_true, decide_eq_true_iff] at c
      unfold wrap32
      omega
  · cases c : Cases.isSmall r (a, b, d, s) with
    | false => rfl
    | true =>
      rw [if_pos rfl, if_pos rfl]
      unfold Cases.isSmall at c
      simp only [Bool.and_eq_true, decide_eq_true_iff] at c
      unfold wrap32
      omega
def BPairPost (r : Int) (W : World) (e : Ending) (w' : World) : Prop := e = .returned (.tuple #[.int .i32 (Cases.docPair r).1, .int .i32 (Cases.docPair r).2]) ∧ Below W.heap.size W w'
set_option maxHeartbeats 8000000 in
set_option maxRecDepth 100000 in
theorem BPair_ok (r : Int) (hr : -2147483648 ≤ r ∧ r ≤ 2147483647) (v : Value) (W : World) (h : BookAt W v) : Calls Tryz.prog 6 #[v, .int .i32 r] W (BPairPost r W) := by
  obtain ⟨B, o, BP, oP, cP, BS, oS, cS, rfl, c0, c1, l1, l2, hP, hS⟩ := h
  have hB := cell_lt c0
  have hBP := cell_lt (hP 0 (by omega))
  have HP := Lib.hid hP; have HR := Lib.hid hr; have HB := Lib.hid hB; have HBP := Lib.hid hBP; have C0 := Lib.hid c0
  clear hP hS c1 hr hB hBP
  go_enter Tryz.func6, Tryz.ntmps6
  go_wp2
  go_loopw [6, 7, 8] (fun sm gr i wr => ∃ k : Nat, k ≤ 23 ∧ i = .int .i64 k ∧ sm = .int .i32 (acc r k).1 ∧ gr = .int .i32 (acc r k).2 ∧ Below W.heap.size W wr) (fun _ _ i _ => 23 - (RowKit.intOf i).toNat)
  case atStart => exact ⟨0, by omega, rfl, rfl, rfl, Below.refl _ _⟩
  case round =>
    obtain ⟨k, hk, rfl, rfl, rfl, hbel⟩ := hrel
    have d0 : wr.cell? ⟨B, o, none⟩ = some (.slice (some ⟨BP, oP, none⟩) 23 cP) := by rw [hbel.cell HB.out]; exact C0.out
    have HBL := Lib.hid hbel; clear hbel c0
    by_cases hlt : k < 23
    · have hall := List.all_eq_true.1 lines_okLn k (List.mem_range.2 hlt)
      simp only [Bool.and_eq_true, decide_eq_true_iff, okLn] at hall
      obtain ⟨⟨⟨⟨⟨⟨⟨⟨⟨⟨⟨q1, q2⟩, q3⟩, q4⟩, q5⟩, q6⟩, q7⟩, q8⟩, e0⟩, e1⟩, e2⟩, e3⟩ := hall
      have f0 := HP.out (4 * k) (by omega); have f1 := HP.out (4 * k + 1) (by omega); have f2 := HP.out (4 * k + 2) (by omega); have f3 := HP.out (4 * k + 3) (by omega)
      rw [e0] at f0; rw [e1] at f1; rw [e2] at f2; rw [e3] at f3
      rw [Nat.mul_comm 4 k] at f0 f1 f2 f3
      have g0 : wr.cell? ⟨BP, oP + k * 4, none⟩ = some (.int .i32 (ln k).1) := by rw [HBL.out.cell HBP.out]; exact f0
      have g1 : wr.cell? ⟨BP, oP + k * 4 + 1, none⟩ = some (.int .i32 (ln k).2.1) := by rw [HBL.out.cell HBP.out]; exact f1
      have g2 : wr.cell? ⟨BP, oP + k * 4 + 2, none⟩ = some (.int .i32 (ln k).2.2.1) := by rw [HBL.out.cell HBP.out]; exact f2
      have g3 : wr.cell? ⟨BP, oP + k * 4 + 3, none⟩ = some (.int .i32 (ln k).2.2.2) := by rw [HBL.out.cell HBP.out]; exact f3
      have HA := Lib.hid (acc_succ r hlt)
      clear e0 e1 e2 e3 f0 f1 f2 f3
      obtain ⟨p, hp⟩ : ∃ p, ln k = p := ⟨_, rfl⟩
      rw [hp] at q1 q2 q3 q4 q5 q6 q7 q8 g0 g1 g2 g3 HA
      clear hp
      obtain ⟨a, b, d, s⟩ := p
      dsimp only at q1 q2 q3 q4 q5 q6 q7 q8 g0 g1 g2 g3
      obtain ⟨sg, hsg⟩ : ∃ sg, acc r k = sg := ⟨_, rfl⟩
      rw [hsg] at HA
      rw [hsg]
      clear hsg
      obtain ⟨sm, gr⟩ := sg
      dsimp only
      have hs : s ≠ 0 := by omega
      obtain ⟨x1, hx1⟩ : ∃ x, wrap32 (r - a) = x := ⟨_, rfl⟩
      obtain ⟨y1, hy1⟩ : ∃ y, Int.tmod x1 s = y := ⟨_, rfl⟩
      have w1 : wrap32 (a + d) = a + d := by unfold wrap32; omega
      have w2 : wrap32 (b + d) = b + d := by unfold wrap32; omega
      obtain ⟨x2, hx2⟩ : ∃ x, wrap32 (x1 - d) = x := ⟨_, rfl⟩
      obtain ⟨y2, hy2⟩ : ∃ y, Int.tmod x2 s = y := ⟨_, rfl⟩
      obtain ⟨t1, ht1⟩ : ∃ t, decide (a ≤ r) = t := ⟨_, rfl⟩
      obtain ⟨t2, ht2⟩ : ∃ t, decide (r ≤ b) = t := ⟨_, rfl⟩
      obtain ⟨t3, ht3⟩ : ∃ t, decide (y1 = 0) = t := ⟨_, rfl⟩
      obtain ⟨t4, ht4⟩ : ∃ t, decide (a + d ≤ r) = t := ⟨_, rfl⟩
      obtain ⟨t5, ht5⟩ : ∃ t, decide (r ≤ b + d) = t := ⟨_, rfl⟩
      obtain ⟨t6, ht6⟩ : ∃ t, decide (y2 = 0) = t := ⟨_, rfl⟩
      obtain ⟨s1, s2⟩ := step_eq (sm := sm) (gr := gr) HR.out ⟨q1, q2, q3, q4, q5, q6, q7, q8⟩ hx1 hy1 hx2 hy2
      rw [ht1, ht2, ht3] at s1
      rw [ht4, ht5, ht6] at s2
      have S1 := Lib.hid s1; have S2 := Lib.hid s2
      clear s1 s2
      clear q1 q2 q3 q4 q5 q6 q7 q8
      have T1 : t1 = false ∨ (t1 = true ∧ t2 = false) ∨ (t1 = true ∧ t2 = true ∧ t3 = false) ∨ (t1 = true ∧ t2 = true ∧ t3 = true) := by cases t1 <;> cases t2 <;> cases t3 <;> simp
      have T2 : t4 = false ∨ (t4 = true ∧ t5 = false) ∨ (t4 = true ∧ t5 = true ∧ t6 = false) ∨ (t4 = true ∧ t5 = true ∧ t6 = true) := by cases t4 <;> cases t5 <;> cases t6 <;> simp
      rcases T1 with rfl | ⟨rfl, rfl⟩ | ⟨rfl, rfl, rfl⟩ | ⟨rfl, rfl, rfl⟩ <;> rcases T2 with rfl | ⟨rfl, rfl⟩ | ⟨rfl, rfl, rfl⟩ | ⟨rfl, rfl, rfl⟩
      all_goals
        try have n3 := of_decide_eq_false ht3
        try have n6 := of_decide_eq_false ht6
        try have m3 := of_decide_eq_true ht3
        try have m6 := of_decide_eq_true ht6
        go_wp2
        refine ⟨⟨k + 1, hlt, by go_num, ?_, ?_, HBL.out.alloc HBL.out.size _⟩, by simp [RowKit.intOf]; omega⟩
        · rw [HA.out, S1.out]; rfl
        · rw [HA.out, S2.out]; rfl
    · obtain rfl : k = 23 := by omega
      go_wp2
      go_ret2
      exact ⟨rfl, HBL.out⟩
theorem bookAt_below {w w' : World} {v : Value} (h : BookAt w v) (hb : Below w.heap.size w w') : BookAt w' v := by
  obtain ⟨B, o, BP, oP, cP, BS, oS, cS, rfl, c0, c1, l1, l2, hP, hS⟩ := h
  have hB := cell_lt c0
  have hBP := cell_lt (hP 0 (by omega))
  have hBS := cell_lt (hS 0 (by omega)).1
  refine ⟨B, o, BP, oP, cP, BS, oS, cS, rfl, by rw [hb.cell hB]; exact c0, by rw [hb.cell hB]; exact c1, l1, l2, fun i hi => by rw [hb.cell hBP]; exact hP i hi, fun j hj => ⟨by rw [hb.cell hBS]; exact (hS j hj).1, ?_⟩⟩
  obtain ⟨p, n, c, h⟩ := (hS j hj).2
  exact ⟨p, n, c, by rw [hb.cell hBS]; exact h⟩
theorem docCased_eq (r x y : Int) (hx : (Cases.docPair r).1 = x) (hy : (Cases.docPair r).2 = y) : Cases.docCased r = (decide (x ≠ r) || decide (y ≠ r) || Cases.specials.contains r) := by
  unfold Cases.docCased
  rw [hx, hy]
set_option maxRecDepth 100000 in
theorem neq_nil (p : Option Addr) (n c : Nat) (w : World) : (binOp .neq 41 (.slice p n c) (.slice none 0 0)).run Tryz.prog w = .ok (.bool p.isSome) w := by cases p <;> rfl
def BCasedPost (r : Int) (W : World) (e : Ending) (w' : World) : Prop := e = .returned (.bool (Cases.docCased r)) ∧ Below W.heap.size W w'
set_option maxHeartbeats 8000000 in
set_option maxRecDepth 100000 in
theorem BCased_ok (r : Int) (hr : -2147483648 ≤ r ∧ r ≤ 2147483647) (v : Value) (W : World) (h : BookAt W v) : Calls Tryz.prog 8 #[v, .int .i32 r] W (BCasedPost r W) := by
  obtain ⟨B, o, rfl⟩ : ∃ B o, v = .pointer (some ⟨B, o, none⟩) := by obtain ⟨B, o, _, _, _, _, _, _, rfl, _⟩ := h; exact ⟨B, o, rfl⟩
  have H := Lib.hid h
  have P := Lib.hid (BPair_ok r hr _ W h)
  clear h hr
  obtain ⟨x, hx⟩ : ∃ x, (Cases.docPair r).1 = x := ⟨_, rfl⟩
  obtain ⟨y, hy⟩ : ∃ y, (Cases.docPair r).2 = y := ⟨_, rfl⟩
  have D := Lib.hid (docCased_eq r x y hx hy)
  have HX := Lib.hid hx; have HY := Lib.hid hy
  clear hx hy
  by_cases cx : x = r <;> by_cases cy : y = r <;> cases cs : Cases.specials.contains r
  all_goals
    have CX := Lib.hid cx; have CY := Lib.hid cy; have CS := Lib.hid cs; clear cs
    go_enter Tryz.func8, Tryz.ntmps8
    go_wp2_with (first
      | (go_at_call 6
         refine P.out.mono ?_
         rintro e w1 ⟨rfl, hb⟩
         rw [HX.out, HY.out]
         have HB := Lib.hid hb; clear hb)
      | (go_at_call 18
         refine (special_ok r _ _ (bookAt_below H.out HB.out)).mono ?_
         rintro e w2 ⟨⟨p, n, c, rfl, hp⟩, rfl⟩
         rw [CS.out] at hp
         have hz := fun w => neq_nil p n c w
         rw [hp] at hz))
    all_goals go_ret
    all_goals exact ⟨by rw [D.out, CS.out]; simp [CX.out, CY.out], HB.out⟩
/-- what New() is to do -/
def News (w : World) : Prop := Calls Tryz.prog 4 #[] w fun e w' => ∃ v, e = .returned v ∧ BookAt w' v ∧ Below w.heap.size w w'
/-- what live() is to do -/
def Lives (w : World) : Prop := Calls Tryz.prog 9 #[] w fun e w' => e = .returned (.bool true) ∧ Below w.heap.size w w'
set_option maxHeartbeats 8000000 in
set_option maxRecDepth 100000 in
theorem FoldRunes_ok (r : Int) (hr : -2147483648 ≤ r ∧ r ≤ 2147483647) (W : World) (hnew : News W) (hopen : ∀ w, Below W.heap.size W w → Opens w) (hlive : ∀ w, Below W.heap.size W w → Lives w) :
    Calls Tryz.prog 3 #[.int .i32 r] W fun e w' => e = .returned (.bool true) ∧ Below W.heap.size W w' := by
  have N := Lib.hid hnew; have O := Lib.hid hopen; have L := Lib.hid hlive; have HR := Lib.hid hr
  clear hnew hopen hlive hr
  have e1 := Cases.pair_doc r
  have e2 := Cases.cased_doc r
  obtain ⟨x, hx⟩ : ∃ x, (Cases.docPair r).1 = x := ⟨_, rfl⟩
  obtain ⟨y, hy⟩ : ∃ y, (Cases.docPair r).2 = y := ⟨_, rfl⟩
  obtain ⟨c, hc⟩ : ∃ c, Cases.docCased r = c := ⟨_, rfl⟩
  have E1 := Lib.hid e1; have E2 := Lib.hid e2; have HX := Lib.hid hx; have HY := Lib.hid hy; have HC := Lib.hid hc
  clear e1 e2 hx hy hc
  go_enter Tryz.func3, Tryz.ntmps3
  go_wp2_with (first
    | (go_at_call 4
       refine N.out.mono ?_
       rintro e w1 ⟨v, rfl, hk, hb⟩
       obtain ⟨B, o, rfl⟩ : ∃ B o, v = .pointer (some ⟨B, o, none⟩) := by obtain ⟨B, o, _, _, _, _, _, _, rfl, _⟩ := hk; exact ⟨B, o, rfl⟩
       have K1 := Lib.hid hk; have B1 := Lib.hid hb; clear hk hb)
    | (go_at_call 5
       refine (Pair_ok r _ (O.out _ B1.out)).mono ?_
       rintro e w2 ⟨rfl, hb⟩
       rw [E1.out, HX.out, HY.out]
       have B2 := Lib.hid (B1.out.trans (hb.mono B1.out.size))
       have K2 := Lib.hid (bookAt_below K1.out hb)
       clear hb)
    | (go_at_call 6
       refine (BPair_ok r HR.out _ _ K2.out).mono ?_
       rintro e w3 ⟨rfl, hb⟩
       rw [HX.out, HY.out]
       have B3 := Lib.hid (B2.out.trans (hb.mono B2.out.size))
       have K3 := Lib.hid (bookAt_below K2.out hb)
       clear hb)
    | (go_at_call 7
       refine (Cased_ok r _ (O.out _ B3.out)).mono ?_
       rintro e w4 ⟨rfl, hb⟩
       rw [E2.out, HC.out]
       have B4 := Lib.hid (B3.out.trans (hb.mono B3.out.size))
       have K4 := Lib.hid (bookAt_below K3.out hb)
       clear hb)
    | (go_at_call 8
       refine (BCased_ok r HR.out _ _ K4.out).mono ?_
       rintro e w5 ⟨rfl, hb⟩
       rw [HC.out]
       have B5 := Lib.hid (B4.out.trans (hb.mono B4.out.size))
       clear hb)
    | (go_at_call 9
       refine (L.out _ B5.out).mono ?_
       rintro e w6 ⟨rfl, hb⟩
       have B6 := Lib.hid (B5.out.trans (hb.mono B5.out.size))
       clear hb))
  go_ret
  exact ⟨rfl, B6.out⟩
end Go.Proofs.YtakpgpibkfddgaaGreatDoor.foldRunes
