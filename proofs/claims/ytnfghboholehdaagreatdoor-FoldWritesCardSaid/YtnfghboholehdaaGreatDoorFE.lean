/- FoldWrites, walked: the document's Pair, special, form, Write. -/
import Derived.Test.YtnfghboholehdaaGreatDoorFB
import Derived.IntWalk
import Derived.Test.YtnfghboholehdaaGreatDoorFA
import Derived.Test.YtnfghboholehdaaGreatDoorFD
import Derived.Test.YtnfghboholehdaaGreatDoorFC
import Derived.Test.YtnfghboholehdaaGreatDoorFG
namespace Go.Proofs.YtnfghboholehdaaGreatDoor.foldWrites
section
open Go.Shelf Go.RowKit Go.Lib Go.Proofs.YtnfghboholehdaaGreatDoor.Am
theorem spec_split (r : Int) {k : Nat} (hk : k < 17) (he : Cases.specials.getD k 0 = r) : Cases.specials.contains r = true := by
 rw [List.contains_iff_mem, ← he, List.getD_eq_getElem?_getD, List.getElem?_eq_getElem (show k < Cases.specials.length from hk)]
 exact List.getElem_mem _
theorem spec_none (r : Int) (h : ∀ j, j < 17 → Cases.specials.getD j 0 ≠ r) : Cases.specials.contains r = false := by
 rw [Bool.eq_false_iff]
 intro c
 rw [List.contains_iff_mem] at c
 obtain ⟨j, hj, he⟩ := List.mem_iff_getElem.1 c
 exact h j hj (by rw [List.getD_eq_getElem?_getD, List.getElem?_eq_getElem hj]; exact he)
def SpecPost (r : Int) (w : World) (e : Ending) (w' : World) : Prop := (∃ p n c, e = .returned (.slice p n c) ∧ p.isSome = Cases.specials.contains r) ∧ w' = w
set_option maxHeartbeats 800000 in
set_option maxRecDepth 100000 in
theorem special_ok (r : Int) (v : Value) (w : World) (h : BookAt w v) : Calls Tryz.prog 77 #[v, .int .i32 r] w (SpecPost r w) := by
 obtain ⟨B, o, BP, oP, cP, BS, oS, cS, rfl, c0, c1, l1, l2, hP, hS⟩ := h
 have HS := Lib.hid hS; clear hS hP c0
 go_enter Tryz.func77, Tryz.ntmps77
 go_wp2
 go_loop [5] (fun i => ∃ k : Nat, k ≤ 17 ∧ i = .int .i64 k ∧ ∀ j, j < k → Cases.specials.getD j 0 ≠ r) (fun i => 17 - (RowKit.intOf i).toNat)
 case atStart => exact ⟨0, by omega, rfl, fun j hj => by omega⟩
 case round =>
  obtain ⟨k, hk, rfl, hlo⟩ := hrel
  have HLO := Lib.hid hlo; clear hlo
  by_cases hlt : k < 17
  ·obtain ⟨d1, p, n, c, d2⟩ := HS.out k hlt
   rw [Nat.mul_comm 2 k] at d1 d2
   by_cases he : Cases.specials.getD k 0 = r
   ·have HE := Lib.hid he
    rw [he] at d1
    clear he
    go_wp2
    go_ret
    exact ⟨⟨_, _, _, rfl, by rw [spec_split r hlt HE.out]; rfl⟩, rfl⟩
   ·obtain ⟨x, hx⟩ : ∃ x, Cases.specials.getD k 0 = x := ⟨_, rfl⟩
    have HE := Lib.hid he
    rw [hx] at d1 he
    clear hx
    have hd : decide (x = r) = false := decide_eq_false he
    go_wp2
    go_round
    case rel => exact ⟨k + 1, hlt, by go_num, fun j hj => by
     rcases Nat.lt_or_ge j k with c | c
     ·exact HLO.out j c
     ·obtain rfl : j = k := by omega
      exact HE.out⟩
    case measure => simp [RowKit.intOf]; omega
  ·obtain rfl : k = 17 := by omega
   go_wp2
   go_ret
   exact ⟨⟨_, _, _, rfl, by rw [spec_none r HLO.out]; rfl⟩, rfl⟩
end
section
open Go.Shelf Go.RowKit Go.Lib Go.Proofs.YtnfghboholehdaaGreatDoor.Am
def ln (k : Nat) : Cases.Line := Cases.lines.getD k (0, 0, 0, 1)
def okLn (p : Cases.Line) : Bool := decide (0 ≤ p.1) && decide (p.1 ≤ p.2.1) && decide (p.2.1 ≤ 70000) && decide (-1000 ≤ p.2.2.1) && decide (p.2.2.1 ≤ 1000) && decide (0 ≤ p.1 + p.2.2.1) && decide (1 ≤ p.2.2.2) && decide (p.2.2.2 ≤ 2)
theorem lines_okLn : ((List.range 23).all fun k => okLn (ln k) && decide (lineInts.getD (4 * k) 0 = (ln k).1) && decide (lineInts.getD (4 * k + 1) 0 = (ln k).2.1) && decide (lineInts.getD (4 * k + 2) 0 = (ln k).2.2.1) && decide (lineInts.getD (4 * k + 3) 0 = (ln k).2.2.2)) = true := by decide +kernel
def acc (r : Int) (k : Nat) : Int × Int := (Cases.lines.take k).foldl (Cases.step r) (r, r)
theorem acc_succ (r : Int) {k : Nat} (hk : k < 23) : acc r (k + 1) = Cases.step r (acc r k) (ln k) := by
 unfold acc ln
 rw [List.take_succ_eq_append_getElem (show k < Cases.lines.length from hk), List.foldl_append, List.getD_eq_getElem?_getD, List.getElem?_eq_getElem (show k < Cases.lines.length from hk)]
 rfl
theorem acc_all (r : Int) : acc r 23 = Cases.docPair r := rfl
theorem step_eq {r a b d s x1 y1 x2 y2 sm gr : Int} (hr : -2147483648 ≤ r ∧ r ≤ 2147483647) (q : 0 ≤ a ∧ a ≤ b ∧ b ≤ 70000 ∧ -1000 ≤ d ∧ d ≤ 1000 ∧ 0 ≤ a + d ∧ 1 ≤ s ∧ s ≤ 2)
 (hx1 : wrap32 (r - a) = x1) (hy1 : Int.tmod x1 s = y1) (hx2 : wrap32 (x1 - d) = x2) (hy2 : Int.tmod x2 s = y2) :
 (Cases.step r (sm, gr) (a, b, d, s)).1 = (if (decide (a ≤ r) && decide (r ≤ b) && decide (y1 = 0)) = true then wrap32 (r + d) else sm) ∧
 (Cases.step r (sm, gr) (a, b, d, s)).2 = (if (decide (a + d ≤ r) && decide (r ≤ b + d) && decide (y2 = 0)) = true then wrap32 (r - d) else gr) := by
 have h1 : Cases.isGreat r (a, b, d, s) = (decide (a ≤ r) && decide (r ≤ b) && decide (y1 = 0)) := by
  unfold Cases.isGreat
  dsimp only
  by_cases c : a ≤ r ∧ r ≤ b
  ·have e : wrap32 (r - a) = r - a := by unfold wrap32; omega
   rw [← hy1, ← hx1, e]
  ·rw [← hy1]
   by_cases c1 : a ≤ r
   ·rw [decide_eq_false (show ¬ r ≤ b from fun h => c ⟨c1, h⟩)]; simp
   ·rw [decide_eq_false c1]; simp
 have h2 : Cases.isSmall r (a, b, d, s) = (decide (a + d ≤ r) && decide (r ≤ b + d) && decide (y2 = 0)) := by
  unfold Cases.isSmall
  dsimp only
  by_cases c : a + d ≤ r ∧ r ≤ b + d
  ·have e : wrap32 (r - a) = r - a := by unfold wrap32; omega
   have e2 : wrap32 (r - a - d) = r - a - d := by unfold wrap32; omega
   rw [← hy2, ← hx2, ← hx1, e, e2]
  ·by_cases c1 : a + d ≤ r
   ·rw [decide_eq_false (show ¬ r ≤ b + d from fun h => c ⟨c1, h⟩)]; simp
   ·rw [decide_eq_false c1]; simp
 unfold Cases.step
 rw [← h1, ← h2]
 dsimp only
 constructor
 ·cases c : Cases.isGreat r (a, b, d, s) with
  | false => rfl
  | true =>
    rw [if_pos rfl, if_pos rfl]
    unfold Cases.isGreat at c
    simp only [Bool.and_eq_true, decide_eq_true_iff] at c
    unfold wrap32
    omega
 ·cases c : Cases.isSmall r (a, b, d, s) with
  | false => rfl
  | true =>
    rw [if_pos rfl, if_pos rfl]
    unfold Cases.isSmall at c
    simp only [Bool.and_eq_true, decide_eq_true_iff] at c
    unfold wrap32
    omega
def BPairPost (r : Int) (W : World) (e : Ending) (w' : World) : Prop := e = .returned (.tuple #[.int .i32 (Cases.docPair r).1, .int .i32 (Cases.docPair r).2]) ∧ Below W.heap.size W w'
set_option maxHeartbeats 8000000 in
set_option maxRecDepth 100000 in
theorem BPair_ok (r : Int) (hr : -2147483648 ≤ r ∧ r ≤ 2147483647) (v : Value) (W : World) (h : BookAt W v) : Calls Tryz.prog 48 #[v, .int .i32 r] W (BPairPost r W) := by
 obtain ⟨B, o, BP, oP, cP, BS, oS, cS, rfl, c0, c1, l1, l2, hP, hS⟩ := h
 have hB := cell_lt c0
 have hBP := cell_lt (hP 0 (by omega))
 have HP := Lib.hid hP; have HR := Lib.hid hr; have HB := Lib.hid hB; have HBP := Lib.hid hBP; have C0 := Lib.hid c0
 clear hP hS c1 hr hB hBP
 go_enter Tryz.func48, Tryz.ntmps48
 go_wp2
 go_loopw [6, 7, 8] (fun sm gr i wr => ∃ k : Nat, k ≤ 23 ∧ i = .int .i64 k ∧ sm = .int .i32 (acc r k).1 ∧ gr = .int .i32 (acc r k).2 ∧ Below W.heap.size W wr) (fun _ _ i _ => 23 - (RowKit.intOf i).toNat)
 case atStart => exact ⟨0, by omega, rfl, rfl, rfl, Below.refl _ _⟩
 case round =>
  obtain ⟨k, hk, rfl, rfl, rfl, hbel⟩ := hrel
  have d0 : wr.cell? ⟨B, o, none⟩ = some (.slice (some ⟨BP, oP, none⟩) 23 cP) := by rw [hbel.cell HB.out]; exact C0.out
  have HBL := Lib.hid hbel; clear hbel c0
  by_cases hlt : k < 23
  ·have hall := List.all_eq_true.1 lines_okLn k (List.mem_range.2 hlt)
   simp only [Bool.and_eq_true, decide_eq_true_iff, okLn] at hall
   obtain ⟨⟨⟨⟨⟨⟨⟨⟨⟨⟨⟨q1, q2⟩, q3⟩, q4⟩, q5⟩, q6⟩, q7⟩, q8⟩, e0⟩, e1⟩, e2⟩, e3⟩ := hall
   have f0 := HP.out (4 * k) (by omega); have f1 := HP.out (4 * k + 1) (by omega); have f2 := HP.out (4 * k + 2) (by omega); have f3 := HP.out (4 * k + 3) (by omega)
   rw [e0] at f0; rw [e1] at f1; rw [e2] at f2; rw [e3] at f3
   rw [Nat.mul_comm 4 k] at f0 f1 f2 f3
   have g0 : wr.cell? ⟨BP, oP + k * 4, none⟩ = some (.int .i32 (ln k).1) := by rw [HBL.out.cell HBP.out]; exact f0
   have g1 : wr.cell? ⟨BP, oP + k * 4 + 1, none⟩ = some (.int .i32 (ln k).2.1) := by rw [HBL.out.cell HBP.out]; exact f1
   have g2 : wr.cell? ⟨BP, oP + k * 4 + 2, none⟩ = some (.int .i32 (ln k).2.2.1) := by rw [HBL.out.cell HBP.out]; exact f2
   have g3 : wr.cell? ⟨BP, oP + k * 4 + 3, none⟩ = some (.int .i32 (ln k).2.2.2) := by rw [HBL.out.cell HBP.out]; exact f3
   have HA := Lib.hid (acc_succ r hlt)
   clear e0 e1 e2 e3 f0 f1 f2 f3
   obtain ⟨p, hp⟩ : ∃ p, ln k = p := ⟨_, rfl⟩
   rw [hp] at q1 q2 q3 q4 q5 q6 q7 q8 g0 g1 g2 g3 HA
   clear hp
   obtain ⟨a, b, d, s⟩ := p
   dsimp only at q1 q2 q3 q4 q5 q6 q7 q8 g0 g1 g2 g3
   obtain ⟨sg, hsg⟩ : ∃ sg, acc r k = sg := ⟨_, rfl⟩
   rw [hsg] at HA
   rw [hsg]
   clear hsg
   obtain ⟨sm, gr⟩ := sg
   dsimp only
   have hs : s ≠ 0 := by omega
   obtain ⟨x1, hx1⟩ : ∃ x, wrap32 (r - a) = x := ⟨_, rfl⟩
   obtain ⟨y1, hy1⟩ : ∃ y, Int.tmod x1 s = y := ⟨_, rfl⟩
   have w1 : wrap32 (a + d) = a + d := by unfold wrap32; omega
   have w2 : wrap32 (b + d) = b + d := by unfold wrap32; omega
   obtain ⟨x2, hx2⟩ : ∃ x, wrap32 (x1 - d) = x := ⟨_, rfl⟩
   obtain ⟨y2, hy2⟩ : ∃ y, Int.tmod x2 s = y := ⟨_, rfl⟩
   obtain ⟨t1, ht1⟩ : ∃ t, decide (a ≤ r) = t := ⟨_, rfl⟩
   obtain ⟨t2, ht2⟩ : ∃ t, decide (r ≤ b) = t := ⟨_, rfl⟩
   obtain ⟨t3, ht3⟩ : ∃ t, decide (y1 = 0) = t := ⟨_, rfl⟩
   obtain ⟨t4, ht4⟩ : ∃ t, decide (a + d ≤ r) = t := ⟨_, rfl⟩
   obtain ⟨t5, ht5⟩ : ∃ t, decide (r ≤ b + d) = t := ⟨_, rfl⟩
   obtain ⟨t6, ht6⟩ : ∃ t, decide (y2 = 0) = t := ⟨_, rfl⟩
   obtain ⟨s1, s2⟩ := step_eq (sm := sm) (gr := gr) HR.out ⟨q1, q2, q3, q4, q5, q6, q7, q8⟩ hx1 hy1 hx2 hy2
   rw [ht1, ht2, ht3] at s1
   rw [ht4, ht5, ht6] at s2
   have S1 := Lib.hid s1; have S2 := Lib.hid s2
   clear s1 s2
   clear q1 q2 q3 q4 q5 q6 q7 q8
   have T1 : t1 = false ∨ (t1 = true ∧ t2 = false) ∨ (t1 = true ∧ t2 = true ∧ t3 = false) ∨ (t1 = true ∧ t2 = true ∧ t3 = true) := by cases t1 <;> cases t2 <;> cases t3 <;> simp
   have T2 : t4 = false ∨ (t4 = true ∧ t5 = false) ∨ (t4 = true ∧ t5 = true ∧ t6 = false) ∨ (t4 = true ∧ t5 = true ∧ t6 = true) := by cases t4 <;> cases t5 <;> cases t6 <;> simp
   rcases T1 with rfl | ⟨rfl, rfl⟩ | ⟨rfl, rfl, rfl⟩ | ⟨rfl, rfl, rfl⟩ <;> rcases T2 with rfl | ⟨rfl, rfl⟩ | ⟨rfl, rfl, rfl⟩ | ⟨rfl, rfl, rfl⟩
   all_goals
    try have n3 := of_decide_eq_false ht3
    try have n6 := of_decide_eq_false ht6
    try have m3 := of_decide_eq_true ht3
    try have m6 := of_decide_eq_true ht6
    go_wp2
    refine ⟨⟨k + 1, hlt, by go_num, ?_, ?_, HBL.out.alloc HBL.out.size _⟩, by simp [RowKit.intOf]; omega⟩
    ·rw [HA.out, S1.out]; rfl
    ·rw [HA.out, S2.out]; rfl
  ·obtain rfl : k = 23 := by omega
   go_wp2
   go_ret2
   exact ⟨rfl, HBL.out⟩
end
section
open Go.Shelf Go.RowKit Go.Lib Go.Proofs.YtnfghboholehdaaGreatDoor.Am
theorem bookAt_below {w w' : World} {v : Value} (h : BookAt w v) (hb : Below w.heap.size w w') : BookAt w' v := by
 obtain ⟨B, o, BP, oP, cP, BS, oS, cS, rfl, c0, c1, l1, l2, hP, hS⟩ := h
 have hB := cell_lt c0
 have hBP := cell_lt (hP 0 (by omega))
 have hBS := cell_lt (hS 0 (by omega)).1
 refine ⟨B, o, BP, oP, cP, BS, oS, cS, rfl, by rw [hb.cell hB]; exact c0, by rw [hb.cell hB]; exact c1, l1, l2, fun i hi => by rw [hb.cell hBP]; exact hP i hi, fun j hj => ⟨by rw [hb.cell hBS]; exact (hS j hj).1, ?_⟩⟩
 obtain ⟨p, n, c, h⟩ := (hS j hj).2
 exact ⟨p, n, c, by rw [hb.cell hBS]; exact h⟩
theorem docCased_eq (r x y : Int) (hx : (Cases.docPair r).1 = x) (hy : (Cases.docPair r).2 = y) : Cases.docCased r = (decide (x ≠ r) || decide (y ≠ r) || Cases.specials.contains r) := by
 unfold Cases.docCased
 rw [hx, hy]
set_option maxRecDepth 100000 in
theorem neq_nil (p : Option Addr) (n c : Nat) (w : World) : (binOp .neq 65 (.slice p n c) (.slice none 0 0)).run Tryz.prog w = .ok (.bool p.isSome) w := by cases p <;> rfl
def BCasedPost (r : Int) (W : World) (e : Ending) (w' : World) : Prop := e = .returned (.bool (Cases.docCased r)) ∧ Below W.heap.size W w'
set_option maxHeartbeats 8000000 in
set_option maxRecDepth 100000 in
theorem BCased_ok (r : Int) (hr : -2147483648 ≤ r ∧ r ≤ 2147483647) (v : Value) (W : World) (h : BookAt W v) : Calls Tryz.prog 43 #[v, .int .i32 r] W (BCasedPost r W) := by
 obtain ⟨B, o, rfl⟩ : ∃ B o, v = .pointer (some ⟨B, o, none⟩) := by obtain ⟨B, o, _, _, _, _, _, _, rfl, _⟩ := h; exact ⟨B, o, rfl⟩
 have H := Lib.hid h
 have P := Lib.hid (BPair_ok r hr _ W h)
 clear h hr
 obtain ⟨x, hx⟩ : ∃ x, (Cases.docPair r).1 = x := ⟨_, rfl⟩
 obtain ⟨y, hy⟩ : ∃ y, (Cases.docPair r).2 = y := ⟨_, rfl⟩
 have D := Lib.hid (docCased_eq r x y hx hy)
 have HX := Lib.hid hx; have HY := Lib.hid hy
 clear hx hy
 by_cases cx : x = r <;> by_cases cy : y = r <;> cases cs : Cases.specials.contains r
 all_goals
  have CX := Lib.hid cx; have CY := Lib.hid cy; have CS := Lib.hid cs; clear cs
  go_enter Tryz.func43, Tryz.ntmps43
  go_wp2_with (first
   | (go_at_call 48
      refine P.out.mono ?_
      rintro e w1 ⟨rfl, hb⟩
      rw [HX.out, HY.out]
      have HB := Lib.hid hb; clear hb)
   | (go_at_call 77
      refine (special_ok r _ _ (bookAt_below H.out HB.out)).mono ?_
      rintro e w2 ⟨⟨p, n, c, rfl, hp⟩, rfl⟩
      rw [CS.out] at hp
      have hz := fun w => neq_nil p n c w
      rw [hp] at hz))
  all_goals go_ret
  all_goals exact ⟨by rw [D.out, CS.out]; simp [CX.out, CY.out], HB.out⟩
end
section
open Go.Shelf Go.RowKit Go.Lib Go.Proofs.YtnfghboholehdaaGreatDoor.Am
theorem spec_forms_all : ((List.range 17).all fun k => decide (formsOf (Cases.specials.getD k 0) = some ((formsT.map (·.2)).getD k []))) = true := by decide +kernel
theorem spec_forms {k : Nat} (hk : k < 17) : formsOf (Cases.specials.getD k 0) = some ((formsT.map (·.2)).getD k []) := of_decide_eq_true (List.all_eq_true.1 spec_forms_all k (List.mem_range.2 hk))
theorem spec_out (r : Int) (h : ∀ j, j < 17 → Cases.specials.getD j 0 ≠ r) : formsOf r = none := by
 have h1 := spec_none r h
 rw [← formsOf_iff] at h1
 cases hf : formsOf r with
 | none => rfl
 | some fs => rw [hf] at h1; cases h1
theorem bookP_below {w w' : World} {v : Value} (h : BookP w v) (hb : Below w.heap.size w w') : BookP w' v := by
 obtain ⟨h1, B, o, BS, oS, cS, rfl, c1, hS⟩ := h
 refine ⟨bookAt_below h1 hb, B, o, BS, oS, cS, rfl, by rw [hb.cell (cell_lt c1)]; exact c1, fun j hj => ?_⟩
 obtain ⟨u, h2, h3⟩ := hS j hj
 exact ⟨u, by rw [hb.cell (cell_lt h2)]; exact h2, fourIs_below h3 hb⟩
def Spec2Post (r : Int) (w : World) (e : Ending) (w' : World) : Prop := (∃ p n c, e = .returned (.slice p n c) ∧ p.isSome = (formsOf r).isSome ∧ ∀ fs, formsOf r = some fs → FourIs w (.slice p n c) fs) ∧ w' = w
set_option maxHeartbeats 800000 in
set_option maxRecDepth 100000 in
theorem special2_ok (r : Int) (v : Value) (w : World) (h : BookP w v) : Calls Tryz.prog 77 #[v, .int .i32 r] w (Spec2Post r w) := by
 obtain ⟨⟨B, o, BP, oP, cP, BS, oS, cS, rfl, c0, c1, l1, l2, hP, hS⟩, B', o', BS', oS', cS', hv, c1', hF⟩ := h
 injection hv with hv; injection hv with hv; injection hv with hv1 hv2
 subst hv1 hv2
 rw [c1] at c1'
 injection c1' with c1'; injection c1' with e1 e2 e3; injection e1 with e1; injection e1 with e4 e5
 subst e4 e5
 have HS := Lib.hid hS; have HF := Lib.hid hF; clear hS hP c0 hF e2 e3
 go_enter Tryz.func77, Tryz.ntmps77
 go_wp2
 go_loop [5] (fun i => ∃ k : Nat, k ≤ 17 ∧ i = .int .i64 k ∧ ∀ j, j < k → Cases.specials.getD j 0 ≠ r) (fun i => 17 - (RowKit.intOf i).toNat)
 case atStart => exact ⟨0, by omega, rfl, fun j hj => by omega⟩
 case round =>
  obtain ⟨k, hk, rfl, hlo⟩ := hrel
  have HLO := Lib.hid hlo; clear hlo
  by_cases hlt : k < 17
  ·obtain ⟨d1, p, n, c, d2⟩ := HS.out k hlt
   obtain ⟨u, d3, h4⟩ := HF.out k hlt
   rw [show oS + (2 * k + 1) = oS + 2 * k + 1 by omega, d2] at d3
   injection d3 with d3
   have H4 := Lib.hid h4
   clear h4
   rw [← d3] at H4
   clear d3
   rw [Nat.mul_comm 2 k] at d1 d2
   by_cases he : Cases.specials.getD k 0 = r
   ·have HE := Lib.hid he
    rw [he] at d1
    clear he
    go_wp2
    go_ret
    have hf : formsOf r = some ((formsT.map (·.2)).getD k []) := by rw [← HE.out]; exact spec_forms hlt
    exact ⟨⟨_, _, _, rfl, by rw [hf]; rfl, fun fs hfs => by rw [hf] at hfs; injection hfs with hfs; rw [← hfs]; exact H4.out⟩, rfl⟩
   ·obtain ⟨x, hx⟩ : ∃ x, Cases.specials.getD k 0 = x := ⟨_, rfl⟩
    have HE := Lib.hid he
    rw [hx] at d1 he
    clear hx
    have hd : decide (x = r) = false := decide_eq_false he
    go_wp2
    go_round
    case rel => exact ⟨k + 1, hlt, by go_num, fun j hj => by
     rcases Nat.lt_or_ge j k with c | c
     ·exact HLO.out j c
     ·obtain rfl : j = k := by omega
      exact HE.out⟩
    case measure => simp [RowKit.intOf]; omega
  ·obtain rfl : k = 17 := by omega
   go_wp2
   go_ret
   have hf := spec_out r HLO.out
   exact ⟨⟨_, _, _, rfl, by rw [hf]; rfl, fun fs hfs => by rw [hf] at hfs; cases hfs⟩, rfl⟩
set_option maxHeartbeats 4000000 in
set_option maxRecDepth 100000 in
theorem form2_ok (r : Int) (hr : -2147483648 ≤ r ∧ r ≤ 2147483647) (k : Nat) (hk : k < 4) (v : Value) (W : World) (h : BookP W v) : Calls Tryz.prog 45 #[v, .int .i32 r, .int .i64 k] W (FormPost (formV r k) W) := by
 obtain ⟨B, o, rfl⟩ : ∃ B o, v = .pointer (some ⟨B, o, none⟩) := by obtain ⟨_, B, o, _, _, _, rfl, _⟩ := h; exact ⟨B, o, rfl⟩
 have HSP := Lib.hid (special2_ok r _ W h)
 have HP := Lib.hid (BPair_ok r hr _ W h.1)
 clear h
 cases hf : formsOf r with
 | some fs =>
   have HV := Lib.hid (show formV r k = fs.getD k [] by unfold formV; rw [hf])
   have HF := Lib.hid hf; clear hf
   go_enter Tryz.func45, Tryz.ntmps45
   go_wp2_with (go_at_call 77
                refine HSP.out.mono ?_
                rintro e w2 ⟨⟨p, n, c, rfl, hp, h4⟩, rfl⟩
                rw [HF.out] at hp
                have hz := fun w => neq_nil p n c w
                rw [hp] at hz
                obtain ⟨g, o4, c4, h41, h42, h43⟩ := h4 _ HF.out
                injection h41 with e1 e2 e3
                subst e1 e2 e3
                obtain ⟨s4, c4', hs4⟩ := h43 k hk
                have HS4 := Lib.hid hs4
                clear hs4 h43 hp)
   go_ret
   exact ⟨_, rfl, by rw [HV.out]; exact HS4.out, Below.refl _ _⟩
 | none =>
   have HV := Lib.hid (show formV r k = if k = 0 ∨ k = 3 then [(Cases.docPair r).1] else [(Cases.docPair r).2] by unfold formV; rw [hf, Cases.pair_doc])
   have HF := Lib.hid hf; clear hf
   obtain ⟨x, hx⟩ : ∃ x, (Cases.docPair r).1 = x := ⟨_, rfl⟩
   obtain ⟨y, hy⟩ : ∃ y, (Cases.docPair r).2 = y := ⟨_, rfl⟩
   have HX := Lib.hid hx; have HY := Lib.hid hy; clear hx hy
   rw [HX.out, HY.out] at HV
   rw [HV.out]
   obtain rfl | rfl | rfl | rfl : k = 0 ∨ k = 1 ∨ k = 2 ∨ k = 3 := by omega
   all_goals
    go_enter Tryz.func45, Tryz.ntmps45
    go_wp2_with (first
     | (go_at_call 77
        refine HSP.out.mono ?_
        rintro e w2 ⟨⟨p, n, c, rfl, hp, h4⟩, rfl⟩
        rw [HF.out] at hp
        have hz := fun w => neq_nil p n c w
        rw [hp] at hz
        clear h4 hp)
     | (go_at_call 48
        refine HP.out.mono ?_
        rintro e w3 ⟨rfl, hb⟩
        rw [HX.out, HY.out]
        have HB := Lib.hid hb; clear hb))
    go_ret
    exact ⟨_, rfl, slice_one _ _ _ rfl, HB.out.alloc HB.out.size _⟩
end
section
open Go.Shelf Go.RowKit Go.Lib Go.Proofs.YtnfghboholehdaaGreatDoor.Am
open Folds (dec dec_pos dec_le)
/-- what stands in the place of a mark -/
def txtM (k : Nat) (t : List UInt8) (m : Mk) : List UInt8 := if m.2.2.2 = true then (t.drop m.1).take m.2.1 else encL (formV m.2.2.1 k)
theorem flat_mk4 (k : Nat) (t : List UInt8) : ∀ n e, (mk4 t n e).flatMap (txtM k t) = Folds.out (fun r => encL (formV r k)) n (t.drop e)
 | 0, _ => rfl
 | n + 1, e => by
   show (if e < t.length then _ else _ : List Mk).flatMap _ = (if t.drop e = [] then _ else _)
   by_cases c : e < t.length
   ·have hne : t.drop e ≠ [] := by intro d; rw [List.drop_eq_nil_iff] at d; omega
    rw [if_pos c, if_neg hne, List.drop_drop, List.flatMap_cons, flat_mk4 k t n]
    congr 1
    unfold txtM Folds.one
    dsimp only
    by_cases h : (dec (t.drop e)).1 = 65533 ∧ (dec (t.drop e)).2 = 1
    ·rw [if_pos h, if_pos (by rw [h.1, h.2]; rfl), h.2]
    ·rw [if_neg h, if_neg (by
      intro hb
      rw [Bool.and_eq_true, beq_iff_eq, beq_iff_eq] at hb
      exact h ⟨by omega, by omega⟩)]
   ·rw [if_neg c, if_pos (by rw [List.drop_eq_nil_iff]; omega)]
    rfl
theorem wr_mk4 (k : Nat) (t : List UInt8) : (mk4s t).flatMap (txtM k t) = wr k t := by
 unfold mk4s wr Folds.wrt
 rw [flat_mk4, List.drop_zero]
theorem mk4_mem (t : List UInt8) : ∀ n e, ∀ m ∈ mk4 t n e, m.1 + m.2.1 ≤ t.length ∧ 1 ≤ m.2.1 ∧ isR (m.2.2.1 : Int) = true
 | 0, _, m, h => by cases h
 | n + 1, e, m, h => by
   unfold mk4 at h
   by_cases c : e < t.length
   ·rw [if_pos c] at h
    rcases List.mem_cons.1 h with rfl | h
    ·have hne : t.drop e ≠ [] := by intro d; rw [List.drop_eq_nil_iff] at d; omega
     have := dec_le (t.drop e) hne
     rw [List.length_drop] at this
     exact ⟨by dsimp only; omega, dec_pos _, dec_isR _⟩
    ·exact mk4_mem t n _ m h
   ·rw [if_neg c] at h; cases h
theorem txtM_len (k : Nat) (t : List UInt8) (m : Mk) (h : m.2.1 ≤ 4) : (txtM k t m).length ≤ 12 := by
 unfold txtM
 split
 ·rw [List.length_take]; omega
 ·exact Nat.le_trans (encL_len _) (by have := formV_len m.2.2.1 k; omega)
theorem mk4_wid (t : List UInt8) : ∀ n e, ∀ m ∈ mk4 t n e, m.2.1 ≤ 4
 | 0, _, m, h => by cases h
 | n + 1, e, m, h => by
   unfold mk4 at h
   by_cases c : e < t.length
   ·rw [if_pos c] at h
    rcases List.mem_cons.1 h with rfl | h
    ·exact Folds.dec_le4 _
    ·exact mk4_wid t n _ m h
   ·rw [if_neg c] at h; cases h
/-- of each byte the place of its rune -/
def atM (k : Nat) (t : List UInt8) (m : Mk) : List Int := List.replicate (txtM k t m).length (m.1 : Int)
def mk0 : Mk := (0, 0, 0, false)
theorem take_mk (l : List Mk) {i : Nat} (h : i < l.length) : l.take (i + 1) = l.take i ++ [l.getD i mk0] := by
 rw [List.take_add_one, List.getD_eq_getElem?_getD, List.getElem?_eq_getElem h]
 rfl
theorem marksW_get : ∀ (l : List Mk) (k : Nat), k < l.length → (marksW l)[k * 4]? = some (.int .i64 (l.getD k mk0).1) ∧ (marksW l)[k * 4 + 1]? = some (.int .i64 (l.getD k mk0).2.1) ∧ (marksW l)[k * 4 + 2]? = some (.int .i32 (l.getD k mk0).2.2.1) ∧ (marksW l)[k * 4 + 3]? = some (.bool (l.getD k mk0).2.2.2)
 | [], k, h => absurd h (Nat.not_lt_zero _)
 | a :: l, 0, _ => ⟨rfl, rfl, rfl, rfl⟩
 | a :: l, k + 1, h => by
   have := marksW_get l k (Nat.lt_of_succ_lt_succ h)
   rw [show (k + 1) * 4 = k * 4 + 1 + 1 + 1 + 1 by omega]
   exact this
structure BWL (W w1 : World) (v : Value) (ats : List Int) (w : World) : Prop where
 bel : Below w1.heap.size w1 w
 own : w.ownsRow w1.heap.size 3 1 v ats.length (intsW ats)
theorem BWL.below {W w1 w w' : World} {v : Value} {ats : List Int} (h : BWL W w1 v ats w) (hb : Below w.heap.size w w') : BWL W w1 v ats w' := ⟨h.bel.trans (hb.mono h.bel.size), own_below hb h.own⟩
theorem BWL.grown {W w1 w w' : World} {v v' : Value} {ats : List Int} {x : Int} {m : Nat} {o : Obj} (h : BWL W w1 v ats w) (hm : ats.length = m) (ho : w'.ownsRow w1.heap.size 3 1 v' (m + 1) (intsW ats ++ [.int .i64 x])) (hg : (w.alloc o).grownBy w' v.ownBlock) : BWL W w1 v' (ats ++ [x]) w' := by
 have hb : Below w1.heap.size w1 (w.alloc o) := h.bel.alloc h.bel.size o
 refine ⟨hb.grown hg hb.size (fun k hk => (own_lt (own_alloc (o := o) h.own) hk).1), ?_⟩
 rw [intsW_app, List.length_append, hm]
 exact ho
def BWritePost (k : Nat) (t : List UInt8) (W : World) (e : Ending) (w' : World) : Prop := ∃ v, e = .returned (.tuple #[.string ⟨(wr k t).toArray⟩, v]) ∧ w'.ownsRow W.heap.size 3 1 v ((mk4s t).flatMap (atM k t)).length (intsW ((mk4s t).flatMap (atM k t))) ∧ Below W.heap.size W w'
theorem ba_app (a b : List UInt8) : (⟨a.toArray⟩ : ByteArray) ++ ⟨b.toArray⟩ = ⟨(a ++ b).toArray⟩ := by
 apply ByteArray.ext
 simp
theorem at_len (k : Nat) (t : List UInt8) (M : List Mk) (h : ∀ m ∈ M, m.2.1 ≤ 4) : ∀ i, ((M.take i).flatMap (atM k t)).length ≤ 12 * i
 | 0 => by simp
 | i + 1 => by
   rcases Nat.lt_or_ge i M.length with c | c
   ·rw [take_mk M c, List.flatMap_append, List.length_append, List.flatMap_singleton]
    have h1 := at_len k t M h i
    have h2 : (atM k t (M.getD i mk0)).length ≤ 12 := by
     unfold atM
     rw [List.length_replicate]
     refine txtM_len k t _ (h _ ?_)
     rw [List.getD_eq_getElem?_getD, List.getElem?_eq_getElem c]
     exact List.getElem_mem _
    omega
   ·rw [List.take_of_length_le (by omega)]
    have h1 := at_len k t M h i
    rw [List.take_of_length_le c] at h1
    omega
theorem ol_len (k : Nat) (t : List UInt8) (M : List Mk) : (M.flatMap (txtM k t)).length = (M.flatMap (atM k t)).length := by
 simp [List.length_flatMap, atM]
set_option maxRecDepth 100000 in
set_option maxHeartbeats 4000000 in
theorem BWrite_ok (t : List UInt8) (k : Nat) (hk : k < 4) (hk0 : k ≠ 0) (v : Value) (W : World) (h : BookP W v) (hn : t.length ≤ 10000) : Calls Tryz.prog 16 #[v, .string ⟨t.toArray⟩, .int .i64 k] W (BWritePost k t W) := by
 obtain ⟨B, o, rfl⟩ : ∃ B o, v = .pointer (some ⟨B, o, none⟩) := by obtain ⟨_, B, o, _, _, _, rfl, _⟩ := h; exact ⟨B, o, rfl⟩
 have HMK := Lib.hid (Marks_ok t W (by omega))
 obtain ⟨s, hs⟩ : ∃ s : ByteArray, (⟨t.toArray⟩ : ByteArray) = s := ⟨_, rfl⟩
 have hss : s.size = t.length := size_mk t s hs
 rw [hs] at HMK ⊢
 have HS := Lib.hid hs; have HSS := Lib.hid hss; have HB := Lib.hid h; have HK := Lib.hid hk; have HN := Lib.hid hn
 have hkz : ((k : Int) == 0) = false := by rw [beq_eq_false_iff_ne]; omega
 obtain ⟨M, hM⟩ : ∃ M, mk4s t = M := ⟨_, rfl⟩
 have HML := Lib.hid (show M.length ≤ 10000 by rw [← hM]; exact Nat.le_trans (mk4_len t t.length 0) hn)
 have HMM := Lib.hid (show ∀ m ∈ M, m.1 + m.2.1 ≤ t.length ∧ 1 ≤ m.2.1 ∧ isR (m.2.2.1 : Int) = true by rw [← hM]; exact mk4_mem t t.length 0)
 have HMW := Lib.hid (show ∀ m ∈ M, m.2.1 ≤ 4 by rw [← hM]; exact mk4_wid t t.length 0)
 have HWR := Lib.hid (show M.flatMap (txtM k t) = wr k t by rw [← hM]; exact wr_mk4 k t)
 have HMQ := Lib.hid hM
 clear hs hss h hk hn hM hk0
 obtain ⟨i0, hI0, hz0, hz1, hz2⟩ := info_parts int_info
 go_enter Tryz.func16, Tryz.ntmps16
 go_wp2_with (go_at_call 41; refine HMK.out.mono ?_; rintro e w1 ⟨vm, rfl, hown, hb⟩; rw [HMQ.out] at hown; obtain ⟨Am, cm, rfl, _⟩ := own_slice3 hown; have HOM := Lib.hid hown; have HB1 := Lib.hid hb; clear hown hb)
 obtain ⟨N, hN⟩ : ∃ N, M.length = N := ⟨_, rfl⟩
 rw [hN] at HOM HML ⊢
 have HNN := Lib.hid hN; clear hN
 go_loopw [9, 10, 11] (fun vo va vi wr => ∃ (i m c : Nat) (A : Option Addr), i ≤ N ∧ vi = .int .i64 i ∧ vo = .string ⟨((M.take i).flatMap (txtM k t)).toArray⟩ ∧ va = .slice A m c ∧ m = ((M.take i).flatMap (atM k t)).length ∧ BWL W w1 (.slice A m c) ((M.take i).flatMap (atM k t)) wr) (fun _ _ vi _ => N - (RowKit.intOf vi).toNat)
 case atStart => exact ⟨0, 0, 0, none, Nat.zero_le _, rfl, rfl, rfl, rfl, Below.refl _ _, ⟨rfl, .inl ⟨rfl, rfl⟩⟩⟩
 case round =>
  obtain ⟨i, m, c, A, hi, rfl, rfl, rfl, hm, hbw⟩ := hrel
  have HW := Lib.hid hbw; have HM := Lib.hid hm; clear hbw hm
  by_cases hlt : i < N
  ·obtain ⟨g, rfl⟩ := own_some HOM.out (by omega)
   have hg1 := (own_lt HOM.out (g := g) rfl).2.1
   have hc := World.ownsRow.cells (g := g) HOM.out rfl
   have hget := marksW_get M i (by rw [HNN.out]; exact hlt)
   obtain ⟨x, hx⟩ : ∃ x, M.getD i mk0 = x := ⟨_, rfl⟩
   rw [hx] at hget
   have hxm : x ∈ M := by
    rw [← hx, List.getD_eq_getElem?_getD, List.getElem?_eq_getElem (by rw [HNN.out]; exact hlt)]
    exact List.getElem_mem _
   have HX1 := HMM.out x hxm
   have HX2 := HMW.out x hxm
   have HTK := Lib.hid (take_mk M (i := i) (by rw [HNN.out]; exact hlt))
   rw [hx] at HTK
   obtain ⟨g0, g1, g2, g3⟩ := hget
   have c0 := hc _ _ g0; have c1 := hc _ _ g1; have c2 := hc _ _ g2; have c3 := hc _ _ g3
   rw [add_none, Nat.zero_add] at c0 c1 c2 c3
   clear hc g0 g1 g2 g3 hx hxm
   have key : ∀ w, Below w1.heap.size w1 w → w.cell? ⟨g, i * 4, none⟩ = some (.int .i64 x.1) ∧ w.cell? ⟨g, i * 4 + 1, none⟩ = some (.int .i64 x.2.1) ∧ w.cell? ⟨g, i * 4 + 2, none⟩ = some (.int .i32 x.2.2.1) ∧ w.cell? ⟨g, i * 4 + 3, none⟩ = some (.bool x.2.2.2) := fun w hb => ⟨by rw [hb.cell (p := ⟨g, i * 4, none⟩) hg1]; exact c0, by rw [hb.cell (p := ⟨g, i * 4 + 1, none⟩) hg1]; exact c1, by rw [hb.cell (p := ⟨g, i * 4 + 2, none⟩) hg1]; exact c2, by rw [hb.cell (p := ⟨g, i * 4 + 3, none⟩) hg1]; exact c3⟩
   have KC := Lib.hid key
   clear key c0 c1 c2 c3 hg1
   obtain ⟨a, wd, r, bd⟩ := x
   dsimp only at HX1 HX2 KC
   obtain ⟨hx1, hx2, hx3⟩ := HX1
   obtain ⟨d0, d1, d2, d3⟩ := KC.out wr HW.out.bel
   have ha0 : (0 : Int) ≤ a := Int.natCast_nonneg a
   have ha1 : (a : Int) ≤ (a : Int) + wd := by omega
   have ha2 : (a : Int) + wd ≤ s.size := by have := HSS.out; omega
   have hsl : ∀ W, (Instr.slice 9 (.string s) (some (.int .i64 (a : Int))) (some (.int .i64 (wrap64 ((a : Int) + (wd : Int))))) none).run Tryz.prog W = .ok (.string ⟨((t.drop a).take wd).toArray⟩) W := fun W => by
    rw [show wrap64 ((a : Int) + (wd : Int)) = (a : Int) + wd by have := HN.out; unfold wrap64; omega, run_slice_string _ _ _ _ _ _ _ Tryz.underlying9 ha0 ha1 ha2, Int.toNat_natCast, show ((a : Int) + (wd : Int)).toNat = a + wd by omega, ← HS.out, ByteArray.extract_mk, Nat.add_sub_cancel_left]
   have HX3 := Lib.hid hx3
   clear hx3
   obtain ⟨X, hX⟩ : ∃ X, txtM k t (a, wd, r, bd) = X := ⟨_, rfl⟩
   have hxl : X.length ≤ 12 := by rw [← hX]; exact txtM_len k t _ HX2
   have HAX := Lib.hid (show atM k t (a, wd, r, bd) = List.replicate X.length (a : Int) by unfold atM; rw [hX])
   obtain ⟨ol, hol⟩ : ∃ ol, (M.take i).flatMap (txtM k t) = ol := ⟨_, rfl⟩
   obtain ⟨al, hal⟩ : ∃ al, (M.take i).flatMap (atM k t) = al := ⟨_, rfl⟩
   have HOL := Lib.hid (show (M.take (i + 1)).flatMap (txtM k t) = ol ++ X by rw [HTK.out, List.flatMap_append, hol, List.flatMap_singleton, hX])
   have HAL := Lib.hid (show (M.take (i + 1)).flatMap (atM k t) = al ++ List.replicate X.length (a : Int) by rw [HTK.out, List.flatMap_append, hal, List.flatMap_singleton, HAX.out])
   have hoal : ol.length = al.length := by rw [← hol, ← hal]; exact ol_len k t _
   have halen : al.length ≤ 12 * i := by
    rw [← hal]
    exact at_len k t M HMW.out i
   rw [hol]
   rw [hal] at HM HW
   clear hol hal
   obtain ⟨XB, hXB⟩ : ∃ XB : ByteArray, (⟨X.toArray⟩ : ByteArray) = XB := ⟨_, rfl⟩
   have hxs : XB.size = X.length := size_mk X XB hXB
   obtain ⟨XN, hXN⟩ : ∃ XN, X.length = XN := ⟨_, rfl⟩
   rw [hXN] at hxs hxl HAL
   have happ : (⟨ol.toArray⟩ : ByteArray) ++ XB = ⟨((M.take (i + 1)).flatMap (txtM k t)).toArray⟩ := by rw [HOL.out, ← hXB, ba_app]
   have HXS := Lib.hid hxs; have HAPP := Lib.hid happ
   have HIN := Lib.hid (show al.length + XN ≤ 1000000 by have := HML.out; omega)
   obtain ⟨i1, hi1⟩ : ∃ i1, i + 1 = i1 := ⟨_, rfl⟩
   have HI1 := Lib.hid hi1
   rw [hi1] at HAL HAPP
   have hov : ¬ 9223372036854775807 < ol.length + XB.size := by have := HIN.out; omega
   clear hxs happ hi1 halen hxl hXN hoal
   cases bd
   case true =>
    have hxx : (⟨((t.drop a).take wd).toArray⟩ : ByteArray) = XB := by rw [← hXB, ← hX]; unfold txtM; rw [if_pos rfl]
    have HXX := Lib.hid hxx
    rw [hxx] at hsl
    clear hxx hX hXB
    go_wp2_with fail
    go_quiet (fail)
    go_wp2_with fail
    rw [HAPP.out]
    have HWQ := Lib.hid (show BWL W w1 (.slice A m c) al (wr.drewN nq) from ⟨⟨HW.out.bel.os, HW.out.bel.tape, HW.out.bel.output, HW.out.bel.size, HW.out.bel.block⟩, HW.out.own⟩)
    clear d0 d1 d2 d3 hsl
    go_loopw [14, 10] (fun vn va wq => ∃ (j m' c' : Nat) (A' : Option Addr), j ≤ XN ∧ vn = .int .i64 j ∧ va = .slice A' m' c' ∧ (al ++ List.replicate j (a : Int)).length = m' ∧ BWL W w1 (.slice A' m' c') (al ++ List.replicate j (a : Int)) wq) (fun vn _ _ => XN - (RowKit.intOf vn).toNat)
    case atStart => exact ⟨0, m, c, A, Nat.zero_le _, rfl, rfl, by rw [List.replicate_zero, List.append_nil]; exact HM.out.symm, by rw [List.replicate_zero, List.append_nil]; exact HWQ.out⟩
    case round =>
     obtain ⟨j, m', c', A', hj, rfl, rfl, hjm, hjw⟩ := hrel
     have HJ := Lib.hid hjw; have HJM := Lib.hid hjm
     have HOJ := Lib.hid (show wr.ownsRow w1.heap.size 3 1 (.slice A' m' c') m' (intsW (al ++ List.replicate j (a : Int))) by have := hjw.own; rwa [hjm] at this)
     have HLJ := Lib.hid (show m' + 1 ≤ maxLen ∧ (m' + 1) * 8 ≤ 140737488355328 by rw [List.length_append, List.length_replicate] at hjm; have := HIN.out; exact ⟨by simp only [maxLen]; omega, by omega⟩)
     obtain ⟨d0, d1, d2, d3⟩ := KC.out wr hjw.bel
     clear hjw hjm
     have hxs := HXS.out
     by_cases hlt2 : j < XN
     ·go_wp2_with (at_builtin; refine wpList_app _ rfl (.tmp 72) (.tmp 78) 30 rfl w1.heap.size 3 i0 _ 8 Tryz.underlying30 hI0 hz0 hz1 hz2 rfl (.slice A' m' c') m' (intsW (al ++ List.replicate j (a : Int))) rfl (own_alloc HOJ.out) _ 1 1 [.int .i64 (a : Int)] rfl (src_one _ _ _) (by simp [Value.oneCell']) HLJ.out.1 HLJ.out.2 (by rw [World.size_alloc]; have := HJ.out.bel.size; omega) ?_; intro v' wp ho hg hn; obtain ⟨A2, d2, rfl, _⟩ := own_slice3 ho; have HJG := Lib.hid (HJ.out.grown HJM.out ho hg); clear ho hg hn)
      go_roundw
      case rel => exact ⟨j + 1, m' + 1, d2, A2, hlt2, by go_num, rfl, by rw [List.replicate_succ', ← List.append_assoc, List.length_append, HJM.out]; rfl, by rw [List.replicate_succ', ← List.append_assoc]; exact HJG.out⟩
      case measure => simp [RowKit.intOf]; omega
     ·obtain rfl : j = XN := by omega
      go_wp2_with fail
      rw [show wrap64 ((i : Int) + 1) = (i1 : Int) by have := HI1.out; have := HML.out; unfold wrap64; omega]
      have hi1 := HI1.out
      exact ⟨⟨i1, m', c', A', by omega, rfl, rfl, rfl, by rw [HAL.out]; exact HJM.out.symm, by rw [HAL.out]; exact HJ.out⟩, by simp [RowKit.intOf]; omega⟩
   case false =>
    have hxx : (⟨(encL (formV r k)).toArray⟩ : ByteArray) = XB := by rw [← hXB, ← hX]; unfold txtM; rw [if_neg Bool.false_ne_true]
    have HXX := Lib.hid hxx
    clear hxx hX hXB
    go_wp2_with fail
    go_quiet (fail)
    have HWQ := Lib.hid (show BWL W w1 (.slice A m c) al (wr.drewN nq) from ⟨⟨HW.out.bel.os, HW.out.bel.tape, HW.out.bel.output, HW.out.bel.size, HW.out.bel.block⟩, HW.out.own⟩)
    have hri := (isR_iff _).1 HX3.out
    have HRI := Lib.hid (show -2147483648 ≤ (r : Int) ∧ (r : Int) ≤ 2147483647 by omega)
    clear hri
    go_wp2_with (first
     | (go_at_call 45; refine (form2_ok r HRI.out k HK.out _ _ (bookP_below HB.out (HB1.out.trans (HWQ.out.bel.mono HB1.out.size)))).mono ?_; rintro e w5 ⟨sf, rfl, hsf, hb⟩; have HSF := Lib.hid hsf; have HW5 := Lib.hid (HWQ.out.below hb); clear hb hsf)
     | (go_at_call 44; refine (tText_ok (formV r k) _ _ HSF.out (Nat.le_trans (formV_len r k) (by decide)) (form_facts r HX3.out k HK.out).2.1).mono ?_; rintro e w6 ⟨rfl, hb⟩; rw [HXX.out]; have HW6 := Lib.hid (HW5.out.below hb); clear hb))
    rw [HAPP.out]
    clear d0 d1 d2 d3 hsl
    go_loopw [14, 10] (fun vn va wq => ∃ (j m' c' : Nat) (A' : Option Addr), j ≤ XN ∧ vn = .int .i64 j ∧ va = .slice A' m' c' ∧ (al ++ List.replicate j (a : Int)).length = m' ∧ BWL W w1 (.slice A' m' c') (al ++ List.replicate j (a : Int)) wq) (fun vn _ _ => XN - (RowKit.intOf vn).toNat)
    case atStart => exact ⟨0, m, c, A, Nat.zero_le _, rfl, rfl, by rw [List.replicate_zero, List.append_nil]; exact HM.out.symm, by rw [List.replicate_zero, List.append_nil]; exact HW6.out⟩
    case round =>
     obtain ⟨j, m', c', A', hj, rfl, rfl, hjm, hjw⟩ := hrel
     have HJ := Lib.hid hjw; have HJM := Lib.hid hjm
     have HOJ := Lib.hid (show wr.ownsRow w1.heap.size 3 1 (.slice A' m' c') m' (intsW (al ++ List.replicate j (a : Int))) by have := hjw.own; rwa [hjm] at this)
     have HLJ := Lib.hid (show m' + 1 ≤ maxLen ∧ (m' + 1) * 8 ≤ 140737488355328 by rw [List.length_append, List.length_replicate] at hjm; have := HIN.out; exact ⟨by simp only [maxLen]; omega, by omega⟩)
     obtain ⟨d0, d1, d2, d3⟩ := KC.out wr hjw.bel
     clear hjw hjm
     have hxs := HXS.out
     by_cases hlt2 : j < XN
     ·go_wp2_with (at_builtin; refine wpList_app _ rfl (.tmp 72) (.tmp 78) 30 rfl w1.heap.size 3 i0 _ 8 Tryz.underlying30 hI0 hz0 hz1 hz2 rfl (.slice A' m' c') m' (intsW (al ++ List.replicate j (a : Int))) rfl (own_alloc HOJ.out) _ 1 1 [.int .i64 (a : Int)] rfl (src_one _ _ _) (by simp [Value.oneCell']) HLJ.out.1 HLJ.out.2 (by rw [World.size_alloc]; have := HJ.out.bel.size; omega) ?_; intro v' wp ho hg hn; obtain ⟨A2, d2, rfl, _⟩ := own_slice3 ho; have HJG := Lib.hid (HJ.out.grown HJM.out ho hg); clear ho hg hn)
      go_roundw
      case rel => exact ⟨j + 1, m' + 1, d2, A2, hlt2, by go_num, rfl, by rw [List.replicate_succ', ← List.append_assoc, List.length_append, HJM.out]; rfl, by rw [List.replicate_succ', ← List.append_assoc]; exact HJG.out⟩
      case measure => simp [RowKit.intOf]; omega
     ·obtain rfl : j = XN := by omega
      go_wp2_with fail
      rw [show wrap64 ((i : Int) + 1) = (i1 : Int) by have := HI1.out; have := HML.out; unfold wrap64; omega]
      have hi1 := HI1.out
      exact ⟨⟨i1, m', c', A', by omega, rfl, rfl, rfl, by rw [HAL.out]; exact HJM.out.symm, by rw [HAL.out]; exact HJ.out⟩, by simp [RowKit.intOf]; omega⟩
  ·obtain rfl : i = N := by omega
   have htk : M.take i = M := List.take_of_length_le (by rw [HNN.out]; exact Nat.le_refl _)
   rw [htk] at HM HW
   rw [htk, HWR.out]
   clear htk
   go_wp2_with fail
   go_ret2
   refine ⟨_, rfl, ?_, HB1.out.trans (HW.out.bel.mono HB1.out.size)⟩
   rw [HMQ.out]
   have := HW.out.own
   exact own_base this (fun g hg => Nat.le_trans HB1.out.size (own_lt this hg).1)
end
end Go.Proofs.YtnfghboholehdaaGreatDoor.foldWrites
