/- The machine's soundness: append and copy, as the model runs them. -/
import Derived.Test.YtlmcadgbnolffaaGreatDoorAm21
namespace Go.Proofs.YtlmcadgbnolffaaGreatDoor.Am
section
variable {P : Program} {g : G} {ι : Nam} {h h' : H} {w : World} {D : Nat → Prop}
section
variable {t u ty e : TypeId} {i : TypeInfo} {z : Value} {du : TypeDesc} {base : Option Addr} {sLen sCap n : Nat} {vx : Value} {arr old : Array Value}
theorem run_append_in (ht : P.underlying t = some (.slice e)) (hu : P.underlying u = some du) (hdu : (∃ e', du = .slice e') ∨ du = .string) (hi : P.info? e = some i)
    (hlen : (Builtin.lenOf vx).run P w = .ok n w) (happ : (Builtin.firstCells i.size n vx).run P w = .ok arr w) (hc : sLen + n ≤ sCap)
    {w2 : World} (hst : ∀ a, base = some a → (storeCells (a.add (sLen * i.size)) arr.toList).run P w = .ok () w2) (hno : base = none → w2 = w) :
    (Builtin.append_ #[t, u] ty #[.slice base sLen sCap, vx]).run P w = .ok (.slice base (sLen + n) sCap) w2 := by
  cases base with
  | none =>
    rw [hno rfl]
    rcases hdu with ⟨e', rfl⟩ | rfl <;> simp [Builtin.append_, run_und ht, run_und hu, run_so hi, hlen, hc, happ]
  | some a =>
    have hs := hst a rfl
    rcases hdu with ⟨e', rfl⟩ | rfl <;> simp [Builtin.append_, run_und ht, run_und hu, run_so hi, hlen, hc, happ, hs]
theorem run_append_grow' (ht : P.underlying t = some (.slice e)) (hu : P.underlying u = some du) (hdu : (∃ e', du = .slice e') ∨ du = .string) (hi : P.info? e = some i) (hz : i.zero = some z)
    (hlen : (Builtin.lenOf vx).run P w = .ok n w) (happ : ∀ k, (Builtin.firstCells i.size n vx).run P (World.drawnTo w k) = .ok arr (World.drawnTo w k))
    (hold : ∀ k, (Builtin.firstCells i.size sLen (.slice base sLen sCap)).run P (World.drawnTo w k) = .ok old (World.drawnTo w k)) (hc : sCap < sLen + n)
    (h63 : sLen + n ≤ 9223372036854775807) (hfit : (sLen + n) * i.bytes ≤ 140737488355328) :
    ∃ c, sLen + n ≤ c ∧ (Builtin.append_ #[t, u] ty #[.slice base sLen sCap, vx]).run P w = .ok (.slice (some ⟨w.heap.size, 0, none⟩) (sLen + n) c)
      (World.grown w (w.drawn + 1) (.cells (old ++ arr ++ Builtin.zeroCells z.cells (c - (sLen + n))) e)) := by
  obtain ⟨c, hc1, hc2⟩ := run_cap (P := P) (sLen + n) sCap e w
  refine ⟨c, hc2, ?_⟩
  have hf := growslice_fits (bytes := i.bytes) hc hfit
  have n1 : ¬ (9223372036854775807 < ((sLen : Int) + (n : Int))) := by omega
  have n2 : ¬ (281474976710656 < Builtin.nextslicecap (sLen + n) sCap * i.bytes) := by omega
  have n3 : ¬ (sLen + n ≤ sCap) := by omega
  have ho := hold (w.drawn + 1)
  have ha := happ (w.drawn + 1)
  rcases hdu with ⟨e', rfl⟩ | rfl <;> simp [-run_choose, Builtin.append_, run_und ht, run_und hu, run_so hi, hlen, n1, n2, n3, run_ti hi, hc1, run_zv hi hz, ho, ha, newRow] <;> exact ⟨rfl, rfl⟩
theorem run_append_in0 {k0 : IntKind} {m : Int} (ht : P.underlying t = some (.slice e)) {ki : IntKind} (hu : P.underlying u = some (.int ki)) (hi : P.info? e = some i) (hz : i.zero = some z)
    (hm : m = (n : Int)) (hfit : n * i.bytes ≤ 140737488355328) (hn : n ≤ 4000000) (hc : sLen + n ≤ sCap) (harr : (if n * i.size = 0 then (#[] : Array Value) else Builtin.zeroCells z.cells n) = arr)
    {w2 : World} (hst : ∀ a, base = some a → (storeCells (a.add (sLen * i.size)) arr.toList).run P w = .ok () w2) (hno : base = none → w2 = w) :
    (Builtin.append_ #[t, u] ty #[.slice base sLen sCap, .int k0 m]).run P w = .ok (.slice base (sLen + n) sCap) w2 := by
  subst hm
  have hw : IntKind.i64.wrap (n : Int) = n := by rw [IntKind.wrap_i64]; omega
  have n1 : ¬ ((n : Int) < 0) := by omega
  have n2 : ¬ (281474976710656 < (n : Int) * (i.bytes : Int)) := by
    have : (n : Int) * (i.bytes : Int) = ((n * i.bytes : Nat) : Int) := by simp
    omega
  cases base with
  | none =>
    rw [hno rfl]
    by_cases h0 : n * i.size = 0 <;> simp [Builtin.append_, run_und ht, run_und hu, run_so hi, run_ti hi, asInt, asIntOf, hw, n1, n2, hc, run_zv hi hz]
  | some a =>
    have hs := hst a rfl
    by_cases h0 : n * i.size = 0
    · rw [if_pos h0] at harr
      subst harr
      simp [Builtin.append_, run_und ht, run_und hu, run_so hi, run_ti hi, asInt, asIntOf, hw, n1, n2, hc, h0]
      rw [hs]; rfl
    · rw [if_neg h0] at harr
      subst harr
      simp [Builtin.append_, run_und ht, run_und hu, run_so hi, run_ti hi, asInt, asIntOf, hw, n1, n2, hc, h0, run_zv hi hz, hs]
theorem run_append_grow0 {k0 : IntKind} {m : Int} (ht : P.underlying t = some (.slice e)) {ki : IntKind} (hu : P.underlying u = some (.int ki)) (hi : P.info? e = some i) (hz : i.zero = some z)
    (hm : m = (n : Int)) (hn : n ≤ 4000000)
    (hold : ∀ k, (Builtin.firstCells i.size sLen (.slice base sLen sCap)).run P (World.drawnTo w k) = .ok old (World.drawnTo w k)) (hc : sCap < sLen + n)
    (h63 : sLen + n ≤ 9223372036854775807) (hfit : (sLen + n) * i.bytes ≤ 140737488355328) (harr : (if n * i.size = 0 then (#[] : Array Value) else Builtin.zeroCells z.cells n) = arr) :
    ∃ c, sLen + n ≤ c ∧ (Builtin.append_ #[t, u] ty #[.slice base sLen sCap, .int k0 m]).run P w = .ok (.slice (some ⟨w.heap.size, 0, none⟩) (sLen + n) c)
      (World.grown w (w.drawn + 1) (.cells (old ++ arr ++ Builtin.zeroCells z.cells (c - (sLen + n))) e)) := by
  subst hm
  obtain ⟨c, hc1, hc2⟩ := run_cap (P := P) (sLen + n) sCap e w
  refine ⟨c, hc2, ?_⟩
  have hf := growslice_fits (bytes := i.bytes) hc hfit
  have hw : IntKind.i64.wrap (n : Int) = n := by rw [IntKind.wrap_i64]; omega
  have m1 : ¬ ((n : Int) < 0) := by omega
  have m2 : ¬ (281474976710656 < (n : Int) * (i.bytes : Int)) := by
    have : (n : Int) * (i.bytes : Int) = ((n * i.bytes : Nat) : Int) := by simp
    have h2 : n * i.bytes ≤ (sLen + n) * i.bytes := Nat.mul_le_mul_right _ (by omega)
    omega
  have n1 : ¬ (9223372036854775807 < ((sLen : Int) + (n : Int))) := by omega
  have n2 : ¬ (281474976710656 < Builtin.nextslicecap (sLen + n) sCap * i.bytes) := by omega
  have n3 : ¬ (sLen + n ≤ sCap) := by omega
  have ho := hold (w.drawn + 1)
  by_cases h0 : n * i.size = 0
  · rw [if_pos h0] at harr
    subst harr
    simp [-run_choose, Builtin.append_, run_und ht, run_und hu, run_so hi, run_ti hi, asInt, asIntOf, hw, m1, m2, n1, n2, n3, hc1, h0, run_zv hi hz, ho, newRow] <;> exact ⟨rfl, rfl⟩
  · rw [if_neg h0] at harr
    subst harr
    simp [-run_choose, Builtin.append_, run_und ht, run_und hu, run_so hi, run_ti hi, asInt, asIntOf, hw, m1, m2, n1, n2, n3, hc1, h0, run_zv hi hz, ho, newRow] <;> exact ⟨rfl, rfl⟩
end
end
end Go.Proofs.YtlmcadgbnolffaaGreatDoor.Am
