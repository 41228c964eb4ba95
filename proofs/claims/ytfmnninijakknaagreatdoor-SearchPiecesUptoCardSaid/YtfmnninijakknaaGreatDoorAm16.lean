/- The machine's soundness: slices of strings and arrays, new slices. -/
import Derived.Test.YtfmnninijakknaaGreatDoorAm15
namespace Go.Proofs.YtfmnninijakknaaGreatDoor.Am
section
variable {P : Program} {g : G} {ι : Nam} {h h' : H} {w : World} {D : Nat → Prop}
section
variable {n : Nat} {en : Env} {a : Go.Act}
theorem sliceStr_ok (hE : EnvR ι n en a.tmps) (hG : GI ι) (hg : GOk P g) (k : WR ι h w D) {t : TypeId} {y : Ty} (ht : g.ty t = some y) (hd : y.desc = .string) {x : Operand} {lo hi : Option Operand} {v : AV}
    (hx : opndOk n x = true) (hlo : (match lo with | some o => opndOk n o | none => true) = true) (hhi : (match hi with | some o => opndOk n o | none => true) = true)
    (e : (sliceStr (ev x) lo hi).f en h = .ok v h') : SimV P ι h w (Instr.sliceAt t (a.eval x) (lo.map a.eval) (hi.map a.eval) none) v h' := by
  have hv := ev_ok hE hG x hx
  unfold sliceStr at e
  dsimp only at e
  generalize hxe : (ev x).f en = xa at e hv
  generalize hxv : a.eval x = xv at hv
  have hund := run_und (hg.ty _ _ ht).1
  rw [hd] at hund
  split at e
  · rename_i s
    obtain ⟨u, e2, hu⟩ := optN_inv hE hG hhi e; clear e
    obtain ⟨l, e3, hl⟩ := optN_inv hE hG hlo e2; clear e2
    obtain ⟨b, rfl, hs⟩ := hv
    subst hs
    split at e3
    · rename_i h1 h2
      cases e3
      rw [Nat.ble_eq] at h1 h2
      rw [Str.of_len] at h2
      rw [Str.of_len] at hu
      have hrb := run_bounds (P := P) (ρ := a.eval) (isS := false) (mx := none) (m := b.size) (.inl ⟨rfl, rfl⟩) hu hl (by simp) h1 h2 (Nat.le_refl _) w
      refine SimV.ret k (v' := .string (b.extract l u)) ?_ ⟨_, rfl, Str.sub_ok b l u h1 h2⟩
      simp only [Instr.sliceAt, Sem.run_bind, hund, Result.andThen_ok, Instr.slice, Option.isSome_none, Bool.false_eq_true, if_false, Sem.run_pure]
      rw [Option.map_none] at hrb
      rw [hrb]
      rfl
    · cases e3
  · cases e
theorem sliceArr_ok (hE : EnvR ι n en a.tmps) (hG : GI ι) (hg : GOk P g) (k : WR ι h w D) {t el : TypeId} {na : Nat} {y ye : Ty} (ht : g.ty t = some y) (hd : y.desc = .array na el) (he : g.ty el = some ye) {x : Operand} {lo hi mx : Option Operand} {v : AV}
    (hx : opndOk n x = true) (hlo : (match lo with | some o => opndOk n o | none => true) = true) (hhi : (match hi with | some o => opndOk n o | none => true) = true)
    (hD : ∀ b ∈ blkOf ((ev x).f en), D b)
    (e : (sliceArrA ye.size na (ev x) lo hi mx).f en h = .ok v h') : SimV P ι h w (Instr.sliceAt t (a.eval x) (lo.map a.eval) (hi.map a.eval) (mx.map a.eval)) v h' := by
  have hv := ev_ok hE hG x hx
  unfold sliceArrA at e
  dsimp only at e
  generalize hxe : (ev x).f en = xa at e hv hD
  generalize hxv : a.eval x = xv at hv
  have hund := run_und (hg.ty _ _ ht).1
  rw [hd] at hund
  obtain ⟨_, _, i', z', hi', hs', _⟩ := hg.ty _ _ he
  split at e
  · rename_i b off
    split at e
    · cases e
    · obtain ⟨el0, ro, nb, d, tr, hb, e1⟩ := withC_inv e; clear e
      obtain ⟨u, e2, hu⟩ := optN_inv hE hG hhi e1; clear e1
      obtain ⟨l, e3, hl⟩ := optN_inv hE hG hlo e2; clear e2
      obtain ⟨mm, hmm, rfl⟩ := hv
      split at e3
      · rename_i h1 h2 h3
        cases e3
        rw [Nat.ble_eq] at h1 h2 h3
        have h3 : off + na * ye.size ≤ nb := h3
        obtain ⟨arr, el', lo', hi'', hw, hb1, hb2, _⟩ := k.cells (hD b (by simp [blkOf])) hmm hb
        have hrb := run_bounds (P := P) (ρ := a.eval) (isS := false) (mx := none) (m := na) (.inl ⟨rfl, rfl⟩) hu hl (by simp) h1 h2 (Nat.le_refl _) w
        refine SimV.ret k (v' := .slice (some (if na = l then ⟨mm.B, mm.sh + off, none⟩ else (⟨mm.B, mm.sh + off, none⟩ : Addr).add (l * ye.size))) (u - l) (na - l)) ?_ ?_
        · simp only [Instr.sliceAt, Sem.run_bind, hund, Result.andThen_ok, Instr.sureAddr, Sem.run_pure, hrb, run_so hi', hs']
        · refine ⟨mm, _, na - l, hmm, rfl, (by show u - l ≤ na - l; omega), by simp, ?_⟩
          by_cases hml : na = l
          · left; omega
          · right
            rw [if_neg hml, addr_add]
            refine ⟨by rw [Nat.add_assoc]; rfl, ?_⟩
            have h5 : l * ye.size + (na - l) * ye.size ≤ na * ye.size := by
              rw [← Nat.add_mul]; exact Nat.mul_le_mul_right _ (by omega)
            show mm.sh + (off + l * ye.size) + (na - l) * ye.size ≤ mm.cs
            omega
      · cases e3
  · cases e
theorem buildSlice_ok (hE : EnvR ι n en a.tmps) (hG : GI ι) (hg : GOk P g) (k : WR ι h w D) {t el : TypeId} {y ye : Ty} (ht : g.ty t = some y) (hd : y.desc = .slice el) (he : g.ty el = some ye) {len : Nat} {ps : Array (Nat × Operand)} {v : AV}
    (hp : (ps.toList.all fun p => opndOk n p.2) = true)
    (e : (match Nat.ble (Nat.mul len ye.size) (nat_lit 100000), fillA (fun i => some (Nat.mul i ye.size, ye.size)) en ps.toList (repL ye.zero len) with
      | true, cs => (match isL cs with
        | true => row el cs h fun b h' => .ok (match len with | 0 => .slice b (nat_lit 0) (nat_lit 0) ye.size true | _ => .slice b (nat_lit 0) len ye.size false) h'
        | false => .fail)
      | false, _ => .fail) = .ok v h') : SimV P ι h w (Instr.buildSlice t len (ps.map fun p => (p.1, a.eval p.2))) v h' := by
  have hund := run_und (hg.ty _ _ ht).1
  rw [hd] at hund
  obtain ⟨i, z, hi, hs, _, hz, hzs, hrep⟩ := repL_zero (ι := ι) hg he len
  split at e
  · rename_i h1
    rw [Nat.ble_eq] at h1
    have h1 : len * ye.size ≤ 100000 := h1
    split at e
    · rename_i hL
      obtain ⟨arr', h2, h3⟩ := fill_ok hE hG (pl := fun i => some (Nat.mul i ye.size, ye.size)) ps.toList (repL ye.zero len) ((Array.range (len * ye.size)).map (fun i => z.cells[i % z.cells.size]!)) hp hrep hL
      obtain ⟨hr, hm, e⟩ := row_inv e
      cases e
      refine ⟨_, _, [], .slice (some ⟨w.heap.size, 0, none⟩) len len, ?_, ?_, Loc.new_row k hr w.drawn (l := arr'.toList) (cells := arr') h3 hm ⟨[], by simp⟩⟩
      · have harr : len * ye.size = 0 → (Array.range (len * ye.size)).map (fun i => (#[] : Array Value)[i % (#[] : Array Value).size]!) = (Array.range (len * ye.size)).map (fun i => z.cells[i % z.cells.size]!) := fun h0 => by
          rw [h0]; simp
        have h2' : Instr.fill (fun i => some (i * ye.size, ye.size)) ((Array.range (len * ye.size)).map (fun i => z.cells[i % z.cells.size]!)) (ps.toList.map fun p => (p.1, a.eval p.2)) = some arr' := h2
        simp only [Instr.buildSlice, Sem.run_bind, hund, Result.andThen_ok, run_so hi, hs]
        rw [if_neg (by omega)]
        simp only [Array.toList_map]
        by_cases h0 : len * ye.size = 0
        · rw [if_pos h0]
          simp only [Sem.run_bind, Sem.run_pure, Result.andThen_ok]
          rw [harr h0, h2']
          simp only [Sem.run_bind, run_newRow, Result.andThen_ok, Sem.run_pure]
        · rw [if_neg h0]
          simp only [Sem.run_bind, run_zv hi hz, Sem.run_pure, Result.andThen_ok]
          rw [h2']
          simp only [Sem.run_bind, run_newRow, Result.andThen_ok, Sem.run_pure]
      · have hsz : arr'.size = len * ye.size := by
          have := llen_ok h3
          have hf : ∀ (pl : Nat → Option (Nat × Nat)) (l : List (Nat × Value)) (c c' : Array Value), Instr.fill pl c l = some c' → c'.size = c.size := by
            intro pl l
            induction l with
            | nil => intro c c' h; cases h; rfl
            | cons p r ih =>
              intro c c' hc
              obtain ⟨pi, pv⟩ := p
              unfold Instr.fill at hc
              split at hc
              · cases hc
              · split at hc
                · cases hc
                · rw [ih _ _ hc, ← Array.foldl_toList, Array.toList_zipIdx]
                  rw [foldl_layA _ _ 0, size_layA]
          rw [hf _ _ _ _ h2]; simp
        have hnm := Nam.add_same ι h.next ⟨w.heap.size, 0, arr'.size⟩
        split
        · exact ⟨_, _, 0, hnm, rfl, Nat.le_refl _, fun _ => rfl, .inl rfl⟩
        · exact ⟨_, _, len, hnm, rfl, Nat.le_refl _, by simp, .inr ⟨rfl, by show 0 + 0 + len * ye.size ≤ arr'.size; omega⟩⟩
    · cases e
  · cases e
end
theorem makeSlice_ok (hg : GOk P g) (k : WR ι h w D) {t el : TypeId} {y ye : Ty} (ht : g.ty t = some y) (hd : y.desc = .slice el) (he : g.ty el = some ye) {l c v : AV} {vl vc : Value} (hl : VR ι l vl) (hc : VR ι c vc)
    (e : makeSliceA el ye l c h = .ok v h') : SimV P ι h w (Instr.makeSlice t vl vc) v h' := by
  have hund := run_und (hg.ty _ _ ht).1
  rw [hd] at hund
  unfold makeSliceA at e
  obtain ⟨kl, n, el1, e1⟩ := natOf_inv e; clear e
  obtain ⟨kc, m, ec1, e2⟩ := natOf_inv e1; clear e1
  subst el1; subst ec1
  cases hl; cases hc
  obtain ⟨i, z, hi, hs, hby, hz, hzs, hrep⟩ := repL_zero (ι := ι) hg he m
  split at e2
  · rename_i h1 h2 h3
    rw [Nat.ble_eq] at h1 h2 h3
    have h2 : m * ye.bytes ≤ 4000000 := h2
    have h3 : m ≤ 4000000 := h3
    obtain ⟨hr, hm, e⟩ := row_inv e2
    cases e
    have hwl : IntKind.i64.wrap (n : Int) = n := by rw [IntKind.wrap_i64]; omega
    have hwc : IntKind.i64.wrap (m : Int) = m := by rw [IntKind.wrap_i64]; omega
    have hnm := Nam.add_same ι h.next ⟨w.heap.size, 0, ((Array.range (m * ye.size)).map (fun i => z.cells[i % z.cells.size]!)).size⟩
    refine ⟨_, _, [], .slice (some ⟨w.heap.size, 0, none⟩) n m, ?_, ?_, Loc.new_row k hr w.drawn (cells := (Array.range (m * ye.size)).map (fun i => z.cells[i % z.cells.size]!)) hrep hm ⟨[], by simp⟩⟩
    · have harr : m * ye.size = 0 → (Array.range (m * ye.size)).map (fun i => (#[] : Array Value)[i % (#[] : Array Value).size]!) = (Array.range (m * ye.size)).map (fun i => z.cells[i % z.cells.size]!) := fun h0 => by
        rw [h0]; simp
      have hb1 : ¬ ((m : Int) < 0) := by omega
      have hb2 : ¬ ((ye.bytes : Int) * (m : Int) > 2 ^ 48) := by
        have : (ye.bytes : Int) * (m : Int) = ((m * ye.bytes : Nat) : Int) := by rw [Nat.mul_comm]; simp
        rw [this]; omega
      have hb3 : ¬ ((n : Int) < 0) := by omega
      have hb4 : ¬ ((n : Int) > (m : Int)) := by omega
      have hroom : ∀ w : World, (askRoom (m * ye.bytes)).run P w = .ok () w := fun w => by
        unfold askRoom
        rw [if_neg (by unfold roomBytes; omega)]; rfl
      have e0 : (Int.ofNat n) = (n : Int) := rfl
      have e0' : (Int.ofNat m) = (m : Int) := rfl
      simp only [Instr.makeSlice, Sem.run_bind, hund, Result.andThen_ok, asInt, asIntOf, Sem.run_pure, run_ti hi, e0, e0', hwl, hwc, hby]
      rw [if_neg (by simp only [hb1, hb2, hb3, hb4]; simp)]
      simp only [Sem.run_bind, Result.andThen_ok, Int.toNat_natCast, hroom, run_so hi, hs]
      by_cases h0 : m * ye.size = 0
      · rw [if_pos h0]
        simp only [Sem.run_bind, Sem.run_pure, Result.andThen_ok, run_newRow, harr h0]
      · rw [if_neg h0]
        simp only [Sem.run_bind, run_zv hi hz, Sem.run_pure, Result.andThen_ok, run_newRow]
    · exact ⟨_, _, m, hnm, rfl, h1, by simp, .inr ⟨rfl, by simp⟩⟩
  · cases e2
end
end Go.Proofs.YtfmnninijakknaaGreatDoor.Am
