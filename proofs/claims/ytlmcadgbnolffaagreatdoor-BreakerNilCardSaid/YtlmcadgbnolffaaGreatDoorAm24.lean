/- The machine's soundness: append, copy. -/
import Derived.Test.YtlmcadgbnolffaaGreatDoorAm23
namespace Go.Proofs.YtlmcadgbnolffaaGreatDoor.Am
section
variable {P : Program} {g : G} {ι : Nam} {h h' : H} {w : World} {D : Nat → Prop}
theorem drawnTo_self (w : World) : World.drawnTo w w.drawn = w := rfl
theorem take_all {l : List Value} {n : Nat} (h : l.length = n) : l.take n = l := by rw [← h]; exact List.take_length
theorem append_ok (hg : GOk P g) (k : WR ι h w D) {t u ty el : TypeId} {y yu ye : Ty} (ht : g.ty t = some y) (hd : y.desc = .slice el) (hu : g.ty u = some yu) (hdu : (∃ e', yu.desc = .slice e') ∨ yu.desc = .string)
    (he : g.ty el = some ye) {s x v : AV} {vs vx : Value} (hs : VR ι s vs) (hx : VR ι x vx) (hDs : ∀ b ∈ blkOf s, D b) (hDx : ∀ b ∈ blkOf x, D b)
    (e : appendA el ye.size ye.bytes s x h = .ok v h') : SimV P ι h w (Builtin.append_ #[t, u] ty #[vs, vx]) v h' := by
  have hut := (hg.ty _ _ ht).1
  have huu := (hg.ty _ _ hu).1
  rw [hd] at hut
  obtain ⟨_, _, i, z, hi, hsz, hby, hz, _, hzs, _⟩ := hg.ty _ _ he
  obtain ⟨new, n, l, e2, hnew, hlen, hlo, hfc⟩ := elems_ok k hx hDx e
  refine appendN_ok hg k he hzs hs hDs hnew hlen e2 ?_ ?_
  · intro base sLen sCap w2 hvs hc hst hno
    subst hvs
    refine run_append_in (arr := l.toArray) hut huu hdu hi (hlo w) ?_ hc (fun a ha => by rw [hsz]; exact hst a ha) hno
    have := hfc w rfl n (Nat.le_refl _)
    rw [take_all hlen] at this
    rw [hsz]; exact this
  · intro base sLen sCap old hvs hold hc h1 h2
    subst hvs
    obtain ⟨c, hc1, hc2⟩ := run_append_grow' (ty := ty) (arr := l.toArray) (old := old) (vx := vx) hut huu hdu hi hz (hlo w) (fun kk => by
      have := hfc (World.drawnTo w kk) rfl n (Nat.le_refl _)
      rw [take_all hlen] at this
      rw [hsz]; exact this) (fun kk => by rw [hsz]; exact hold kk) hc (by omega) (by rw [hby]; omega)
    exact ⟨c, hc1, hc2⟩
theorem append0_ok (hg : GOk P g) (k : WR ι h w D) {t u ty el : TypeId} {y yu ye : Ty} (ht : g.ty t = some y) (hd : y.desc = .slice el) (hu : g.ty u = some yu) {ku : IntKind} (hdu : yu.desc = .int ku)
    (he : g.ty el = some ye) {s x v : AV} {vs vx : Value} (hs : VR ι s vs) (hx : VR ι x vx) (hDs : ∀ b ∈ blkOf s, D b)
    {k0 : IntKind} {n : Nat} (hxn : x = .int k0 (.ofNat n)) (h1 : Nat.mul n ye.bytes ≤ mxCells) (h2 : n ≤ mxCells)
    (e : appendN el ye.size ye.bytes s h (repL ye.zero n) n = .ok v h') : SimV P ι h w (Builtin.append_ #[t, u] ty #[vs, vx]) v h' := by
  subst hxn
  cases hx
  have hut := (hg.ty _ _ ht).1
  have huu := (hg.ty _ _ hu).1
  rw [hd] at hut
  rw [hdu] at huu
  obtain ⟨_, _, i, z, hi, hsz, hby, hz, hzv, hzs, _⟩ := hg.ty _ _ he
  have hrep : VRs ι (repL ye.zero n) (Builtin.zeroCells z.cells n).toList := by
    have h3 : (Builtin.zeroCells z.cells n).toList = (List.replicate n z.cells.toList).flatten := by
      unfold Builtin.zeroCells
      rw [rep_eq z.cells n (n * z.cells.size) rfl]
    rw [h3, hzv]
    exact repL_ok (ofVs_ok ι _) n
  have h1 : n * ye.bytes ≤ 4000000 := h1
  have h2 : n ≤ 4000000 := h2
  have harr : (if n * i.size = 0 then (#[] : Array Value) else Builtin.zeroCells z.cells n) = (Builtin.zeroCells z.cells n).toList.toArray := by
    rw [hsz]
    by_cases h0 : n * ye.size = 0
    · rw [if_pos h0]
      have : (Builtin.zeroCells z.cells n).size = 0 := by rw [size_zeroCells, hzs, h0]
      have := Array.eq_empty_of_size_eq_zero this
      rw [this]
    · rw [if_neg h0]
  refine appendN_ok hg k he hzs hs hDs hrep (by rw [Array.length_toList, size_zeroCells, hzs]) e ?_ ?_
  · intro base sLen sCap w2 hvs hc hst hno
    subst hvs
    exact run_append_in0 hut huu hi hz rfl (by rw [hby]; omega) h2 hc harr (fun a ha => by rw [hsz]; exact hst a ha) hno
  · intro base sLen sCap old hvs hold hc h3 h4
    subst hvs
    exact run_append_grow0 hut huu hi hz rfl h2 (fun kk => by rw [hsz]; exact hold kk) hc (by omega) (by rw [hby]; omega) harr
theorem copy_ok (hg : GOk P g) (k : WR ι h w D) {t ty el : TypeId} {y ye : Ty} {ts : Array TypeId} (hts : ts[0]? = some t) (ht : g.ty t = some y) (hd : y.desc = .slice el)
    (he : g.ty el = some ye) {s x v : AV} {vs vx : Value} (hs : VR ι s vs) (hx : VR ι x vx) (hDs : ∀ b ∈ blkOf s, D b) (hDx : ∀ b ∈ blkOf x, D b)
    (e : copyA ye.size s x h = .ok v h') : SimV P ι h w (Builtin.copy_ ts ty #[vs, vx]) v h' := by
  have hut := run_und (P := P) (hg.ty _ _ ht).1
  rw [hd] at hut
  obtain ⟨_, _, i, z, hi, hsz, hby, hz, _, hzs, _⟩ := hg.ty _ _ he
  have a0 : (#[vs, vx] : Array Value)[0]? = some vs := rfl
  have a1 : (#[vs, vx] : Array Value)[1]? = some vx := rfl
  unfold copyA at e
  obtain ⟨new, n, l, e2, hnew, hlen, hlo, hfc⟩ := elems_ok (P := P) k hx hDx e
  clear e
  split at e2
  · cases hs
    cases e2
    refine SimV.ret k (v' := goInt 0) ?_ rfl
    have := hfc w rfl 0 (Nat.zero_le _)
    have hmin : Nat.min n 0 = 0 := Nat.min_zero n
    simp only [Builtin.copy_, hts, a0, a1, Sem.run_bind, hut, Result.andThen_ok, hlo, run_so hi, hsz, hmin, this, Sem.run_pure]
    rfl
  · rename_i b off len es' zz
    obtain ⟨m, ya, cap, hm, rfl, hle, hzc, hy⟩ := hs
    split at e2
    · rename_i elb nb d tr h1 hb
      obtain rfl := Nat.eq_of_beq_eq_true h1
      split at e2
      · rename_i h2 h3
        rw [Nat.ble_eq] at h2
        have h2 : off + len * ye.size ≤ nb := h2
        rw [sN_eq, brec_if] at e2
        have hmin : (if Nat.ble n len = true then n else len) = Nat.min n len := by
          rw [ble_dec]
          simp only [decide_eq_true_iff]
          by_cases c : n ≤ len
          · rw [if_pos c]; exact (Nat.min_eq_left c).symm
          · rw [if_neg c]; exact (Nat.min_eq_right (by omega)).symm
        rw [hmin] at e2
        cases e2
        have hDb := hDs b (by simp [blkOf])
        obtain ⟨arr, el', lo, hi', hw, b1, b2, b3, b4, b5⟩ := k.cells hDb hm hb
        obtain ⟨hel, hfr⟩ := b5 rfl
        have hmn : Nat.min n len ≤ n := Nat.min_le_left _ _
        have hml : Nat.min n len ≤ len := Nat.min_le_right _ _
        obtain ⟨mm, hmm⟩ : ∃ mm, Nat.min n len = mm := ⟨_, rfl⟩
        rw [hmm] at hmn hml
        rw [hmm]
        have hms : mm * ye.size ≤ n * ye.size := Nat.mul_le_mul_right _ hmn
        have hms2 : mm * ye.size ≤ len * ye.size := Nat.mul_le_mul_right _ hml
        have hlt : (l.take (mm * ye.size)).length = mm * ye.size := by rw [List.length_take, hlen]; omega
        have hrd := hfc w rfl mm hmn
        have htk := ltake_ok hnew (mm * ye.size)
        have hst : (storeCells ya (l.take (mm * ye.size))).run P w = .ok () (World.putCells w m.B (layA arr (m.sh + off + 0) (l.take (mm * ye.size))) el' (lo, hi')) := by
          by_cases h0 : mm * ye.size = 0
          · rw [h0, List.take_zero]
            show Result.ok () w = _
            rw [layA, putCells_same hw]
          · have hy : ya = ⟨m.B, m.sh + off, none⟩ ∧ m.sh + off + cap * ye.size ≤ m.cs := by
              rcases hy with hy | hy
              · exfalso
                apply h0
                have : mm = 0 := by omega
                rw [this, Nat.zero_mul]
              · exact hy
            obtain ⟨rfl, hyc⟩ := hy
            exact run_storeCells_of (P := P) _ (m.sh + off) 0 arr w hw (by omega) (by omega) (fun v hv => ones_ok hnew h3 v (List.mem_of_mem_take hv))
        refine ⟨ι, World.putCells w m.B (layA arr (m.sh + off + 0) (l.take (mm * ye.size))) el' (lo, hi'), [b], goInt mm, ?_, rfl, Loc.set_cells k hDb hm hb hw (size_layA _ _ _) (fun j hj => ?_)⟩
        · simp only [Builtin.copy_, hts, a0, a1, Sem.run_bind, hut, Result.andThen_ok, hlo, run_so hi, hsz, hmm, hrd, hst]
          rfl
        · show VR ι (E.get d (path d j) (wrL d (ltake new (mm * ye.size)) off tr)) _
          rw [wrL_get nb b3 htk off j tr (by omega) hj, getD_layA _ _ _ _ (by omega), hlt]
          by_cases hjo : off ≤ j ∧ j < off + mm * ye.size
          · rw [if_pos hjo, if_pos (by omega), show m.sh + j - (m.sh + off + 0) = j - off by omega]
            exact lnth_ok htk _
          · rw [if_neg hjo, if_neg (by omega)]; exact b4 j hj
      · cases e2
    · cases e2
  · cases e2
end
end Go.Proofs.YtlmcadgbnolffaaGreatDoor.Am
