/- The machine's soundness: stores, new variables, aggregates. -/
import Derived.Test.YtlmcadgbnolffaaGreatDoorAm12
namespace Go.Proofs.YtlmcadgbnolffaaGreatDoor.Am
section
variable {P : Program} {g : G} {ι : Nam} {h h' : H} {w : World} {D : Nat → Prop}

/-- cells of a block changed -/
theorem Loc.set_cells (k : WR ι h w D) {b : Nat} (hD : D b) {m : Nm} (hm : ι b = some m) {el n d : Nat} {t t' : E AV d} (hb : h.get b = some (.cells el false n d t))
    {arr arr' : Array Value} {el' lo hi : Nat} (hw : w.heap[m.B]? = some (.cells arr el' (lo, hi))) (hsz : arr'.size = arr.size)
    (hv : ∀ i, i < n → VR ι (E.get d (path d i) t') (arr'.getD (m.sh + i) undef)) :
    Loc ι h w ι (h.set b (.cells el false n d t')) (World.putCells w m.B arr' el' (lo, hi)) [b] := by
  obtain ⟨arr0, el0, lo0, hi0, hw0, h1, h2, h3, _, h5⟩ := k.cells hD hm hb
  rw [hw] at hw0; cases hw0
  have hB : m.B < w.heap.size := (Array.getElem?_eq_some_iff.1 hw).1
  refine Loc.mkSet k (k.lt hm) hb m hm (.cells arr' el' (lo, hi)) (by simp [World.putCells]) (fun i _ hne => ?_) (putCells_get hB) ?_ rfl rfl rfl
  · simp only [World.putCells]
    rw [Array.getElem?_setIfInBounds_ne (fun e => hne e.symm)]
  · exact ⟨arr', el', lo, hi, rfl, by omega, h2, h3, hv, h5⟩
theorem getD_set_eq (arr : Array Value) {i : Nat} (v : Value) (hi : i < arr.size) : (arr.setIfInBounds i v).getD i undef = v := by
  simp [Array.getD, hi]
theorem getD_set_ne (arr : Array Value) {i j : Nat} (v : Value) (hij : i ≠ j) : (arr.setIfInBounds i v).getD j undef = arr.getD j undef := by
  rw [Array.getD_eq_getD_getElem?, Array.getElem?_setIfInBounds_ne hij, Array.getD_eq_getD_getElem?]
theorem cells_size_one {x : Value} (hx : x.cells = #[x]) : x.cells.size = 1 := by rw [hx]; rfl
theorem store_ok (hg : GOk P g) (k : WR ι h w D) {t : TypeId} {y : Ty} (ht : g.ty t = some y) {a x v : AV} {va vx : Value} (ha : VR ι a va) (hx : VR ι x vx) (hD : ∀ b ∈ blkOf a, D b)
    (e : (storeA y.agg y.size).f a x h = .ok v h') : v = .tup .nil ∧ SimU P ι h w (Instr.storeAt t va vx) h' := by
  obtain ⟨hd, hag, i, z, hi, hs, _, _, _⟩ := hg.ty _ _ ht
  unfold storeA at e
  have two : (Bool.rec (notB (Nat.beq y.size (nat_lit 1))) true y.agg : Bool) = false → y.size = 1 := fun c => by
    cases hy : y.agg
    · rw [hy] at c
      cases hc : Nat.beq y.size (nat_lit 1)
      · rw [hc] at c; cases c
      · exact Nat.eq_of_beq_eq_true hc
    · rw [hy] at c; cases c
  cases hc : (Bool.rec (notB (Nat.beq y.size (nat_lit 1))) true y.agg : Bool)
  · have h1 := two hc
    rw [hc] at e
    have e : onP (store1 x) a h = .ok v h' := e
    obtain ⟨b, o, rfl, e⟩ := onP_inv e
    obtain ⟨m, hm, rfl⟩ := ha
    obtain ⟨el, ro, n, d, tr, hb, e⟩ := withC_inv e
    have hDb := hD b (by simp [blkOf])
    obtain ⟨arr, el', lo, hi', hw, h1', h2, h3, h4, h5⟩ := k.cells hDb hm hb
    cases ho : one x
    · rw [ho] at e; cases e
    rw [ho] at e
    cases hlt : Nat.ble (Nat.succ o) n
    · rw [hlt] at e; cases e
    rw [hlt] at e
    cases hro : ro
    · subst hro
      cases e
      rw [Nat.ble_eq] at hlt
      have hlt : o < n := hlt
      obtain ⟨hone, hcs, _⟩ := one_ok hx ho
      refine ⟨rfl, ι, World.putCells w m.B (arr.setIfInBounds (m.sh + o) vx) el' (lo, hi'), [b], ?_, ?_⟩
      · simp only [Instr.storeAt, Instr.sureAddr, Sem.run_bind, Sem.run_pure, Result.andThen_ok, storeVar, run_so hi, hs, h1, hcs]
        have := run_storeCells_of (P := P) [vx] (m.sh + o) 0 arr w hw (by have := (h5 rfl).2; omega) (by simp; omega) (by simpa using hone)
        simpa [layA] using this
      · refine Loc.set_cells k hDb hm hb hw (by simp) fun j hj => ?_
        by_cases hjo : j = o
        · subst hjo
          rw [E.get_put_same, getD_set_eq _ _ (by omega)]; exact hx
        · rw [E.get_put_ne _ _ _ _ (by omega) (by omega) (fun c => hjo c.symm), getD_set_ne _ _ (by omega)]; exact h4 j hj
    · rw [hro] at e; cases e
  · rw [hc] at e
    cases h0 : Nat.beq y.size (nat_lit 0)
    · rw [h0] at e
      have e : onP (storeN y.size x) a h = .ok v h' := e
      obtain ⟨b, o, rfl, e⟩ := onP_inv e
      obtain ⟨m, hm, rfl⟩ := ha
      obtain ⟨el, ro, n, d, tr, hb, e⟩ := withC_inv e
      have hDb := hD b (by simp [blkOf])
      obtain ⟨arr, el', lo, hi', hw, h1', h2, h3, h4, h5⟩ := k.cells hDb hm hb
      cases ho : ones (cellsOf x)
      · rw [ho] at e; cases e
      rw [ho] at e
      cases hl : Nat.beq (llen (cellsOf x)) y.size
      · rw [hl] at e; cases e
      rw [hl] at e
      cases hlt : Nat.ble (Nat.add o y.size) n
      · rw [hlt] at e; cases e
      rw [hlt] at e
      cases hro : ro
      · subst hro
        cases e
        rw [Nat.ble_eq] at hlt
        have hlt : o + y.size ≤ n := hlt
        have hl := Nat.eq_of_beq_eq_true hl
        obtain ⟨l, hlr, hlx⟩ := cellsOf_ok hx
        have hlen := llen_ok hlr
        have hys : y.size ≠ 0 := fun c => by rw [c] at h0; cases h0
        rcases hlx with hlx | hlx
        · refine ⟨rfl, ι, World.putCells w m.B (layA arr (m.sh + o) l) el' (lo, hi'), [b], ?_, ?_⟩
          · have hcz : vx.cells.size = y.size := by rw [← Array.length_toList, ← hlx]; omega
            simp only [Instr.storeAt, Instr.sureAddr, Sem.run_bind, Sem.run_pure, Result.andThen_ok, storeVar, run_so hi, hs]
            rw [if_neg (by simp [hcz]), ← hlx]
            exact run_storeCells_of (P := P) l (m.sh + o) 0 arr w hw (by have := (h5 rfl).2; omega) (by omega) (ones_ok hlr ho)
          · refine Loc.set_cells k hDb hm hb hw (size_layA _ _ _) fun j hj => ?_
            rw [wrL_get n h3 hlr o j tr (by omega) hj, getD_layA _ _ _ _ (by omega)]
            by_cases hjo : o ≤ j ∧ j < o + l.length
            · rw [if_pos hjo, if_pos (by omega), show m.sh + j - (m.sh + o) = j - o by omega]
              exact lnth_ok hlr _
            · rw [if_neg hjo, if_neg (by omega)]; exact h4 j hj
        · rw [hlx] at hlen; simp at hlen; omega
      · rw [hro] at e; cases e
    · rw [h0] at e; cases e
theorem alloc_ok (hg : GOk P g) (k : WR ι h w D) {t : TypeId} {y : Ty} (ht : g.ty t = some y) {v : AV}
    (e : (row t y.zero h fun b h' => .ok (.ptr b (nat_lit 0)) h') = .ok v h') : SimV P ι h w (Instr.alloc t true (.tuple #[])) v h' := by
  obtain ⟨hd, hag, i, z, hi, hs, _, hz, hzv, _⟩ := hg.ty _ _ ht
  obtain ⟨hr, hm, e⟩ := row_inv e
  cases e
  refine ⟨_, _, [], _, ?_, ptr_new (m := ⟨w.heap.size, 0, z.cells.size⟩) rfl, Loc.new_row k hr w.drawn (l := z.cells.toList) (cells := z.cells) (by rw [hzv]; exact ofVs_ok ι _) hm ⟨[], by simp⟩⟩
  simp only [Instr.alloc, newVar, Sem.run_bind, run_zv hi hz, Result.andThen_ok, run_newRow, Sem.run_pure]
theorem box_ok (k : WR ι h w D) {t : TypeId} {x v : AV} {vx : Value} (hx : VR ι x vx)
    (e : (row t (cellsOf x) h fun b h' => .ok (.ptr b (nat_lit 0)) h') = .ok v h') : SimV P ι h w (Instr.box t vx) v h' := by
  obtain ⟨hr, hm, e⟩ := row_inv e
  cases e
  obtain ⟨l, hl, hlx⟩ := cellsOf_ok hx
  refine ⟨_, _, [], _, ?_, ptr_new (m := ⟨w.heap.size, 0, vx.cells.size⟩) rfl, Loc.new_row k hr w.drawn (l := l) (cells := vx.cells) hl hm ?_⟩
  · simp only [Instr.box, newVar, Sem.run_bind, run_newRow, Result.andThen_ok, Sem.run_pure]
  · rcases hlx with hlx | hlx
    · exact ⟨[], by rw [hlx]; simp⟩
    · exact ⟨vx.cells.toList, by rw [hlx]; rfl⟩

/-! ### aggregates -/
theorem isL_ok {a : AV} (h1 : isL a = true) : a = .nil ∨ ∃ x y, a = .cons x y ∧ isL y = true := by
  cases a <;> first | (cases h1; done) | exact .inl rfl | exact .inr ⟨_, _, rfl, h1⟩
theorem part_ok (hg : GOk P g) (k : WR ι h w D) {t : TypeId} {y : Ty} (ht : g.ty t = some y) {cs v : AV} {off : Nat} {xs : Array Value} (hx : VRs ι cs xs.toList)
    (e : partA y.agg y.size off cs h = .ok v h') : SimV P ι h w (part t xs off) v h' := by
  obtain ⟨hd, hag, i, z, hi, hs, _⟩ := hg.ty _ _ ht
  unfold partA at e
  split at e
  · rename_i hy
    split at e
    · rename_i hle
      cases e
      rw [Nat.ble_eq] at hle
      refine SimV.ret k (v' := .agg (xs.extract off (off + y.size))) ?_ ⟨_, rfl, ?_⟩
      · simp only [part, Sem.run_bind, run_ia hd, ← hag, hy, Result.andThen_ok, if_true, run_so hi, hs, Sem.run_pure]
      · have := ltake_ok (ldrop_ok hx off) y.size
        rw [Array.toList_extract, List.extract_eq_take_drop]
        rw [Nat.add_sub_cancel_left]
        exact this
    · cases e
  · rename_i hy
    obtain ⟨e1, e2, hv⟩ := chk_ok e
    subst e2
    have hl := lnth_ok hx off
    rw [← e1] at hl
    have hlt : off < xs.size := by
      rcases Nat.lt_or_ge off xs.size with c | c
      · exact c
      · exfalso
        apply hv
        have : ∀ (a : AV) (l : List Value), VRs ι a l → ∀ o, l.length ≤ o → lnth a o = .bad := VRs_ind (fun _ _ => rfl) (fun a t x xs _ _ ih o ho => by
          cases o with
          | zero => simp at ho
          | succ o => exact ih o (by simpa using ho))
        exact this cs _ hx off (by simpa using c)
    refine SimV.ret k (v' := xs.toList.getD off undef) ?_ hl
    simp only [part, Sem.run_bind, run_ia hd, ← hag, hy, Result.andThen_ok, Bool.false_eq_true, if_false]
    rw [Array.getElem?_eq_getElem hlt]
    simp [hlt]
end
end Go.Proofs.YtlmcadgbnolffaaGreatDoor.Am
