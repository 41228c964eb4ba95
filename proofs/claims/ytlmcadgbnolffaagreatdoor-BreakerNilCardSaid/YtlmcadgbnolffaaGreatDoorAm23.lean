/- The machine's soundness: append. -/
import Derived.Test.YtlmcadgbnolffaaGreatDoorAm22
namespace Go.Proofs.YtlmcadgbnolffaaGreatDoor.Am
section
variable {P : Program} {g : G} {ι : Nam} {h h' : H} {w : World} {D : Nat → Prop}
theorem run_loadCells_zero (a : Addr) (w : World) : (loadCells a 0).run P w = .ok #[] w := rfl
theorem range_take (f : Nat → Value) (j m : Nat) (h : j ≤ m) : ((List.range m).map f).take j = (List.range j).map f := by
  rw [← List.map_take, List.take_range, Nat.min_eq_left h]
theorem elems_ok (k : WR ι h w D) {es : Nat} {x v : AV} {vx : Value} {kf : AV → Nat → Res} (hx : VR ι x vx) (hD : ∀ b ∈ blkOf x, D b) (e : elems es x h kf = .ok v h') :
    ∃ new n l, kf new n = .ok v h' ∧ VRs ι new l ∧ l.length = n * es ∧ (∀ w2 : World, (Builtin.lenOf vx).run P w2 = .ok n w2) ∧
      ∀ w2 : World, w2.heap = w.heap → ∀ j, j ≤ n → (Builtin.firstCells es j vx).run P w2 = .ok (l.take (j * es)).toArray w2 := by
  unfold elems at e
  split at e
  · cases hx
    exact ⟨_, _, [], e, rfl, by simp, fun _ => rfl, fun w2 _ j _ => by simp [Builtin.firstCells]⟩
  · obtain ⟨b, rfl, rfl⟩ := hx
    split at e
    · rename_i hes
      obtain rfl := Nat.eq_of_beq_eq_true hes
      refine ⟨_, _, _, e, strL_ok b, ?_, fun _ => ?_, fun w2 _ j hj => ?_⟩
      · rw [Str.of_len, List.length_map]; simp
      · rw [Str.of_len]; rfl
      · rw [Str.of_len] at hj
        simp only [Builtin.firstCells, Sem.run_pure]
        congr 1
        apply Array.ext'
        rw [Array.toList_map, Nat.mul_one, ← List.map_take]
        congr 1
        have : (b.extract 0 j).data = b.data.extract 0 j := by simp [ByteArray.data_extract]
        rw [this, Array.toList_extract, List.extract_eq_take_drop]
        simp
    · cases e
  · rename_i b off len es' z
    split at e
    · rename_i el ro n d t hb
      split at e
      · rename_i h1 h2
        obtain rfl := Nat.eq_of_beq_eq_true h1
        rw [Nat.ble_eq] at h2
        have h2 : off + len * es ≤ n := h2
        obtain ⟨m, y, cap, hm, rfl, hle, hz, hy⟩ := hx
        obtain ⟨arr, el', lo, hi, hw, h1, h2', h3, h4, h5⟩ := k.cells (hD b (by simp [blkOf])) hm hb
        have hrd := rdN_ok (ι := ι) (arr := arr) (sh := m.sh) (len * es) off (fun j h1 h2 => h4 j (by omega))
        refine ⟨_, _, _, e, hrd, by simp, fun _ => rfl, fun w2 hw2 j hj => ?_⟩
        have hjl : j * es ≤ len * es := Nat.mul_le_mul_right _ hj
        rw [range_take _ _ _ hjl]
        simp only [Builtin.firstCells]
        by_cases h0 : j * es = 0
        · rw [h0]; exact rfl
        · have hy : y = ⟨m.B, m.sh + off, none⟩ ∧ m.sh + off + cap * es ≤ m.cs := by
            rcases hy with hy | hy
            · exfalso
              apply h0
              have : j = 0 := by omega
              rw [this, Nat.zero_mul]
            · exact hy
          obtain ⟨rfl, hyc⟩ := hy
          exact run_loadCells_of (by rw [hw2]; exact hw) (by omega)
      · cases e
    · cases e
  · cases e
theorem lnth_rdN {d : Nat} {t : E AV d} : ∀ (n o i : Nat), i < n → lnth (rdN d t n o) i = E.get d (path d (o + i)) t
  | 0, _, _, h => by omega
  | n + 1, o, 0, _ => rfl
  | n + 1, o, i + 1, h => by
    have := lnth_rdN (t := t) n (o + 1) i (by omega)
    rw [show o + (i + 1) = o + 1 + i by omega, ← this]
    rfl
/-- what a grown row is -/
theorem growN_inv {el es off len n nb d : Nat} {new v : AV} {t : E AV d} {h0 : H} {l0 l : List Value} (hl0 : VRs ι (rdN d t (Nat.mul len es) off) l0) (hl : VRs ι new l) (hl0n : l0.length = len * es) (_hd : nb ≤ 4 ^ d)
    (e : growN el es off len n new h0 nb d t = .ok v h') :
    ∃ nb' d' t', v = .slice h0.next 0 (len + n) es false ∧ h' = h0.new (.cells el false nb' d' t') ∧ nb' = l0.length + l.length ∧ nb' ≤ 4 ^ d' ∧
      ∀ i, i < nb' → VR ι (E.get d' (path d' i) t') ((l0 ++ l).getD i undef) := by
  have hnl := llen_ok hl
  have gapp : ∀ i, (l0 ++ l).getD i undef = if i < l0.length then l0.getD i undef else l.getD (i - l0.length) undef := fun i => by
    rw [List.getD_eq_getElem?_getD, List.getElem?_append]
    split <;> rw [List.getD_eq_getElem?_getD]
  unfold growN at e
  split at e
  · rename_i h1 h2 h3 h4
    have h1 := Nat.eq_of_beq_eq_true h1
    have h2 := Nat.eq_of_beq_eq_true h2
    have h3 := Nat.eq_of_beq_eq_true h3
    rw [Nat.ble_eq] at h4
    have h4 : nb + llen new ≤ 4000000 := h4
    have h2 : len * es = nb := h2
    have h1 : off = 0 := h1
    subst h1
    cases e
    have hdd : nb + llen new ≤ 4 ^ d := by
      have := le_dep h4
      have h3 : dep (nb + llen new) = d := h3
      rwa [h3] at this
    refine ⟨nb + llen new, d, wrL d new nb t, rfl, rfl, by omega, hdd, fun i hi => ?_⟩
    rw [wrL_get (nb + llen new) hdd hl nb i t (by omega) hi, gapp]
    by_cases c : i < l0.length
    · rw [if_neg (by omega), if_pos c]
      have := lnth_ok hl0 i
      rw [lnth_rdN _ _ _ (show i < Nat.mul len es from (by omega : i < len * es)), Nat.zero_add] at this
      exact this
    · rw [if_pos (by omega), if_neg c, hl0n, h2]
      exact lnth_ok hl _
  · obtain ⟨hr, hm, e⟩ := row_inv e
    cases e
    have hap := lapp_ok hl0 hl
    have hapl := llen_ok hap
    refine ⟨_, _, _, rfl, rfl, by rw [← List.length_append]; exact hapl, le_dep hm, fun i hi => ?_⟩
    rw [ofL, wrL_get _ (le_dep hm) hap 0 i _ (by omega) hi, if_pos (by omega), Nat.sub_zero]
    exact lnth_ok hap i
/-- a block that moves: the old one is spoken of no more -/
theorem Loc.mkMove (k : WR ι h w D) (hr : h.next < 65536) {b : Nat} {x0 : Blk} (hx0 : h.get b = some x0) {m : Nm} (hm : ι b = some m) (x : Blk) (m' : Nm) (o : Obj) {w' : World}
    (hsz : w.heap.size ≤ w'.heap.size) (hold : ∀ i, i < w.heap.size → i ≠ m.B → w'.heap[i]? = w.heap[i]?) (hB : m'.B = m.B ∨ w.heap.size ≤ m'.B) (ho : w'.heap[m'.B]? = some o)
    (hbr : BR (ι.add h.next m') x o m') (hos : w'.os = w.os) (htape : w'.tape = w.tape) (hout : w'.output = w.output) :
    Loc ι h w (ι.add h.next m') ((h.kill b).new x) w' [b] := by
  have hb : b < h.next := k.lt hm
  have hkn : (h.kill b).next = h.next := rfl
  have gk : ∀ c, c < 65536 → ((h.kill b).new x).get c = if c = h.next then some x else if c = b then none else h.get c := fun c hc => by
    rw [H.get_new (by rw [hkn]; exact hr) hc, hkn]
    split
    · rfl
    · rw [H.get_kill (by omega) hc]
  have hbn : ((h.kill b).new x).get b = none := by rw [gk b (by omega), if_neg (by omega), if_pos rfl]
  exact {
    next := Nat.le_succ _
    nam := fun c hc => Nam.add_ne ι m' (by omega)
    log := rfl
    ln := rfl
    kept := fun c hc hn => by
      have : c ≠ b := by simpa using hn
      rw [gk c (by omega), if_neg (by omega), if_neg this]
    live := fun c hc _ => by
      obtain rfl : c = b := by simpa using hc
      exact ⟨x0, hx0⟩
    size := hsz
    heap := fun i hi hn => hold i hi (fun e => hn b (by simp) m hm e.symm)
    new := fun c m1 hc e => by
      by_cases hx : c = h.next
      · subst hx; rw [Nam.add_same] at e; cases e
        rcases hB with hB | hB
        · exact .inr ⟨b, by simp, m, hm, hB.symm⟩
        · exact .inl hB
      · rw [Nam.add_ne ι m' hx, k.fresh c hc] at e; cases e
    os := hos
    tape := htape
    out := hout
    most := hr
    fresh := fun c hc => by
      have hc' : h.next + 1 ≤ c := hc
      rw [Nam.add_ne ι m' (by omega)]; exact k.fresh c (by omega)
    blk := fun c y hc hcn hy => by
      have hcn' : c < h.next + 1 := hcn
      rcases hc with hc | hc
      · obtain rfl : c = b := by simpa using hc
        rw [hbn] at hy; cases hy
      · obtain rfl : c = h.next := by omega
        rw [gk _ hr, if_pos rfl] at hy
        cases hy
        exact ⟨m', o, Nam.add_same _ _ _, ho, hbr⟩
    inj1 := fun c y m1 hc hcn _ hm1 => by
      have hcn' : c < h.next + 1 := hcn
      obtain rfl : c = h.next := by omega
      rw [Nam.add_same] at hm1; cases hm1
      rcases hB with hB | hB
      · exact .inr ⟨b, by simp, m, hm, hB.symm, hbn⟩
      · exact .inl hB
    inj2 := fun c c' y y' m1 m2 hc hc' hcn hcn' _ _ _ _ _ => by
      have h1 : c < h.next + 1 := hcn
      have h2 : c' < h.next + 1 := hcn'
      omega }
theorem okBy_ok {n bytes : Nat} (e : okBy n bytes = true) : n ≤ 4000000 ∧ n * bytes ≤ 4000000 := by
  unfold okBy at e
  split at e
  · cases e
  · rename_i b
    rw [Nat.ble_eq] at e
    have e : n * (b + 1) ≤ 4000000 := e
    refine ⟨?_, e⟩
    have : n * 1 ≤ n * (b + 1) := Nat.mul_le_mul_left _ (by omega)
    omega
theorem arr_getD (l : List Value) (i : Nat) : l.toArray.getD i undef = l.getD i undef := by
  rw [Array.getD_eq_getD_getElem?, List.getElem?_toArray, List.getD_eq_getElem?_getD]
theorem size_zeroCells (z : Array Value) (n : Nat) : (Builtin.zeroCells z n).size = n * z.size := by simp [Builtin.zeroCells]
theorem getD_app (a b : Array Value) {i : Nat} (hi : i < a.size) : (a ++ b).getD i undef = a.getD i undef := by
  rw [Array.getD_eq_getD_getElem?, Array.getElem?_append_left hi, Array.getD_eq_getD_getElem?]
theorem appendN_ok (_hg : GOk P g) (k : WR ι h w D) {el : TypeId} {ye : Ty} (_he : g.ty el = some ye) {s new v : AV} {vs : Value} {n : Nat} {l : List Value} {z : Value} (hzs : z.cells.size = ye.size)
    (hs : VR ι s vs) (hD : ∀ b ∈ blkOf s, D b) (hnew : VRs ι new l) (hlen : l.length = n * ye.size) (e : appendN el ye.size ye.bytes s h new n = .ok v h') {R : Sem Value}
    (hin : ∀ base sLen sCap (w2 : World), vs = .slice base sLen sCap → sLen + n ≤ sCap → (∀ a, base = some a → (storeCells (a.add (sLen * ye.size)) l).run P w = .ok () w2) → (base = none → w2 = w) →
      R.run P w = .ok (.slice base (sLen + n) sCap) w2)
    (hgrow : ∀ base sLen sCap old, vs = .slice base sLen sCap → (∀ k, (Builtin.firstCells ye.size sLen (.slice base sLen sCap)).run P (World.drawnTo w k) = .ok old (World.drawnTo w k)) → sCap < sLen + n →
      sLen + n ≤ 4000000 → (sLen + n) * ye.bytes ≤ 4000000 → ∃ c, sLen + n ≤ c ∧ R.run P w = .ok (.slice (some ⟨w.heap.size, 0, none⟩) (sLen + n) c)
        (World.grown w (w.drawn + 1) (.cells (old ++ l.toArray ++ Builtin.zeroCells z.cells (c - (sLen + n))) el))) : SimV P ι h w R v h' := by
  unfold appendN at e
  split at e
  · -- nothing to append
    have hl0 : l = [] := List.eq_nil_of_length_eq_zero (by rw [hlen, Nat.zero_mul])
    subst hl0
    split at e
    · cases hs
      cases e
      exact SimV.ret k (hin none 0 0 w rfl (Nat.le_refl _) (by simp) (fun _ => rfl)) rfl
    · obtain ⟨m, y, cap, hm, rfl, hle, hz, hy⟩ := hs
      cases e
      exact SimV.ret k (hin (some y) _ cap w rfl (by omega) (fun a ha => rfl) (by simp)) ⟨m, y, cap, hm, rfl, hle, hz, hy⟩
    · cases e
  · rename_i n
    have hlen : l.length = (n + 1) * ye.size := hlen
    split at e
    · -- to a nil slice
      rename_i ho
      cases hs
      split at e
      · rename_i hby
        obtain ⟨hb1, hb2⟩ := okBy_ok hby
        obtain ⟨hr, hm, e⟩ := row_inv e
        cases e
        obtain ⟨c, hc, hrun⟩ := hgrow none 0 0 #[] rfl (fun _ => by simp [Builtin.firstCells]) (by omega) (by omega) (by rw [Nat.zero_add]; exact hb2)
        rw [Nat.zero_add] at hrun hc
        have hcs : (#[] ++ l.toArray ++ Builtin.zeroCells z.cells (c - (n + 1))).size = c * ye.size := by
          rw [Array.size_append, Array.size_append, size_zeroCells, hzs]
          simp only [List.size_toArray, hlen]
          show 0 + (n + 1) * ye.size + (c - (n + 1)) * ye.size = c * ye.size
          rw [Nat.zero_add, ← Nat.add_mul]
          congr 1; omega
        refine ⟨_, _, [], _, hrun, ⟨_, _, c, Nam.add_same _ _ _, rfl, hc, by simp, .inr ⟨rfl, ?_⟩⟩, Loc.new_row k hr (w.drawn + 1) (l := l) hnew hm ⟨(Builtin.zeroCells z.cells (c - (n + 1))).toList, by simp⟩⟩
        rw [hcs]
        show 0 + 0 + c * ye.size ≤ c * ye.size
        omega
      · cases e
    · -- to a slice
      rename_i b off len es' zz ho
      obtain ⟨m, y, cap, hm, rfl, hle, hz, hy⟩ := hs
      split at e
      · rename_i el' ro nb d t hb
        split at e
        · rename_i h1 h2 h3 h4 h5 h6
          obtain rfl := Nat.eq_of_beq_eq_true h1
          obtain rfl := Nat.eq_of_beq_eq_true h2
          rw [Nat.ble_eq] at h3
          have h3 : off + len * ye.size ≤ nb := h3
          obtain ⟨hb1, hb2⟩ := okBy_ok h4
          have hr := H.room_iff.1 h5
          obtain ⟨arr, el0, lo, hi, hw, a1, a2, a3, a4, a5⟩ := k.cells (hD b (by simp [blkOf])) hm hb
          have hrd := rdN_ok (ι := ι) (arr := arr) (sh := m.sh) (len * ye.size) off (fun j h1 h2 => a4 j (by omega))
          obtain ⟨nb', d', t', rfl, rfl, hnb, hd', hget⟩ := growN_inv hrd hnew (by simp) a3 e
          have hkn : (killIf zz h b).next = h.next := by cases zz <;> rfl
          rw [hkn]
          have hBs : m.B < w.heap.size := (Array.getElem?_eq_some_iff.1 hw).1
          have hnb : nb' = len * ye.size + (n + 1) * ye.size := by rw [hnb, hlen]; simp
          by_cases hc : len + (n + 1) ≤ cap
          · -- in place
            have hy : y = ⟨m.B, m.sh + off, none⟩ ∧ m.sh + off + cap * ye.size ≤ m.cs := by
              rcases hy with hy | hy
              · omega
              · exact hy
            obtain ⟨rfl, hyc⟩ := hy
            have hzf : zz = false := by
              cases zz
              · rfl
              · have := hz rfl; omega
            subst hzf
            have hro : ro = false := by
              cases ro
              · rfl
              · cases h6
            have hcap : (len + (n + 1)) * ye.size ≤ cap * ye.size := Nat.mul_le_mul_right _ hc
            rw [Nat.add_mul] at hcap
            obtain ⟨hel, hfr⟩ := a5 hro
            rw [hel] at hw
            have hst := run_storeCells_of (P := P) l (m.sh + off + len * ye.size) 0 arr w hw (by omega) (by rw [hlen]; omega) (ones_ok hnew ho)
            refine ⟨_, World.putCells w m.B (layA arr (m.sh + off + len * ye.size + 0) l) el (lo, hi), [b], _, hin _ _ _ _ rfl hc (fun a ha => ?_) (by simp), ?_, Loc.mkMove k hr hb hm _ ⟨m.B, m.sh + off, m.cs⟩ _ (by simp [World.putCells]) (fun i _ hne => ?_) (.inl rfl) (putCells_get hBs) ?_ rfl rfl rfl⟩
            · cases ha
              rw [addr_add]
              exact hst
            · exact ⟨_, _, cap, Nam.add_same _ _ _, rfl, hc, by simp, .inr ⟨rfl, hyc⟩⟩
            · simp only [World.putCells]
              rw [Array.getElem?_setIfInBounds_ne (fun e => hne e.symm)]
            · refine ⟨_, el, lo, hi, rfl, by rw [size_layA]; exact a1, by show m.sh + off + nb' ≤ m.cs; omega, hd', fun i hi => ?_, fun _ => ⟨rfl, hfr⟩⟩
              have := (hget i hi).mono (Nam.le_add ⟨m.B, m.sh + off, m.cs⟩ (k.fresh _ (Nat.le_refl _)))
              rw [getD_layA _ _ _ _ (by show m.sh + off + i < arr.size; omega)]
              have eq : (List.map (fun j => arr.getD (m.sh + off + j) undef) (List.range (len * ye.size)) ++ l).getD i undef =
                  if m.sh + off + len * ye.size + 0 ≤ m.sh + off + i ∧ m.sh + off + i < m.sh + off + len * ye.size + 0 + l.length then l.getD (m.sh + off + i - (m.sh + off + len * ye.size + 0)) undef else arr.getD (m.sh + off + i) undef := by
                rw [List.getD_eq_getElem?_getD, List.getElem?_append]
                simp only [List.length_map, List.length_range]
                by_cases ci : i < len * ye.size
                · rw [if_pos ci, if_neg (by omega)]
                  simp [ci]
                · rw [if_neg ci, if_pos (by omega), show m.sh + off + i - (m.sh + off + len * ye.size + 0) = i - len * ye.size by omega, List.getD_eq_getElem?_getD]
              rw [eq] at this
              exact this
          · -- grown
            have hold : ∀ k, (Builtin.firstCells ye.size len (.slice (some y) len cap)).run P (World.drawnTo w k) = .ok ((List.range (len * ye.size)).map fun j => arr.getD (m.sh + off + j) undef).toArray (World.drawnTo w k) := fun k => by
              simp only [Builtin.firstCells]
              by_cases h0 : len * ye.size = 0
              · rw [h0]; exact rfl
              · have hy : y = ⟨m.B, m.sh + off, none⟩ ∧ m.sh + off + cap * ye.size ≤ m.cs := by
                  rcases hy with hy | hy
                  · exfalso
                    apply h0
                    have : len = 0 := by omega
                    rw [this, Nat.zero_mul]
                  · exact hy
                obtain ⟨rfl, hyc⟩ := hy
                exact run_loadCells_of (by show w.heap[m.B]? = _; exact hw) (by omega)
            obtain ⟨c, hcn, hrun⟩ := hgrow _ _ _ _ rfl hold (by omega) hb1 hb2
            generalize hcells : (((List.range (len * ye.size)).map fun j => arr.getD (m.sh + off + j) undef).toArray ++ l.toArray ++ Builtin.zeroCells z.cells (c - (len + (n + 1)))) = cells at hrun
            have hcs : cells.size = c * ye.size := by
              rw [← hcells, Array.size_append, Array.size_append, size_zeroCells, hzs]
              simp only [List.size_toArray, hlen, List.length_map, List.length_range]
              rw [← Nat.add_mul, ← Nat.add_mul]
              congr 1; omega
            have hcget : ∀ i, i < nb' → VR ι (E.get d' (path d' i) t') (cells.getD i undef) := fun i hi => by
              have := hget i hi
              rw [← hcells, getD_app _ _ (by simp only [Array.size_append, List.size_toArray, List.length_map, List.length_range, hlen]; omega), List.append_toArray, arr_getD]
              exact this
            have hnb2 : nb' ≤ cells.size := by
              rw [hcs, hnb, ← Nat.add_mul]; exact Nat.mul_le_mul_right _ hcn
            have hvr : VR (ι.add h.next ⟨w.heap.size, 0, cells.size⟩) (.slice h.next 0 (len + (n + 1)) ye.size false) (.slice (some ⟨w.heap.size, 0, none⟩) (len + (n + 1)) c) :=
              ⟨_, _, c, Nam.add_same _ _ _, rfl, hcn, by simp, .inr ⟨rfl, by rw [hcs]; show 0 + 0 + c * ye.size ≤ c * ye.size; omega⟩⟩
            cases zz
            · refine ⟨_, _, [b], _, hrun, hvr, Loc.mkMove k hr hb hm _ ⟨w.heap.size, 0, cells.size⟩ _ (by simp [World.grown]) (fun i hi _ => grown_old i hi) (.inr (Nat.le_refl _)) grown_new ?_ rfl rfl rfl⟩
              refine ⟨cells, el, 0, 0, rfl, rfl, by show 0 + nb' ≤ cells.size; omega, hd', fun i hi => ?_, fun _ => ⟨rfl, .inl rfl⟩⟩
              simp only [Nat.zero_add]
              exact (hcget i hi).mono (Nam.le_add _ (k.fresh _ (Nat.le_refl _)))
            · exact ⟨_, _, [], _, hrun, hvr, Loc.new_cells k hr (w.drawn + 1) hnb2 hd' hcget⟩
        · cases e
      · cases e
    · cases e
end
end Go.Proofs.YtlmcadgbnolffaaGreatDoor.Am
