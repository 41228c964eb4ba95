/- The machine's soundness: aggregates built; parts; places. -/
import Derived.Test.YtlmcadgbnolffaaGreatDoorAm13
namespace Go.Proofs.YtlmcadgbnolffaaGreatDoor.Am

theorem layA_eq : ∀ (l : List Value) (arr : Array Value) (o : Nat), o + l.length ≤ arr.size → (layA arr o l).toList = arr.toList.take o ++ l ++ arr.toList.drop (o + l.length) := by
  intro l arr o ho
  apply List.ext_getElem?
  intro i
  have hs : (layA arr o l).size = arr.size := size_layA _ _ _
  have hsl : arr.toList.length = arr.size := by simp
  rcases Nat.lt_or_ge i arr.size with hi | hi
  · have h1 : (layA arr o l).toList[i]? = some ((layA arr o l).getD i undef) := by
      rw [Array.getElem?_toList, Array.getD_eq_getD_getElem?, Array.getElem?_eq_getElem (by omega)]; rfl
    rw [h1, getD_layA o i l arr hi]
    have hta : (arr.toList.take o).length = o := by rw [List.length_take]; omega
    by_cases h2 : o ≤ i ∧ i < o + l.length
    · rw [if_pos h2, List.getElem?_append_left (by rw [List.length_append, hta]; omega), List.getElem?_append_right (by omega), hta, List.getD_eq_getElem?_getD, List.getElem?_eq_getElem (by omega)]
      rfl
    · rw [if_neg h2]
      have h3 : arr[i]? = some (arr.getD i undef) := by
        rw [Array.getD_eq_getD_getElem?, Array.getElem?_eq_getElem hi]; rfl
      rcases Nat.lt_or_ge i o with h4 | h4
      · rw [List.append_assoc, List.getElem?_append_left (by omega), List.getElem?_take_of_lt h4, Array.getElem?_toList, h3]
      · rw [List.getElem?_append_right (by rw [List.length_append, hta]; omega), List.length_append, hta, List.getElem?_drop, Array.getElem?_toList, show o + l.length + (i - (o + l.length)) = i by omega, h3]
  · rw [List.getElem?_eq_none (by simp; omega), List.getElem?_eq_none]
    simp only [List.length_append, List.length_take, List.length_drop]
    omega
theorem foldl_layA (o : Nat) : ∀ (l : List Value) (j : Nat) (arr : Array Value), (l.zipIdx j).foldl (fun cs (c, i) => cs.setIfInBounds (o + i) c) arr = layA arr (o + j) l
  | [], _, _ => rfl
  | v :: r, j, arr => by
    rw [List.zipIdx_cons, List.foldl_cons, foldl_layA o r (j + 1)]
    rfl
section
variable {P : Program} {g : G} {ι : Nam} {h h' : H} {w : World} {D : Nat → Prop}
theorem overL_ok {cs v : AV} {off : Nat} {arr : Array Value} {l : List Value} (hc : VRs ι cs arr.toList) (hv : VRs ι v l) (ho : off + l.length ≤ arr.size) : VRs ι (overL cs off v) (layA arr off l).toList := by
  rw [layA_eq l arr off ho]
  unfold overL
  rw [List.append_assoc]
  have hl := llen_ok hv
  refine lapp_ok (ltake_ok hc off) (lapp_ok hv ?_)
  rw [← hl]
  exact ldrop_ok hc _
theorem fill_ok {n : Nat} {en : Env} {a : Go.Act} (hE : EnvR ι n en a.tmps) (hG : GI ι) {pl : Nat → Option (Nat × Nat)} : ∀ (ps : List (Nat × Operand)) (cs : AV) (arr : Array Value),
    (ps.all fun p => opndOk n p.2) = true → VRs ι cs arr.toList → isL (fillA pl en ps cs) = true →
    ∃ arr', Instr.fill pl arr (ps.map fun p => (p.1, a.eval p.2)) = some arr' ∧ VRs ι (fillA pl en ps cs) arr'.toList
  | [], cs, arr, _, hc, _ => ⟨arr, rfl, hc⟩
  | (i, x) :: r, cs, arr, hp, hc, hL => by
    simp only [List.all_cons, Bool.and_eq_true] at hp
    have e : fillA pl en ((i, x) :: r) cs = match pl i with
      | some (off, size) => match Nat.beq (llen (cellsOf ((ev x).f en))) size, Nat.ble (Nat.add off size) (llen cs), notB (Nat.beq size (nat_lit 0)) with
        | true, true, true => fillA pl en r (overL cs off (cellsOf ((ev x).f en)))
        | _, _, _ => .bad
      | none => .bad := rfl
    rw [e] at hL ⊢
    split at hL
    · rename_i off size hpl
      split at hL
      · rename_i h1 h2 h3
        have h1 := Nat.eq_of_beq_eq_true h1
        rw [Nat.ble_eq] at h2
        rw [notB_eq] at h3
        obtain ⟨l, hl, hlx⟩ := cellsOf_ok (ev_ok hE hG x hp.1)
        have hlen := llen_ok hl
        have hcl := llen_ok hc
        have hsz : size ≠ 0 := fun c => by rw [c] at h3; cases h3
        have h2 : off + size ≤ llen cs := h2
        rcases hlx with hlx | hlx
        · have hcz : (a.eval x).cells.size = size := by rw [← Array.length_toList, ← hlx]; omega
          have ho : off + l.length ≤ arr.size := by rw [← Array.length_toList]; omega
          obtain ⟨arr', h4, h5⟩ := fill_ok hE hG (pl := pl) r (overL cs off (cellsOf ((ev x).f en))) (layA arr off l) hp.2 (overL_ok hc hl ho) hL
          refine ⟨arr', ?_, h5⟩
          rw [List.map_cons, Instr.fill, hpl]
          simp only
          rw [if_neg (by rw [hcz]; simp; rw [← Array.length_toList]; omega)]
          have : (a.eval x).cells.zipIdx.foldl (fun cs (c, j) => cs.setIfInBounds (off + j) c) arr = layA arr off l := by
            rw [← Array.foldl_toList, Array.toList_zipIdx, ← hlx]
            exact foldl_layA off l 0 arr
          rw [this]; exact h4
        · rw [hlx] at hlen; simp at hlen; omega
      · cases hL
    · cases hL

theorem flat_get (z : List Value) : ∀ (m i : Nat), i < m * z.length → ((List.replicate m z).flatten)[i]? = z[i % z.length]?
  | 0, i, hi => by simp at hi
  | m + 1, i, hi => by
    rw [List.replicate_succ, List.flatten_cons]
    rcases Nat.lt_or_ge i z.length with c | c
    · rw [List.getElem?_append_left c, Nat.mod_eq_of_lt c]
    · rw [List.getElem?_append_right c, flat_get z m (i - z.length) (by rw [Nat.add_mul] at hi; omega)]
      rw [← Nat.mod_eq_sub_mod c]
theorem flat_len (z : List Value) (m : Nat) : ((List.replicate m z).flatten).length = m * z.length := by
  rw [List.length_flatten]; simp
theorem rep_eq (zero : Array Value) (m n : Nat) (hn : n = m * zero.size) : ((Array.range n).map (fun i => zero[i % zero.size]!)).toList = (List.replicate m zero.toList).flatten := by
  apply List.ext_getElem?
  intro i
  rcases Nat.lt_or_ge i n with c | c
  · have hz : 0 < zero.size := by
      rcases Nat.eq_zero_or_pos zero.size with e | e
      · rw [e] at hn; omega
      · exact e
    rw [flat_get _ _ _ (by rw [Array.length_toList]; omega), Array.length_toList, Array.getElem?_toList]
    have hm : i % zero.size < zero.size := Nat.mod_lt _ hz
    rw [Array.getElem?_toList, Array.getElem?_map, Array.getElem?_range, if_pos c]
    simp [hm]
  · rw [List.getElem?_eq_none (by simp; omega), List.getElem?_eq_none (by rw [flat_len, Array.length_toList]; omega)]
theorem repL_zero (hg : GOk P g) {t : TypeId} {y : Ty} (ht : g.ty t = some y) (m : Nat) : ∃ i z, P.info? t = some i ∧ i.size = y.size ∧ i.bytes = y.bytes ∧ i.zero = some z ∧ z.cells.size = y.size ∧
    VRs ι (repL y.zero m) ((Array.range (m * y.size)).map (fun i => z.cells[i % z.cells.size]!)).toList := by
  obtain ⟨_, _, i, z, hi, hs, hb, hz, hzv, hzs, _⟩ := hg.ty _ _ ht
  refine ⟨i, z, hi, hs, hb, hz, hzs, ?_⟩
  rw [rep_eq z.cells m _ (by rw [hzs]), hzv]
  exact repL_ok (ofVs_ok ι _) m
theorem run_mapM_places (hg : GOk P g) (w : World) : ∀ (fs : List Field), (fs.all fun f => (g.ty f.type).isSome) = true →
    (fs.mapM fun f => do pure (f.offset, ← sizeOf f.type) : Sem (List (Nat × Nat))).run P w = .ok (fs.map fun f => (f.offset, match g.ty f.type with | some z => z.size | none => 0)) w
  | [], _ => rfl
  | f :: r, hf => by
    simp only [List.all_cons, Bool.and_eq_true] at hf
    obtain ⟨y, hy⟩ := Option.isSome_iff_exists.1 hf.1
    obtain ⟨_, _, i, z, hi, hs, _⟩ := hg.ty _ _ hy
    rw [List.mapM_cons]
    simp only [Sem.run_bind, run_so hi, Result.andThen_ok, Sem.run_pure, run_mapM_places hg w r hf.2, List.map_cons, hy, hs]
theorem build_ok (hg : GOk P g) (k : WR ι h w D) {n : Nat} {en : Env} {a : Go.Act} (hE : EnvR ι n en a.tmps) (hG : GI ι) {t : TypeId} {y : Ty} (ht : g.ty t = some y) {ps : Array (Nat × Operand)} {v : AV}
    (hp : (ps.toList.all fun p => opndOk n p.2) = true) (hpl : placesOk g y.desc = true)
    (e : buildOk (fillA (placesOf g y) en ps.toList y.zero) h = .ok v h') : SimV P ι h w (Instr.build t (ps.map fun p => (p.1, a.eval p.2))) v h' := by
  obtain ⟨hd, hag, i, z, hi, hs, _, hz, hzv, _⟩ := hg.ty _ _ ht
  unfold buildOk at e
  split at e
  · rename_i hL
    cases e
    obtain ⟨arr', h1, h2⟩ := fill_ok hE hG (pl := placesOf g y) ps.toList y.zero z.cells hp (by rw [hzv]; exact ofVs_ok ι _) hL
    refine SimV.ret k (v' := .agg arr') ?_ ⟨_, rfl, h2⟩
    simp only [Instr.build, Sem.run_bind, run_zv hi hz, Result.andThen_ok, run_und hd, Array.toList_map]
    cases hdd : y.desc with
    | struct fs =>
      rw [hdd] at hpl
      simp only
      have hm := run_mapM_places hg w fs.toList hpl
      have hma : (fs.mapM fun f => do pure (f.offset, ← sizeOf f.type) : Sem (Array (Nat × Nat))).run P w = .ok (fs.map fun f => (f.offset, match g.ty f.type with | some z => z.size | none => 0)) w := by
        rw [Array.mapM_eq_mapM_toList]
        rw [map_eq_pure_bind]
        simp only [Sem.run_bind, hm, Result.andThen_ok, Sem.run_pure]
        congr 1
        apply Array.ext'
        simp
      simp only [Sem.run_bind, hma, Result.andThen_ok]
      have hplace : placesOf g y = fun i => (fs.map fun f => (f.offset, match g.ty f.type with | some z => z.size | none => 0))[i]? := by
        funext i
        unfold placesOf
        rw [hdd]
        simp only [Array.getElem?_map]
        cases hfi : fs[i]? with
        | none => rfl
        | some fd =>
          have hmem : fd ∈ fs.toList := by
            rw [← Array.getElem?_toList] at hfi
            exact List.mem_of_getElem? hfi
          have := List.all_eq_true.1 hpl fd hmem
          obtain ⟨y', hy'⟩ := Option.isSome_iff_exists.1 this
          simp [hy']
      rw [← hplace, h1]
      rfl
    | array len el =>
      rw [hdd] at hpl
      obtain ⟨y', hy'⟩ := Option.isSome_iff_exists.1 hpl
      obtain ⟨_, _, i', z', hi', hs', _⟩ := hg.ty _ _ hy'
      simp only [Sem.run_bind, run_so hi', Result.andThen_ok]
      have hplace : placesOf g y = fun i => some (i * i'.size, i'.size) := by
        funext i
        unfold placesOf
        rw [hdd]
        simp only [hy', hs']
        rfl
      rw [← hplace, h1]
      rfl
    | _ => rw [hdd] at hpl; cases hpl
  · cases e
theorem fields_ok (hg : GOk P g) (k : WR ι h w D) {s : TypeId} {y yf : Ty} {fs : Array Field} {f : Nat} {fd : Field} (hs : g.ty s = some y) (hd : y.desc = .struct fs) (hf : fs[f]? = some fd) (hy : g.ty fd.type = some yf)
    {cs v : AV} {vx : Value} (hx : VR ι (.agg cs) vx) (e : partA yf.agg yf.size fd.offset cs h = .ok v h') : SimV P ι h w (Instr.field s vx f) v h' := by
  obtain ⟨xs, rfl, hxs⟩ := hx
  obtain ⟨ι', w', W, v', h1, h2⟩ := part_ok hg k hy hxs e
  refine ⟨ι', w', W, v', ?_, h2⟩
  simp only [Instr.field, Sem.run_bind, run_und (hg.ty _ _ hs).1, hd, Result.andThen_ok, hf, asAgg, Sem.run_pure, h1]
theorem fieldAddr_ok (hg : GOk P g) (k : WR ι h w D) {s : TypeId} {y yf : Ty} {fs : Array Field} {f : Nat} {fd : Field} (hs : g.ty s = some y) (hd : y.desc = .struct fs) (hf : fs[f]? = some fd) (hy : g.ty fd.type = some yf) (hz : yf.size ≠ 0)
    {x v : AV} {vx : Value} (hx : VR ι x vx) (e : onP (fieldA fd.offset) x h = .ok v h') : SimV P ι h w (Instr.fieldAt s vx f) v h' := by
  obtain ⟨b, o, rfl, e⟩ := onP_inv e
  cases e
  obtain ⟨m, hm, rfl⟩ := hx
  obtain ⟨_, _, i, z, hi, hsz, _⟩ := hg.ty _ _ hy
  refine SimV.ret k (v' := .pointer (some ⟨m.B, m.sh + (o + fd.offset), none⟩)) ?_ ⟨m, hm, rfl⟩
  simp only [Instr.fieldAt, Sem.run_bind, run_und (hg.ty _ _ hs).1, hd, Result.andThen_ok, hf, Instr.sureAddr, Sem.run_pure, fieldPlace, run_so hi, hsz]
  rw [if_neg hz]
  simp only [Sem.run_pure, Result.andThen_ok, addr_add, Nat.add_assoc]
end
end Go.Proofs.YtlmcadgbnolffaaGreatDoor.Am
