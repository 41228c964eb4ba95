/- The machine's soundness: operations on cells: new rows, loads, stores. -/
import Derived.Test.YtlmcadgbnolffaaGreatDoorAm11
import Derived.Laws.Append
namespace Go.Proofs.YtlmcadgbnolffaaGreatDoor.Am

/-- what an operation comes to -/
def SimV (P : Program) (ι : Nam) (h : H) (w : World) (s : Sem Value) (v : AV) (h' : H) : Prop :=
  ∃ ι' w' W v', s.run P w = .ok v' w' ∧ VR ι' v v' ∧ Loc ι h w ι' h' w' W
def SimU (P : Program) (ι : Nam) (h : H) (w : World) (s : Sem Unit) (h' : H) : Prop :=
  ∃ ι' w' W, s.run P w = .ok () w' ∧ Loc ι h w ι' h' w' W

section
variable {P : Program} {g : G} {ι : Nam} {h h' : H} {w : World} {D : Nat → Prop}

theorem SimV.ret (k : WR ι h w D) {s : Sem Value} {v : AV} {v' : Value} (hr : s.run P w = .ok v' w) (hv : VR ι v v') : SimV P ι h w s v h :=
  ⟨ι, w, [], v', hr, hv, Loc.refl k⟩
theorem SimV.chk (k : WR ι h w D) {s : Sem Value} {x v : AV} {v' : Value} (he : chk x h = .ok v h') (hr : s.run P w = .ok v' w) (hv : VR ι x v') : SimV P ι h w s v h' := by
  obtain ⟨rfl, rfl, _⟩ := chk_ok he
  exact SimV.ret k hr hv

theorem le_dep {n : Nat} (hn : n ≤ 4000000) : n ≤ 4 ^ dep n := by
  unfold dep
  have c : ∀ a b : Nat, Nat.ble a b = true → a ≤ b := fun a b e => by rwa [Nat.ble_eq] at e
  cases h1 : Nat.ble n (nat_lit 4)
  · cases h2 : Nat.ble n (nat_lit 16)
    · cases h3 : Nat.ble n (nat_lit 64)
      · cases h4 : Nat.ble n (nat_lit 256)
        · cases h5 : Nat.ble n (nat_lit 1024)
          · cases h6 : Nat.ble n (nat_lit 4096)
            · cases h7 : Nat.ble n (nat_lit 65536)
              · show n ≤ 4 ^ 11; omega
              · exact c _ _ h7
            · exact c _ _ h6
          · exact c _ _ h5
        · exact c _ _ h4
      · exact c _ _ h3
    · exact c _ _ h2
  · cases h2 : Nat.ble n (nat_lit 1)
    · exact c _ _ h1
    · exact c _ _ h2
theorem row_inv {el : Nat} {cs v : AV} {k : Nat → H → Res} (e : row el cs h k = .ok v h') :
    h.next < 65536 ∧ llen cs ≤ 4000000 ∧ k h.next (h.new (.cells el false (llen cs) (dep (llen cs)) (ofL (dep (llen cs)) cs))) = .ok v h' := by
  unfold row at e
  rw [sN_eq] at e
  unfold rowN at e
  cases h1 : h.room
  · rw [h1] at e; cases e
  · rw [h1] at e
    cases h2 : Nat.ble (llen cs) mxCells
    · rw [h2] at e; cases e
    · rw [h2] at e
      rw [sN_eq] at e
      rw [Nat.ble_eq] at h2
      exact ⟨H.room_iff.1 h1, h2, e⟩
/-- a world with one more block, of which the tape may have moved -/
def World.grown (w : World) (n : Nat) (o : Obj) : World := { w with heap := w.heap.push o, drawn := n }
theorem grown_old {n : Nat} {o : Obj} (i : Nat) (hi : i < w.heap.size) : (World.grown w n o).heap[i]? = w.heap[i]? := by
  simp [World.grown, Array.getElem?_push, Nat.ne_of_lt hi]
theorem grown_new {n : Nat} {o : Obj} : (World.grown w n o).heap[w.heap.size]? = some o := by
  simp [World.grown]
theorem Loc.new_cells (k : WR ι h w D) (hr : h.next < 65536) {el nb d : Nat} {t : E AV d} {cells : Array Value} (n : Nat) (hn : nb ≤ cells.size) (hd : nb ≤ 4 ^ d)
    (hc : ∀ i, i < nb → VR ι (E.get d (path d i) t) (cells.getD i undef)) :
    Loc ι h w (ι.add h.next ⟨w.heap.size, 0, cells.size⟩) (h.new (.cells el false nb d t)) (World.grown w n (.cells cells el)) [] := by
  refine Loc.mkNew k hr _ ⟨w.heap.size, 0, cells.size⟩ (.cells cells el) (by simp [World.grown]) grown_old (Nat.le_refl _) grown_new ?_ rfl rfl rfl
  refine ⟨cells, el, 0, 0, rfl, rfl, by simpa using hn, hd, fun i hi => ?_, fun _ => ⟨rfl, .inl rfl⟩⟩
  have := hc i hi
  simp only [Nat.zero_add]
  exact this.mono (Nam.le_add _ (k.fresh _ (Nat.le_refl _)))
theorem Loc.new_row (k : WR ι h w D) (hr : h.next < 65536) {el : Nat} {cs : AV} {l : List Value} {cells : Array Value} (n : Nat) (hl : VRs ι cs l) (hm : llen cs ≤ 4000000) (hp : ∃ r, cells.toList = l ++ r) :
    Loc ι h w (ι.add h.next ⟨w.heap.size, 0, cells.size⟩) (h.new (.cells el false (llen cs) (dep (llen cs)) (ofL (dep (llen cs)) cs))) (World.grown w n (.cells cells el)) [] := by
  obtain ⟨r, hp⟩ := hp
  have hlen := llen_ok hl
  have hs : cells.size = l.length + r.length := by rw [← Array.length_toList, hp, List.length_append]
  refine Loc.new_cells k hr n (by omega) (le_dep hm) fun i hi => ?_
  rw [ofL, wrL_get (llen cs) (le_dep hm) hl 0 i _ (by omega) hi, if_pos (by omega)]
  have := lnth_ok hl i
  rw [Nat.sub_zero]
  have e : cells.getD i undef = l.getD i undef := by
    rw [Array.getD_eq_getD_getElem?, ← Array.getElem?_toList, hp, List.getElem?_append_left (by omega), List.getD_eq_getElem?_getD]
  rw [e]; exact this
theorem run_newRow (el : TypeId) (cells : Array Value) (w : World) : (newRow el cells).run P w = .ok ⟨w.heap.size, 0, none⟩ (World.grown w w.drawn (.cells cells el)) := by
  simp [newRow, World.grown]
theorem ptr_new {m : Nm} (b : m.sh = 0) : VR (ι.add h.next m) (.ptr h.next 0) (.pointer (some ⟨m.B, 0, none⟩)) :=
  ⟨m, Nam.add_same _ _ _, by rw [b]⟩

/-! ### loads -/
theorem withC_inv {b : Nat} {f : (el : Nat) → Bool → (n d : Nat) → E AV d → Res} {v : AV} (e : withC h b f = .ok v h') : ∃ el ro n d t, h.get b = some (.cells el ro n d t) ∧ f el ro n d t = .ok v h' := by
  unfold withC at e
  cases hb : h.get b with
  | none => rw [hb] at e; cases e
  | some x =>
    rw [hb] at e
    cases x <;> first | (cases e; done) | exact ⟨_, _, _, _, _, rfl, e⟩
theorem onP_inv {f : H → Nat → Nat → Res} {a v : AV} (e : onP f a h = .ok v h') : ∃ b o, a = .ptr b o ∧ f h b o = .ok v h' := by
  unfold onP at e
  cases ha : toP a with
  | none => rw [ha] at e; cases e
  | «at» b o => rw [ha] at e; exact ⟨b, o, toP_at ha, e⟩
/-- a block that is named, and live, lies below the next -/
theorem WR.lt (k : WR ι h w D) {b : Nat} {m : Nm} (e : ι b = some m) : b < h.next := by
  rcases Nat.lt_or_ge b h.next with c | c
  · exact c
  · rw [k.fresh b c] at e; cases e
theorem WR.cells (k : WR ι h w D) {b : Nat} (hD : D b) {m : Nm} (e : ι b = some m) {el : Nat} {ro : Bool} {n d : Nat} {t : E AV d} (hb : h.get b = some (.cells el ro n d t)) :
    ∃ arr el' lo hi, w.heap[m.B]? = some (.cells arr el' (lo, hi)) ∧ arr.size = m.cs ∧ m.sh + n ≤ m.cs ∧ n ≤ 4 ^ d ∧
      (∀ i, i < n → VR ι (E.get d (path d i) t) (arr.getD (m.sh + i) undef)) ∧ (ro = false → el' = el ∧ (lo = hi ∨ m.cs ≤ lo)) := by
  obtain ⟨m', o, h1, h2, h3⟩ := k.blk b _ hD (k.lt e) hb
  rw [e] at h1; cases h1
  obtain ⟨arr, el', lo, hi, rfl, r⟩ := h3
  exact ⟨arr, el', lo, hi, h2, r⟩
theorem load_ok (hg : GOk P g) (k : WR ι h w D) {t : TypeId} {y : Ty} (ht : g.ty t = some y) {a v : AV} {va : Value} (ha : VR ι a va) (hD : ∀ b ∈ blkOf a, D b)
    (e : (loadA y.agg y.size).f a h = .ok v h') : SimV P ι h w (Instr.loadAt t va) v h' := by
  obtain ⟨hd, hag, i, z, hi, hs, _, _, _⟩ := hg.ty _ _ ht
  cases hy : y.agg
  · rw [hy] at e
    have e : onP load1 a h = .ok v h' := e
    obtain ⟨b, o, rfl, e⟩ := onP_inv e
    obtain ⟨m, hm, rfl⟩ := ha
    obtain ⟨el, ro, n, d, tr, hb, e⟩ := withC_inv e
    obtain ⟨arr, el', lo, hi', hw, h1, h2, _, h4, _⟩ := k.cells (hD b (by simp [blkOf])) hm hb
    cases hlt : Nat.ble (Nat.succ o) n
    · rw [hlt] at e; cases e
    · rw [hlt] at e
      rw [Nat.ble_eq] at hlt
      have hlt : o < n := hlt
      refine SimV.chk k e ?_ (h4 o hlt)
      simp only [Instr.loadAt, Instr.sureAddr, Sem.run_bind, Sem.run_pure, Result.andThen_ok, loadVar, run_ia hd, ← hag, hy, Bool.false_eq_true, if_false]
      exact run_load_of hw (by omega)
  · rw [hy] at e
    have e : onP (loadN y.size) a h = .ok v h' := e
    obtain ⟨b, o, rfl, e⟩ := onP_inv e
    obtain ⟨m, hm, rfl⟩ := ha
    obtain ⟨el, ro, n, d, tr, hb, e⟩ := withC_inv e
    obtain ⟨arr, el', lo, hi', hw, h1, h2, _, h4, _⟩ := k.cells (hD b (by simp [blkOf])) hm hb
    cases hlt : Nat.ble (Nat.add o y.size) n
    · rw [hlt] at e; cases e
    · rw [hlt] at e
      rw [Nat.ble_eq] at hlt
      have hlt : o + y.size ≤ n := hlt
      cases e
      refine SimV.ret k (v' := .agg (((List.range y.size).map fun j => arr.getD (m.sh + o + j) undef).toArray)) ?_ ⟨_, rfl, ?_⟩
      · simp only [Instr.loadAt, Instr.sureAddr, Sem.run_bind, Sem.run_pure, Result.andThen_ok, loadVar, run_ia hd, ← hag, hy, if_true, run_so hi, hs]
        rw [run_loadCells_of hw (by omega)]
        rfl
      · exact rdN_ok y.size o fun j h1 h2 => h4 j (by omega)
end
end Go.Proofs.YtlmcadgbnolffaaGreatDoor.Am
