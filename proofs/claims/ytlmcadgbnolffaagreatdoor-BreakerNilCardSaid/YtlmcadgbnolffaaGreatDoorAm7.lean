/- The machine's soundness, second part: slots, heaps: what is laid is what is read. -/
import Derived.Test.YtlmcadgbnolffaaGreatDoorAm6
import Derived.KernelRfl
namespace Go.Proofs.YtlmcadgbnolffaaGreatDoor.Am

theorem gT_all (e : Env) : (List.range 256).map (fun i => (gT i).f e) = (List.range 256).map (fun i => E.get 4 (path 4 i) e) := by kernel_rfl
theorem pT_all (v : AV) (e : Env) : (List.range 256).map (fun i => (pT i).f v e) = (List.range 256).map (fun i => E.put v 4 (path 4 i) e) := by kernel_rfl
theorem gT_eq {i : Nat} (hi : i < 256) (e : Env) : (gT i).f e = E.get 4 (path 4 i) e := by
  have := congrArg (fun l => l[i]?) (gT_all e)
  simpa [List.getElem?_map, List.getElem?_range hi] using this
theorem pT_eq {i : Nat} (hi : i < 256) (v : AV) (e : Env) : (pT i).f v e = E.put v 4 (path 4 i) e := by
  have := congrArg (fun l => l[i]?) (pT_all v e)
  simpa [List.getElem?_map, List.getElem?_range hi] using this
theorem gT_pT_same {i : Nat} (hi : i < 256) (v : AV) (e : Env) : (gT i).f ((pT i).f v e) = v := by
  rw [gT_eq hi, pT_eq hi, E.get_put_same]
theorem gT_pT_ne {i j : Nat} (hi : i < 256) (hj : j < 256) (h : i ≠ j) (v : AV) (e : Env) : (gT j).f ((pT i).f v e) = (gT j).f e := by
  rw [gT_eq hj, pT_eq hi, E.get_put_ne v 4 i j hi hj h, gT_eq hj]
theorem gT_env0 {i : Nat} (hi : i < 256) : (gT i).f env0 = .bad := by
  rw [gT_eq hi]; exact E.get_rep _ _ _

theorem EnvR.put {ι : Nam} {n : Nat} {en : Env} {tmps : Array Value} (h : EnvR ι n en tmps) {d : Nat} (hd : d < n) {v : AV} {x : Value} (hv : VR ι v x) :
    EnvR ι n ((pT d).f v en) (tmps.setIfInBounds d x) := by
  refine ⟨by simpa using h.size, h.most, fun i hi => ?_, fun i h1 h2 => by rw [gT_pT_ne (Nat.lt_of_lt_of_le hd h.most) h2 (by omega)]; exact h.rest i h1 h2⟩
  by_cases e : d = i
  · subst e
    rw [gT_pT_same (Nat.lt_of_lt_of_le hd h.most)]
    have : d < tmps.size := by rw [h.size]; exact hd
    simpa [Array.getD_eq_getD_getElem?, this] using hv
  · rw [gT_pT_ne (Nat.lt_of_lt_of_le hd h.most) (Nat.lt_of_lt_of_le hi h.most) e]
    have := h.at_ i hi
    rw [Array.getD_eq_getD_getElem?] at this ⊢
    rwa [Array.getElem?_setIfInBounds_ne e]

/-! ### heaps -/
theorem H.get_new {h : H} {x : Blk} {b : Nat} (hn : h.next < 65536) (hb : b < 65536) : (h.new x).get b = if b = h.next then some x else h.get b := by
  unfold H.get H.new
  split
  · rename_i e; subst e; exact E.get_put_same _ _ _ _
  · rename_i e; exact E.get_put_ne _ 8 _ _ hn hb (fun e' => e e'.symm) _
theorem H.get_set {h : H} {x : Blk} {a b : Nat} (ha : a < 65536) (hb : b < 65536) : (h.set a x).get b = if b = a then some x else h.get b := by
  unfold H.get H.set
  split
  · rename_i e; subst e; exact E.get_put_same _ _ _ _
  · rename_i e; exact E.get_put_ne _ 8 _ _ ha hb (fun e' => e e'.symm) _
theorem H.get_kill {h : H} {a b : Nat} (ha : a < 65536) (hb : b < 65536) : (h.kill a).get b = if b = a then none else h.get b := by
  unfold H.get H.kill
  split
  · rename_i e; subst e; exact E.get_put_same _ _ _ _
  · rename_i e; exact E.get_put_ne _ 8 _ _ ha hb (fun e' => e e'.symm) _
theorem H.room_iff {h : H} : h.room = true ↔ h.next < 65536 := by
  unfold H.room; rw [Nat.ble_eq]; exact Iff.rfl

/-- what one step does, with what it touches as it should be -/
structure Loc (ι : Nam) (h : H) (w : World) (ι' : Nam) (h' : H) (w' : World) (W : List Nat) : Prop extends Ext ι h w ι' h' w' W where
  most : h'.next ≤ 65536
  fresh : ∀ b, h'.next ≤ b → ι' b = none
  blk : ∀ b x, (b ∈ W ∨ h.next ≤ b) → b < h'.next → h'.get b = some x → ∃ m o, ι' b = some m ∧ w'.heap[m.B]? = some o ∧ BR ι' x o m
  inj1 : ∀ b x m, h.next ≤ b → b < h'.next → h'.get b = some x → ι' b = some m → w.heap.size ≤ m.B ∨ ∃ b0 ∈ W, ∃ m0, ι b0 = some m0 ∧ m0.B = m.B ∧ h'.get b0 = none
  inj2 : ∀ b b' x x' m m', h.next ≤ b → h.next ≤ b' → b < h'.next → b' < h'.next → h'.get b = some x → h'.get b' = some x' → ι' b = some m → ι' b' = some m' → m.B = m'.B → b = b'
theorem Loc.wr {ι ι' : Nam} {h h' : H} {w w' : World} {W : List Nat} (e : Loc ι h w ι' h' w' W) (k : WR ι h w) : WR ι' h' w' where
  most := e.most
  fresh := e.fresh
  blk b x _ hbn hx := by
    by_cases hb : b ∈ W ∨ h.next ≤ b
    · exact e.blk b x hb hbn hx
    · have hbW : b ∉ W := fun c => hb (.inl c)
      have hlt : b < h.next := by omega
      rw [e.kept b hlt hbW] at hx
      obtain ⟨m, o, h1, h2, h3⟩ := k.blk b x trivial hlt hx
      have hsz : m.B < w.heap.size := (Array.getElem?_eq_some_iff.1 h2).1
      refine ⟨m, o, by rw [e.nam b hlt]; exact h1, ?_, h3.mono (e.toExt.le k.fresh)⟩
      rw [e.heap m.B hsz, h2]
      intro b1 hb1 m1 hm1 hB
      have hlt1 : b1 < h.next := by
        rcases Nat.lt_or_ge b1 h.next with c | c
        · exact c
        · rw [k.fresh b1 c] at hm1; cases hm1
      obtain ⟨x1, hx1⟩ := e.live b1 hb1 hlt1
      have := k.inj b1 b x1 x m1 m trivial trivial hlt1 hlt hx1 hx hm1 h1 hB
      exact hbW (this ▸ hb1)
  inj b b' x x' m m' _ _ hbn hbn' hx hx' hm hm' hB := by
    -- a block that was there, and lives on
    have old : ∀ b x m, b < h.next → h'.get b = some x → ι' b = some m → (∃ y, h.get b = some y) ∧ ι b = some m := fun b x m hlt hx hm => by
      refine ⟨?_, by rw [← e.nam b hlt]; exact hm⟩
      by_cases hbW : b ∈ W
      · exact e.live b hbW hlt
      · exact ⟨x, by rw [← e.kept b hlt hbW]; exact hx⟩
    have sz : ∀ b y m, b < h.next → h.get b = some y → ι b = some m → m.B < w.heap.size := fun b y m hlt hy hm => by
      obtain ⟨m1, o, h1, h2, _⟩ := k.blk b y trivial hlt hy
      rw [hm] at h1; cases h1
      exact (Array.getElem?_eq_some_iff.1 h2).1
    have mix : ∀ b b' x x' m m', b < h.next → h.next ≤ b' → b' < h'.next → h'.get b = some x → h'.get b' = some x' → ι' b = some m → ι' b' = some m' → m.B ≠ m'.B := fun b b' x x' m m' hlt hge hbn' hx hx' hm hm' hB => by
      obtain ⟨⟨y, hy⟩, hm0⟩ := old b x m hlt hx hm
      have h1 := sz b y m hlt hy hm0
      rcases e.inj1 b' x' m' hge hbn' hx' hm' with h2 | ⟨b0, hb0, m0, hm0', hB0, hdead⟩
      · omega
      · have hlt0 : b0 < h.next := by
          rcases Nat.lt_or_ge b0 h.next with c | c
          · exact c
          · rw [k.fresh b0 c] at hm0'; cases hm0'
        obtain ⟨y0, hy0⟩ := e.live b0 hb0 hlt0
        have := k.inj b b0 y y0 m m0 trivial trivial hlt hlt0 hy hy0 hm0 hm0' (hB.trans hB0.symm)
        subst this
        rw [hdead] at hx; cases hx
    rcases Nat.lt_or_ge b h.next with hlt | hge <;> rcases Nat.lt_or_ge b' h.next with hlt' | hge'
    · obtain ⟨⟨y, hy⟩, hm0⟩ := old b x m hlt hx hm
      obtain ⟨⟨y', hy'⟩, hm0'⟩ := old b' x' m' hlt' hx' hm'
      exact k.inj b b' y y' m m' trivial trivial hlt hlt' hy hy' hm0 hm0' hB
    · exact absurd hB (mix b b' x x' m m' hlt hge' hbn' hx hx' hm hm')
    · exact absurd hB.symm (mix b' b x' x m' m hlt' hge hbn hx' hx hm' hm)
    · exact e.inj2 b b' x x' m m' hge hge' hbn hbn' hx hx' hm hm' hB

theorem Loc.refl {ι : Nam} {h : H} {w : World} {D : Nat → Prop} (k : WR ι h w D) : Loc ι h w ι h w [] where
  toExt := Ext.refl ι h w k.fresh
  most := k.most
  fresh := k.fresh
  blk b x hb hbn _ := by
    rcases hb with hb | hb
    · cases hb
    · omega
  inj1 b x m hb hbn := by omega
  inj2 b b' x x' m m' hb _ hbn := by omega

/-- a world of which only the tape's count has moved -/
def World.drawnTo (w : World) (n : Nat) : World := { w with drawn := n }
theorem Loc.draw {ι : Nam} {h : H} {w : World} {D : Nat → Prop} (k : WR ι h w D) (n : Nat) : Loc ι h w ι h (World.drawnTo w n) [] where
  toExt := { Ext.refl ι h w k.fresh with heap := fun _ _ _ => rfl, size := Nat.le_refl _, new := fun b m hb e => (by rw [k.fresh b hb] at e; cases e), os := rfl, tape := rfl, out := rfl }
  most := k.most
  fresh := k.fresh
  blk b x hb hbn _ := by
    rcases hb with hb | hb
    · cases hb
    · omega
  inj1 b x m hb hbn := by omega
  inj2 b b' x x' m m' hb _ hbn := by omega

/-- one name more -/
def Nam.add (ι : Nam) (b : Nat) (m : Nm) : Nam := fun x => if x = b then some m else ι x
theorem Nam.add_same (ι : Nam) (b : Nat) (m : Nm) : ι.add b m b = some m := by simp [Nam.add]
theorem Nam.add_ne (ι : Nam) {b x : Nat} (m : Nm) (h : x ≠ b) : ι.add b m x = ι x := by simp [Nam.add, h]
theorem Nam.le_add {ι : Nam} {b : Nat} (m : Nm) (h : ι b = none) : ι.le (ι.add b m) := fun x y e => by
  by_cases hx : x = b
  · subst hx; rw [h] at e; cases e
  · rw [Nam.add_ne ι m hx]; exact e

/-- a new block -/
theorem Loc.mkNew {ι : Nam} {h : H} {w w' : World} {D : Nat → Prop} (k : WR ι h w D) (hr : h.next < 65536) (x : Blk) (m : Nm) (o : Obj)
    (hsz : w.heap.size ≤ w'.heap.size) (hold : ∀ i, i < w.heap.size → w'.heap[i]? = w.heap[i]?) (hB : w.heap.size ≤ m.B) (ho : w'.heap[m.B]? = some o)
    (hbr : BR (ι.add h.next m) x o m) (hos : w'.os = w.os) (htape : w'.tape = w.tape) (hout : w'.output = w.output) :
    Loc ι h w (ι.add h.next m) (h.new x) w' [] where
  next := Nat.le_succ _
  nam b hb := Nam.add_ne ι m (by omega)
  log := rfl
  ln := rfl
  kept b hb _ := by rw [H.get_new hr (by omega), if_neg (by omega)]
  live b hb := by cases hb
  size := hsz
  heap i hi _ := hold i hi
  new b m' hb e := by
    by_cases hx : b = h.next
    · subst hx; rw [Nam.add_same] at e; cases e; exact .inl hB
    · rw [Nam.add_ne ι m hx, k.fresh b hb] at e; cases e
  os := hos
  tape := htape
  out := hout
  most := hr
  fresh b hb := by
    have hb' : h.next + 1 ≤ b := hb
    rw [Nam.add_ne ι m (by omega)]; exact k.fresh b (by omega)
  blk b y hb hbn hy := by
    rcases hb with hb | hb
    · cases hb
    · have hbn' : b < h.next + 1 := hbn
      obtain rfl : b = h.next := by omega
      rw [H.get_new hr hr, if_pos rfl] at hy
      cases hy
      exact ⟨m, o, Nam.add_same _ _ _, ho, hbr⟩
  inj1 b y m' hb hbn _ hm := by
    have hbn' : b < h.next + 1 := hbn
    obtain rfl : b = h.next := by omega
    rw [Nam.add_same] at hm; cases hm; exact .inl hB
  inj2 b b' y y' m1 m2 hb hb' hbn hbn' _ _ _ _ _ := by
    have h1 : b < h.next + 1 := hbn
    have h2 : b' < h.next + 1 := hbn'
    omega

/-- a block changed -/
theorem Loc.mkSet {ι : Nam} {h : H} {w w' : World} {D : Nat → Prop} (k : WR ι h w D) {b : Nat} {x0 x : Blk} (hb : b < h.next) (hx0 : h.get b = some x0) (m : Nm) (hm : ι b = some m) (o : Obj)
    (hsz : w.heap.size ≤ w'.heap.size) (hold : ∀ i, i < w.heap.size → i ≠ m.B → w'.heap[i]? = w.heap[i]?) (ho : w'.heap[m.B]? = some o)
    (hbr : BR ι x o m) (hos : w'.os = w.os) (htape : w'.tape = w.tape) (hout : w'.output = w.output) :
    Loc ι h w ι (h.set b x) w' [b] where
  next := Nat.le_refl _
  nam _ _ := rfl
  log := rfl
  ln := rfl
  kept c hc hn := by
    have : c ≠ b := by simpa using hn
    rw [H.get_set (by have := k.most; omega) (by have := k.most; omega), if_neg this]
  live c hc _ := by
    obtain rfl : c = b := by simpa using hc
    exact ⟨x0, hx0⟩
  size := hsz
  heap i hi hn := hold i hi (fun e => hn b (by simp) m hm e.symm)
  new c m' hc e := by rw [k.fresh c hc] at e; cases e
  os := hos
  tape := htape
  out := hout
  most := k.most
  fresh := k.fresh
  blk c y hc hcn hy := by
    rcases hc with hc | hc
    · obtain rfl : c = b := by simpa using hc
      rw [H.get_set (by have := k.most; omega) (by have := k.most; omega), if_pos rfl] at hy
      cases hy
      exact ⟨m, o, hm, ho, hbr⟩
    · have : c < h.next := hcn
      omega
  inj1 c y m' hc hcn := by
    have : c < h.next := hcn
    omega
  inj2 c c' y y' m1 m2 hc _ hcn := by
    have : c < h.next := hcn
    omega

end Go.Proofs.YtlmcadgbnolffaaGreatDoor.Am
