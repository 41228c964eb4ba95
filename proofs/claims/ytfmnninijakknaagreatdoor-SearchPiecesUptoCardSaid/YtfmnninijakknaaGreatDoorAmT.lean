/- The machine's soundness, second part: slots, heaps: what is laid is what is read. -/
/- The machine's soundness, third part: types; reading and writing cells; values as operands. -/
/- The machine's soundness, fourth part: lists of values, stores, new rows. -/
/- The machine's strings: what they say of the model's. -/
import Derived.Test.YtfmnninijakknaaGreatDoorAm6
import Derived.KernelRfl
import Derived.Laws.Sem
import Derived.Laws.World
import Derived.Laws.Cells
namespace Go.Proofs.YtfmnninijakknaaGreatDoor.Am

theorem gT_all (e : Env) : (List.range 256).map (fun i => (gT i).f e) = (List.range 256).map (fun i => E.get 4 (path 4 i) e) := by kernel_rfl
theorem pT_all (v : AV) (e : Env) : (List.range 256).map (fun i => (pT i).f v e) = (List.range 256).map (fun i => E.put v 4 (path 4 i) e) := by kernel_rfl
theorem gT_eq {i : Nat} (hi : i < 256) (e : Env) : (gT i).f e = E.get 4 (path 4 i) e := by
  have := congrArg (fun l => l[i]?) (gT_all e)
  simpa [List.getElem?_map, List.getElem?_range hi] using this
theorem pT_eq {i : Nat} (hi : i < 256) (v : AV) (e : Env) : (pT i).f v e = E.put v 4 (path 4 i) e := by
  have := congrArg (fun l => l[i]?) (pT_all v e)
  simpa [List.getElem?_map, List.getElem?_range hi] using this
theorem gT_pT_same {i : Nat} (hi : i < 256) (v : AV) (e : Env) : (gT i).f ((pT i).f v e) = v := by
  rw [gT_eq hi, pT_eq hi, E.get_put_same]
theorem gT_pT_ne {i j : Nat} (hi : i < 256) (hj : j < 256) (h : i ≠ j) (v : AV) (e : Env) : (gT j).f ((pT i).f v e) = (gT j).f e := by
  rw [gT_eq hj, pT_eq hi, E.get_put_ne v 4 i j hi hj h, gT_eq hj]
theorem gT_env0 {i : Nat} (hi : i < 256) : (gT i).f env0 = .bad := by
  rw [gT_eq hi]; exact E.get_rep _ _ _

theorem EnvR.put {ι : Nam} {n : Nat} {en : Env} {tmps : Array Value} (h : EnvR ι n en tmps) {d : Nat} (hd : d < n) {v : AV} {x : Value} (hv : VR ι v x) :
    EnvR ι n ((pT d).f v en) (tmps.setIfInBounds d x) := by
  refine ⟨by simpa using h.size, h.most, fun i hi => ?_, fun i h1 h2 => by rw [gT_pT_ne (Nat.lt_of_lt_of_le hd h.most) h2 (by omega)]; exact h.rest i h1 h2⟩
  by_cases e : d = i
  · subst e
    rw [gT_pT_same (Nat.lt_of_lt_of_le hd h.most)]
    have : d < tmps.size := by rw [h.size]; exact hd
    simpa [Array.getD_eq_getD_getElem?, this] using hv
  · rw [gT_pT_ne (Nat.lt_of_lt_of_le hd h.most) (Nat.lt_of_lt_of_le hi h.most) e]
    have := h.at_ i hi
    rw [Array.getD_eq_getD_getElem?] at this ⊢
    rwa [Array.getElem?_setIfInBounds_ne e]

/-! ### heaps -/
theorem H.get_new {h : H} {x : Blk} {b : Nat} (hn : h.next < 65536) (hb : b < 65536) : (h.new x).get b = if b = h.next then some x else h.get b := by
  unfold H.get H.new
  split
  · rename_i e; subst e; exact E.get_put_same _ _ _ _
  · rename_i e; exact E.get_put_ne _ 8 _ _ hn hb (fun e' => e e'.symm) _
theorem H.get_set {h : H} {x : Blk} {a b : Nat} (ha : a < 65536) (hb : b < 65536) : (h.set a x).get b = if b = a then some x else h.get b := by
  unfold H.get H.set
  split
  · rename_i e; subst e; exact E.get_put_same _ _ _ _
  · rename_i e; exact E.get_put_ne _ 8 _ _ ha hb (fun e' => e e'.symm) _
theorem H.get_kill {h : H} {a b : Nat} (ha : a < 65536) (hb : b < 65536) : (h.kill a).get b = if b = a then none else h.get b := by
  unfold H.get H.kill
  split
  · rename_i e; subst e; exact E.get_put_same _ _ _ _
  · rename_i e; exact E.get_put_ne _ 8 _ _ ha hb (fun e' => e e'.symm) _
theorem H.room_iff {h : H} : h.room = true ↔ h.next < 65536 := by
  unfold H.room; rw [Nat.ble_eq]; exact Iff.rfl

/-- what one step does, with what it touches as it should be -/
structure Loc (ι : Nam) (h : H) (w : World) (ι' : Nam) (h' : H) (w' : World) (W : List Nat) : Prop extends Ext ι h w ι' h' w' W where
  most : h'.next ≤ 65536
  fresh : ∀ b, h'.next ≤ b → ι' b = none
  blk : ∀ b x, (b ∈ W ∨ h.next ≤ b) → b < h'.next → h'.get b = some x → ∃ m o, ι' b = some m ∧ w'.heap[m.B]? = some o ∧ BR ι' x o m
  inj1 : ∀ b x m, h.next ≤ b → b < h'.next → h'.get b = some x → ι' b = some m → w.heap.size ≤ m.B ∨ ∃ b0 ∈ W, ∃ m0, ι b0 = some m0 ∧ m0.B = m.B ∧ h'.get b0 = none
  inj2 : ∀ b b' x x' m m', h.next ≤ b → h.next ≤ b' → b < h'.next → b' < h'.next → h'.get b = some x → h'.get b' = some x' → ι' b = some m → ι' b' = some m' → m.B = m'.B → b = b'
theorem Loc.wr {ι ι' : Nam} {h h' : H} {w w' : World} {W : List Nat} (e : Loc ι h w ι' h' w' W) (k : WR ι h w) : WR ι' h' w' where
  most := e.most
  fresh := e.fresh
  blk b x _ hbn hx := by
    by_cases hb : b ∈ W ∨ h.next ≤ b
    · exact e.blk b x hb hbn hx
    · have hbW : b ∉ W := fun c => hb (.inl c)
      have hlt : b < h.next := by omega
      rw [e.kept b hlt hbW] at hx
      obtain ⟨m, o, h1, h2, h3⟩ := k.blk b x trivial hlt hx
      have hsz : m.B < w.heap.size := (Array.getElem?_eq_some_iff.1 h2).1
      refine ⟨m, o, by rw [e.nam b hlt]; exact h1, ?_, h3.mono (e.toExt.le k.fresh)⟩
      rw [e.heap m.B hsz, h2]
      intro b1 hb1 m1 hm1 hB
      have hlt1 : b1 < h.next := by
        rcases Nat.lt_or_ge b1 h.next with c | c
        · exact c
        · rw [k.fresh b1 c] at hm1; cases hm1
      obtain ⟨x1, hx1⟩ := e.live b1 hb1 hlt1
      have := k.inj b1 b x1 x m1 m trivial trivial hlt1 hlt hx1 hx hm1 h1 hB
      exact hbW (this ▸ hb1)
  inj b b' x x' m m' _ _ hbn hbn' hx hx' hm hm' hB := by
    -- a block that was there, and lives on
    have old : ∀ b x m, b < h.next → h'.get b = some x → ι' b = some m → (∃ y, h.get b = some y) ∧ ι b = some m := fun b x m hlt hx hm => by
      refine ⟨?_, by rw [← e.nam b hlt]; exact hm⟩
      by_cases hbW : b ∈ W
      · exact e.live b hbW hlt
      · exact ⟨x, by rw [← e.kept b hlt hbW]; exact hx⟩
    have sz : ∀ b y m, b < h.next → h.get b = some y → ι b = some m → m.B < w.heap.size := fun b y m hlt hy hm => by
      obtain ⟨m1, o, h1, h2, _⟩ := k.blk b y trivial hlt hy
      rw [hm] at h1; cases h1
      exact (Array.getElem?_eq_some_iff.1 h2).1
    have mix : ∀ b b' x x' m m', b < h.next → h.next ≤ b' → b' < h'.next → h'.get b = some x → h'.get b' = some x' → ι' b = some m → ι' b' = some m' → m.B ≠ m'.B := fun b b' x x' m m' hlt hge hbn' hx hx' hm hm' hB => by
      obtain ⟨⟨y, hy⟩, hm0⟩ := old b x m hlt hx hm
      have h1 := sz b y m hlt hy hm0
      rcases e.inj1 b' x' m' hge hbn' hx' hm' with h2 | ⟨b0, hb0, m0, hm0', hB0, hdead⟩
      · omega
      · have hlt0 : b0 < h.next := by
          rcases Nat.lt_or_ge b0 h.next with c | c
          · exact c
          · rw [k.fresh b0 c] at hm0'; cases hm0'
        obtain ⟨y0, hy0⟩ := e.live b0 hb0 hlt0
        have := k.inj b b0 y y0 m m0 trivial trivial hlt hlt0 hy hy0 hm0 hm0' (hB.trans hB0.symm)
        subst this
        rw [hdead] at hx; cases hx
    rcases Nat.lt_or_ge b h.next with hlt | hge <;> rcases Nat.lt_or_ge b' h.next with hlt' | hge'
    · obtain ⟨⟨y, hy⟩, hm0⟩ := old b x m hlt hx hm
      obtain ⟨⟨y', hy'⟩, hm0'⟩ := old b' x' m' hlt' hx' hm'
      exact k.inj b b' y y' m m' trivial trivial hlt hlt' hy hy' hm0 hm0' hB
    · exact absurd hB (mix b b' x x' m m' hlt hge' hbn' hx hx' hm hm')
    · exact absurd hB.symm (mix b' b x' x m' m hlt' hge hbn hx' hx hm' hm)
    · exact e.inj2 b b' x x' m m' hge hge' hbn hbn' hx hx' hm hm' hB

theorem Loc.refl {ι : Nam} {h : H} {w : World} {D : Nat → Prop} (k : WR ι h w D) : Loc ι h w ι h w [] where
  toExt := Ext.refl ι h w k.fresh
  most := k.most
  fresh := k.fresh
  blk b x hb hbn _ := by
    rcases hb with hb | hb
    · cases hb
    · omega
  inj1 b x m hb hbn := by omega
  inj2 b b' x x' m m' hb _ hbn := by omega

/-- a world of which only the tape's count has moved -/
def World.drawnTo (w : World) (n : Nat) : World := { w with drawn := n }
theorem Loc.draw {ι : Nam} {h : H} {w : World} {D : Nat → Prop} (k : WR ι h w D) (n : Nat) : Loc ι h w ι h (World.drawnTo w n) [] where
  toExt := { Ext.refl ι h w k.fresh with heap := fun _ _ _ => rfl, size := Nat.le_refl _, new := fun b m hb e => (by rw [k.fresh b hb] at e; cases e), os := rfl, tape := rfl, out := rfl }
  most := k.most
  fresh := k.fresh
  blk b x hb hbn _ := by
    rcases hb with hb | hb
    · cases hb
    · omega
  inj1 b x m hb hbn := by omega
  inj2 b b' x x' m m' hb _ hbn := by omega

/-- one name more -/
def Nam.add (ι : Nam) (b : Nat) (m : Nm) : Nam := fun x => if x = b then some m else ι x
theorem Nam.add_same (ι : Nam) (b : Nat) (m : Nm) : ι.add b m b = some m := by simp [Nam.add]
theorem Nam.add_ne (ι : Nam) {b x : Nat} (m : Nm) (h : x ≠ b) : ι.add b m x = ι x := by simp [Nam.add, h]
theorem Nam.le_add {ι : Nam} {b : Nat} (m : Nm) (h : ι b = none) : ι.le (ι.add b m) := fun x y e => by
  by_cases hx : x = b
  · subst hx; rw [h] at e; cases e
  · rw [Nam.add_ne ι m hx]; exact e

/-- a new block -/
theorem Loc.mkNew {ι : Nam} {h : H} {w w' : World} {D : Nat → Prop} (k : WR ι h w D) (hr : h.next < 65536) (x : Blk) (m : Nm) (o : Obj)
    (hsz : w.heap.size ≤ w'.heap.size) (hold : ∀ i, i < w.heap.size → w'.heap[i]? = w.heap[i]?) (hB : w.heap.size ≤ m.B) (ho : w'.heap[m.B]? = some o)
    (hbr : BR (ι.add h.next m) x o m) (hos : w'.os = w.os) (htape : w'.tape = w.tape) (hout : w'.output = w.output) :
    Loc ι h w (ι.add h.next m) (h.new x) w' [] where
  next := Nat.le_succ _
  nam b hb := Nam.add_ne ι m (by omega)
  log := rfl
  ln := rfl
  kept b hb _ := by rw [H.get_new hr (by omega), if_neg (by omega)]
  live b hb := by cases hb
  size := hsz
  heap i hi _ := hold i hi
  new b m' hb e := by
    by_cases hx : b = h.next
    · subst hx; rw [Nam.add_same] at e; cases e; exact .inl hB
    · rw [Nam.add_ne ι m hx, k.fresh b hb] at e; cases e
  os := hos
  tape := htape
  out := hout
  most := hr
  fresh b hb := by
    have hb' : h.next + 1 ≤ b := hb
    rw [Nam.add_ne ι m (by omega)]; exact k.fresh b (by omega)
  blk b y hb hbn hy := by
    rcases hb with hb | hb
    · cases hb
    · have hbn' : b < h.next + 1 := hbn
      obtain rfl : b = h.next := by omega
      rw [H.get_new hr hr, if_pos rfl] at hy
      cases hy
      exact ⟨m, o, Nam.add_same _ _ _, ho, hbr⟩
  inj1 b y m' hb hbn _ hm := by
    have hbn' : b < h.next + 1 := hbn
    obtain rfl : b = h.next := by omega
    rw [Nam.add_same] at hm; cases hm; exact .inl hB
  inj2 b b' y y' m1 m2 hb hb' hbn hbn' _ _ _ _ _ := by
    have h1 : b < h.next + 1 := hbn
    have h2 : b' < h.next + 1 := hbn'
    omega

/-- a block changed -/
theorem Loc.mkSet {ι : Nam} {h : H} {w w' : World} {D : Nat → Prop} (k : WR ι h w D) {b : Nat} {x0 x : Blk} (hb : b < h.next) (hx0 : h.get b = some x0) (m : Nm) (hm : ι b = some m) (o : Obj)
    (hsz : w.heap.size ≤ w'.heap.size) (hold : ∀ i, i < w.heap.size → i ≠ m.B → w'.heap[i]? = w.heap[i]?) (ho : w'.heap[m.B]? = some o)
    (hbr : BR ι x o m) (hos : w'.os = w.os) (htape : w'.tape = w.tape) (hout : w'.output = w.output) :
    Loc ι h w ι (h.set b x) w' [b] where
  next := Nat.le_refl _
  nam _ _ := rfl
  log := rfl
  ln := rfl
  kept c hc hn := by
    have : c ≠ b := by simpa using hn
    rw [H.get_set (by have := k.most; omega) (by have := k.most; omega), if_neg this]
  live c hc _ := by
    obtain rfl : c = b := by simpa using hc
    exact ⟨x0, hx0⟩
  size := hsz
  heap i hi hn := hold i hi (fun e => hn b (by simp) m hm e.symm)
  new c m' hc e := by rw [k.fresh c hc] at e; cases e
  os := hos
  tape := htape
  out := hout
  most := k.most
  fresh := k.fresh
  blk c y hc hcn hy := by
    rcases hc with hc | hc
    · obtain rfl : c = b := by simpa using hc
      rw [H.get_set (by have := k.most; omega) (by have := k.most; omega), if_pos rfl] at hy
      cases hy
      exact ⟨m, o, hm, ho, hbr⟩
    · have : c < h.next := hcn
      omega
  inj1 c y m' hc hcn := by
    have : c < h.next := hcn
    omega
  inj2 c c' y y' m1 m2 hc _ hcn := by
    have : c < h.next := hcn
    omega

end Go.Proofs.YtfmnninijakknaaGreatDoor.Am
namespace Go.Proofs.YtfmnninijakknaaGreatDoor.Am

def Eq2 (P : Program) (t : TypeId) : Prop := ∃ f0 f1 k0 k1, P.underlying t = some (.struct #[f0, f1]) ∧ P.underlying f0.type = some (.int k0) ∧ P.underlying f1.type = some (.int k1) ∧
  f0.offset = 0 ∧ f1.offset = 1 ∧ f0.name ≠ "_" ∧ f1.name ≠ "_" ∧ P.stoodInHeld t = false ∧ P.eqGuardType P.depth t = false
theorem and2_ok {a b : Bool} (h : and2 a b = true) : a = true ∧ b = true := by cases a <;> first | (cases h; done) | exact ⟨rfl, h⟩
theorem notRec_ok {b : Bool} (h : (Bool.rec true false b : Bool) = true) : b = false := by cases b <;> first | rfl | cases h
theorem intTy_ok {P : Program} {t : TypeId} (h : intTy P t = true) : ∃ k, P.underlying t = some (.int k) := by
  unfold intTy at h
  split at h
  · rename_i k hk; exact ⟨k, hk⟩
  · cases h
theorem eq2Of_ok {P : Program} {t : TypeId} (h : eq2Of P t = true) : Eq2 P t := by
  unfold eq2Of at h
  split at h
  · rename_i fs hd
    split at h
    · rename_i f0 f1 hl
      obtain rfl : fs = #[f0, f1] := by cases fs; simp only at hl; rw [hl]
      obtain ⟨h0, h⟩ := and2_ok h
      obtain ⟨h1, h⟩ := and2_ok h
      obtain ⟨h2, h⟩ := and2_ok h
      obtain ⟨h3, h⟩ := and2_ok h
      obtain ⟨h4, h⟩ := and2_ok h
      obtain ⟨h5, h⟩ := and2_ok h
      obtain ⟨h6, h7⟩ := and2_ok h
      obtain ⟨k0, h0⟩ := intTy_ok h0
      obtain ⟨k1, h1⟩ := intTy_ok h1
      exact ⟨f0, f1, k0, k1, hd, h0, h1, Nat.eq_of_beq_eq_true h2, Nat.eq_of_beq_eq_true h3, (fun c => by have q := notRec_ok h4; rw [c] at q; cases q), (fun c => by have q := notRec_ok h5; rw [c] at q; cases q), notRec_ok h6, notRec_ok h7⟩
    · cases h
  · cases h
structure GOk (P : Program) (g : G) : Prop where
  ty : ∀ t y, g.ty t = some y → P.underlying t = some y.desc ∧ y.agg = isAggD y.desc ∧
    ∃ i z, P.info? t = some i ∧ i.size = y.size ∧ i.bytes = y.bytes ∧ i.zero = some z ∧ y.zero = ofVs z.cells.toList ∧ z.cells.size = y.size ∧ y.zv = ofV z
  fn : ∀ f x, g.fn f = some x → ∃ fn, P.funcs[f]? = some fn ∧ fn.body = some x.body ∧ fn.ntmps = x.nt ∧ fn.results.toList = x.res
  eq2 : ∀ t, g.eq2 t = true → Eq2 P t
theorem llen_ofVs : ∀ l : List Value, llen (ofVs l) = l.length
  | [] => rfl
  | _ :: r => congrArg Nat.succ (llen_ofVs r)
theorem gOfO_ok (P : Program) (ext : Nat → Nat) (orc : Nat → AV → H → Option Res) : GOk P (gOfO P ext orc) where
  ty t y h := by
    simp only [gOfO, tyOf] at h
    split at h
    · rename_i i d hi hd
      split at h
      · rename_i z hz
        split at h
        · rename_i hn
          have hn := Nat.eq_of_beq_eq_true hn
          rw [llen_ofVs] at hn
          cases h
          exact ⟨hd, rfl, i, z, hi, rfl, rfl, hz, rfl, by simpa using hn, rfl⟩
        · cases h
      · cases h
    · cases h
  fn f x h := by
    simp only [gOfO, fnOf] at h
    split at h
    · rename_i fn hf
      split at h
      · rename_i b hb
        cases h
        exact ⟨fn, hf, hb, rfl, rfl⟩
      · cases h
    · cases h
  eq2 t h := eq2Of_ok h

theorem gOf_ok (P : Program) (ext : Nat → Nat) : GOk P (gOf P ext) := gOfO_ok P ext _
section
variable {P : Program}
theorem run_und {t : TypeId} {d : TypeDesc} (h : P.underlying t = some d) (w : World) : (underlying t).run P w = .ok d w := by
  simp [underlying, h]
theorem run_ti {t : TypeId} {i : TypeInfo} (h : P.info? t = some i) (w : World) : (typeInfo t).run P w = .ok i w := by
  simp [typeInfo, h]
theorem run_so {t : TypeId} {i : TypeInfo} (h : P.info? t = some i) (w : World) : (sizeOf t).run P w = .ok i.size w := by
  simp [sizeOf, run_ti h]
theorem run_ia {t : TypeId} {d : TypeDesc} (h : P.underlying t = some d) (w : World) : (isAgg t).run P w = .ok (isAggD d) w := by
  simp only [isAgg, Sem.run_bind, run_und h, Result.andThen_ok]
  cases d <;> rfl
theorem run_zv {t : TypeId} {i : TypeInfo} {z : Value} (h : P.info? t = some i) (hz : i.zero = some z) (w : World) : (zeroValue t).run P w = .ok z w := by
  simp [zeroValue, run_ti h, hz]
end

/-! ### what constants are -/
theorem ofV0_ok (ι : Nam) (v : Value) : VR ι (ofV0 v) v := by
  unfold ofV0
  split <;> first | rfl | exact ⟨_, rfl, rfl⟩ | exact trivial
theorem ofVs_ok (ι : Nam) : ∀ l : List Value, VRs ι (ofVs l) l
  | [] => rfl
  | v :: r => ⟨v, r, rfl, ofV0_ok ι v, ofVs_ok ι r⟩
theorem ofV_ok (ι : Nam) (v : Value) : VR ι (ofV v) v := by
  unfold ofV
  split
  · exact ⟨_, rfl, ofVs_ok ι _⟩
  · exact ⟨_, rfl, ofVs_ok ι _⟩
  · exact ofV0_ok ι _

/-- the package-level variables have their own names -/
def GI (ι : Nam) : Prop := ∀ g, g < 64 → ∃ cs, ι g = some ⟨g, 0, cs⟩
theorem GI.mono {ι ι' : Nam} (h : ι.le ι') (k : GI ι) : GI ι' := fun g hg => let ⟨cs, e⟩ := k g hg; ⟨cs, h _ _ e⟩

theorem ev_ok {ι : Nam} {n : Nat} {en : Env} {a : Go.Act} (hE : EnvR ι n en a.tmps) (hG : GI ι) (x : Operand) (hx : opndOk n x = true) : VR ι ((ev x).f en) (a.eval x) := by
  cases x with
  | tmp t => exact hE.at_ t (by have := hx; simp [opndOk, Nat.blt] at this; omega)
  | const v => exact ofV_ok ι v
  | global g =>
    obtain ⟨cs, h⟩ := hG g (by have := hx; simp [opndOk, Nat.blt] at this; omega)
    exact ⟨_, h, rfl⟩
  | func f => exact ⟨#[], #[], rfl, rfl, rfl⟩
theorem opsL_ok {ι : Nam} {n : Nat} {en : Env} {a : Go.Act} (hE : EnvR ι n en a.tmps) (hG : GI ι) : ∀ (l : List Operand), l.all (opndOk n) = true → VRs ι ((opsL l).f en) (l.map a.eval)
  | [], _ => rfl
  | x :: r, h => by
    simp only [List.all_cons, Bool.and_eq_true] at h
    exact ⟨_, _, rfl, ev_ok hE hG x h.1, opsL_ok hE hG r h.2⟩

/-! ### cells -/
theorem cell?_of {w : World} {b : Nat} {arr : Array Value} {el : TypeId} {fr : Nat × Nat} (h : w.heap[b]? = some (.cells arr el fr)) (off : Nat) : w.cell? ⟨b, off, none⟩ = arr[off]? := by
  simp [World.cell?, h]
theorem addr_add (b off n : Nat) : (⟨b, off, none⟩ : Addr).add n = ⟨b, off + n, none⟩ := by
  unfold Addr.add; split
  · rename_i h; subst h; rfl
  · rfl
theorem run_load_of {P : Program} {w : World} {b : Nat} {arr : Array Value} {el : TypeId} {fr : Nat × Nat} (h : w.heap[b]? = some (.cells arr el fr)) {off : Nat} (hoff : off < arr.size) :
    (load ⟨b, off, none⟩).run P w = .ok (arr.getD off undef) w := by
  rw [run_load, cell?_of h, Array.getElem?_eq_getElem hoff]
  simp [Array.getD, hoff]
theorem run_loadCells_of {P : Program} {w : World} {b : Nat} {arr : Array Value} {el : TypeId} {fr : Nat × Nat} (h : w.heap[b]? = some (.cells arr el fr)) {off n : Nat} (hoff : off + n ≤ arr.size) :
    (loadCells ⟨b, off, none⟩ n).run P w = .ok (((List.range n).map fun j => arr.getD (off + j) undef).toArray) w := by
  refine run_loadCells w _ n (fun j => arr.getD (off + j) undef) fun j hj => ?_
  rw [addr_add, cell?_of h, Array.getElem?_eq_getElem (by omega)]
  simp [Array.getD, show off + j < arr.size by omega]
/-- an array with values laid from a place on -/
def layA (arr : Array Value) (o : Nat) : List Value → Array Value
  | [] => arr
  | v :: r => layA (arr.setIfInBounds o v) (o + 1) r
theorem size_layA (o : Nat) : ∀ (l : List Value) (arr : Array Value), (layA arr o l).size = arr.size := by
  intro l
  induction l generalizing o with
  | nil => intro arr; rfl
  | cons v r ih => intro arr; simp [layA, ih]
theorem getD_layA (o i : Nat) : ∀ (l : List Value) (arr : Array Value), i < arr.size → (layA arr o l).getD i undef = if o ≤ i ∧ i < o + l.length then l.getD (i - o) undef else arr.getD i undef := by
  intro l
  induction l generalizing o with
  | nil => intro arr _; rw [if_neg (by simp)]; rfl
  | cons v r ih =>
    intro arr hi
    rw [layA, ih (o + 1) _ (by simpa using hi)]
    by_cases h1 : o = i
    · subst h1
      rw [if_neg (by omega), if_pos (by simp)]
      simp [Array.getD, hi]
    · by_cases h2 : o + 1 ≤ i ∧ i < o + 1 + r.length
      · rw [if_pos h2, if_pos (by simp; omega)]
        obtain ⟨k, rfl⟩ : ∃ k, i = o + 1 + k := ⟨i - (o + 1), by omega⟩
        rw [show o + 1 + k - (o + 1) = k by omega, show o + 1 + k - o = k + 1 by omega]
        simp
      · rw [if_neg h2, if_neg (by simp; omega)]
        rw [Array.getD_eq_getD_getElem?, Array.getElem?_setIfInBounds_ne h1, Array.getD_eq_getD_getElem?]
def World.putCells (w : World) (b : Nat) (arr : Array Value) (el : TypeId) (fr : Nat × Nat) : World := { w with heap := w.heap.setIfInBounds b (.cells arr el fr) }
theorem setCell_of {w : World} {b : Nat} {arr : Array Value} {el : TypeId} {fr : Nat × Nat} (h : w.heap[b]? = some (.cells arr el fr)) (off : Nat) (v : Value) :
    w.setCell ⟨b, off, none⟩ v = World.putCells w b (arr.setIfInBounds off v) el fr := by
  unfold World.setCell World.putCells
  congr 1
  apply Array.ext_getElem?
  intro i
  have hlt : b < w.heap.size := (Array.getElem?_eq_some_iff.1 h).1
  by_cases hi : b = i
  · subst hi
    rw [Array.getElem?_modify, if_pos rfl, h]
    simp [hlt]
  · rw [Array.getElem?_setIfInBounds_ne hi, Array.getElem?_modify, if_neg hi]
theorem putCells_get {w : World} {b : Nat} {arr : Array Value} {el : TypeId} {fr : Nat × Nat} (hb : b < w.heap.size) : (World.putCells w b arr el fr).heap[b]? = some (.cells arr el fr) := by
  simp [World.putCells, hb]
theorem putCells_put {w : World} {b : Nat} {arr arr' : Array Value} {el el' : TypeId} {fr fr' : Nat × Nat} : World.putCells (World.putCells w b arr el fr) b arr' el' fr' = World.putCells w b arr' el' fr' := by
  simp [World.putCells]
theorem putCells_same {w : World} {b : Nat} {arr : Array Value} {el : TypeId} {fr : Nat × Nat} (h : w.heap[b]? = some (.cells arr el fr)) : World.putCells w b arr el fr = w := by
  have hlt : b < w.heap.size := (Array.getElem?_eq_some_iff.1 h).1
  have : w.heap.setIfInBounds b (.cells arr el fr) = w.heap := by
    apply Array.ext_getElem?
    intro i
    by_cases hi : b = i
    · subst hi
      rw [h]; simp [hlt]
    · rw [Array.getElem?_setIfInBounds_ne hi]
  unfold World.putCells
  rw [this]
end Go.Proofs.YtfmnninijakknaaGreatDoor.Am
namespace Go.Proofs.YtfmnninijakknaaGreatDoor.Am

theorem run_storeCells_of {P : Program} {b : Nat} {el : TypeId} {lo hi : Nat} : ∀ (l : List Value) (o i : Nat) (arr : Array Value) (w : World), w.heap[b]? = some (.cells arr el (lo, hi)) →
    (lo = hi ∨ arr.size ≤ lo ∨ hi ≤ o) → o + i + l.length ≤ arr.size → (∀ v ∈ l, v.oneCell' = true) →
    (storeCells ⟨b, o, none⟩ l i).run P w = .ok () (World.putCells w b (layA arr (o + i) l) el (lo, hi))
  | [], o, i, arr, w, h, _, _, _ => by simp [storeCells, layA, putCells_same h]
  | v :: r, o, i, arr, w, h, hf, hs, h1 => by
    have hsz : o + i < arr.size := by simp at hs; omega
    have hfz : w.frozen? ⟨b, o + i, none⟩ = false := by
      simp only [World.frozen?, h]
      simp only [Bool.and_eq_false_iff, decide_eq_false_iff_not]
      rcases hf with hf | hf | hf <;> omega
    simp only [storeCells, Sem.run_bind, addr_add]
    rw [run_store P w _ _ _ (h1 v (by simp)), cell?_of h, Array.getElem?_eq_getElem hsz]
    simp only [hfz, Bool.false_eq_true, if_false, Result.andThen_ok]
    rw [setCell_of h]
    have hb : b < w.heap.size := (Array.getElem?_eq_some_iff.1 h).1
    rw [run_storeCells_of r o (i + 1) (arr.setIfInBounds (o + i) v) _ (putCells_get hb) (by simpa using hf) (by simp at hs ⊢; omega) (fun u hu => h1 u (by simp [hu]))]
    rw [putCells_put]
    rfl

theorem chk_ok {v v' : AV} {h h' : H} (e : chk v h = .ok v' h') : v' = v ∧ h' = h ∧ v ≠ .bad := by
  cases v <;> simp only [chk, frc_eq] at e <;> first | (cases e; exact ⟨rfl, rfl, by simp⟩) | cases e

theorem chkV_ok {v v' : AV} {h h' : H} (e : chkV v h = .ok v' h') : v' = v ∧ h' = h := by
  cases v <;> simp only [chkV, frc_eq] at e <;> first | (cases e; exact ⟨rfl, rfl⟩) | cases e

/-! ### lists -/
section
variable {ι : Nam}
theorem VRs_nil {l : List Value} (h : VRs ι .nil l) : l = [] := h
theorem VRs_cons {a t : AV} {l : List Value} (h : VRs ι (.cons a t) l) : ∃ x xs, l = x :: xs ∧ VR ι a x ∧ VRs ι t xs := h
/-- induction along a list of values -/
theorem VRs_ind {Q : AV → List Value → Prop} (h0 : Q .nil []) (h1 : ∀ a t x xs, VR ι a x → VRs ι t xs → Q t xs → Q (.cons a t) (x :: xs)) : ∀ (a : AV) (l : List Value), VRs ι a l → Q a l := by
  intro a
  induction a with
  | nil => intro l h; cases VRs_nil h; exact h0
  | cons h t _ iht =>
    intro l hl
    obtain ⟨x, xs, rfl, hx, hxs⟩ := VRs_cons hl
    exact h1 h t x xs hx hxs (iht xs hxs)
  | _ => intro l h; exact h.elim
theorem llen_ok {a : AV} {l : List Value} (h : VRs ι a l) : llen a = l.length :=
  VRs_ind (ι := ι) (Q := fun a l => llen a = l.length) rfl (fun _ _ _ _ _ _ ih => congrArg Nat.succ ih) a l h
theorem lnth_ok {a : AV} {l : List Value} (h : VRs ι a l) (i : Nat) : VR ι (lnth a i) (l.getD i undef) := by
  refine VRs_ind (ι := ι) (Q := fun a l => ∀ i, VR ι (lnth a i) (l.getD i undef)) (fun i => trivial) (fun a t x xs hx _ ih i => ?_) a l h i
  cases i with
  | zero => exact hx
  | succ i => exact ih i
theorem lapp_ok {a b : AV} {l k : List Value} (h : VRs ι a l) (h' : VRs ι b k) : VRs ι (lapp a b) (l ++ k) :=
  VRs_ind (ι := ι) (Q := fun a l => VRs ι (lapp a b) (l ++ k)) h' (fun _ _ _ _ hx _ ih => ⟨_, _, rfl, hx, ih⟩) a l h
theorem ltake_ok {a : AV} {l : List Value} (h : VRs ι a l) (n : Nat) : VRs ι (ltake a n) (l.take n) := by
  refine VRs_ind (ι := ι) (Q := fun a l => ∀ n, VRs ι (ltake a n) (l.take n)) (fun n => by simp; rfl) (fun a t x xs hx _ ih n => ?_) a l h n
  cases n with
  | zero => rfl
  | succ n => exact ⟨_, _, rfl, hx, ih n⟩
theorem ldrop_ok {a : AV} {l : List Value} (h : VRs ι a l) (n : Nat) : VRs ι (ldrop a n) (l.drop n) := by
  refine VRs_ind (ι := ι) (Q := fun a l => ∀ n, VRs ι (ldrop a n) (l.drop n)) (fun n => by simp; rfl) (fun a t x xs hx hxs ih n => ?_) a l h n
  cases n with
  | zero => exact ⟨_, _, rfl, hx, hxs⟩
  | succ n => exact ih n
theorem repL_ok {a : AV} {l : List Value} (h : VRs ι a l) : ∀ n, VRs ι (repL a n) ((List.replicate n l).flatten)
  | 0 => rfl
  | n + 1 => by
    rw [List.replicate_succ, List.flatten_cons]
    exact lapp_ok h (repL_ok h n)

theorem one_ok {v : AV} {x : Value} (h : VR ι v x) (h1 : one v = true) : x.oneCell' = true ∧ x.cells = #[x] ∧ cellsOf v = .cons v .nil := by
  cases v <;> simp only [one, Bool.false_eq_true] at h1
  case unk =>
    refine ⟨h, ?_, rfl⟩
    have h : x.oneCell' = true := h
    cases x <;> first | rfl | cases h
  case bool => cases h; exact ⟨rfl, rfl, rfl⟩
  case int => cases h; exact ⟨rfl, rfl, rfl⟩
  case str => obtain ⟨b, rfl, _⟩ := h; exact ⟨rfl, rfl, rfl⟩
  case ptr => obtain ⟨m, _, rfl⟩ := h; exact ⟨rfl, rfl, rfl⟩
  case nilp => cases h; exact ⟨rfl, rfl, rfl⟩
  case slice => obtain ⟨m, y, cap, _, rfl, _⟩ := h; exact ⟨rfl, rfl, rfl⟩
  case nils => cases h; exact ⟨rfl, rfl, rfl⟩
  case map => obtain ⟨m, _, rfl⟩ := h; exact ⟨rfl, rfl, rfl⟩
  case nilm => cases h; exact ⟨rfl, rfl, rfl⟩
  case fn => obtain ⟨xs, ys, rfl, _⟩ := h; exact ⟨rfl, rfl, rfl⟩
  case yld => obtain ⟨m, _, rfl⟩ := h; exact ⟨rfl, rfl, rfl⟩
  case nilf => cases h; exact ⟨rfl, rfl, rfl⟩
  case ifc => obtain ⟨y, rfl, _⟩ := h; exact ⟨rfl, rfl, rfl⟩
  case nili => cases h; exact ⟨rfl, rfl, rfl⟩
theorem ones_ok {a : AV} {l : List Value} (h : VRs ι a l) (h1 : ones a = true) : ∀ v ∈ l, v.oneCell' = true := by
  refine VRs_ind (ι := ι) (Q := fun a l => ones a = true → ∀ v ∈ l, v.oneCell' = true) (fun _ v hv => by cases hv) (fun a t x xs hx _ ih h1 => ?_) a l h h1
  have : one a = true ∧ ones t = true := by
    have h1' : Bool.rec false (ones t) (one a) = true := h1
    cases ho : one a
    · rw [ho] at h1'; cases h1'
    · rw [ho] at h1'; exact ⟨rfl, h1'⟩
  intro v hv
  rcases List.mem_cons.1 hv with rfl | hv
  · exact (one_ok hx this.1).1
  · exact ih this.2 v hv
/-- the cells that are known stand at the head of those that there are -/
theorem cellsOf_ok {v : AV} {x : Value} (h : VR ι v x) : ∃ l, VRs ι (cellsOf v) l ∧ (l = x.cells.toList ∨ l = []) := by
  cases v
  case agg cs => obtain ⟨xs, rfl, hx⟩ := h; exact ⟨_, hx, .inl rfl⟩
  case bad => exact ⟨[], rfl, .inr rfl⟩
  case tup => exact ⟨[], rfl, .inr rfl⟩
  case nil => exact h.elim
  case cons => exact h.elim
  all_goals
    obtain ⟨_, hc, _⟩ := one_ok h rfl
    rw [hc]
    exact ⟨_, ⟨_, _, rfl, h, rfl⟩, .inl rfl⟩
end

/-! ### trees of cells -/
theorem rdN_ok {ι : Nam} {d : Nat} {t : E AV d} {arr : Array Value} {sh : Nat} : ∀ (n i : Nat), (∀ j, i ≤ j → j < i + n → VR ι (E.get d (path d j) t) (arr.getD (sh + j) undef)) →
    VRs ι (rdN d t n i) ((List.range n).map fun j => arr.getD (sh + i + j) undef)
  | 0, i, _ => rfl
  | n + 1, i, h => by
    rw [List.range_succ_eq_map, List.map_cons, List.map_map]
    refine ⟨_, _, rfl, (by have := h i (by omega) (by omega); rw [Nat.add_zero]; exact this), ?_⟩
    have := rdN_ok (sh := sh) n (i + 1) (fun j h1 h2 => h j (by omega) (by omega))
    have e : ((fun j => arr.getD (sh + i + j) undef) ∘ Nat.succ) = fun j => arr.getD (sh + (i + 1) + j) undef := by
      funext j; simp only [Function.comp]; rw [show sh + i + Nat.succ j = sh + (i + 1) + j by omega]
    rw [e]; exact this
/-- values laid into a tree -/
theorem wrL_get {ι : Nam} {d : Nat} (n : Nat) (hn : n ≤ 4 ^ d) {a : AV} {l : List Value} (h : VRs ι a l) : ∀ (o i : Nat) (t : E AV d), o + l.length ≤ n → i < n →
    E.get d (path d i) (wrL d a o t) = if o ≤ i ∧ i < o + l.length then lnth a (i - o) else E.get d (path d i) t := by
  refine VRs_ind (ι := ι) (Q := fun a l => ∀ (o i : Nat) (t : E AV d), o + l.length ≤ n → i < n →
    E.get d (path d i) (wrL d a o t) = if o ≤ i ∧ i < o + l.length then lnth a (i - o) else E.get d (path d i) t) ?_ ?_ a l h
  · intro o i t _ _
    rw [if_neg (by simp)]; rfl
  · intro a r x xs _ _ ih o i t ho hi
    have e : wrL d (.cons a r) o t = wrL d r (o + 1) (E.put a d (path d o) t) := rfl
    simp only [List.length_cons] at ho ⊢
    rw [e, ih (o + 1) i _ (by omega) hi]
    by_cases h1 : i = o
    · subst h1
      rw [if_neg (by omega), if_pos (by omega), Nat.sub_self]
      exact E.get_put_same _ _ _ _
    · by_cases h2 : o + 1 ≤ i ∧ i < o + 1 + xs.length
      · rw [if_pos h2, if_pos (by omega)]
        obtain ⟨k, rfl⟩ : ∃ k, i = o + 1 + k := ⟨i - (o + 1), by omega⟩
        rw [show o + 1 + k - (o + 1) = k by omega, show o + 1 + k - o = k + 1 by omega]
        rfl
      · rw [if_neg h2, if_neg (by omega)]
        exact E.get_put_ne _ _ _ _ (by omega) (by omega) (fun e => h1 e.symm) _

end Go.Proofs.YtfmnninijakknaaGreatDoor.Am
namespace Go.Proofs.YtfmnninijakknaaGreatDoor.Am

def valL (l : List UInt8) : Nat := l.foldl (fun v b => v * 256 + b.toNat) 0
theorem foldl_valL : ∀ (l : List UInt8) (v : Nat), l.foldl (fun v b => v * 256 + b.toNat) v = v * 256 ^ l.length + valL l
  | [], v => by simp [valL]
  | b :: r, v => by
    have e : valL (b :: r) = r.foldl (fun v b => v * 256 + b.toNat) (0 * 256 + b.toNat) := rfl
    rw [List.foldl_cons, foldl_valL r, e, foldl_valL r]
    simp only [List.length_cons, Nat.pow_succ, Nat.zero_mul, Nat.zero_add]
    rw [Nat.add_mul, Nat.mul_assoc, Nat.mul_comm 256, Nat.add_assoc]
theorem valL_cons (b : UInt8) (r : List UInt8) : valL (b :: r) = b.toNat * 256 ^ r.length + valL r := by
  rw [valL, List.foldl_cons, foldl_valL]; simp
theorem valL_append (l r : List UInt8) : valL (l ++ r) = valL l * 256 ^ r.length + valL r := by
  rw [valL, List.foldl_append, foldl_valL]; rfl
theorem valL_lt : ∀ l : List UInt8, valL l < 256 ^ l.length
  | [] => by simp [valL]
  | b :: r => by
    rw [valL_cons, List.length_cons, Nat.pow_succ]
    have h1 := valL_lt r
    have h2 : b.toNat ≤ 255 := by have := b.toNat_lt; omega
    have h3 : b.toNat * 256 ^ r.length ≤ 255 * 256 ^ r.length := Nat.mul_le_mul_right _ h2
    omega
theorem valL_inj : ∀ {l r : List UInt8}, l.length = r.length → valL l = valL r → l = r
  | [], [], _, _ => rfl
  | a :: l, b :: r, hl, hv => by
    simp only [List.length_cons, Nat.add_right_cancel_iff] at hl
    rw [valL_cons, valL_cons, hl] at hv
    have h1 := valL_lt l
    have h2 := valL_lt r
    rw [hl] at h1
    have hp : 0 < 256 ^ r.length := Nat.pow_pos (by omega)
    have e1 : (a.toNat * 256 ^ r.length + valL l) / 256 ^ r.length = a.toNat := by
      rw [Nat.mul_comm, Nat.mul_add_div hp, Nat.div_eq_of_lt h1]; omega
    have e2 : (b.toNat * 256 ^ r.length + valL r) / 256 ^ r.length = b.toNat := by
      rw [Nat.mul_comm, Nat.mul_add_div hp, Nat.div_eq_of_lt h2]; omega
    have hab : a.toNat = b.toNat := by rw [← e1, ← e2, hv]
    have : a = b := UInt8.toNat_inj.1 hab
    subst this
    rw [valL_inj hl (by omega)]
  | [], _ :: _, h, _ => by cases h
  | _ :: _, [], h, _ => by cases h

namespace Str
theorem go_eq : ∀ (l : List UInt8) (n v : Nat), go l n v = ⟨n + l.length, v * 256 ^ l.length + valL l⟩
  | [], n, v => by simp [go, valL]
  | b :: r, n, v => by
    have : go (b :: r) n v = go r (n + 1) (v * 256 + b.toNat) := sN_eq _ _
    rw [this, go_eq r, valL_cons, List.length_cons]
    congr 1
    · omega
    · rw [Nat.pow_succ, Nat.add_mul, Nat.mul_assoc, Nat.mul_comm 256, Nat.add_assoc]
theorem of_eq (b : ByteArray) : of b = ⟨b.data.toList.length, valL b.data.toList⟩ := by
  unfold of; rw [go_eq]; simp
theorem of_len (b : ByteArray) : (of b).len = b.size := by rw [of_eq]; rfl
theorem of_val (b : ByteArray) : (of b).val = valL b.data.toList := by rw [of_eq]
theorem of_inj {a b : ByteArray} (h : of a = of b) : a = b := by
  rw [of_eq, of_eq] at h
  injection h with h1 h2
  have := valL_inj h1 h2
  cases a; cases b
  congr 1
  exact Array.toList_inj.1 this
theorem eq_ok (a b : ByteArray) : (of a).eq (of b) = decide (a = b) := by
  have h : (of a).eq (of b) = true ↔ of a = of b := by
    unfold Str.eq
    cases h1 : Nat.beq (of a).len (of b).len
    · simp only [Bool.false_eq_true, false_iff]
      intro e; rw [e, Nat.beq_refl] at h1; cases h1
    · have h1' := Nat.eq_of_beq_eq_true h1
      show Nat.beq _ _ = true ↔ _
      rw [Nat.beq_eq]
      constructor
      · intro h2
        rcases ha : of a with ⟨x, y⟩; rcases hb : of b with ⟨z, t⟩
        rw [ha, hb] at h1' h2
        simp only at h1' h2
        rw [h1', h2]
      · intro h2; rw [h2]
  rw [Bool.eq_iff_iff, h, decide_eq_true_iff]
  exact ⟨of_inj, fun e => by rw [e]⟩
theorem byte_ok (b : ByteArray) (i : Nat) (hi : i < b.size) : (of b).byte i = (b.data.toList[i]'(by simpa using hi)).toNat := by
  have hi' : i < b.data.toList.length := by simpa using hi
  have hsp : b.data.toList = b.data.toList.take i ++ b.data.toList[i] :: b.data.toList.drop (i + 1) := by
    rw [List.getElem_cons_drop, List.take_append_drop]
  show ((of b).val >>> (8 * ((of b).len - 1 - i))) % 256 = _
  rw [of_len, of_val, Nat.shiftRight_eq_div_pow, Nat.pow_mul]
  have hd : (b.data.toList.drop (i + 1)).length = b.size - 1 - i := by
    rw [List.length_drop]; show b.data.toList.length - _ = _
    have : b.data.toList.length = b.size := rfl
    omega
  have hv := valL_append (b.data.toList.take i) (b.data.toList[i] :: b.data.toList.drop (i + 1))
  rw [← hsp, valL_cons, List.length_cons, hd] at hv
  rw [hv]
  have hlt := valL_lt (b.data.toList.drop (i + 1))
  rw [hd] at hlt
  show (_ / 256 ^ _) % 256 = _
  have hp : 0 < 256 ^ (b.size - 1 - i) := Nat.pow_pos (by omega)
  rw [Nat.pow_succ, Nat.mul_comm (256 ^ (b.size - 1 - i)) 256, ← Nat.mul_assoc, ← Nat.add_assoc, ← Nat.add_mul, Nat.mul_comm _ (256 ^ (b.size - 1 - i)), Nat.mul_add_div hp, Nat.div_eq_of_lt hlt, Nat.add_zero]
  have := (b.data.toList[i]).toNat_lt
  omega
theorem app_ok (a b : ByteArray) : (of a).app (of b) = of (a ++ b) := by
  have hl : (a ++ b).data.toList = a.data.toList ++ b.data.toList := by
    rw [ByteArray.data_append]; simp
  rw [of_eq (a ++ b), hl, valL_append, List.length_append]
  unfold app
  rw [of_len, of_len, of_val, of_val]
  show (⟨a.size + b.size, (valL a.data.toList) <<< (8 * b.size) + valL b.data.toList⟩ : Str) = _
  rw [Nat.shiftLeft_eq, Nat.pow_mul]
  rfl
theorem sub_ok (b : ByteArray) (x y : Nat) (h : x ≤ y) (hy : y ≤ b.size) : (of b).sub x y = of (b.extract x y) := by
  have hl : (b.extract x y).data.toList = (b.data.toList.take y).drop x := by
    rw [ByteArray.data_extract, Array.toList_extract, List.extract_eq_take_drop]
    rw [List.drop_take]
  have hlen : b.data.toList.length = b.size := rfl
  have h1 : ((b.data.toList.take y).drop x).length = y - x := by
    rw [List.length_drop, List.length_take]; omega
  rw [of_eq (b.extract x y), hl, h1]
  unfold sub
  rw [of_len, of_val]
  show (⟨y - x, (valL b.data.toList >>> (8 * (b.size - y))) % 2 ^ (8 * (y - x))⟩ : Str) = _
  congr 1
  rw [Nat.shiftRight_eq_div_pow, Nat.pow_mul, Nat.pow_mul]
  have e1 : valL b.data.toList = valL (b.data.toList.take y) * 256 ^ (b.size - y) + valL (b.data.toList.drop y) := by
    have := valL_append (b.data.toList.take y) (b.data.toList.drop y)
    rw [List.take_append_drop, List.length_drop, hlen] at this
    exact this
  have hlt := valL_lt (b.data.toList.drop y)
  rw [List.length_drop, hlen] at hlt
  have hp : 0 < 256 ^ (b.size - y) := Nat.pow_pos (by omega)
  show (_ / 256 ^ _) % 256 ^ _ = _
  rw [e1, Nat.mul_comm, Nat.mul_add_div hp, Nat.div_eq_of_lt hlt, Nat.add_zero]
  have e2 := valL_append ((b.data.toList.take y).take x) ((b.data.toList.take y).drop x)
  rw [List.take_append_drop, h1] at e2
  have hlt2 := valL_lt ((b.data.toList.take y).drop x)
  rw [h1] at hlt2
  rw [e2, Nat.mul_comm, Nat.mul_add_mod, Nat.mod_eq_of_lt hlt2]
end Str
end Go.Proofs.YtfmnninijakknaaGreatDoor.Am
