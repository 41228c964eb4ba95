/- The machine's soundness, third part: types; reading and writing cells; values as operands. -/
import Derived.Test.YtlmcadgbnolffaaGreatDoorAm7
import Derived.Laws.Sem
import Derived.Laws.World
import Derived.Laws.Cells
namespace Go.Proofs.YtlmcadgbnolffaaGreatDoor.Am

structure GOk (P : Program) (g : G) : Prop where
  ty : ∀ t y, g.ty t = some y → P.underlying t = some y.desc ∧ y.agg = isAggD y.desc ∧
    ∃ i z, P.info? t = some i ∧ i.size = y.size ∧ i.bytes = y.bytes ∧ i.zero = some z ∧ y.zero = ofVs z.cells.toList ∧ z.cells.size = y.size ∧ y.zv = ofV z
  fn : ∀ f x, g.fn f = some x → ∃ fn, P.funcs[f]? = some fn ∧ fn.body = some x.body ∧ fn.ntmps = x.nt ∧ fn.results.toList = x.res
theorem llen_ofVs : ∀ l : List Value, llen (ofVs l) = l.length
  | [] => rfl
  | _ :: r => congrArg Nat.succ (llen_ofVs r)
theorem gOf_ok (P : Program) (ext : Nat → Nat) : GOk P (gOf P ext) where
  ty t y h := by
    simp only [gOf, tyOf] at h
    split at h
    · rename_i i d hi hd
      split at h
      · rename_i z hz
        split at h
        · rename_i hn
          have hn := Nat.eq_of_beq_eq_true hn
          rw [llen_ofVs] at hn
          cases h
          exact ⟨hd, rfl, i, z, hi, rfl, rfl, hz, rfl, by simpa using hn, rfl⟩
        · cases h
      · cases h
    · cases h
  fn f x h := by
    simp only [gOf, fnOf] at h
    split at h
    · rename_i fn hf
      split at h
      · rename_i b hb
        cases h
        exact ⟨fn, hf, hb, rfl, rfl⟩
      · cases h
    · cases h

section
variable {P : Program}
theorem run_und {t : TypeId} {d : TypeDesc} (h : P.underlying t = some d) (w : World) : (underlying t).run P w = .ok d w := by
  simp [underlying, h]
theorem run_ti {t : TypeId} {i : TypeInfo} (h : P.info? t = some i) (w : World) : (typeInfo t).run P w = .ok i w := by
  simp [typeInfo, h]
theorem run_so {t : TypeId} {i : TypeInfo} (h : P.info? t = some i) (w : World) : (sizeOf t).run P w = .ok i.size w := by
  simp [sizeOf, run_ti h]
theorem run_ia {t : TypeId} {d : TypeDesc} (h : P.underlying t = some d) (w : World) : (isAgg t).run P w = .ok (isAggD d) w := by
  simp only [isAgg, Sem.run_bind, run_und h, Result.andThen_ok]
  cases d <;> rfl
theorem run_zv {t : TypeId} {i : TypeInfo} {z : Value} (h : P.info? t = some i) (hz : i.zero = some z) (w : World) : (zeroValue t).run P w = .ok z w := by
  simp [zeroValue, run_ti h, hz]
end

/-! ### what constants are -/
theorem ofV0_ok (ι : Nam) (v : Value) : VR ι (ofV0 v) v := by
  unfold ofV0
  split <;> first | rfl | exact ⟨_, rfl, rfl⟩ | exact trivial
theorem ofVs_ok (ι : Nam) : ∀ l : List Value, VRs ι (ofVs l) l
  | [] => rfl
  | v :: r => ⟨v, r, rfl, ofV0_ok ι v, ofVs_ok ι r⟩
theorem ofV_ok (ι : Nam) (v : Value) : VR ι (ofV v) v := by
  unfold ofV
  split
  · exact ⟨_, rfl, ofVs_ok ι _⟩
  · exact ⟨_, rfl, ofVs_ok ι _⟩
  · exact ofV0_ok ι _

/-- the package-level variables have their own names -/
def GI (ι : Nam) : Prop := ∀ g, g < 64 → ∃ cs, ι g = some ⟨g, 0, cs⟩
theorem GI.mono {ι ι' : Nam} (h : ι.le ι') (k : GI ι) : GI ι' := fun g hg => let ⟨cs, e⟩ := k g hg; ⟨cs, h _ _ e⟩

theorem ev_ok {ι : Nam} {n : Nat} {en : Env} {a : Go.Act} (hE : EnvR ι n en a.tmps) (hG : GI ι) (x : Operand) (hx : opndOk n x = true) : VR ι ((ev x).f en) (a.eval x) := by
  cases x with
  | tmp t => exact hE.at_ t (by have := hx; simp [opndOk, Nat.blt] at this; omega)
  | const v => exact ofV_ok ι v
  | global g =>
    obtain ⟨cs, h⟩ := hG g (by have := hx; simp [opndOk, Nat.blt] at this; omega)
    exact ⟨_, h, rfl⟩
  | func f => exact ⟨#[], #[], rfl, rfl, rfl⟩
theorem opsL_ok {ι : Nam} {n : Nat} {en : Env} {a : Go.Act} (hE : EnvR ι n en a.tmps) (hG : GI ι) : ∀ (l : List Operand), l.all (opndOk n) = true → VRs ι ((opsL l).f en) (l.map a.eval)
  | [], _ => rfl
  | x :: r, h => by
    simp only [List.all_cons, Bool.and_eq_true] at h
    exact ⟨_, _, rfl, ev_ok hE hG x h.1, opsL_ok hE hG r h.2⟩

/-! ### cells -/
theorem cell?_of {w : World} {b : Nat} {arr : Array Value} {el : TypeId} {fr : Nat × Nat} (h : w.heap[b]? = some (.cells arr el fr)) (off : Nat) : w.cell? ⟨b, off, none⟩ = arr[off]? := by
  simp [World.cell?, h]
theorem addr_add (b off n : Nat) : (⟨b, off, none⟩ : Addr).add n = ⟨b, off + n, none⟩ := by
  unfold Addr.add; split
  · rename_i h; subst h; rfl
  · rfl
theorem run_load_of {P : Program} {w : World} {b : Nat} {arr : Array Value} {el : TypeId} {fr : Nat × Nat} (h : w.heap[b]? = some (.cells arr el fr)) {off : Nat} (hoff : off < arr.size) :
    (load ⟨b, off, none⟩).run P w = .ok (arr.getD off undef) w := by
  rw [run_load, cell?_of h, Array.getElem?_eq_getElem hoff]
  simp [Array.getD, hoff]
theorem run_loadCells_of {P : Program} {w : World} {b : Nat} {arr : Array Value} {el : TypeId} {fr : Nat × Nat} (h : w.heap[b]? = some (.cells arr el fr)) {off n : Nat} (hoff : off + n ≤ arr.size) :
    (loadCells ⟨b, off, none⟩ n).run P w = .ok (((List.range n).map fun j => arr.getD (off + j) undef).toArray) w := by
  refine run_loadCells w _ n (fun j => arr.getD (off + j) undef) fun j hj => ?_
  rw [addr_add, cell?_of h, Array.getElem?_eq_getElem (by omega)]
  simp [Array.getD, show off + j < arr.size by omega]
/-- an array with values laid from a place on -/
def layA (arr : Array Value) (o : Nat) : List Value → Array Value
  | [] => arr
  | v :: r => layA (arr.setIfInBounds o v) (o + 1) r
theorem size_layA (o : Nat) : ∀ (l : List Value) (arr : Array Value), (layA arr o l).size = arr.size := by
  intro l
  induction l generalizing o with
  | nil => intro arr; rfl
  | cons v r ih => intro arr; simp [layA, ih]
theorem getD_layA (o i : Nat) : ∀ (l : List Value) (arr : Array Value), i < arr.size → (layA arr o l).getD i undef = if o ≤ i ∧ i < o + l.length then l.getD (i - o) undef else arr.getD i undef := by
  intro l
  induction l generalizing o with
  | nil => intro arr _; rw [if_neg (by simp)]; rfl
  | cons v r ih =>
    intro arr hi
    rw [layA, ih (o + 1) _ (by simpa using hi)]
    by_cases h1 : o = i
    · subst h1
      rw [if_neg (by omega), if_pos (by simp)]
      simp [Array.getD, hi]
    · by_cases h2 : o + 1 ≤ i ∧ i < o + 1 + r.length
      · rw [if_pos h2, if_pos (by simp; omega)]
        obtain ⟨k, rfl⟩ : ∃ k, i = o + 1 + k := ⟨i - (o + 1), by omega⟩
        rw [show o + 1 + k - (o + 1) = k by omega, show o + 1 + k - o = k + 1 by omega]
        simp
      · rw [if_neg h2, if_neg (by simp; omega)]
        rw [Array.getD_eq_getD_getElem?, Array.getElem?_setIfInBounds_ne h1, Array.getD_eq_getD_getElem?]
def World.putCells (w : World) (b : Nat) (arr : Array Value) (el : TypeId) (fr : Nat × Nat) : World := { w with heap := w.heap.setIfInBounds b (.cells arr el fr) }
theorem setCell_of {w : World} {b : Nat} {arr : Array Value} {el : TypeId} {fr : Nat × Nat} (h : w.heap[b]? = some (.cells arr el fr)) (off : Nat) (v : Value) :
    w.setCell ⟨b, off, none⟩ v = World.putCells w b (arr.setIfInBounds off v) el fr := by
  unfold World.setCell World.putCells
  congr 1
  apply Array.ext_getElem?
  intro i
  have hlt : b < w.heap.size := (Array.getElem?_eq_some_iff.1 h).1
  by_cases hi : b = i
  · subst hi
    rw [Array.getElem?_modify, if_pos rfl, h]
    simp [hlt]
  · rw [Array.getElem?_setIfInBounds_ne hi, Array.getElem?_modify, if_neg hi]
theorem putCells_get {w : World} {b : Nat} {arr : Array Value} {el : TypeId} {fr : Nat × Nat} (hb : b < w.heap.size) : (World.putCells w b arr el fr).heap[b]? = some (.cells arr el fr) := by
  simp [World.putCells, hb]
theorem putCells_put {w : World} {b : Nat} {arr arr' : Array Value} {el el' : TypeId} {fr fr' : Nat × Nat} : World.putCells (World.putCells w b arr el fr) b arr' el' fr' = World.putCells w b arr' el' fr' := by
  simp [World.putCells]
theorem putCells_same {w : World} {b : Nat} {arr : Array Value} {el : TypeId} {fr : Nat × Nat} (h : w.heap[b]? = some (.cells arr el fr)) : World.putCells w b arr el fr = w := by
  have hlt : b < w.heap.size := (Array.getElem?_eq_some_iff.1 h).1
  have : w.heap.setIfInBounds b (.cells arr el fr) = w.heap := by
    apply Array.ext_getElem?
    intro i
    by_cases hi : b = i
    · subst hi
      rw [h]; simp [hlt]
    · rw [Array.getElem?_setIfInBounds_ne hi]
  unfold World.putCells
  rw [this]
end Go.Proofs.YtlmcadgbnolffaaGreatDoor.Am
