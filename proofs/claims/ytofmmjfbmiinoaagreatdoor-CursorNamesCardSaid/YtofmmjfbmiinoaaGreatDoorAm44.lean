/- The machine's soundness: closed runs: a function without parameters, from a heap that holds tables alone. -/
/- The machine's soundness: calls whose results are known: a value and new blocks, renumbered. -/
/- The machine's soundness: a table of calls whose results are known. -/
import Derived.Test.YtofmmjfbmiinoaaGreatDoorAm41
import Derived.Below
namespace Go.Proofs.YtofmmjfbmiinoaaGreatDoor.Am
noncomputable section
def isTrue : AV → Bool
  | .bool true => true
  | _ => false
/-- a list of numbers, gone through by halves: what is left when so many are not below m -/
def step1 (m : Nat) (l : List Nat) : Option (List Nat) := List.rec (motive := fun _ => Option (List Nat)) (some []) (fun x r _ => Bool.rec none (some r) (Nat.ble m x)) l
def goGe (m : Nat) : Nat → List Nat → Option (List Nat) := Nat.rec (motive := fun _ => List Nat → Option (List Nat)) (step1 m)
  (fun _ ih l => List.rec (motive := fun _ => Option (List Nat)) (some []) (fun _ _ _ => Option.rec (motive := fun _ => Option (List Nat)) none ih (ih l)) l)
def isEnd : Option (List Nat) → Bool := Option.rec (motive := fun _ => Bool) false (fun l => List.rec (motive := fun _ => Bool) true (fun _ _ _ => false) l)
def allGe (m : Nat) (l : List Nat) : Bool := isEnd (goGe m (nat_lit 20) l)
/-- true; and no block of those that were there was written -/
def chkR : Res → Bool := Res.rec (motive := fun _ => Bool) false (fun v h => and2 (isTrue v) (allGe (nat_lit 64) h.log))
def okFn (P : Program) (f : Nat) : Bool :=
  match fnOf P f with
  | some x => (match P.funcs[f]? with
    | some fn => and2 (fnOk x) (Bool.rec true false (fn.name == "runtime.NumGoroutine"))
    | none => false)
  | none => true
def progOk (P : Program) : Bool := (List.range P.funcs.size).all (okFn P)
theorem fnsOk_of {P : Program} {ext : Nat → Nat} {orc : Nat → AV → H → Option Res} (h : progOk P = true) : FnsOk P (gOfO P ext orc) := by
  intro f x hx
  have hx : fnOf P f = some x := hx
  have hlt : f < P.funcs.size := by
    obtain ⟨fn, hf, _⟩ := (gOfO_ok P ext orc).fn f x hx
    exact (Array.getElem?_eq_some_iff.1 hf).1
  have h1 := List.all_eq_true.1 h f (List.mem_range.2 hlt)
  unfold okFn at h1
  rw [hx] at h1
  dsimp only at h1
  cases hf : P.funcs[f]? with
  | none => rw [hf] at h1; cases h1
  | some fn =>
    rw [hf] at h1
    dsimp only at h1
    obtain ⟨h2, h3⟩ := and2_ok h1
    refine ⟨h2, fun fn' e => ?_⟩
    cases e
    cases hn : (fn.name == "runtime.NumGoroutine")
    · rfl
    · rw [hn] at h3; cases h3
theorem step1_ok {m : Nat} {l r : List Nat} (h : step1 m l = some r) : ∀ x ∈ l, m ≤ x ∨ x ∈ r := by
  cases l with
  | nil => intro x hx; cases hx
  | cons y l =>
    have h : (Bool.rec none (some l) (Nat.ble m y) : Option (List Nat)) = some r := h
    cases hb : Nat.ble m y
    · rw [hb] at h; cases h
    · rw [hb] at h
      cases h
      rw [Nat.ble_eq] at hb
      intro x hx
      rcases List.mem_cons.1 hx with rfl | hx
      · exact .inl hb
      · exact .inr hx
theorem goGe_ok {m : Nat} : ∀ {k : Nat} {l r : List Nat}, goGe m k l = some r → ∀ x ∈ l, m ≤ x ∨ x ∈ r
  | 0, _, _, h => step1_ok h
  | k + 1, l, r, h => by
    cases l with
    | nil => intro x hx; cases hx
    | cons y l =>
      have h : Option.rec (motive := fun _ => Option (List Nat)) none (goGe m k) (goGe m k (y :: l)) = some r := h
      cases he : goGe m k (y :: l) with
      | none => rw [he] at h; cases h
      | some r1 =>
        rw [he] at h
        have h : goGe m k r1 = some r := h
        intro x hx
        rcases goGe_ok he x hx with c | c
        · exact .inl c
        · exact goGe_ok h x c
theorem allGe_ok {m : Nat} {l : List Nat} (h : allGe m l = true) : ∀ x ∈ l, m ≤ x := by
  unfold allGe at h
  cases he : goGe m (nat_lit 20) l with
  | none => rw [he] at h; cases h
  | some r =>
    rw [he] at h
    cases r with
    | nil =>
      intro x hx
      rcases goGe_ok he x hx with c | c
      · exact c
      · cases c
    | cons _ _ => cases h
theorem chkR_ok {r : Res} (h : chkR r = true) : ∃ h', r = .ok (.bool true) h' ∧ ∀ x ∈ h'.log, 64 ≤ x := by
  cases r with
  | fail => cases h
  | ok v h' =>
    obtain ⟨h1, h2⟩ := and2_ok (show and2 (isTrue v) (allGe (nat_lit 64) h'.log) = true from h)
    refine ⟨h', ?_, allGe_ok h2⟩
    unfold isTrue at h1
    split at h1
    · rfl
    · cases h1

/-! ### tables -/
/-- the machine's heap of some tables: each a package-level variable's cells -/
def tabT : List (Nat × List Value) → E (Option Blk) hd
  | [] => E.rep none hd
  | (x, l) :: r => E.put (some (.cells 0 true l.length (dep l.length) (ofL (dep l.length) (ofVs l)))) hd (path hd x) (tabT r)
def tabH (l : List (Nat × List Value)) : H := ⟨tabT l, nat_lit 64, nat_lit 0, []⟩
/-- the variable's cells are these -/
def TabAt (w : World) (x : Nat) (l : List Value) : Prop :=
  ∃ arr el lo hi, w.heap[x]? = some (.cells arr el (lo, hi)) ∧ l.length ≤ arr.size ∧ ∀ i, i < l.length → arr.getD i undef = l.getD i undef
def tabN (w : World) : Nam := fun b => if b < 64 then some ⟨b, 0, match w.heap[b]? with | some (.cells arr _ _) => arr.size | _ => 0⟩ else none
theorem tabT_get : ∀ (l : List (Nat × List Value)), (∀ p ∈ l, p.1 < 64) → ∀ b, b < 64 → ∀ x, E.get hd (path hd b) (tabT l) = some x →
    ∃ vs, (b, vs) ∈ l ∧ x = .cells 0 true vs.length (dep vs.length) (ofL (dep vs.length) (ofVs vs))
  | [], _, b, _, x, h => by
    have : E.get hd (path hd b) (E.rep (none : Option Blk) hd) = none := E.get_rep _ _ _
    have h : E.get hd (path hd b) (E.rep (none : Option Blk) hd) = some x := h
    rw [this] at h; cases h
  | (y, vs) :: r, hl, b, hb, x, h => by
    have h : E.get hd (path hd b) (E.put (some (.cells 0 true vs.length (dep vs.length) (ofL (dep vs.length) (ofVs vs)))) hd (path hd y) (tabT r)) = some x := h
    have hy := hl (y, vs) (by simp)
    by_cases c : y = b
    · subst c
      rw [E.get_put_same] at h
      cases h
      exact ⟨vs, by simp, rfl⟩
    · have hne := E.get_put_ne (some (Blk.cells 0 true vs.length (dep vs.length) (ofL (dep vs.length) (ofVs vs)))) 8 y b (by have : y < 64 := hy; omega) (by omega) c (tabT r)
      have h := hne.symm.trans h
      obtain ⟨vs', h1, h2⟩ := tabT_get r (fun p hp => hl p (by simp [hp])) b hb x h
      exact ⟨vs', by simp [h1], h2⟩
theorem wr_tabs {w : World} {l : List (Nat × List Value)} (hl : ∀ p ∈ l, p.1 < 64 ∧ p.2.length ≤ 4000000 ∧ TabAt w p.1 p.2) : WR (tabN w) (tabH l) w where
  most := by show 64 ≤ 65536; omega
  fresh b hb := by
    have hb : 64 ≤ b := hb
    unfold tabN; rw [if_neg (by omega)]
  blk b x _ hb hx := by
    have hb : b < 64 := hb
    obtain ⟨vs, hm, rfl⟩ := tabT_get l (fun p hp => (hl p hp).1) b hb x hx
    obtain ⟨_, hlen, arr, el, lo, hi, h1, h2, h3⟩ := hl _ hm
    refine ⟨⟨b, 0, arr.size⟩, .cells arr el (lo, hi), ?_, h1, arr, el, lo, hi, rfl, rfl, by simpa using h2, le_dep hlen, fun i hi => ?_, fun c => by cases c⟩
    · unfold tabN; rw [if_pos hb, h1]
    · have hv := ofVs_ok (tabN w) vs
      rw [ofL, wrL_get vs.length (le_dep hlen) hv 0 i _ (by omega) hi, if_pos (by omega), Nat.sub_zero]
      have := lnth_ok hv i
      show VR _ _ (arr.getD (0 + i) undef)
      rw [Nat.zero_add, h3 i hi]
      exact this
  inj b b' x x' m m' _ _ hb hb' _ _ hm hm' hB := by
    have hb : b < 64 := hb
    have hb' : b' < 64 := hb'
    unfold tabN at hm hm'
    rw [if_pos hb] at hm
    rw [if_pos hb'] at hm'
    cases hm; cases hm'
    exact hB
theorem gi_tabs (w : World) : GI (tabN w) := fun x hx => ⟨_, by unfold tabN; rw [if_pos hx]⟩
/-- A RUN THAT COMES TO true, whatever the machine does not know of its arguments. -/
theorem run_trueO {P : Program} {ext : Nat → Nat} {orc : Nat → AV → H → Option Res} {N f : Nat} {l : List (Nat × List Value)} (hmix : P.follows .mixedOrders = true) (hprog : progOk P = true) (hext : ExtOk P (gOfO P ext orc)) (horc : OrcOk P (gOfO P ext orc))
    (hf : (fnOf P f).isSome = true) {args : AV} (hno : orc f args (tabH l) = none)
    (e : chkR ((run (gOfO P ext orc) (Nat.succ N)).call f args (tabH l)) = true) {w : World} (hl : ∀ p ∈ l, p.1 < 64 ∧ p.2.length ≤ 4000000 ∧ TabAt w p.1 p.2) {vs : Array Value} (ha : VRs (tabN w) args vs.toList) :
    Calls P f vs w fun o w' => o = .returned (.bool true) ∧ RowKit.Below w.heap.size w w' := by
  obtain ⟨x, hx⟩ := Option.isSome_iff_exists.1 hf
  obtain ⟨h', hr, hlog⟩ := chkR_ok e
  have hc := (calls_of_run (gOfO_ok P ext orc) hmix (fnsOk_of hprog) hext horc (N := N) (f := f) (x := x) hx hno hr (vs := vs) (wr_tabs hl) (gi_tabs w) ha).calls
  refine hc.mono fun o w' ho => ?_
  obtain ⟨v', rfl, ι', W, hv, _, hE⟩ := ho
  have hv : v' = .bool true := hv
  subst hv
  have hW : W = h'.log := by
    have h1 := hE.log
    have h2 : (tabH l).log = [] := rfl
    rw [h2, List.append_nil] at h1
    exact h1.symm
  refine ⟨rfl, hE.os, hE.tape, hE.out, hE.size, fun k hk => hE.heap k hk fun b hb m hm => ?_⟩
  have := hlog b (hW ▸ hb)
  unfold tabN at hm
  rw [if_neg (by omega)] at hm
  cases hm
theorem run_true {P : Program} {ext : Nat → Nat} {N f : Nat} {l : List (Nat × List Value)} (hmix : P.follows .mixedOrders = true) (hprog : progOk P = true) (hext : ExtOk P (gOf P ext)) (hf : (fnOf P f).isSome = true) {args : AV}
    (e : chkR ((run (gOf P ext) (Nat.succ N)).call f args (tabH l)) = true) {w : World} (hl : ∀ p ∈ l, p.1 < 64 ∧ p.2.length ≤ 4000000 ∧ TabAt w p.1 p.2) {vs : Array Value} (ha : VRs (tabN w) args vs.toList) :
    Calls P f vs w fun o w' => o = .returned (.bool true) ∧ RowKit.Below w.heap.size w w' :=
  run_trueO hmix hprog hext noOrc hf rfl e hl ha
/-- A CLOSED RUN THAT COMES TO true. -/
theorem closed_true {P : Program} {ext : Nat → Nat} {N f : Nat} {l : List (Nat × List Value)} (hmix : P.follows .mixedOrders = true) (hprog : progOk P = true) (hext : ExtOk P (gOf P ext)) (hf : (fnOf P f).isSome = true)
    (e : chkR ((run (gOf P ext) (Nat.succ N)).call f .nil (tabH l)) = true) {w : World} (hl : ∀ p ∈ l, p.1 < 64 ∧ p.2.length ≤ 4000000 ∧ TabAt w p.1 p.2) :
    Calls P f #[] w fun o w' => o = .returned (.bool true) ∧ RowKit.Below w.heap.size w w' :=
  run_true hmix hprog hext hf e hl (vs := #[]) rfl
end
end Go.Proofs.YtofmmjfbmiinoaaGreatDoor.Am
namespace Go.Proofs.YtofmmjfbmiinoaaGreatDoor.Am
noncomputable section
/-! ### a value of a run, and the same with other numbers -/
def cmpId (R : List Nat) (a t : Nat) : Bool := and2 (Nat.ble (nat_lit 64) t) (and2 (Nat.ble (Nat.succ t) (Nat.add (nat_lit 64) R.length)) (Nat.beq (nthN R (Nat.sub t (nat_lit 64))) a))
def cmpAV (R : List Nat) : AV → AV → Bool
  | .bool a, .bool b => beqB a b
  | .int k n, .int k' n' => and2 (Nat.beq (kix k) (kix k')) (eqI n n')
  | .str s, .str s' => s.eq s'
  | .ptr a o, .ptr t o' => and2 (cmpId R a t) (Nat.beq o o')
  | .nilp, .nilp => true
  | .slice a o l e z, .slice t o' l' e' z' => and2 (cmpId R a t) (and2 (Nat.beq o o') (and2 (Nat.beq l l') (and2 (Nat.beq e e') (beqB z z'))))
  | .nils, .nils => true
  | .map a, .map t => cmpId R a t
  | .nilm, .nilm => true
  | .nilf, .nilf => true
  | .nili, .nili => true
  | .ifc y a, .ifc y' t => and2 (Nat.beq y y') (cmpAV R a t)
  | .agg a, .agg t => cmpAV R a t
  | .tup a, .tup t => cmpAV R a t
  | .nil, .nil => true
  | .cons a r, .cons t q => and2 (cmpAV R a t) (cmpAV R r q)
  | _, _ => false
/-- every number moved on -/
def shA (d : Nat) : AV → AV
  | .ptr b o => .ptr (Nat.add b d) o
  | .slice b o l e z => .slice (Nat.add b d) o l e z
  | .map b => .map (Nat.add b d)
  | .ifc t x => .ifc t (shA d x)
  | .agg x => .agg (shA d x)
  | .tup x => .tup (shA d x)
  | .cons x y => .cons (shA d x) (shA d y)
  | x => x
theorem beqB_ok {a b : Bool} (h : beqB a b = true) : a = b := by cases a <;> cases b <;> first | rfl | cases h
theorem cmpId_ok {R : List Nat} {a t : Nat} (h : cmpId R a t = true) : 64 ≤ t ∧ t < 64 + R.length ∧ R.getD (t - 64) 0 = a := by
  obtain ⟨h1, h⟩ := and2_ok h
  obtain ⟨h2, h3⟩ := and2_ok h
  rw [Nat.ble_eq] at h1 h2
  have h3 := Nat.eq_of_beq_eq_true h3
  rw [nthN_get] at h3
  exact ⟨h1, h2, h3⟩
/-- what two namings have to do with one another: the template's numbers, moved on, name what the run's numbers name -/
def Moved (R : List Nat) (ι1 ι2 : Nam) (d : Nat) : Prop := ∀ t, 64 ≤ t → t < 64 + R.length → ι2 (t + d) = ι1 (R.getD (t - 64) 0)
theorem cmpAV_ok {R : List Nat} {ι1 ι2 : Nam} {d : Nat} (hm : Moved R ι1 ι2 d) : ∀ (a t : AV), cmpAV R a t = true →
    (∀ v, (Go.Proofs.YtofmmjfbmiinoaaGreatDoor.Am.R ι1 a).1 v → (Go.Proofs.YtofmmjfbmiinoaaGreatDoor.Am.R ι2 (shA d t)).1 v) ∧ (∀ l, (Go.Proofs.YtofmmjfbmiinoaaGreatDoor.Am.R ι1 a).2 l → (Go.Proofs.YtofmmjfbmiinoaaGreatDoor.Am.R ι2 (shA d t)).2 l) := by
  intro a
  induction a with
  | bad => intro t h; cases t <;> simp [cmpAV] at h
  | unk => intro t h; cases t <;> simp [cmpAV] at h
  | bool b =>
    intro t h
    cases t <;> simp only [cmpAV, Bool.false_eq_true] at h
    obtain rfl := beqB_ok h
    exact ⟨fun _ h => h, fun _ h => h⟩
  | int k n =>
    intro t h
    cases t <;> simp only [cmpAV, Bool.false_eq_true] at h
    obtain ⟨h1, h2⟩ := and2_ok h
    obtain rfl := kix_inj h1
    obtain rfl := eqI_ok h2
    exact ⟨fun _ h => h, fun _ h => h⟩
  | str s =>
    intro t h
    cases t <;> simp only [cmpAV, Bool.false_eq_true] at h
    obtain rfl := (Str.eq_iff _ _).1 h
    exact ⟨fun _ h => h, fun _ h => h⟩
  | ptr b o =>
    intro t h
    cases t <;> simp only [cmpAV, Bool.false_eq_true] at h
    obtain ⟨h1, h2⟩ := and2_ok h
    obtain ⟨c1, c2, c3⟩ := cmpId_ok h1
    obtain rfl := Nat.eq_of_beq_eq_true h2
    refine ⟨fun v ⟨m, e1, e2⟩ => ⟨m, ?_, e2⟩, fun _ h => h⟩
    have := hm _ c1 c2
    rw [c3] at this
    exact this.trans e1
  | nilp => intro t h; cases t <;> simp only [cmpAV, Bool.false_eq_true] at h; exact ⟨fun _ h => h, fun _ h => h⟩
  | slice b o l e z =>
    intro t h
    cases t <;> simp only [cmpAV, Bool.false_eq_true] at h
    obtain ⟨h1, h⟩ := and2_ok h
    obtain ⟨h2, h⟩ := and2_ok h
    obtain ⟨h3, h⟩ := and2_ok h
    obtain ⟨h4, h5⟩ := and2_ok h
    obtain ⟨c1, c2, c3⟩ := cmpId_ok h1
    obtain rfl := Nat.eq_of_beq_eq_true h2
    obtain rfl := Nat.eq_of_beq_eq_true h3
    obtain rfl := Nat.eq_of_beq_eq_true h4
    obtain rfl := beqB_ok h5
    refine ⟨fun v ⟨m, y, cap, e1, e2⟩ => ⟨m, y, cap, ?_, e2⟩, fun _ h => h⟩
    have := hm _ c1 c2
    rw [c3] at this
    exact this.trans e1
  | nils => intro t h; cases t <;> simp only [cmpAV, Bool.false_eq_true] at h; exact ⟨fun _ h => h, fun _ h => h⟩
  | map b =>
    intro t h
    cases t <;> simp only [cmpAV, Bool.false_eq_true] at h
    obtain ⟨c1, c2, c3⟩ := cmpId_ok h
    refine ⟨fun v ⟨m, e1, e2⟩ => ⟨m, ?_, e2⟩, fun _ h => h⟩
    have := hm _ c1 c2
    rw [c3] at this
    exact this.trans e1
  | nilm => intro t h; cases t <;> simp only [cmpAV, Bool.false_eq_true] at h; exact ⟨fun _ h => h, fun _ h => h⟩
  | fn f x c => intro t h; cases t <;> simp [cmpAV] at h
  | yld l => intro t h; cases t <;> simp [cmpAV] at h
  | nilf => intro t h; cases t <;> simp only [cmpAV, Bool.false_eq_true] at h; exact ⟨fun _ h => h, fun _ h => h⟩
  | ifc y x ih =>
    intro t h
    cases t <;> simp only [cmpAV, Bool.false_eq_true] at h
    obtain ⟨h1, h2⟩ := and2_ok h
    obtain rfl := Nat.eq_of_beq_eq_true h1
    exact ⟨fun v ⟨z, e, hz⟩ => ⟨z, e, (ih _ h2).1 z hz⟩, fun _ h => h⟩
  | nili => intro t h; cases t <;> simp only [cmpAV, Bool.false_eq_true] at h; exact ⟨fun _ h => h, fun _ h => h⟩
  | agg x ih =>
    intro t h
    cases t <;> simp only [cmpAV, Bool.false_eq_true] at h
    exact ⟨fun v ⟨xs, e, hx⟩ => ⟨xs, e, (ih _ h).2 _ hx⟩, fun _ h => h⟩
  | tup x ih =>
    intro t h
    cases t <;> simp only [cmpAV, Bool.false_eq_true] at h
    exact ⟨fun v ⟨xs, e, hx⟩ => ⟨xs, e, (ih _ h).2 _ hx⟩, fun _ h => h⟩
  | nil => intro t h; cases t <;> simp only [cmpAV, Bool.false_eq_true] at h; exact ⟨fun _ h => h, fun _ h => h⟩
  | cons x r ihx ihr =>
    intro t h
    cases t <;> simp only [cmpAV, Bool.false_eq_true] at h
    obtain ⟨h1, h2⟩ := and2_ok h
    exact ⟨fun _ h => h, fun l ⟨y, ys, e, hy, hys⟩ => ⟨y, ys, e, (ihx _ h1).1 y hy, (ihr _ h2).2 ys hys⟩⟩
/-! ### blocks of a result -/
inductive TB where
  | cells (el : Nat) (l : AV)
  | smap (n c : Nat) (l : List (Str × AV))
def mkB (d : Nat) : TB → Blk
  | .cells el l => .cells el false (llen l) (dep (llen l)) (ofL (dep (llen l)) (shA d l))
  | .smap n c l => .smap n c (l.map fun p => (p.1, shA d p.2))
def cmpS (R : List Nat) : List (Str × AV) → List (Str × AV) → Bool
  | [], [] => true
  | p :: r, q :: s => and2 (p.1.eq q.1) (and2 (cmpAV R p.2 q.2) (cmpS R r s))
  | _, _ => false
def cmpB (R : List Nat) : Blk → TB → Bool
  | .cells el false n d t, .cells el' l => and2 (Nat.beq el el') (and2 (Nat.beq n (llen l)) (and2 (Nat.ble n mxCells) (cmpAV R (rdN d t n (nat_lit 0)) l)))
  | .smap n c l, .smap n' c' l' => and2 (Nat.beq n n') (and2 (Nat.beq c c') (cmpS R l l'))
  | _, _ => false
theorem llen_shA (d : Nat) : ∀ a : AV, llen (shA d a) = llen a := by
  intro a
  induction a with
  | cons x y _ ih => exact congrArg Nat.succ ih
  | _ => rfl
theorem cmpS_find {R : List Nat} {ι1 ι2 : Nam} {d : Nat} (hm : Moved R ι1 ι2 d) (s : Str) : ∀ {l l' : List (Str × AV)}, cmpS R l l' = true →
    (sfind s l = none → sfind s (l'.map fun p => (p.1, shA d p.2)) = none) ∧ (∀ v, sfind s l = some v → ∃ v', sfind s (l'.map fun p => (p.1, shA d p.2)) = some v' ∧ ∀ x, VR ι1 v x → VR ι2 v' x)
  | [], [], _ => ⟨fun _ => rfl, fun v h => by cases h⟩
  | [], _ :: _, h => by cases h
  | _ :: _, [], h => by cases h
  | p :: r, q :: t, h => by
    have h : and2 (p.1.eq q.1) (and2 (cmpAV R p.2 q.2) (cmpS R r t)) = true := h
    obtain ⟨h1, h⟩ := and2_ok h
    obtain ⟨h2, h3⟩ := and2_ok h
    have h1 := (Str.eq_iff _ _).1 h1
    obtain ⟨i1, i2⟩ := cmpS_find hm s h3
    rw [List.map_cons, sfind_cons, sfind_cons]
    dsimp only
    rw [h1]
    by_cases c : q.1 = s
    · rw [if_pos c, if_pos c]
      exact ⟨(fun h => by cases h), (fun v hv => by cases hv; exact ⟨_, rfl, (cmpAV_ok hm _ _ h2).1⟩)⟩
    · rw [if_neg c, if_neg c]
      exact ⟨i1, i2⟩
theorem cmpB_ok {R : List Nat} {ι1 ι2 : Nam} {d : Nat} (hm : Moved R ι1 ι2 d) {x : Blk} {tb : TB} (h : cmpB R x tb = true) {o : Obj} {m : Nm} (hb : BR ι1 x o m) : BR ι2 (mkB d tb) o m := by
  unfold cmpB at h
  split at h
  · rename_i el n dd t el' l
    obtain ⟨h1, h⟩ := and2_ok h
    obtain ⟨h2, h⟩ := and2_ok h
    obtain ⟨h3, h4⟩ := and2_ok h
    obtain rfl := Nat.eq_of_beq_eq_true h1
    have h2 := Nat.eq_of_beq_eq_true h2
    rw [Nat.ble_eq] at h3
    have h3 : n ≤ 4000000 := h3
    obtain ⟨arr, el', lo, hi, rfl, a1, a2, a3, a4, a5⟩ := hb
    have hr := rdN_ok (ι := ι1) (arr := arr) (sh := m.sh) n 0 (fun j _ hj => a4 j (by omega))
    have hr2 := (cmpAV_ok hm _ _ h4).2 _ hr
    have hr2 : VRs ι2 (shA d l) ((List.range n).map fun j => arr.getD (m.sh + 0 + j) undef) := hr2
    refine ⟨arr, el', lo, hi, rfl, a1, by rw [← h2]; exact a2, le_dep (by rw [← h2]; exact h3), fun i hi => ?_, a5⟩
    have hi : i < n := by rw [h2]; exact hi
    have hll := llen_ok hr2
    rw [List.length_map, List.length_range] at hll
    rw [ofL, wrL_get (llen l) (le_dep (by rw [← h2]; exact h3)) hr2 0 i _ (by simp; omega) (by omega), if_pos (by simp; omega), Nat.sub_zero]
    have := lnth_ok hr2 i
    have e : ((List.range n).map fun j => arr.getD (m.sh + 0 + j) undef).getD i undef = arr.getD (m.sh + i) undef := by
      simp [List.getD_eq_getElem?_getD, hi]
    rw [e] at this
    exact this
  · rename_i n c l n' c' l'
    obtain ⟨h1, h⟩ := and2_ok h
    obtain ⟨h2, h3⟩ := and2_ok h
    obtain rfl := Nat.eq_of_beq_eq_true h1
    obtain rfl := Nat.eq_of_beq_eq_true h2
    obtain ⟨es, e, a1, a0, a2, a3⟩ := hb
    refine ⟨es, e, a1, a0, a2, fun s => ?_⟩
    have hx := a3 s
    obtain ⟨i1, i2⟩ := cmpS_find hm (Str.of s) h3
    cases hv : sfind (Str.of s) l with
    | none =>
      rw [i1 hv]
      rw [hv] at hx
      exact hx
    | some v =>
      obtain ⟨v', hv', hr⟩ := i2 v hv
      rw [hv']
      rw [hv] at hx
      obtain ⟨e1, q1, q2⟩ := hx
      exact ⟨e1, q1, hr _ q2⟩
  · cases h
end
end Go.Proofs.YtofmmjfbmiinoaaGreatDoor.Am
namespace Go.Proofs.YtofmmjfbmiinoaaGreatDoor.Am
noncomputable section
/-- new blocks laid one behind the other -/
def place (d : Nat) : List TB → H → H := List.rec (motive := fun _ => H → H) (fun h => h) (fun b _ ih h => ih (h.new (mkB d b)))
theorem place_next (d : Nat) : ∀ (l : List TB) (h : H), (place d l h).next = h.next + l.length
  | [], _ => rfl
  | b :: l, h => by
    have e : place d (b :: l) h = place d l (h.new (mkB d b)) := rfl
    rw [e, place_next d l]
    show h.next + 1 + l.length = h.next + (l.length + 1)
    omega
theorem place_log (d : Nat) : ∀ (l : List TB) (h : H), (place d l h).log = h.log ∧ (place d l h).ln = h.ln
  | [], _ => ⟨rfl, rfl⟩
  | b :: l, h => place_log d l (h.new (mkB d b))
theorem place_get (d : Nat) : ∀ (l : List TB) (h : H), h.next + l.length ≤ 65536 → ∀ b, b < 65536 →
    (place d l h).get b = if h.next ≤ b ∧ b < h.next + l.length then (l[b - h.next]?).map (mkB d) else h.get b
  | [], h, _, b, _ => by rw [if_neg (by simp)]; rfl
  | x :: l, h, hr, b, hb => by
    have e : place d (x :: l) h = place d l (h.new (mkB d x)) := rfl
    have hn : (h.new (mkB d x)).next = h.next + 1 := rfl
    simp only [List.length_cons] at hr ⊢
    rw [e, place_get d l _ (by rw [hn]; omega) b hb, hn, H.get_new (by omega) hb]
    by_cases c : b = h.next
    · subst c
      rw [if_neg (by omega), if_pos rfl, if_pos (by omega), Nat.sub_self]; rfl
    · by_cases c2 : h.next + 1 ≤ b ∧ b < h.next + 1 + l.length
      · rw [if_pos c2, if_pos (by omega)]
        obtain ⟨j, rfl⟩ : ∃ j, b = h.next + 1 + j := ⟨b - (h.next + 1), by omega⟩
        rw [show h.next + 1 + j - (h.next + 1) = j by omega, show h.next + 1 + j - h.next = j + 1 by omega]; rfl
      · rw [if_neg c2, if_neg c, if_neg (by omega)]
def nodupN : List Nat → Bool := List.rec (motive := fun _ => Bool) true (fun x r ih => Bool.rec ih false (memN x r))
theorem nodupN_ok : ∀ {l : List Nat}, nodupN l = true → ∀ (i j x : Nat), l[i]? = some x → l[j]? = some x → i = j
  | [], _, i, j, x, h, _ => by simp at h
  | y :: l, h, i, j, x, hi, hj => by
    have e : nodupN (y :: l) = Bool.rec (nodupN l) false (memN y l) := rfl
    rw [e] at h
    cases hm : memN y l
    · rw [hm] at h
      have hn : y ∉ l := fun c => by rw [memN_ok.2 c] at hm; cases hm
      cases i with
      | zero =>
        cases j with
        | zero => rfl
        | succ j =>
          have h1 : y = x := by simpa using hi
          have h2 : l[j]? = some x := by simpa using hj
          exact absurd (List.mem_of_getElem? h2) (h1 ▸ hn)
      | succ i =>
        cases j with
        | zero =>
          have h1 : y = x := by simpa using hj
          have h2 : l[i]? = some x := by simpa using hi
          exact absurd (List.mem_of_getElem? h2) (h1 ▸ hn)
        | succ j => exact congrArg Nat.succ (nodupN_ok h i j x (by simpa using hi) (by simpa using hj))
    · rw [hm] at h; cases h
/-- the blocks of a run, named by R, are the template's -/
def cmpBs (R0 : List Nat) (h : H) : List Nat → List TB → Bool
  | [], [] => true
  | r :: rs, b :: bs => and2 (and2 (Nat.ble (nat_lit 64) r) (Nat.ble (Nat.succ r) h.next)) (and2 (match h.get r with | some x => cmpB R0 x b | none => false) (cmpBs R0 h rs bs))
  | _, _ => false
theorem cmpBs_ok {R0 : List Nat} {h : H} : ∀ {rs : List Nat} {bs : List TB}, cmpBs R0 h rs bs = true → rs.length = bs.length ∧ ∀ (j r : Nat), rs[j]? = some r → 64 ≤ r ∧ r < h.next ∧ ∃ x b, h.get r = some x ∧ bs[j]? = some b ∧ cmpB R0 x b = true
  | [], [], _ => ⟨rfl, fun j r h => by simp at h⟩
  | [], _ :: _, h => by cases h
  | _ :: _, [], h => by cases h
  | r :: rs, b :: bs, e => by
    have e : and2 (and2 (Nat.ble (nat_lit 64) r) (Nat.ble (Nat.succ r) h.next)) (and2 (match h.get r with | some x => cmpB R0 x b | none => false) (cmpBs R0 h rs bs)) = true := e
    obtain ⟨h1, e⟩ := and2_ok e
    obtain ⟨h2, h3⟩ := and2_ok e
    obtain ⟨h4, h5⟩ := and2_ok h1
    rw [Nat.ble_eq] at h4 h5
    obtain ⟨i1, i2⟩ := cmpBs_ok h3
    refine ⟨by simp [i1], fun j r' hj => ?_⟩
    cases j with
    | zero =>
      obtain rfl : r = r' := by simpa using hj
      cases hg : h.get r with
      | none => rw [hg] at h2; cases h2
      | some x =>
        rw [hg] at h2
        exact ⟨h4, h5, x, b, rfl, rfl, h2⟩
    | succ j =>
      obtain ⟨q1, q2, x, y, q3, q4, q5⟩ := i2 j r' (by simpa using hj)
      exact ⟨q1, q2, x, y, q3, by simpa using q4, q5⟩
/-- a known call: its result, and the blocks that it made -/
structure Known where
  f : Nat
  args : AV
  v : AV
  bs : List TB
/-- a run comes to what is known; R: the run's own numbers of the blocks -/
def chkK (e : Known) (R : List Nat) : Res → Bool := Res.rec (motive := fun _ => Bool) false
  (fun v h => and2 (cmpAV R v e.v) (and2 (nodupN R) (and2 (cmpBs R h R e.bs) (allGe (nat_lit 64) h.log))))
/-- the tables stand in a heap -/
def tabIn (h : H) : List (Nat × List Value) → Bool := List.rec (motive := fun _ => Bool) true (fun p _ ih =>
  and2 (match h.get p.1 with | some (.cells _ _ n d t) => and2 (Nat.beq n p.2.length) (cmpAV [] (rdN d t n (nat_lit 0)) (ofVs p.2)) | _ => false) ih)
def useK (tabs : List (Nat × List Value)) (e : Known) (f : Nat) (args : AV) (h : H) : Option Res :=
  Bool.rec none (some (.ok (shA (Nat.sub h.next (nat_lit 64)) e.v) (place (Nat.sub h.next (nat_lit 64)) e.bs h)))
    (and2 (Nat.beq f e.f) (and2 (cmpAV [] args e.args) (and2 (Nat.ble (Nat.add h.next e.bs.length) (nat_lit 65536)) (and2 (Nat.ble (nat_lit 64) h.next) (tabIn h tabs)))))
theorem use_inv {tabs : List (Nat × List Value)} {e : Known} {f : Nat} {args v : AV} {h h' : H} (u : useK tabs e f args h = some (.ok v h')) :
    f = e.f ∧ cmpAV [] args e.args = true ∧ h.next + e.bs.length ≤ 65536 ∧ 64 ≤ h.next ∧ tabIn h tabs = true ∧ v = shA (h.next - 64) e.v ∧ h' = place (h.next - 64) e.bs h := by
  unfold useK at u
  cases hc : (and2 (Nat.beq f e.f) (and2 (cmpAV [] args e.args) (and2 (Nat.ble (Nat.add h.next e.bs.length) (nat_lit 65536)) (and2 (Nat.ble (nat_lit 64) h.next) (tabIn h tabs)))))
  · rw [hc] at u; cases u
  · rw [hc] at u
    cases u
    obtain ⟨h1, hc⟩ := and2_ok hc
    obtain ⟨h2, hc⟩ := and2_ok hc
    obtain ⟨h3, hc⟩ := and2_ok hc
    obtain ⟨h4, h5⟩ := and2_ok hc
    rw [Nat.ble_eq] at h3 h4
    exact ⟨Nat.eq_of_beq_eq_true h1, h2, h3, h4, h5, rfl, rfl⟩
section
variable {P : Program} {ι : Nam} {h : H} {w : World}
/-- what a call came to, at a world of which the caller's heap says more -/
theorem known_cr {tabs : List (Nat × List Value)} {e : Known} {R : List Nat} {v1 : AV} {h1 : H} (hc : chkK e R (.ok v1 h1) = true) (k : WR ι h w) (hn : 64 ≤ h.next) (hroom : h.next + e.bs.length ≤ 65536)
    {v' : Value} {w' : World} (hcr : CR (tabN w) (tabH tabs) w v1 h1 v' w') : CR ι h w (shA (h.next - 64) e.v) (place (h.next - 64) e.bs h) v' w' := by
  obtain ⟨c1, hc⟩ := and2_ok hc
  obtain ⟨c2, hc⟩ := and2_ok hc
  obtain ⟨c3, c4⟩ := and2_ok hc
  obtain ⟨hlen, hbs⟩ := cmpBs_ok c3
  have hnd := nodupN_ok c2
  have hlog := allGe_ok c4
  obtain ⟨ι1, W, hv, k1, E⟩ := hcr
  have hW : W = h1.log := by
    have q := E.log
    have q2 : (tabH tabs).log = [] := rfl
    rw [q2, List.append_nil] at q
    exact q.symm
  have hWn : ∀ b ∈ W, tabN w b = none := fun b hb => by
    have : 64 ≤ b := hlog b (hW ▸ hb)
    unfold tabN; rw [if_neg (by omega)]
  have hold : ∀ i, i < w.heap.size → w'.heap[i]? = w.heap[i]? := fun i hi => E.heap i hi fun b hb m hm => by rw [hWn b hb] at hm; cases hm
  have hnew : ∀ b m, 64 ≤ b → ι1 b = some m → w.heap.size ≤ m.B := fun b m hb hm => by
    rcases E.new b m hb hm with q | ⟨b0, hb0, m0, hm0, _⟩
    · exact q
    · rw [hWn b0 hb0] at hm0; cases hm0
  let ι2 : Nam := fun b => if h.next ≤ b ∧ b < h.next + R.length then ι1 (R.getD (b - h.next) 0) else ι b
  have i2new : ∀ j, j < R.length → ι2 (h.next + j) = ι1 (R.getD j 0) := fun j hj => by
    show (if h.next ≤ h.next + j ∧ h.next + j < h.next + R.length then ι1 (R.getD (h.next + j - h.next) 0) else ι (h.next + j)) = _
    rw [if_pos (by omega), Nat.add_sub_cancel_left]
  have i2old : ∀ b, b < h.next ∨ h.next + R.length ≤ b → ι2 b = ι b := fun b hb => by
    show (if h.next ≤ b ∧ b < h.next + R.length then ι1 (R.getD (b - h.next) 0) else ι b) = _
    rw [if_neg (by omega)]
  have hmv : Moved R ι1 ι2 (h.next - 64) := fun t h1 h2 => by
    have := i2new (t - 64) (by omega)
    rw [show h.next + (t - 64) = t + (h.next - 64) by omega] at this
    exact this
  have hle : ι.le ι2 := fun b m hb => by
    have := k.lt hb
    rw [i2old b (.inl this)]; exact hb
  have hnx := place_next (h.next - 64) e.bs h
  have hget := place_get (h.next - 64) e.bs h hroom
  obtain ⟨hpl, hpn⟩ := place_log (h.next - 64) e.bs h
  have getR : ∀ j, j < R.length → ∃ r, R[j]? = some r ∧ R.getD j 0 = r := fun j hj => ⟨R[j], List.getElem?_eq_getElem hj, by simp [List.getD_eq_getElem?_getD, hj]⟩
  refine ⟨ι2, [], (cmpAV_ok hmv v1 e.v c1).1 v' hv, ?_, ?_⟩
  · refine ⟨by rw [hnx]; exact hroom, fun b hb => ?_, fun b x _ hb hx => ?_, fun b b' x x' m m' _ _ hb hb' hx hx' hm hm' hB => ?_⟩
    · rw [hnx] at hb
      rw [i2old b (by omega)]
      exact k.fresh b (by omega)
    · rw [hnx] at hb
      rw [hget b (by omega)] at hx
      by_cases c : h.next ≤ b ∧ b < h.next + e.bs.length
      · rw [if_pos c] at hx
        obtain ⟨r, hr, hrd⟩ := getR (b - h.next) (by omega)
        obtain ⟨q1, q2, y, tb, q3, q4, q5⟩ := hbs _ r hr
        rw [q4] at hx
        cases hx
        obtain ⟨m, o, z1, z2, z3⟩ := k1.blk r y trivial q2 q3
        have := i2new (b - h.next) (by omega)
        rw [hrd, show h.next + (b - h.next) = b by omega] at this
        exact ⟨m, o, by rw [this]; exact z1, z2, cmpB_ok hmv q5 z3⟩
      · rw [if_neg c] at hx
        have hb : b < h.next := by omega
        obtain ⟨m, o, z1, z2, z3⟩ := k.blk b x trivial hb hx
        exact ⟨m, o, hle _ _ z1, by rw [hold m.B (Array.getElem?_eq_some_iff.1 z2).1]; exact z2, z3.mono hle⟩
    · rw [hnx] at hb hb'
      -- a new name, its place in the run
      have nw : ∀ b m, h.next ≤ b → b < h.next + e.bs.length → ι2 b = some m → ∃ r, R[b - h.next]? = some r ∧ ι1 r = some m ∧ 64 ≤ r ∧ r < h1.next ∧ ∃ y, h1.get r = some y := fun b m c1 c2 hm => by
        obtain ⟨r, hr, hrd⟩ := getR (b - h.next) (by omega)
        obtain ⟨q1, q2, y, tb, q3, _, _⟩ := hbs _ r hr
        have := i2new (b - h.next) (by omega)
        rw [hrd, show h.next + (b - h.next) = b by omega] at this
        exact ⟨r, hr, by rw [← this]; exact hm, q1, q2, y, q3⟩
      have od : ∀ b x m, b < h.next → (place (h.next - 64) e.bs h).get b = some x → ι2 b = some m → ∃ y, h.get b = some y ∧ ι b = some m ∧ m.B < w.heap.size := fun b x m hb hx hm => by
        rw [hget b (by omega), if_neg (by omega)] at hx
        rw [i2old b (.inl hb)] at hm
        obtain ⟨m1, o, z1, z2, _⟩ := k.blk b x trivial hb hx
        rw [hm] at z1; cases z1
        exact ⟨x, hx, hm, (Array.getElem?_eq_some_iff.1 z2).1⟩
      rcases Nat.lt_or_ge b h.next with c | c <;> rcases Nat.lt_or_ge b' h.next with c' | c'
      · obtain ⟨y, hy, hm1, _⟩ := od b x m c hx hm
        obtain ⟨y', hy', hm1', _⟩ := od b' x' m' c' hx' hm'
        exact k.inj b b' y y' m m' trivial trivial c c' hy hy' hm1 hm1' hB
      · obtain ⟨_, _, _, hlt⟩ := od b x m c hx hm
        obtain ⟨r, _, hr1, hr2, _⟩ := nw b' m' c' (by omega) hm'
        have := hnew r m' hr2 hr1
        omega
      · obtain ⟨_, _, _, hlt⟩ := od b' x' m' c' hx' hm'
        obtain ⟨r, _, hr1, hr2, _⟩ := nw b m c (by omega) hm
        have := hnew r m hr2 hr1
        omega
      · obtain ⟨r, hr0, hr1, _, hr3, y, hy⟩ := nw b m c (by omega) hm
        obtain ⟨r', hr0', hr1', _, hr3', y', hy'⟩ := nw b' m' c' (by omega) hm'
        have := k1.inj r r' y y' m m' trivial trivial hr3 hr3' hy hy' hr1 hr1' hB
        subst this
        have := hnd _ _ _ hr0 hr0'
        omega
  · exact {
      next := by rw [hnx]; omega
      nam := fun b hb => i2old b (.inl hb)
      log := by rw [hpl]; rfl
      ln := by rw [hpn]; rfl
      kept := fun b hb _ => by rw [hget b (by omega), if_neg (by omega)]
      live := fun b hb => by cases hb
      size := E.size
      heap := fun i hi _ => hold i hi
      new := fun b m hb hm => by
        by_cases c : b < h.next + R.length
        · obtain ⟨r, hr, hrd⟩ := getR (b - h.next) (by omega)
          obtain ⟨q1, _⟩ := hbs _ r hr
          have := i2new (b - h.next) (by omega)
          rw [hrd, show h.next + (b - h.next) = b by omega] at this
          exact .inl (hnew r m q1 (by rw [← this]; exact hm))
        · rw [i2old b (by omega), k.fresh b hb] at hm; cases hm
      os := E.os
      tape := E.tape
      out := E.out }
end
end
end Go.Proofs.YtofmmjfbmiinoaaGreatDoor.Am
