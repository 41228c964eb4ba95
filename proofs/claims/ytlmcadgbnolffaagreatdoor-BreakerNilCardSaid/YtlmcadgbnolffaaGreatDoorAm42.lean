/- The machine's soundness: closed runs: a function without parameters, from a heap that holds tables alone. -/
import Derived.Test.YtlmcadgbnolffaaGreatDoorAm41
import Derived.Below
namespace Go.Proofs.YtlmcadgbnolffaaGreatDoor.Am
noncomputable section
def isTrue : AV → Bool
  | .bool true => true
  | _ => false
/-- a list of numbers, gone through by halves: what is left when so many are not below m -/
def step1 (m : Nat) (l : List Nat) : Option (List Nat) := List.rec (motive := fun _ => Option (List Nat)) (some []) (fun x r _ => Bool.rec none (some r) (Nat.ble m x)) l
def goGe (m : Nat) : Nat → List Nat → Option (List Nat) := Nat.rec (motive := fun _ => List Nat → Option (List Nat)) (step1 m)
  (fun _ ih l => List.rec (motive := fun _ => Option (List Nat)) (some []) (fun _ _ _ => Option.rec (motive := fun _ => Option (List Nat)) none ih (ih l)) l)
def isEnd : Option (List Nat) → Bool := Option.rec (motive := fun _ => Bool) false (fun l => List.rec (motive := fun _ => Bool) true (fun _ _ _ => false) l)
def allGe (m : Nat) (l : List Nat) : Bool := isEnd (goGe m (nat_lit 20) l)
/-- true; and no block of those that were there was written -/
def chkR : Res → Bool := Res.rec (motive := fun _ => Bool) false (fun v h => and2 (isTrue v) (allGe (nat_lit 64) h.log))
def okFn (P : Program) (f : Nat) : Bool :=
  match fnOf P f with
  | some x => (match P.funcs[f]? with
    | some fn => and2 (fnOk x) (Bool.rec true false (fn.name == "runtime.NumGoroutine"))
    | none => false)
  | none => true
def progOk (P : Program) : Bool := (List.range P.funcs.size).all (okFn P)
theorem fnsOk_of {P : Program} {ext : Nat → Nat} (h : progOk P = true) : FnsOk P (gOf P ext) := by
  intro f x hx
  have hx : fnOf P f = some x := hx
  have hlt : f < P.funcs.size := by
    obtain ⟨fn, hf, _⟩ := (gOf_ok P ext).fn f x hx
    exact (Array.getElem?_eq_some_iff.1 hf).1
  have h1 := List.all_eq_true.1 h f (List.mem_range.2 hlt)
  unfold okFn at h1
  rw [hx] at h1
  dsimp only at h1
  cases hf : P.funcs[f]? with
  | none => rw [hf] at h1; cases h1
  | some fn =>
    rw [hf] at h1
    dsimp only at h1
    obtain ⟨h2, h3⟩ := and2_ok h1
    refine ⟨h2, fun fn' e => ?_⟩
    cases e
    cases hn : (fn.name == "runtime.NumGoroutine")
    · rfl
    · rw [hn] at h3; cases h3
theorem step1_ok {m : Nat} {l r : List Nat} (h : step1 m l = some r) : ∀ x ∈ l, m ≤ x ∨ x ∈ r := by
  cases l with
  | nil => intro x hx; cases hx
  | cons y l =>
    have h : (Bool.rec none (some l) (Nat.ble m y) : Option (List Nat)) = some r := h
    cases hb : Nat.ble m y
    · rw [hb] at h; cases h
    · rw [hb] at h
      cases h
      rw [Nat.ble_eq] at hb
      intro x hx
      rcases List.mem_cons.1 hx with rfl | hx
      · exact .inl hb
      · exact .inr hx
theorem goGe_ok {m : Nat} : ∀ {k : Nat} {l r : List Nat}, goGe m k l = some r → ∀ x ∈ l, m ≤ x ∨ x ∈ r
  | 0, _, _, h => step1_ok h
  | k + 1, l, r, h => by
    cases l with
    | nil => intro x hx; cases hx
    | cons y l =>
      have h : Option.rec (motive := fun _ => Option (List Nat)) none (goGe m k) (goGe m k (y :: l)) = some r := h
      cases he : goGe m k (y :: l) with
      | none => rw [he] at h; cases h
      | some r1 =>
        rw [he] at h
        have h : goGe m k r1 = some r := h
        intro x hx
        rcases goGe_ok he x hx with c | c
        · exact .inl c
        · exact goGe_ok h x c
theorem allGe_ok {m : Nat} {l : List Nat} (h : allGe m l = true) : ∀ x ∈ l, m ≤ x := by
  unfold allGe at h
  cases he : goGe m (nat_lit 20) l with
  | none => rw [he] at h; cases h
  | some r =>
    rw [he] at h
    cases r with
    | nil =>
      intro x hx
      rcases goGe_ok he x hx with c | c
      · exact c
      · cases c
    | cons _ _ => cases h
theorem chkR_ok {r : Res} (h : chkR r = true) : ∃ h', r = .ok (.bool true) h' ∧ ∀ x ∈ h'.log, 64 ≤ x := by
  cases r with
  | fail => cases h
  | ok v h' =>
    obtain ⟨h1, h2⟩ := and2_ok (show and2 (isTrue v) (allGe (nat_lit 64) h'.log) = true from h)
    refine ⟨h', ?_, allGe_ok h2⟩
    unfold isTrue at h1
    split at h1
    · rfl
    · cases h1

/-! ### tables -/
/-- the machine's heap of some tables: each a package-level variable's cells -/
def tabT : List (Nat × List Value) → E (Option Blk) hd
  | [] => E.rep none hd
  | (x, l) :: r => E.put (some (.cells 0 true l.length (dep l.length) (ofL (dep l.length) (ofVs l)))) hd (path hd x) (tabT r)
def tabH (l : List (Nat × List Value)) : H := ⟨tabT l, nat_lit 64, nat_lit 0, []⟩
/-- the variable's cells are these -/
def TabAt (w : World) (x : Nat) (l : List Value) : Prop :=
  ∃ arr el lo hi, w.heap[x]? = some (.cells arr el (lo, hi)) ∧ l.length ≤ arr.size ∧ ∀ i, i < l.length → arr.getD i undef = l.getD i undef
def tabN (w : World) : Nam := fun b => if b < 64 then some ⟨b, 0, match w.heap[b]? with | some (.cells arr _ _) => arr.size | _ => 0⟩ else none
theorem tabT_get : ∀ (l : List (Nat × List Value)), (∀ p ∈ l, p.1 < 64) → ∀ b, b < 64 → ∀ x, E.get hd (path hd b) (tabT l) = some x →
    ∃ vs, (b, vs) ∈ l ∧ x = .cells 0 true vs.length (dep vs.length) (ofL (dep vs.length) (ofVs vs))
  | [], _, b, _, x, h => by
    have : E.get hd (path hd b) (E.rep (none : Option Blk) hd) = none := E.get_rep _ _ _
    have h : E.get hd (path hd b) (E.rep (none : Option Blk) hd) = some x := h
    rw [this] at h; cases h
  | (y, vs) :: r, hl, b, hb, x, h => by
    have h : E.get hd (path hd b) (E.put (some (.cells 0 true vs.length (dep vs.length) (ofL (dep vs.length) (ofVs vs)))) hd (path hd y) (tabT r)) = some x := h
    have hy := hl (y, vs) (by simp)
    by_cases c : y = b
    · subst c
      rw [E.get_put_same] at h
      cases h
      exact ⟨vs, by simp, rfl⟩
    · have hne := E.get_put_ne (some (Blk.cells 0 true vs.length (dep vs.length) (ofL (dep vs.length) (ofVs vs)))) 8 y b (by have : y < 64 := hy; omega) (by omega) c (tabT r)
      have h := hne.symm.trans h
      obtain ⟨vs', h1, h2⟩ := tabT_get r (fun p hp => hl p (by simp [hp])) b hb x h
      exact ⟨vs', by simp [h1], h2⟩
theorem wr_tabs {w : World} {l : List (Nat × List Value)} (hl : ∀ p ∈ l, p.1 < 64 ∧ p.2.length ≤ 4000000 ∧ TabAt w p.1 p.2) : WR (tabN w) (tabH l) w where
  most := by show 64 ≤ 65536; omega
  fresh b hb := by
    have hb : 64 ≤ b := hb
    unfold tabN; rw [if_neg (by omega)]
  blk b x _ hb hx := by
    have hb : b < 64 := hb
    obtain ⟨vs, hm, rfl⟩ := tabT_get l (fun p hp => (hl p hp).1) b hb x hx
    obtain ⟨_, hlen, arr, el, lo, hi, h1, h2, h3⟩ := hl _ hm
    refine ⟨⟨b, 0, arr.size⟩, .cells arr el (lo, hi), ?_, h1, arr, el, lo, hi, rfl, rfl, by simpa using h2, le_dep hlen, fun i hi => ?_, fun c => by cases c⟩
    · unfold tabN; rw [if_pos hb, h1]
    · have hv := ofVs_ok (tabN w) vs
      rw [ofL, wrL_get vs.length (le_dep hlen) hv 0 i _ (by omega) hi, if_pos (by omega), Nat.sub_zero]
      have := lnth_ok hv i
      show VR _ _ (arr.getD (0 + i) undef)
      rw [Nat.zero_add, h3 i hi]
      exact this
  inj b b' x x' m m' _ _ hb hb' _ _ hm hm' hB := by
    have hb : b < 64 := hb
    have hb' : b' < 64 := hb'
    unfold tabN at hm hm'
    rw [if_pos hb] at hm
    rw [if_pos hb'] at hm'
    cases hm; cases hm'
    exact hB
theorem gi_tabs (w : World) : GI (tabN w) := fun x hx => ⟨_, by unfold tabN; rw [if_pos hx]⟩
/-- A RUN THAT COMES TO true, whatever the machine does not know of its arguments. -/
theorem run_true {P : Program} {ext : Nat → Nat} {N f : Nat} {l : List (Nat × List Value)} (hmix : P.follows .mixedOrders = true) (hprog : progOk P = true) (hext : ExtOk P (gOf P ext)) (hf : (fnOf P f).isSome = true) {args : AV}
    (e : chkR ((run (gOf P ext) (Nat.succ N)).call f args (tabH l)) = true) {w : World} (hl : ∀ p ∈ l, p.1 < 64 ∧ p.2.length ≤ 4000000 ∧ TabAt w p.1 p.2) {vs : Array Value} (ha : VRs (tabN w) args vs.toList) :
    Calls P f vs w fun o w' => o = .returned (.bool true) ∧ RowKit.Below w.heap.size w w' := by
  obtain ⟨x, hx⟩ := Option.isSome_iff_exists.1 hf
  obtain ⟨h', hr, hlog⟩ := chkR_ok e
  have hc := calls_of_run (gOf_ok P ext) hmix (fnsOk_of hprog) hext (N := N) (f := f) (x := x) hx hr (vs := vs) (wr_tabs hl) (gi_tabs w) ha
  refine hc.mono fun o w' ho => ?_
  obtain ⟨v', rfl, ι', W, hv, _, hE⟩ := ho
  have hv : v' = .bool true := hv
  subst hv
  have hW : W = h'.log := by
    have h1 := hE.log
    have h2 : (tabH l).log = [] := rfl
    rw [h2, List.append_nil] at h1
    exact h1.symm
  refine ⟨rfl, hE.os, hE.tape, hE.out, hE.size, fun k hk => hE.heap k hk fun b hb m hm => ?_⟩
  have := hlog b (hW ▸ hb)
  unfold tabN at hm
  rw [if_neg (by omega)] at hm
  cases hm
/-- A CLOSED RUN THAT COMES TO true. -/
theorem closed_true {P : Program} {ext : Nat → Nat} {N f : Nat} {l : List (Nat × List Value)} (hmix : P.follows .mixedOrders = true) (hprog : progOk P = true) (hext : ExtOk P (gOf P ext)) (hf : (fnOf P f).isSome = true)
    (e : chkR ((run (gOf P ext) (Nat.succ N)).call f .nil (tabH l)) = true) {w : World} (hl : ∀ p ∈ l, p.1 < 64 ∧ p.2.length ≤ 4000000 ∧ TabAt w p.1 p.2) :
    Calls P f #[] w fun o w' => o = .returned (.bool true) ∧ RowKit.Below w.heap.size w w' :=
  run_true hmix hprog hext hf e hl (vs := #[]) rfl
end
end Go.Proofs.YtlmcadgbnolffaaGreatDoor.Am
