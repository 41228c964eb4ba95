/- The machine's soundness: a table of calls whose results are known. -/
/- The machine's soundness: the table of known calls is so, where each was run. -/
/- The machine's soundness: two oracles, one behind the other; how a table's proofs are put together. -/
import Derived.Test.YtfmnninijakknaaGreatDoorAm43
namespace Go.Proofs.YtfmnninijakknaaGreatDoor.Am
noncomputable section
/-- new blocks laid one behind the other -/
def place (d : Nat) : List TB → H → H := List.rec (motive := fun _ => H → H) (fun h => h) (fun b _ ih h => ih (h.new (mkB d b)))
theorem place_next (d : Nat) : ∀ (l : List TB) (h : H), (place d l h).next = h.next + l.length
  | [], _ => rfl
  | b :: l, h => by
    have e : place d (b :: l) h = place d l (h.new (mkB d b)) := rfl
    rw [e, place_next d l]
    show h.next + 1 + l.length = h.next + (l.length + 1)
    omega
theorem place_log (d : Nat) : ∀ (l : List TB) (h : H), (place d l h).log = h.log ∧ (place d l h).ln = h.ln
  | [], _ => ⟨rfl, rfl⟩
  | b :: l, h => place_log d l (h.new (mkB d b))
theorem place_get (d : Nat) : ∀ (l : List TB) (h : H), h.next + l.length ≤ 65536 → ∀ b, b < 65536 →
    (place d l h).get b = if h.next ≤ b ∧ b < h.next + l.length then (l[b - h.next]?).map (mkB d) else h.get b
  | [], h, _, b, _ => by rw [if_neg (by simp)]; rfl
  | x :: l, h, hr, b, hb => by
    have e : place d (x :: l) h = place d l (h.new (mkB d x)) := rfl
    have hn : (h.new (mkB d x)).next = h.next + 1 := rfl
    simp only [List.length_cons] at hr ⊢
    rw [e, place_get d l _ (by rw [hn]; omega) b hb, hn, H.get_new (by omega) hb]
    by_cases c : b = h.next
    · subst c
      rw [if_neg (by omega), if_pos rfl, if_pos (by omega), Nat.sub_self]; rfl
    · by_cases c2 : h.next + 1 ≤ b ∧ b < h.next + 1 + l.length
      · rw [if_pos c2, if_pos (by omega)]
        obtain ⟨j, rfl⟩ : ∃ j, b = h.next + 1 + j := ⟨b - (h.next + 1), by omega⟩
        rw [show h.next + 1 + j - (h.next + 1) = j by omega, show h.next + 1 + j - h.next = j + 1 by omega]; rfl
      · rw [if_neg c2, if_neg c, if_neg (by omega)]
def nodupN : List Nat → Bool := List.rec (motive := fun _ => Bool) true (fun x r ih => Bool.rec ih false (memN x r))
theorem nodupN_ok : ∀ {l : List Nat}, nodupN l = true → ∀ (i j x : Nat), l[i]? = some x → l[j]? = some x → i = j
  | [], _, i, j, x, h, _ => by simp at h
  | y :: l, h, i, j, x, hi, hj => by
    have e : nodupN (y :: l) = Bool.rec (nodupN l) false (memN y l) := rfl
    rw [e] at h
    cases hm : memN y l
    · rw [hm] at h
      have hn : y ∉ l := fun c => by rw [memN_ok.2 c] at hm; cases hm
      cases i with
      | zero =>
        cases j with
        | zero => rfl
        | succ j =>
          have h1 : y = x := by simpa using hi
          have h2 : l[j]? = some x := by simpa using hj
          exact absurd (List.mem_of_getElem? h2) (h1 ▸ hn)
      | succ i =>
        cases j with
        | zero =>
          have h1 : y = x := by simpa using hj
          have h2 : l[i]? = some x := by simpa using hi
          exact absurd (List.mem_of_getElem? h2) (h1 ▸ hn)
        | succ j => exact congrArg Nat.succ (nodupN_ok h i j x (by simpa using hi) (by simpa using hj))
    · rw [hm] at h; cases h
/-- the blocks of a run, named by R, are the template's -/
def cmpBs (R0 : List Nat) (h : H) : List Nat → List TB → Bool
  | [], [] => true
  | r :: rs, b :: bs => and2 (and2 (Nat.ble (nat_lit 64) r) (Nat.ble (Nat.succ r) h.next)) (and2 (match h.get r with | some x => cmpB R0 x b | none => false) (cmpBs R0 h rs bs))
  | _, _ => false
theorem cmpBs_ok {R0 : List Nat} {h : H} : ∀ {rs : List Nat} {bs : List TB}, cmpBs R0 h rs bs = true → rs.length = bs.length ∧ ∀ (j r : Nat), rs[j]? = some r → 64 ≤ r ∧ r < h.next ∧ ∃ x b, h.get r = some x ∧ bs[j]? = some b ∧ cmpB R0 x b = true
  | [], [], _ => ⟨rfl, fun j r h => by simp at h⟩
  | [], _ :: _, h => by cases h
  | _ :: _, [], h => by cases h
  | r :: rs, b :: bs, e => by
    have e : and2 (and2 (Nat.ble (nat_lit 64) r) (Nat.ble (Nat.succ r) h.next)) (and2 (match h.get r with | some x => cmpB R0 x b | none => false) (cmpBs R0 h rs bs)) = true := e
    obtain ⟨h1, e⟩ := and2_ok e
    obtain ⟨h2, h3⟩ := and2_ok e
    obtain ⟨h4, h5⟩ := and2_ok h1
    rw [Nat.ble_eq] at h4 h5
    obtain ⟨i1, i2⟩ := cmpBs_ok h3
    refine ⟨by simp [i1], fun j r' hj => ?_⟩
    cases j with
    | zero =>
      obtain rfl : r = r' := by simpa using hj
      cases hg : h.get r with
      | none => rw [hg] at h2; cases h2
      | some x =>
        rw [hg] at h2
        exact ⟨h4, h5, x, b, rfl, rfl, h2⟩
    | succ j =>
      obtain ⟨q1, q2, x, y, q3, q4, q5⟩ := i2 j r' (by simpa using hj)
      exact ⟨q1, q2, x, y, q3, by simpa using q4, q5⟩
/-- a known call: its result, and the blocks that it made -/
structure Known where
  f : Nat
  args : AV
  v : AV
  bs : List TB
/-- a run comes to what is known; R: the run's own numbers of the blocks -/
def chkK (e : Known) (R : List Nat) : Res → Bool := Res.rec (motive := fun _ => Bool) false
  (fun v h => and2 (cmpAV R v e.v) (and2 (nodupN R) (and2 (cmpBs R h R e.bs) (allGe (nat_lit 64) h.log))))
/-- the tables stand in a heap -/
def tabIn (h : H) : List (Nat × List Value) → Bool := List.rec (motive := fun _ => Bool) true (fun p _ ih =>
  and2 (match h.get p.1 with | some (.cells _ _ n d t) => and2 (Nat.beq n p.2.length) (cmpAV [] (rdN d t n (nat_lit 0)) (ofVs p.2)) | _ => false) ih)
def useK (tabs : List (Nat × List Value)) (e : Known) (f : Nat) (args : AV) (h : H) : Option Res :=
  Bool.rec none (some (.ok (shA (Nat.sub h.next (nat_lit 64)) e.v) (place (Nat.sub h.next (nat_lit 64)) e.bs h)))
    (and2 (Nat.beq f e.f) (and2 (cmpAV [] args e.args) (and2 (Nat.ble (Nat.add h.next e.bs.length) (nat_lit 65536)) (and2 (Nat.ble (nat_lit 64) h.next) (tabIn h tabs)))))
theorem use_inv {tabs : List (Nat × List Value)} {e : Known} {f : Nat} {args v : AV} {h h' : H} (u : useK tabs e f args h = some (.ok v h')) :
    f = e.f ∧ cmpAV [] args e.args = true ∧ h.next + e.bs.length ≤ 65536 ∧ 64 ≤ h.next ∧ tabIn h tabs = true ∧ v = shA (h.next - 64) e.v ∧ h' = place (h.next - 64) e.bs h := by
  unfold useK at u
  cases hc : (and2 (Nat.beq f e.f) (and2 (cmpAV [] args e.args) (and2 (Nat.ble (Nat.add h.next e.bs.length) (nat_lit 65536)) (and2 (Nat.ble (nat_lit 64) h.next) (tabIn h tabs)))))
  · rw [hc] at u; cases u
  · rw [hc] at u
    cases u
    obtain ⟨h1, hc⟩ := and2_ok hc
    obtain ⟨h2, hc⟩ := and2_ok hc
    obtain ⟨h3, hc⟩ := and2_ok hc
    obtain ⟨h4, h5⟩ := and2_ok hc
    rw [Nat.ble_eq] at h3 h4
    exact ⟨Nat.eq_of_beq_eq_true h1, h2, h3, h4, h5, rfl, rfl⟩
section
variable {P : Program} {ι : Nam} {h : H} {w : World}
/-- what a call came to, at a world of which the caller's heap says more -/
theorem known_cr {tabs : List (Nat × List Value)} {e : Known} {R : List Nat} {v1 : AV} {h1 : H} (hc : chkK e R (.ok v1 h1) = true) (k : WR ι h w) (hn : 64 ≤ h.next) (hroom : h.next + e.bs.length ≤ 65536)
    {v' : Value} {w' : World} (hcr : CR (tabN w) (tabH tabs) w v1 h1 v' w') : CR ι h w (shA (h.next - 64) e.v) (place (h.next - 64) e.bs h) v' w' := by
  obtain ⟨c1, hc⟩ := and2_ok hc
  obtain ⟨c2, hc⟩ := and2_ok hc
  obtain ⟨c3, c4⟩ := and2_ok hc
  obtain ⟨hlen, hbs⟩ := cmpBs_ok c3
  have hnd := nodupN_ok c2
  have hlog := allGe_ok c4
  obtain ⟨ι1, W, hv, k1, E⟩ := hcr
  have hW : W = h1.log := by
    have q := E.log
    have q2 : (tabH tabs).log = [] := rfl
    rw [q2, List.append_nil] at q
    exact q.symm
  have hWn : ∀ b ∈ W, tabN w b = none := fun b hb => by
    have : 64 ≤ b := hlog b (hW ▸ hb)
    unfold tabN; rw [if_neg (by omega)]
  have hold : ∀ i, i < w.heap.size → w'.heap[i]? = w.heap[i]? := fun i hi => E.heap i hi fun b hb m hm => by rw [hWn b hb] at hm; cases hm
  have hnew : ∀ b m, 64 ≤ b → ι1 b = some m → w.heap.size ≤ m.B := fun b m hb hm => by
    rcases E.new b m hb hm with q | ⟨b0, hb0, m0, hm0, _⟩
    · exact q
    · rw [hWn b0 hb0] at hm0; cases hm0
  let ι2 : Nam := fun b => if h.next ≤ b ∧ b < h.next + R.length then ι1 (R.getD (b - h.next) 0) else ι b
  have i2new : ∀ j, j < R.length → ι2 (h.next + j) = ι1 (R.getD j 0) := fun j hj => by
    show (if h.next ≤ h.next + j ∧ h.next + j < h.next + R.length then ι1 (R.getD (h.next + j - h.next) 0) else ι (h.next + j)) = _
    rw [if_pos (by omega), Nat.add_sub_cancel_left]
  have i2old : ∀ b, b < h.next ∨ h.next + R.length ≤ b → ι2 b = ι b := fun b hb => by
    show (if h.next ≤ b ∧ b < h.next + R.length then ι1 (R.getD (b - h.next) 0) else ι b) = _
    rw [if_neg (by omega)]
  have hmv : Moved R ι1 ι2 (h.next - 64) := fun t h1 h2 => by
    have := i2new (t - 64) (by omega)
    rw [show h.next + (t - 64) = t + (h.next - 64) by omega] at this
    exact this
  have hle : ι.le ι2 := fun b m hb => by
    have := k.lt hb
    rw [i2old b (.inl this)]; exact hb
  have hnx := place_next (h.next - 64) e.bs h
  have hget := place_get (h.next - 64) e.bs h hroom
  obtain ⟨hpl, hpn⟩ := place_log (h.next - 64) e.bs h
  have getR : ∀ j, j < R.length → ∃ r, R[j]? = some r ∧ R.getD j 0 = r := fun j hj => ⟨R[j], List.getElem?_eq_getElem hj, by simp [List.getD_eq_getElem?_getD, hj]⟩
  refine ⟨ι2, [], (cmpAV_ok hmv v1 e.v c1).1 v' hv, ?_, ?_⟩
  · refine ⟨by rw [hnx]; exact hroom, fun b hb => ?_, fun b x _ hb hx => ?_, fun b b' x x' m m' _ _ hb hb' hx hx' hm hm' hB => ?_⟩
    · rw [hnx] at hb
      rw [i2old b (by omega)]
      exact k.fresh b (by omega)
    · rw [hnx] at hb
      rw [hget b (by omega)] at hx
      by_cases c : h.next ≤ b ∧ b < h.next + e.bs.length
      · rw [if_pos c] at hx
        obtain ⟨r, hr, hrd⟩ := getR (b - h.next) (by omega)
        obtain ⟨q1, q2, y, tb, q3, q4, q5⟩ := hbs _ r hr
        rw [q4] at hx
        cases hx
        obtain ⟨m, o, z1, z2, z3⟩ := k1.blk r y trivial q2 q3
        have := i2new (b - h.next) (by omega)
        rw [hrd, show h.next + (b - h.next) = b by omega] at this
        exact ⟨m, o, by rw [this]; exact z1, z2, cmpB_ok hmv q5 z3⟩
      · rw [if_neg c] at hx
        have hb : b < h.next := by omega
        obtain ⟨m, o, z1, z2, z3⟩ := k.blk b x trivial hb hx
        exact ⟨m, o, hle _ _ z1, by rw [hold m.B (Array.getElem?_eq_some_iff.1 z2).1]; exact z2, z3.mono hle⟩
    · rw [hnx] at hb hb'
      -- a new name, its place in the run
      have nw : ∀ b m, h.next ≤ b → b < h.next + e.bs.length → ι2 b = some m → ∃ r, R[b - h.next]? = some r ∧ ι1 r = some m ∧ 64 ≤ r ∧ r < h1.next ∧ ∃ y, h1.get r = some y := fun b m c1 c2 hm => by
        obtain ⟨r, hr, hrd⟩ := getR (b - h.next) (by omega)
        obtain ⟨q1, q2, y, tb, q3, _, _⟩ := hbs _ r hr
        have := i2new (b - h.next) (by omega)
        rw [hrd, show h.next + (b - h.next) = b by omega] at this
        exact ⟨r, hr, by rw [← this]; exact hm, q1, q2, y, q3⟩
      have od : ∀ b x m, b < h.next → (place (h.next - 64) e.bs h).get b = some x → ι2 b = some m → ∃ y, h.get b = some y ∧ ι b = some m ∧ m.B < w.heap.size := fun b x m hb hx hm => by
        rw [hget b (by omega), if_neg (by omega)] at hx
        rw [i2old b (.inl hb)] at hm
        obtain ⟨m1, o, z1, z2, _⟩ := k.blk b x trivial hb hx
        rw [hm] at z1; cases z1
        exact ⟨x, hx, hm, (Array.getElem?_eq_some_iff.1 z2).1⟩
      rcases Nat.lt_or_ge b h.next with c | c <;> rcases Nat.lt_or_ge b' h.next with c' | c'
      · obtain ⟨y, hy, hm1, _⟩ := od b x m c hx hm
        obtain ⟨y', hy', hm1', _⟩ := od b' x' m' c' hx' hm'
        exact k.inj b b' y y' m m' trivial trivial c c' hy hy' hm1 hm1' hB
      · obtain ⟨_, _, _, hlt⟩ := od b x m c hx hm
        obtain ⟨r, _, hr1, hr2, _⟩ := nw b' m' c' (by omega) hm'
        have := hnew r m' hr2 hr1
        omega
      · obtain ⟨_, _, _, hlt⟩ := od b' x' m' c' hx' hm'
        obtain ⟨r, _, hr1, hr2, _⟩ := nw b m c (by omega) hm
        have := hnew r m hr2 hr1
        omega
      · obtain ⟨r, hr0, hr1, _, hr3, y, hy⟩ := nw b m c (by omega) hm
        obtain ⟨r', hr0', hr1', _, hr3', y', hy'⟩ := nw b' m' c' (by omega) hm'
        have := k1.inj r r' y y' m m' trivial trivial hr3 hr3' hy hy' hr1 hr1' hB
        subst this
        have := hnd _ _ _ hr0 hr0'
        omega
  · exact {
      next := by rw [hnx]; omega
      nam := fun b hb => i2old b (.inl hb)
      log := by rw [hpl]; rfl
      ln := by rw [hpn]; rfl
      kept := fun b hb _ => by rw [hget b (by omega), if_neg (by omega)]
      live := fun b hb => by cases hb
      size := E.size
      heap := fun i hi _ => hold i hi
      new := fun b m hb hm => by
        by_cases c : b < h.next + R.length
        · obtain ⟨r, hr, hrd⟩ := getR (b - h.next) (by omega)
          obtain ⟨q1, _⟩ := hbs _ r hr
          have := i2new (b - h.next) (by omega)
          rw [hrd, show h.next + (b - h.next) = b by omega] at this
          exact .inl (hnew r m q1 (by rw [← this]; exact hm))
        · rw [i2old b (by omega), k.fresh b hb] at hm; cases hm
      os := E.os
      tape := E.tape
      out := E.out }
end
end
end Go.Proofs.YtfmnninijakknaaGreatDoor.Am
namespace Go.Proofs.YtfmnninijakknaaGreatDoor.Am
theorem shA_zero : ∀ t : AV, shA 0 t = t := by
  intro t
  induction t with
  | ifc y x ih => show AV.ifc y (shA 0 x) = _; rw [ih]
  | agg x ih => show AV.agg (shA 0 x) = _; rw [ih]
  | tup x ih => show AV.tup (shA 0 x) = _; rw [ih]
  | cons x y ihx ihy => show AV.cons (shA 0 x) (shA 0 y) = _; rw [ihx, ihy]
  | _ => rfl
theorem cmp_nil {ι ι2 : Nam} {a t : AV} (h : cmpAV [] a t = true) {l : List Value} (hl : VRs ι a l) : VRs ι2 t l := by
  have hm : Moved [] ι ι2 0 := fun t h1 h2 => by simp at h2; omega
  have := (cmpAV_ok hm a t h).2 l hl
  rw [shA_zero] at this
  exact this
/-- whole numbers alone -/
def intsV : List Value → Bool
  | [] => true
  | .int _ _ :: r => intsV r
  | _ :: _ => false
theorem ints_det {ι : Nam} : ∀ {vs l : List Value}, intsV vs = true → VRs ι (ofVs vs) l → l = vs
  | [], l, _, h => VRs_nil h
  | v :: vs, l, hi, h => by
    obtain ⟨x, xs, rfl, hx, hxs⟩ := VRs_cons (show VRs ι (.cons (ofV0 v) (ofVs vs)) l from h)
    cases v with
    | int k n =>
      have hx : x = .int k n := hx
      rw [hx, ints_det (ι := ι) (show intsV vs = true from hi) hxs]
    | _ => cases hi
noncomputable def tabsOk : List (Nat × List Value) → Bool
  | [] => true
  | p :: r => and2 (Nat.ble (Nat.succ p.1) 64) (and2 (Nat.ble p.2.length 4000000) (and2 (intsV p.2) (tabsOk r)))
theorem tabsOk_ok : ∀ {l : List (Nat × List Value)}, tabsOk l = true → ∀ p ∈ l, p.1 < 64 ∧ p.2.length ≤ 4000000 ∧ intsV p.2 = true
  | [], _, p, h => by cases h
  | q :: l, h, p, hp => by
    have h : and2 (Nat.ble (Nat.succ q.1) 64) (and2 (Nat.ble q.2.length 4000000) (and2 (intsV q.2) (tabsOk l))) = true := h
    obtain ⟨h1, h⟩ := and2_ok h
    obtain ⟨h2, h⟩ := and2_ok h
    obtain ⟨h3, h4⟩ := and2_ok h
    rw [Nat.ble_eq] at h1 h2
    rcases List.mem_cons.1 hp with rfl | hp
    · exact ⟨h1, h2, h3⟩
    · exact tabsOk_ok h4 p hp
theorem tabIn_ok {h : H} {ι : Nam} {w : World} (k : WR ι h w) (hG : GI ι) : ∀ {l : List (Nat × List Value)}, (∀ p ∈ l, p.1 < 64 ∧ p.2.length ≤ 4000000 ∧ intsV p.2 = true) → tabIn h l = true → ∀ p ∈ l, TabAt w p.1 p.2
  | [], _, _, p, hp => by cases hp
  | q :: l, hq, ht, p, hp => by
    have ht : and2 (match h.get q.1 with | some (.cells _ _ n d t) => and2 (Nat.beq n q.2.length) (cmpAV [] (rdN d t n (nat_lit 0)) (ofVs q.2)) | _ => false) (tabIn h l) = true := ht
    obtain ⟨h1, h2⟩ := and2_ok ht
    rcases List.mem_cons.1 hp with rfl | hp
    · obtain ⟨c1, c2, c3⟩ := hq p (by simp)
      split at h1
      · rename_i el ro n d t hg
        obtain ⟨h3, h4⟩ := and2_ok h1
        have h3 := Nat.eq_of_beq_eq_true h3
        obtain ⟨cs, hι⟩ := hG p.1 c1
        obtain ⟨arr, el', lo, hi, hw, a1, a2, a3, a4, _⟩ := k.cells trivial hι hg
        have hr := rdN_ok (ι := ι) (arr := arr) (sh := 0) n 0 (fun j _ hj => a4 j (by omega))
        have hr2 : VRs ι (ofVs p.2) _ := cmp_nil h4 hr
        have hdet := ints_det c3 hr2
        have a1 : arr.size = cs := a1
        have a2 : 0 + n ≤ cs := a2
        refine ⟨arr, el', lo, hi, hw, by omega, fun i hi => ?_⟩
        rw [← hdet]
        simp [List.getD_eq_getElem?_getD, show i < n by omega]
      · cases h1
    · exact tabIn_ok k hG (fun p hp => hq p (by simp [hp])) h2 p hp
/-- what is said of one call is so -/
def OneOk (P : Program) (tabs : List (Nat × List Value)) (e : Known) : Prop := ∀ f args h v h', useK tabs e f args h = some (.ok v h') → ∀ ι w (vs : Array Value), WR ι h w → GI ι → VRs ι args vs.toList →
  EndsF P (callFunc f vs) w (CR ι h w v h')
theorem EnterC.mono {P : Program} {f : Nat} {vs : Array Value} {w : World} {R R' : Value → World → Prop} (hR : ∀ v w, R v w → R' v w) (h : EnterC P f vs w R) : EnterC P f vs w R' := fun kind cs hc =>
  let ⟨fr, v, w', q, s, t⟩ := h kind cs hc; ⟨fr, v, w', hR _ _ q, s, t⟩
/-- A CALL THAT WAS RUN IS KNOWN. -/
theorem one_of_run {P : Program} {ext : Nat → Nat} {orc : Nat → AV → H → Option Res} {N : Nat} {tabs : List (Nat × List Value)} {e : Known} {R : List Nat} (hmix : P.follows .mixedOrders = true) (hprog : progOk P = true)
    (hext : ExtOk P (gOfO P ext orc)) (horc : OrcOk P (gOfO P ext orc)) (hf : (fnOf P e.f).isSome = true) (hno : orc e.f e.args (tabH tabs) = none) (ht : tabsOk tabs = true)
    (hrun : chkK e R ((run (gOfO P ext orc) (Nat.succ N)).call e.f e.args (tabH tabs)) = true) : OneOk P tabs e := by
  intro f args h v h' u ι w vs k hG ha
  obtain ⟨rfl, hargs, hroom, hn, htab, rfl, rfl⟩ := use_inv u
  obtain ⟨x, hx⟩ := Option.isSome_iff_exists.1 hf
  have htk := tabsOk_ok ht
  have hat := tabIn_ok k hG htk htab
  cases hr : (run (gOfO P ext orc) (Nat.succ N)).call e.f e.args (tabH tabs) with
  | fail => rw [hr] at hrun; cases hrun
  | ok v1 h1 =>
    rw [hr] at hrun
    have hvs : VRs (tabN w) e.args vs.toList := cmp_nil hargs ha
    have hen := calls_of_run (gOfO_ok P ext orc) hmix (fnsOk_of hprog) hext horc (N := N) (f := e.f) (x := x) hx hno hr (vs := vs) (wr_tabs fun p hp => ⟨(htk p hp).1, (htk p hp).2.1, hat p hp⟩) (gi_tabs w) hvs
    exact .inr ⟨e.f, vs, w, call_enter (gOfO_ok P ext orc) (fnsOk_of hprog) hx vs w, hen.mono fun v' w' hcr => known_cr hrun k hn hroom hcr⟩
/-! ### tables of known calls -/
noncomputable section
def orcL (tabs : List (Nat × List Value)) (f : Nat) (args : AV) (h : H) : List Known → Option Res := List.rec (motive := fun _ => Option Res) none
  (fun e _ ih => Option.rec (motive := fun _ => Option Res) ih some (useK tabs e f args h))
/-- by function: the known calls of each -/
def orcT (tabs : List (Nat × List Value)) (tbl : List (Nat × List Known)) (f : Nat) (args : AV) (h : H) : Option Res := List.rec (motive := fun _ => Option Res) none
  (fun p _ ih => Bool.rec ih (orcL tabs f args h p.2) (Nat.beq f p.1)) tbl
theorem orcL_inv {tabs : List (Nat × List Value)} {f : Nat} {args : AV} {h : H} {r : Res} : ∀ {l : List Known}, orcL tabs f args h l = some r → ∃ e ∈ l, useK tabs e f args h = some r
  | [], u => by cases u
  | e :: l, u => by
    have u : Option.rec (motive := fun _ => Option Res) (orcL tabs f args h l) some (useK tabs e f args h) = some r := u
    cases hu : useK tabs e f args h with
    | none =>
      rw [hu] at u
      obtain ⟨e', h1, h2⟩ := orcL_inv u
      exact ⟨e', by simp [h1], h2⟩
    | some r' =>
      rw [hu] at u
      cases u
      exact ⟨e, by simp, hu⟩
theorem orcT_inv {tabs : List (Nat × List Value)} {f : Nat} {args : AV} {h : H} {r : Res} : ∀ {tbl : List (Nat × List Known)}, orcT tabs tbl f args h = some r → ∃ p ∈ tbl, ∃ e ∈ p.2, useK tabs e f args h = some r
  | [], u => by cases u
  | p :: l, u => by
    have u : Bool.rec (orcT tabs l f args h) (orcL tabs f args h p.2) (Nat.beq f p.1) = some r := u
    cases hb : Nat.beq f p.1
    · rw [hb] at u
      obtain ⟨q, h1, e, h2, h3⟩ := orcT_inv u
      exact ⟨q, by simp [h1], e, h2, h3⟩
    · rw [hb] at u
      obtain ⟨e, h2, h3⟩ := orcL_inv u
      exact ⟨p, by simp, e, h2, h3⟩
theorem orcT_ok {P : Program} {ext : Nat → Nat} {tabs : List (Nat × List Value)} {tbl : List (Nat × List Known)} (h : ∀ p ∈ tbl, ∀ e ∈ p.2, OneOk P tabs e) : OrcOk P (gOfO P ext (orcT tabs tbl)) := by
  intro f args hh v h' u ι w vs k hG ha
  obtain ⟨p, h1, e, h2, h3⟩ := orcT_inv u
  exact h p h1 e h2 f args hh v h' h3 ι w vs k hG ha
end
end Go.Proofs.YtfmnninijakknaaGreatDoor.Am
namespace Go.Proofs.YtfmnninijakknaaGreatDoor.Am
noncomputable section
def orc2 (a b : Nat → AV → H → Option Res) (f : Nat) (args : AV) (h : H) : Option Res := Option.rec (motive := fun _ => Option Res) (b f args h) some (a f args h)
theorem orc2_ok {P : Program} {ext : Nat → Nat} {a b : Nat → AV → H → Option Res} (ha : OrcOk P (gOfO P ext a)) (hb : OrcOk P (gOfO P ext b)) : OrcOk P (gOfO P ext (orc2 a b)) := by
  intro f args h v h' u
  have u : Option.rec (motive := fun _ => Option Res) (b f args h) some (a f args h) = some (.ok v h') := u
  cases hx : a f args h with
  | none =>
    rw [hx] at u
    exact hb f args h v h' u
  | some r =>
    rw [hx] at u
    cases u
    exact ha f args h v h' hx
variable {P : Program} {tabs : List (Nat × List Value)}
theorem kn_nil : ∀ e ∈ ([] : List Known), OneOk P tabs e := fun _ h => by cases h
theorem kn_cons {e : Known} {l : List Known} (h : OneOk P tabs e) (r : ∀ e ∈ l, OneOk P tabs e) : ∀ x ∈ e :: l, OneOk P tabs x := fun x hx => by
  rcases List.mem_cons.1 hx with rfl | hx
  · exact h
  · exact r x hx
theorem kt_nil : ∀ p ∈ ([] : List (Nat × List Known)), ∀ e ∈ p.2, OneOk P tabs e := fun _ h => by cases h
theorem kt_cons {f : Nat} {l : List Known} {r : List (Nat × List Known)} (h : ∀ e ∈ l, OneOk P tabs e) (k : ∀ p ∈ r, ∀ e ∈ p.2, OneOk P tabs e) : ∀ p ∈ (f, l) :: r, ∀ e ∈ p.2, OneOk P tabs e := fun p hp => by
  rcases List.mem_cons.1 hp with rfl | hp
  · exact h
  · exact k p hp
end
end Go.Proofs.YtfmnninijakknaaGreatDoor.Am
