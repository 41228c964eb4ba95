/- The machine's soundness: the table of known calls is so, where each was run. -/
/- The machine's soundness: two oracles, one behind the other; how a table's proofs are put together. -/
import Derived.Test.YtofmmjfbmiinoaaGreatDoorAm44
namespace Go.Proofs.YtofmmjfbmiinoaaGreatDoor.Am
theorem shA_zero : ∀ t : AV, shA 0 t = t := by
  intro t
  induction t with
  | ifc y x ih => show AV.ifc y (shA 0 x) = _; rw [ih]
  | agg x ih => show AV.agg (shA 0 x) = _; rw [ih]
  | tup x ih => show AV.tup (shA 0 x) = _; rw [ih]
  | cons x y ihx ihy => show AV.cons (shA 0 x) (shA 0 y) = _; rw [ihx, ihy]
  | _ => rfl
theorem cmp_nil {ι ι2 : Nam} {a t : AV} (h : cmpAV [] a t = true) {l : List Value} (hl : VRs ι a l) : VRs ι2 t l := by
  have hm : Moved [] ι ι2 0 := fun t h1 h2 => by simp at h2; omega
  have := (cmpAV_ok hm a t h).2 l hl
  rw [shA_zero] at this
  exact this
/-- whole numbers alone -/
def intsV : List Value → Bool
  | [] => true
  | .int _ _ :: r => intsV r
  | _ :: _ => false
theorem ints_det {ι : Nam} : ∀ {vs l : List Value}, intsV vs = true → VRs ι (ofVs vs) l → l = vs
  | [], l, _, h => VRs_nil h
  | v :: vs, l, hi, h => by
    obtain ⟨x, xs, rfl, hx, hxs⟩ := VRs_cons (show VRs ι (.cons (ofV0 v) (ofVs vs)) l from h)
    cases v with
    | int k n =>
      have hx : x = .int k n := hx
      rw [hx, ints_det (ι := ι) (show intsV vs = true from hi) hxs]
    | _ => cases hi
noncomputable def tabsOk : List (Nat × List Value) → Bool
  | [] => true
  | p :: r => and2 (Nat.ble (Nat.succ p.1) 64) (and2 (Nat.ble p.2.length 4000000) (and2 (intsV p.2) (tabsOk r)))
theorem tabsOk_ok : ∀ {l : List (Nat × List Value)}, tabsOk l = true → ∀ p ∈ l, p.1 < 64 ∧ p.2.length ≤ 4000000 ∧ intsV p.2 = true
  | [], _, p, h => by cases h
  | q :: l, h, p, hp => by
    have h : and2 (Nat.ble (Nat.succ q.1) 64) (and2 (Nat.ble q.2.length 4000000) (and2 (intsV q.2) (tabsOk l))) = true := h
    obtain ⟨h1, h⟩ := and2_ok h
    obtain ⟨h2, h⟩ := and2_ok h
    obtain ⟨h3, h4⟩ := and2_ok h
    rw [Nat.ble_eq] at h1 h2
    rcases List.mem_cons.1 hp with rfl | hp
    · exact ⟨h1, h2, h3⟩
    · exact tabsOk_ok h4 p hp
theorem tabIn_ok {h : H} {ι : Nam} {w : World} (k : WR ι h w) (hG : GI ι) : ∀ {l : List (Nat × List Value)}, (∀ p ∈ l, p.1 < 64 ∧ p.2.length ≤ 4000000 ∧ intsV p.2 = true) → tabIn h l = true → ∀ p ∈ l, TabAt w p.1 p.2
  | [], _, _, p, hp => by cases hp
  | q :: l, hq, ht, p, hp => by
    have ht : and2 (match h.get q.1 with | some (.cells _ _ n d t) => and2 (Nat.beq n q.2.length) (cmpAV [] (rdN d t n (nat_lit 0)) (ofVs q.2)) | _ => false) (tabIn h l) = true := ht
    obtain ⟨h1, h2⟩ := and2_ok ht
    rcases List.mem_cons.1 hp with rfl | hp
    · obtain ⟨c1, c2, c3⟩ := hq p (by simp)
      split at h1
      · rename_i el ro n d t hg
        obtain ⟨h3, h4⟩ := and2_ok h1
        have h3 := Nat.eq_of_beq_eq_true h3
        obtain ⟨cs, hι⟩ := hG p.1 c1
        obtain ⟨arr, el', lo, hi, hw, a1, a2, a3, a4, _⟩ := k.cells trivial hι hg
        have hr := rdN_ok (ι := ι) (arr := arr) (sh := 0) n 0 (fun j _ hj => a4 j (by omega))
        have hr2 : VRs ι (ofVs p.2) _ := cmp_nil h4 hr
        have hdet := ints_det c3 hr2
        have a1 : arr.size = cs := a1
        have a2 : 0 + n ≤ cs := a2
        refine ⟨arr, el', lo, hi, hw, by omega, fun i hi => ?_⟩
        rw [← hdet]
        simp [List.getD_eq_getElem?_getD, show i < n by omega]
      · cases h1
    · exact tabIn_ok k hG (fun p hp => hq p (by simp [hp])) h2 p hp
/-- what is said of one call is so -/
def OneOk (P : Program) (tabs : List (Nat × List Value)) (e : Known) : Prop := ∀ f args h v h', useK tabs e f args h = some (.ok v h') → ∀ ι w (vs : Array Value), WR ι h w → GI ι → VRs ι args vs.toList →
  EndsF P (callFunc f vs) w (CR ι h w v h')
theorem EnterC.mono {P : Program} {f : Nat} {vs : Array Value} {w : World} {R R' : Value → World → Prop} (hR : ∀ v w, R v w → R' v w) (h : EnterC P f vs w R) : EnterC P f vs w R' := fun kind cs hc =>
  let ⟨fr, v, w', q, s, t⟩ := h kind cs hc; ⟨fr, v, w', hR _ _ q, s, t⟩
/-- A CALL THAT WAS RUN IS KNOWN. -/
theorem one_of_run {P : Program} {ext : Nat → Nat} {orc : Nat → AV → H → Option Res} {N : Nat} {tabs : List (Nat × List Value)} {e : Known} {R : List Nat} (hmix : P.follows .mixedOrders = true) (hprog : progOk P = true)
    (hext : ExtOk P (gOfO P ext orc)) (horc : OrcOk P (gOfO P ext orc)) (hf : (fnOf P e.f).isSome = true) (hno : orc e.f e.args (tabH tabs) = none) (ht : tabsOk tabs = true)
    (hrun : chkK e R ((run (gOfO P ext orc) (Nat.succ N)).call e.f e.args (tabH tabs)) = true) : OneOk P tabs e := by
  intro f args h v h' u ι w vs k hG ha
  obtain ⟨rfl, hargs, hroom, hn, htab, rfl, rfl⟩ := use_inv u
  obtain ⟨x, hx⟩ := Option.isSome_iff_exists.1 hf
  have htk := tabsOk_ok ht
  have hat := tabIn_ok k hG htk htab
  cases hr : (run (gOfO P ext orc) (Nat.succ N)).call e.f e.args (tabH tabs) with
  | fail => rw [hr] at hrun; cases hrun
  | ok v1 h1 =>
    rw [hr] at hrun
    have hvs : VRs (tabN w) e.args vs.toList := cmp_nil hargs ha
    have hen := calls_of_run (gOfO_ok P ext orc) hmix (fnsOk_of hprog) hext horc (N := N) (f := e.f) (x := x) hx hno hr (vs := vs) (wr_tabs fun p hp => ⟨(htk p hp).1, (htk p hp).2.1, hat p hp⟩) (gi_tabs w) hvs
    exact .inr ⟨e.f, vs, w, call_enter (gOfO_ok P ext orc) (fnsOk_of hprog) hx vs w, hen.mono fun v' w' hcr => known_cr hrun k hn hroom hcr⟩
/-! ### tables of known calls -/
noncomputable section
def orcL (tabs : List (Nat × List Value)) (f : Nat) (args : AV) (h : H) : List Known → Option Res := List.rec (motive := fun _ => Option Res) none
  (fun e _ ih => Option.rec (motive := fun _ => Option Res) ih some (useK tabs e f args h))
/-- by function: the known calls of each -/
def orcT (tabs : List (Nat × List Value)) (tbl : List (Nat × List Known)) (f : Nat) (args : AV) (h : H) : Option Res := List.rec (motive := fun _ => Option Res) none
  (fun p _ ih => Bool.rec ih (orcL tabs f args h p.2) (Nat.beq f p.1)) tbl
theorem orcL_inv {tabs : List (Nat × List Value)} {f : Nat} {args : AV} {h : H} {r : Res} : ∀ {l : List Known}, orcL tabs f args h l = some r → ∃ e ∈ l, useK tabs e f args h = some r
  | [], u => by cases u
  | e :: l, u => by
    have u : Option.rec (motive := fun _ => Option Res) (orcL tabs f args h l) some (useK tabs e f args h) = some r := u
    cases hu : useK tabs e f args h with
    | none =>
      rw [hu] at u
      obtain ⟨e', h1, h2⟩ := orcL_inv u
      exact ⟨e', by simp [h1], h2⟩
    | some r' =>
      rw [hu] at u
      cases u
      exact ⟨e, by simp, hu⟩
theorem orcT_inv {tabs : List (Nat × List Value)} {f : Nat} {args : AV} {h : H} {r : Res} : ∀ {tbl : List (Nat × List Known)}, orcT tabs tbl f args h = some r → ∃ p ∈ tbl, ∃ e ∈ p.2, useK tabs e f args h = some r
  | [], u => by cases u
  | p :: l, u => by
    have u : Bool.rec (orcT tabs l f args h) (orcL tabs f args h p.2) (Nat.beq f p.1) = some r := u
    cases hb : Nat.beq f p.1
    · rw [hb] at u
      obtain ⟨q, h1, e, h2, h3⟩ := orcT_inv u
      exact ⟨q, by simp [h1], e, h2, h3⟩
    · rw [hb] at u
      obtain ⟨e, h2, h3⟩ := orcL_inv u
      exact ⟨p, by simp, e, h2, h3⟩
theorem orcT_ok {P : Program} {ext : Nat → Nat} {tabs : List (Nat × List Value)} {tbl : List (Nat × List Known)} (h : ∀ p ∈ tbl, ∀ e ∈ p.2, OneOk P tabs e) : OrcOk P (gOfO P ext (orcT tabs tbl)) := by
  intro f args hh v h' u ι w vs k hG ha
  obtain ⟨p, h1, e, h2, h3⟩ := orcT_inv u
  exact h p h1 e h2 f args hh v h' h3 ι w vs k hG ha
end
end Go.Proofs.YtofmmjfbmiinoaaGreatDoor.Am
namespace Go.Proofs.YtofmmjfbmiinoaaGreatDoor.Am
noncomputable section
def orc2 (a b : Nat → AV → H → Option Res) (f : Nat) (args : AV) (h : H) : Option Res := Option.rec (motive := fun _ => Option Res) (b f args h) some (a f args h)
theorem orc2_ok {P : Program} {ext : Nat → Nat} {a b : Nat → AV → H → Option Res} (ha : OrcOk P (gOfO P ext a)) (hb : OrcOk P (gOfO P ext b)) : OrcOk P (gOfO P ext (orc2 a b)) := by
  intro f args h v h' u
  have u : Option.rec (motive := fun _ => Option Res) (b f args h) some (a f args h) = some (.ok v h') := u
  cases hx : a f args h with
  | none =>
    rw [hx] at u
    exact hb f args h v h' u
  | some r =>
    rw [hx] at u
    cases u
    exact ha f args h v h' hx
variable {P : Program} {tabs : List (Nat × List Value)}
theorem kn_nil : ∀ e ∈ ([] : List Known), OneOk P tabs e := fun _ h => by cases h
theorem kn_cons {e : Known} {l : List Known} (h : OneOk P tabs e) (r : ∀ e ∈ l, OneOk P tabs e) : ∀ x ∈ e :: l, OneOk P tabs x := fun x hx => by
  rcases List.mem_cons.1 hx with rfl | hx
  · exact h
  · exact r x hx
theorem kt_nil : ∀ p ∈ ([] : List (Nat × List Known)), ∀ e ∈ p.2, OneOk P tabs e := fun _ h => by cases h
theorem kt_cons {f : Nat} {l : List Known} {r : List (Nat × List Known)} (h : ∀ e ∈ l, OneOk P tabs e) (k : ∀ p ∈ r, ∀ e ∈ p.2, OneOk P tabs e) : ∀ p ∈ (f, l) :: r, ∀ e ∈ p.2, OneOk P tabs e := fun p hp => by
  rcases List.mem_cons.1 hp with rfl | hp
  · exact h
  · exact k p hp
end
end Go.Proofs.YtofmmjfbmiinoaaGreatDoor.Am
