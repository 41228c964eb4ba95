/- The machine's soundness: functions, rounds, all of it; drawn regions are supposed. -/
import Derived.Test.YtlmcadgbnolffaaGreatDoorAm31
namespace Go.Proofs.YtlmcadgbnolffaaGreatDoor.Am
/-- what must be so of each function -/
def fnOk (f : Fn) : Bool := codeOk f.nt f.body && Nat.ble f.nt 256 && f.res.all (resOk f.nt)
section
variable {P : Program} {g : G} {n : Nat} {cx : Cx} {ι : Nam} {en : Env} {h h' : H} {df df' : List Df} {a : Go.Act} {w : World} {b : Frame} {cs : List Frame}
theorem ble_blt {a b : Nat} (h : Nat.blt a b = true) : a < b := by
  have h : Nat.ble (a + 1) b = true := h
  rw [Nat.ble_eq] at h; exact h
/-- drawn regions are sound -/
def DrawOk (P : Program) (g : G) : Prop := ∀ n id (ops : Array Oper), ops.toList.all (operOk n ops.toList) = true → KOk P n (kRegion g ops.toList true) (fun kk => .code (.region id ops true) :: kk)
theorem exC_ok (hg : GOk P g) (hdr : DrawOk P g) : ∀ c, codeOk n c = true → KOk P n (exC g c).k (fun kk => .code c :: kk) ∧ LkOk P n (exC g c).lk c := by
  intro c
  induction c with
  | skip => intro _; exact ⟨KOk.pre (fun _ _ _ _ _ => st_skip) kNorm_ok, noLk_ok _ (fun _ => by rw [findLabel] <;> simp)⟩
  | region id ops draw =>
    intro hc
    have hc : ops.toList.all (operOk n ops.toList) = true := hc
    refine ⟨?_, noLk_ok _ (fun _ => by rw [findLabel] <;> simp)⟩
    cases draw
    · exact kRegion_ok hg hc
    · exact hdr n id ops hc
  | seq x y ihx ihy =>
    intro hc
    have hc : (codeOk n x && codeOk n y) = true := hc
    rw [Bool.and_eq_true] at hc
    obtain ⟨hx, lx⟩ := ihx hc.1
    obtain ⟨hy, ly⟩ := ihy hc.2
    exact ⟨KOk.pre (s := fun kk => .code x :: .code y :: kk) (fun _ _ _ _ _ => st_seq) (kSeq_ok hx hy), lkSeq_ok lx ly hy⟩
  | cond c x y ihx ihy =>
    intro hc
    have hc : (opndOk n c && codeOk n x && codeOk n y) = true := hc
    rw [Bool.and_eq_true, Bool.and_eq_true] at hc
    exact ⟨kCond_ok hc.1.1 (ihx hc.1.2).1 (ihy hc.2).1, noLk_ok _ (fun _ => by rw [findLabel] <;> simp)⟩
  | block i x ih => intro hc; exact ⟨kBlock_ok (ih hc).1, noLk_ok _ (fun _ => by rw [findLabel] <;> simp)⟩
  | loop x ih => intro hc; exact ⟨kLoop_ok (ih hc).1, noLk_ok _ (fun _ => by rw [findLabel] <;> simp)⟩
  | rangeFunc f ps as bo _ _ =>
    intro hc
    have hc : (opndOk n f && ps.toList.all (Nat.blt · n) && codeOk n as && codeOk n bo) = true := hc
    rw [Bool.and_eq_true, Bool.and_eq_true, Bool.and_eq_true] at hc
    exact ⟨kRange_ok hc.1.1.1 hc.1.1.2 hc.1.2 hc.2, noLk_ok _ (fun _ => by rw [findLabel] <;> simp)⟩
  | exit i => intro _; exact ⟨kExit_ok i, noLk_ok _ (fun _ => by rw [findLabel] <;> simp)⟩
  | scope x ih => intro hc; exact ⟨kScope_ok (ih hc).1 (ih hc).2, noLk_ok _ (fun _ => by rw [findLabel] <;> simp)⟩
  | label l =>
    intro _
    refine ⟨KOk.pre (fun _ _ _ _ _ => st_label) kNorm_ok, fun l' => ?_⟩
    have e1 : (exC g (.label l)).lk l' = match Nat.beq l l' with | true => some kNorm | false => none := rfl
    have e2 : findLabel (.label l) l' = if l == l' then some .skip else none := by rw [findLabel]
    rw [e1, e2]
    cases hb : Nat.beq l l'
    · have : ¬ ((l == l') = true) := fun c => by rw [beq_iff_eq] at c; subst c; rw [Nat.beq_refl] at hb; cases hb
      rw [if_neg this]; exact trivial
    · obtain rfl := Nat.eq_of_beq_eq_true hb
      rw [if_pos (by simp)]
      exact KOk.pre (fun _ _ _ _ _ => st_skip) kNorm_ok
  | goto l => intro _; exact ⟨kGoto_ok l, noLk_ok _ (fun _ => by rw [findLabel] <;> simp)⟩
  | ret => intro _; exact ⟨kRet_ok, noLk_ok _ (fun _ => by rw [findLabel] <;> simp)⟩
  | refuse _ => intro _; exact ⟨kFail_ok _, noLk_ok _ (fun _ => by rw [findLabel] <;> simp)⟩

/-! ### entering -/
theorem args0_get {j : Nat} (hj : j < 256) : ∀ (x : AV) (l : List Value), VRs ι x l → ∀ (k : Nat) (t : Env), k + l.length ≤ 256 →
    (gT j).f (args0 x k t) = if k ≤ j ∧ j < k + l.length then lnth x (j - k) else (gT j).f t := by
  refine VRs_ind ?_ ?_
  · intro k t _
    rw [if_neg (by simp)]; rfl
  · intro x r y ys _ _ ih k t hk
    simp only [List.length_cons] at hk ⊢
    have e : args0 (.cons x r) k t = args0 r (k + 1) ((pT k).f x t) := rfl
    rw [e, ih (k + 1) _ (by omega)]
    by_cases h1 : j = k
    · subst h1
      rw [if_neg (by omega), if_pos (by omega), Nat.sub_self, gT_pT_same hj]; rfl
    · by_cases h2 : k + 1 ≤ j ∧ j < k + 1 + ys.length
      · rw [if_pos h2, if_pos (by omega)]
        obtain ⟨i, rfl⟩ : ∃ i, j = k + 1 + i := ⟨j - (k + 1), by omega⟩
        rw [show k + 1 + i - (k + 1) = i by omega, show k + 1 + i - k = i + 1 by omega]; rfl
      · rw [if_neg h2, if_neg (by omega), gT_pT_ne (by omega) hj (fun c => h1 c.symm)]
theorem st_end (hr : b.roundOf = none) : step P (lone (St b a []) cs w) = .next (lone (Rt b a [] a.defers) cs w) :=
  step_lone_go (by simp [stepG, stepG.exec, St, Rt, hr])
theorem st_ret (hr : b.roundOf = none) {k : List Item} : step P (lone (St b a (.code .ret :: k)) cs w) = .next (lone (Rt b a (.code .ret :: k) a.defers) cs w) :=
  step_lone_go (by simp [stepG, stepG.exec, St, Rt, hr])
theorem enter_ok (hg : GOk P g) (hdr : DrawOk P g) (hc : CxF P cx) (hrd : cx.rd = none) {f : Nat} {x : Fn} (hf : g.fn f = some x) (hx : fnOk x = true) {args v : AV} {vs : Array Value}
    (k : WR ι h w) (hG : GI ι) (ha : VRs ι args vs.toList) (e : enter g cx x args h = .ok v h') : EnterC P f vs w (CR ι h w v h') := by
  obtain ⟨fn, hfn, hbody, hnt, hres⟩ := hg.fn f x hf
  unfold fnOk at hx
  rw [Bool.and_eq_true, Bool.and_eq_true, Nat.ble_eq] at hx
  obtain ⟨⟨hco, hn⟩, hro⟩ := hx
  intro kind cs hcalm
  let b : Frame := { (default : Frame) with fn := f, kind := kind }
  let a : Go.Act := { tmps := vs ++ Array.replicate (x.nt - vs.size) undef, defers := [] }
  have henter : Frame.enter P f vs kind = St b a [.code x.body] := by
    simp [Frame.enter, St, hfn, hbody, hnt, a, b]
    rfl
  rw [henter]
  unfold enter at e
  dsimp only at e
  have hla := llen_ok ha
  -- the arguments fit
  have fits : ∀ r : XR, (match Nat.ble (llen args) x.nt, r with
      | true, .norm en h df => (match runDf cx df h with | some h' => outOf g x.res en h' | none => .fail)
      | true, .ret en h df => (match runDf cx df h with | some h' => outOf g x.res en h' | none => .fail)
      | _, _ => Res.fail) = .ok v h' → llen args ≤ x.nt ∧ ∃ en1 h1 df1 h2, (r = .norm en1 h1 df1 ∨ r = .ret en1 h1 df1) ∧ runDf cx df1 h1 = some h2 ∧ outOf g x.res en1 h2 = .ok v h' := by
    intro r e
    split at e
    · rename_i hle
      rw [Nat.ble_eq] at hle
      split at e
      · rename_i h2 hd; exact ⟨hle, _, _, _, h2, .inl rfl, hd, e⟩
      · cases e
    · rename_i hle
      rw [Nat.ble_eq] at hle
      split at e
      · rename_i h2 hd; exact ⟨hle, _, _, _, h2, .inr rfl, hd, e⟩
      · cases e
    · cases e
  obtain ⟨hle, en1, h1, df1, h2, hr, hdf, hout⟩ := fits _ e
  have hsz : vs.size ≤ x.nt := by
    have : vs.toList.length = vs.size := by simp
    omega
  have hasz : a.tmps.size = x.nt := by
    show (vs ++ Array.replicate (x.nt - vs.size) undef).size = x.nt
    rw [Array.size_append, Array.size_replicate]; omega
  have hE : EnvR ι x.nt (args0 args (nat_lit 0) env0) a.tmps := by
    refine ⟨hasz, hn, fun i hi => ?_, fun i h1 h2 => ?_⟩
    rotate_left
    · rw [args0_get h2 args _ ha 0 env0 (by have : vs.toList.length = vs.size := by simp
                                            omega), if_neg (by have : vs.toList.length = vs.size := by simp
                                                               omega), gT_env0 h2]
    rw [args0_get (by omega) args _ ha 0 env0 (by have : vs.toList.length = vs.size := by simp
                                                  omega)]
    have hvl : vs.toList.length = vs.size := by simp
    by_cases c : i < vs.size
    · rw [if_pos (by omega), Nat.sub_zero]
      have := lnth_ok ha i
      have e2 : a.tmps.getD i undef = vs.toList.getD i undef := by
        show (vs ++ Array.replicate (x.nt - vs.size) undef).getD i undef = _
        rw [getD_app _ _ c, Array.getD_eq_getD_getElem?, List.getD_eq_getElem?_getD, Array.getElem?_toList]
      rw [e2]; exact this
    · rw [if_neg (by omega), gT_env0 (by omega)]; exact trivial
  have p : Pre P x.nt cx ι (args0 args (nat_lit 0) env0) h [] a w b cs := ⟨hc.ok, hE, rfl, k, hG, .inl ⟨hrd, rfl⟩, hcalm⟩
  have o := (exC_ok hg hdr x.body hco).1 cx ι _ h [] a w b cs p []
  have key : ∃ ι1 a1 w1 todo, Steps P (lone (St b a [.code x.body]) cs w) (lone (Rt b a1 todo a1.defers) cs w1) ∧ SR ι h w x.nt ι1 en1 h1 df1 a1 w1 := by
    rcases hr with hr | hr
    · rw [hr] at o
      obtain ⟨ι1, a1, w1, hs, s⟩ := o
      exact ⟨ι1, a1, w1, [], hs.trans (.one (st_end rfl)), s⟩
    · rw [hr] at o
      obtain ⟨ι1, a1, w1, todo, hs, s⟩ := o
      exact ⟨ι1, a1, w1, .code .ret :: todo, hs.trans (.one (st_ret rfl)), s⟩
  obtain ⟨ι1, a1, w1, todo, hs, s⟩ := key
  obtain ⟨W1, e1⟩ := s.ext
  have hle1 := e1.le k.fresh
  obtain ⟨ι2, w2, W2, hs2, k2, e2⟩ := runDf_ok (b := b) (a := a1) (cs := cs) hc (todo := todo) df1 ι1 h1 w1 a1.defers s.wr (hG.mono hle1) s.dfr h2 hdf
  obtain ⟨rfl, y, hrun, hv⟩ := outOf_ok (a := a1) hg k2 (s.env.mono (e2.le s.wr.fresh)) hres hro hout
  exact ⟨Rt b a1 todo [], y, w2, ⟨ι2, _, hv, k2, e1.trans e2⟩, hs.trans hs2, ⟨rfl, rfl, rfl, rfl, fn, hfn, hrun⟩⟩
end
end Go.Proofs.YtlmcadgbnolffaaGreatDoor.Am
