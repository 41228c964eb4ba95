/- The machine's soundness: results, deferred calls. -/
import Derived.Test.YtlmcadgbnolffaaGreatDoorAm30
namespace Go.Proofs.YtlmcadgbnolffaaGreatDoor.Am
section
variable {P : Program} {g : G} {n : Nat} {cx : Cx} {ι : Nam} {en : Env} {h h' : H} {df df' : List Df} {a : Go.Act} {w : World} {b : Frame} {cs : List Frame}
theorem load_same (hg : GOk P g) (k : WR ι h w) {t : TypeId} {y : Ty} (ht : g.ty t = some y) {x v : AV} {va : Value} (ha : VR ι x va)
    (e : (loadA y.agg y.size).f x h = .ok v h') : ∃ v', (do loadVar t (← asAddr va) : Sem Value).run P w = .ok v' w ∧ VR ι v v' ∧ h' = h := by
  obtain ⟨hd, hag, i, z, hi, hs, _, _, _⟩ := hg.ty _ _ ht
  cases hy : y.agg
  · rw [hy] at e
    have e : onP load1 x h = .ok v h' := e
    obtain ⟨b, o, rfl, e⟩ := onP_inv e
    obtain ⟨m, hm, rfl⟩ := ha
    obtain ⟨el, ro, n, d, tr, hb, e⟩ := withC_inv e
    obtain ⟨arr, el', lo, hi', hw, h1, h2, _, h4, _⟩ := k.cells trivial hm hb
    cases hlt : Nat.ble (Nat.succ o) n
    · rw [hlt] at e; cases e
    · rw [hlt] at e
      rw [Nat.ble_eq] at hlt
      have hlt : o < n := hlt
      obtain ⟨rfl, rfl, _⟩ := chk_ok e
      refine ⟨_, ?_, h4 o hlt, rfl⟩
      simp only [asAddr, Sem.run_bind, Sem.run_pure, Result.andThen_ok, loadVar, run_ia hd, ← hag, hy, Bool.false_eq_true, if_false]
      exact run_load_of hw (by omega)
  · rw [hy] at e
    have e : onP (loadN y.size) x h = .ok v h' := e
    obtain ⟨b, o, rfl, e⟩ := onP_inv e
    obtain ⟨m, hm, rfl⟩ := ha
    obtain ⟨el, ro, n, d, tr, hb, e⟩ := withC_inv e
    obtain ⟨arr, el', lo, hi', hw, h1, h2, _, h4, _⟩ := k.cells trivial hm hb
    cases hlt : Nat.ble (Nat.add o y.size) n
    · rw [hlt] at e; cases e
    · rw [hlt] at e
      rw [Nat.ble_eq] at hlt
      have hlt : o + y.size ≤ n := hlt
      cases e
      refine ⟨.agg (((List.range y.size).map fun j => arr.getD (m.sh + o + j) undef).toArray), ?_, ⟨_, rfl, ?_⟩, rfl⟩
      · simp only [asAddr, Sem.run_bind, Sem.run_pure, Result.andThen_ok, loadVar, run_ia hd, ← hag, hy, if_true, run_so hi, hs]
        rw [run_loadCells_of hw (by omega)]
        rfl
      · exact rdN_ok y.size o fun j h1 h2 => h4 j (by omega)
/-- the slots of a function's results -/
def resOk (n : Nat) : ResultVar → Bool
  | .tmp t => Nat.ble (t + 1) n
  | .cell a _ => Nat.ble (a + 1) n
/-- one result variable, read -/
def rd1 (tmps : Array Value) : ResultVar → Sem Value
  | .tmp t => pure (tmps.getD t undef)
  | .cell a t => do loadVar t (← asAddr (tmps.getD a undef))
theorem results_rd (fn : Func) (tmps : Array Value) : results fn tmps = (do let vs ← fn.results.mapM (rd1 tmps); pure (if h : vs.size = 1 then vs[0] else .tuple vs)) := rfl
theorem resV_ok (hg : GOk P g) (k : WR ι h w) (hE : EnvR ι n en a.tmps) (r : ResultVar) (hr : resOk n r = true) (hc : resV g r en h ≠ .bad ∨ cellsOk g en h [r] = true) :
    ∃ x, (rd1 a.tmps r).run P w = .ok x w ∧ VR ι (resV g r en h) x := by
  cases r with
  | tmp t =>
    have ht : t < n := by
      have hr : Nat.ble (t + 1) n = true := hr
      rw [Nat.ble_eq] at hr; exact hr
    exact ⟨_, rfl, hE.at_ t ht⟩
  | cell x t =>
    have hx : x < n := by
      have hr : Nat.ble (x + 1) n = true := hr
      rw [Nat.ble_eq] at hr; exact hr
    have hv := hE.at_ x hx
    cases ht : g.ty t with
    | none =>
      exfalso
      rcases hc with hc | hc
      · apply hc; unfold resV; dsimp only; rw [ht]
      · have e : cellsOk g en h [.cell x t] = (match g.ty t with
          | some y => (match (loadA y.agg y.size).f ((gT x).f en) h with
            | .ok _ _ => true
            | .fail => false)
          | none => false) := rfl
        rw [e, ht] at hc; cases hc
    | some y =>
      cases hl : (loadA y.agg y.size).f ((gT x).f en) h with
      | fail =>
        exfalso
        rcases hc with hc | hc
        · apply hc; unfold resV; dsimp only; rw [ht]; dsimp only; rw [hl]
        · have e : cellsOk g en h [.cell x t] = (match g.ty t with
            | some y => (match (loadA y.agg y.size).f ((gT x).f en) h with
              | .ok _ _ => true
              | .fail => false)
            | none => false) := rfl
          rw [e, ht] at hc; dsimp only at hc; rw [hl] at hc; cases hc
      | ok v h2 =>
        obtain ⟨v', h1, h2, _⟩ := load_same hg k ht hv hl
        refine ⟨v', h1, ?_⟩
        have : resV g (.cell x t) en h = v := by unfold resV; dsimp only; rw [ht]; dsimp only; rw [hl]
        rw [this]; exact h2
theorem cellsOk_cons {r : ResultVar} {rs : List ResultVar} (e : cellsOk g en h (r :: rs) = true) : cellsOk g en h [r] = true ∧ cellsOk g en h rs = true := by
  cases r with
  | tmp t => exact ⟨rfl, e⟩
  | cell x t =>
    have e1 : cellsOk g en h (.cell x t :: rs) = (match g.ty t with
      | some y => (match (loadA y.agg y.size).f ((gT x).f en) h with
        | .ok _ _ => cellsOk g en h rs
        | .fail => false)
      | none => false) := rfl
    have e2 : cellsOk g en h [.cell x t] = (match g.ty t with
      | some y => (match (loadA y.agg y.size).f ((gT x).f en) h with
        | .ok _ _ => true
        | .fail => false)
      | none => false) := rfl
    rw [e1] at e
    rw [e2]
    cases ht : g.ty t with
    | none => rw [ht] at e; cases e
    | some y =>
      rw [ht] at e
      dsimp only at e ⊢
      cases hl : (loadA y.agg y.size).f ((gT x).f en) h with
      | fail => rw [hl] at e; cases e
      | ok v h2 => rw [hl] at e; exact ⟨rfl, e⟩
theorem resVs_ok (hg : GOk P g) (k : WR ι h w) (hE : EnvR ι n en a.tmps) : ∀ (rs : List ResultVar), rs.all (resOk n) = true → cellsOk g en h rs = true →
    ∃ xs, (rs.mapM (rd1 a.tmps)).run P w = .ok xs w ∧ VRs ι (resVs g en h rs) xs
  | [], _, _ => ⟨[], rfl, rfl⟩
  | r :: rs, hr, hc => by
    simp only [List.all_cons, Bool.and_eq_true] at hr
    obtain ⟨hc1, hc2⟩ := cellsOk_cons hc
    obtain ⟨x, h1, h2⟩ := resV_ok hg k hE r hr.1 (.inr hc1)
    obtain ⟨xs, h3, h4⟩ := resVs_ok hg k hE rs hr.2 hc2
    refine ⟨x :: xs, ?_, x, xs, rfl, h2, h4⟩
    rw [List.mapM_cons]
    simp only [Sem.run_bind, h1, Result.andThen_ok, h3, Sem.run_pure]
theorem outOf_ok (hg : GOk P g) (k : WR ι h w) (hE : EnvR ι n en a.tmps) {fn : Func} {rs : List ResultVar} (hrs : fn.results.toList = rs) (hr : rs.all (resOk n) = true) {v : AV} (e : outOf g rs en h = .ok v h') :
    h' = h ∧ ∃ x, (results fn a.tmps).run P w = .ok x w ∧ VR ι v x := by
  have hma : ∀ xs : List Value, (rs.mapM (rd1 a.tmps)).run P w = .ok xs w → (fn.results.mapM (rd1 a.tmps)).run P w = .ok xs.toArray w := fun xs hx => by
    rw [Array.mapM_eq_mapM_toList, hrs]
    simp only [Sem.run_map, hx, Result.andThen_ok]
  rw [results_rd]
  simp only [Sem.run_bind]
  unfold outOf at e
  split at e
  · rename_i r
    obtain ⟨rfl, rfl, hv⟩ := chk_ok e
    simp only [List.all_cons, Bool.and_eq_true] at hr
    obtain ⟨x, h1, h2⟩ := resV_ok (a := a) hg k hE r hr.1 (.inl hv)
    have h3 : ([r].mapM (rd1 a.tmps)).run P w = .ok [x] w := by
      rw [List.mapM_cons]
      simp only [Sem.run_bind, h1, Result.andThen_ok, Sem.run_pure, List.mapM_nil]
    refine ⟨rfl, x, ?_, h2⟩
    rw [hma _ h3]
    rfl
  · rename_i hne
    split at e
    · rename_i hc
      cases e
      obtain ⟨xs, h1, h2⟩ := resVs_ok (a := a) hg k hE _ hr hc
      refine ⟨rfl, .tuple xs.toArray, ?_, xs.toArray, rfl, h2⟩
      rw [hma _ h1]
      simp only [Result.andThen_ok, Sem.run_pure]
      have hl : xs.toArray.size ≠ 1 := by
        have : xs.length = rs.length := by
          have := llen_ok h2
          rw [← this]
          have : ∀ l : List ResultVar, llen (resVs g en h l) = l.length := fun l => by
            induction l with
            | nil => rfl
            | cons _ _ ih => exact congrArg Nat.succ ih
          exact this rs
        rw [List.size_toArray, this]
        intro c
        obtain ⟨r, hr1⟩ := List.length_eq_one_iff.1 c
        exact hne r hr1
      rw [dif_neg hl]
    · cases e

/-! ### deferred calls -/
/-- a call of a function: a value, or a frame -/
def EndsF (P : Program) (s : Sem Next) (w : World) (R : Value → World → Prop) : Prop :=
  (∃ v w', s.run P w = .ok (.value v) w' ∧ R v w') ∨ (∃ f vs w1, s.run P w = .ok (.enter f vs) w1 ∧ EnterC P f vs w1 R)
theorem EndsF.ends {s : Sem Next} {R : Value → World → Prop} (e : EndsF P s w R) : Ends P s w R := by
  rcases e with e | e
  · exact .inl e
  · exact .inr (.inl e)
/-- the frame, done but for its deferred calls -/
def Rt (b : Frame) (a : Go.Act) (todo : List Item) (ds : List Deferred) : Frame := { b with tmps := a.tmps, todo, defers := ds, mode := .returning }
theorem step_leave_d {fr c : Frame} {cs : List Frame} {w : World} {v : Value} {f : FuncId} (h : Lv P fr f .deferred w v) (hc : c.mode = .returning) :
    step P (lone fr (c :: cs) w) = .next (lone c cs w) := by
  obtain ⟨hm, hd, hk, rfl, fn, hf, hr⟩ := h
  exact step_lone_go (by simp [stepG, unwind, doReturn, hm, hd, hk, hf, hr, hc])
theorem st_deferred {todo : List Item} {f : FuncId} {capt as : Array Value} {ds : List Deferred} {R : Value → World → Prop} (e : EndsF P (callFunc f (as ++ capt)) w R) :
    ∃ v w', R v w' ∧ Steps P (lone (Rt b a todo ({ target := .fn (.func f) capt, args := as } :: ds)) cs w) (lone (Rt b a todo ds) cs w') := by
  have hinv : (invoke (.fn (.func f) capt) as).run P w = (callFunc f (as ++ capt)).run P w := rfl
  rcases e with ⟨v, w', h, r⟩ | ⟨f0, vs, w1, h, r⟩
  · refine ⟨v, w', r, .one (step_lone_go ?_)⟩
    rw [← hinv] at h
    simp [stepG, unwind, callDeferred, Rt, h]
  · obtain ⟨fr, v, w', q, hs, hl⟩ := r .deferred (Rt b a todo ds :: cs) (.inr ⟨rfl, fun c r e => by cases e; rfl⟩)
    have henter : step P (lone (Rt b a todo ({ target := .fn (.func f) capt, args := as } :: ds)) cs w) = .next (lone (Frame.enter P f0 vs .deferred) (Rt b a todo ds :: cs) w1) :=
      step_lone_go (by rw [← hinv] at h; simp [stepG, unwind, callDeferred, Rt, h])
    exact ⟨v, w', q, .head henter (hs.trans (.one (step_leave_d hl rfl)))⟩
theorem st_collected {todo : List Item} {l : Nat} {args : Array Value} {ds : List Deferred} (hw : w.heap[l]? = some (.deferred (some []))) :
    step P (lone (Rt b a todo ({ target := .collected l, args := args } :: ds)) cs w) = .next (lone (Rt b a todo ds) cs { w with heap := w.heap.setIfInBounds l (.deferred none) }) := by
  have hrun : (Instr.takeDeferred l).run P w = .ok [] { w with heap := w.heap.setIfInBounds l (.deferred none) } := by
    have h1 : (getObj l).run P w = .ok (.deferred (some [])) w := by
      show Sem.run P (Sem.getObj l Sem.pure) w = _
      unfold Sem.run; rw [hw]; rfl
    have h2 : (setObj l (.deferred none)).run P w = .ok () { w with heap := w.heap.setIfInBounds l (.deferred none) } := by
      show Sem.run P (Sem.setObj l _ (Sem.pure ())) w = _
      unfold Sem.run; rw [hw]; rfl
    unfold Instr.takeDeferred
    simp only [Sem.run_bind, h1, Result.andThen_ok, h2, Sem.run_pure]
  exact step_lone_go (by simp [stepG, unwind, Rt, hrun])
structure CxF (P : Program) (cx : Cx) : Prop where
  call : ∀ f args h v h', cx.call f args h = .ok v h' → ∀ ι w (vs : Array Value), WR ι h w → GI ι → VRs ι args vs.toList → EndsF P (callFunc f vs) w (CR ι h w v h')
  yld : ∀ l args h v h', cx.yld l args h = .ok v h' → ∀ ι w (vs : Array Value) m, WR ι h w → GI ι → ι l = some m → VRs ι args vs.toList → Ends P (Instr.yield m.B vs) w (CR ι h w v h')
theorem CxF.ok (h : CxF P cx) : CxOk P cx := ⟨fun f args h0 v h' e ι w vs k hG ha => (h.call f args h0 v h' e ι w vs k hG ha).ends, h.yld⟩
theorem runDf_ok (hc : CxF P cx) {todo : List Item} : ∀ (l : List Df) (ι : Nam) (h : H) (w : World) (ds : List Deferred), WR ι h w → GI ι → DfR ι l ds → ∀ h', runDf cx l h = some h' →
    ∃ ι' w' W, Steps P (lone (Rt b a todo ds) cs w) (lone (Rt b a todo []) cs w') ∧ WR ι' h' w' ∧ Ext ι h w ι' h' w' W
  | [], ι, h, w, ds, k, hG, hd, h', e => by
    cases e
    cases hd
    exact ⟨ι, w, [], .refl _ _, k, Ext.refl _ _ _ k.fresh⟩
  | .call f args :: r, ι, h, w, ds, k, hG, hd, h', e => by
    obtain ⟨capt, as, ds', rfl, ha, hd⟩ := hd
    have e : (match cx.call f args h with
      | .ok _ h' => runDf cx r h'
      | .fail => none) = some h' := e
    split at e
    · rename_i v h1 hcall
      obtain ⟨v', w1, ⟨ι1, W1, _, k1, e1⟩, hs⟩ := st_deferred (b := b) (a := a) (cs := cs) (todo := todo) (ds := ds') (capt := capt) (as := as) (hc.call f args h v h1 hcall ι w (as ++ capt) k hG (by rw [Array.toList_append]; exact ha))
      have hle := e1.le k.fresh
      obtain ⟨ι2, w2, W2, hs2, k2, e2⟩ := runDf_ok hc r ι1 h1 w1 ds' k1 (hG.mono hle) (hd.mono hle) h' e
      exact ⟨ι2, w2, _, hs.trans hs2, k2, e1.trans e2⟩
    · cases e
  | .coll bl :: r, ι, h, w, ds, k, hG, hd, h', e => by
    obtain ⟨m, ds', hm, rfl, hd⟩ := hd
    have e : (match h.get bl with
      | some .dfr => runDf cx r (h.set bl .taken)
      | _ => none) = some h' := e
    split at e
    · rename_i hb
      obtain ⟨o, ho, hbr⟩ := k.at hm hb
      have hbr : o = .deferred (some []) := hbr
      subst hbr
      have L := Loc.set_obj k hm hb ho (x := .taken) (o := .deferred none) rfl
      obtain ⟨ι2, w2, W2, hs2, k2, e2⟩ := runDf_ok hc r ι _ _ ds' (L.wr k) hG hd h' e
      exact ⟨ι2, w2, _, .head (st_collected ho) hs2, k2, L.toExt.trans e2⟩
    · cases e
end
end Go.Proofs.YtlmcadgbnolffaaGreatDoor.Am
