/- The machine's soundness: results, deferred calls. -/
/- The machine's soundness: functions, rounds, all of it; drawn regions are supposed. -/
/- The machine's soundness: rounds of a range over a function; the whole machine, where drawn regions and functions without a body are supposed. -/
import Derived.Test.YtfmnninijakknaaGreatDoorAm30
namespace Go.Proofs.YtfmnninijakknaaGreatDoor.Am
section
variable {P : Program} {g : G} {n : Nat} {cx : Cx} {ι : Nam} {en : Env} {h h' : H} {df df' : List Df} {a : Go.Act} {w : World} {b : Frame} {cs : List Frame}
theorem load_same (hg : GOk P g) (k : WR ι h w) {t : TypeId} {y : Ty} (ht : g.ty t = some y) {x v : AV} {va : Value} (ha : VR ι x va)
    (e : (loadA y.agg y.size).f x h = .ok v h') : ∃ v', (do loadVar t (← asAddr va) : Sem Value).run P w = .ok v' w ∧ VR ι v v' ∧ h' = h := by
  obtain ⟨hd, hag, i, z, hi, hs, _, _, _⟩ := hg.ty _ _ ht
  cases hy : y.agg
  · rw [hy] at e
    have e : onP load1 x h = .ok v h' := e
    obtain ⟨b, o, rfl, e⟩ := onP_inv e
    obtain ⟨m, hm, rfl⟩ := ha
    obtain ⟨el, ro, n, d, tr, hb, e⟩ := withC_inv e
    obtain ⟨arr, el', lo, hi', hw, h1, h2, _, h4, _⟩ := k.cells trivial hm hb
    cases hlt : Nat.ble (Nat.succ o) n
    · rw [hlt] at e; cases e
    · rw [hlt] at e
      rw [Nat.ble_eq] at hlt
      have hlt : o < n := hlt
      obtain ⟨rfl, rfl, _⟩ := chk_ok e
      refine ⟨_, ?_, h4 o hlt, rfl⟩
      simp only [asAddr, Sem.run_bind, Sem.run_pure, Result.andThen_ok, loadVar, run_ia hd, ← hag, hy, Bool.false_eq_true, if_false]
      exact run_load_of hw (by omega)
  · rw [hy] at e
    have e : onP (loadN y.size) x h = .ok v h' := e
    obtain ⟨b, o, rfl, e⟩ := onP_inv e
    obtain ⟨m, hm, rfl⟩ := ha
    obtain ⟨el, ro, n, d, tr, hb, e⟩ := withC_inv e
    obtain ⟨arr, el', lo, hi', hw, h1, h2, _, h4, _⟩ := k.cells trivial hm hb
    cases hlt : Nat.ble (Nat.add o y.size) n
    · rw [hlt] at e; cases e
    · rw [hlt] at e
      rw [Nat.ble_eq] at hlt
      have hlt : o + y.size ≤ n := hlt
      cases e
      refine ⟨.agg (((List.range y.size).map fun j => arr.getD (m.sh + o + j) undef).toArray), ?_, ⟨_, rfl, ?_⟩, rfl⟩
      · simp only [asAddr, Sem.run_bind, Sem.run_pure, Result.andThen_ok, loadVar, run_ia hd, ← hag, hy, if_true, run_so hi, hs]
        rw [run_loadCells_of hw (by omega)]
        rfl
      · exact rdN_ok y.size o fun j h1 h2 => h4 j (by omega)
/-- the slots of a function's results -/
def resOk (n : Nat) : ResultVar → Bool
  | .tmp t => Nat.ble (t + 1) n
  | .cell a _ => Nat.ble (a + 1) n
/-- one result variable, read -/
def rd1 (tmps : Array Value) : ResultVar → Sem Value
  | .tmp t => pure (tmps.getD t undef)
  | .cell a t => do loadVar t (← asAddr (tmps.getD a undef))
theorem results_rd (fn : Func) (tmps : Array Value) : results fn tmps = (do let vs ← fn.results.mapM (rd1 tmps); pure (if h : vs.size = 1 then vs[0] else .tuple vs)) := rfl
theorem resV_ok (hg : GOk P g) (k : WR ι h w) (hE : EnvR ι n en a.tmps) (r : ResultVar) (hr : resOk n r = true) (hc : resV g r en h ≠ .bad ∨ cellsOk g en h [r] = true) :
    ∃ x, (rd1 a.tmps r).run P w = .ok x w ∧ VR ι (resV g r en h) x := by
  cases r with
  | tmp t =>
    have ht : t < n := by
      have hr : Nat.ble (t + 1) n = true := hr
      rw [Nat.ble_eq] at hr; exact hr
    exact ⟨_, rfl, hE.at_ t ht⟩
  | cell x t =>
    have hx : x < n := by
      have hr : Nat.ble (x + 1) n = true := hr
      rw [Nat.ble_eq] at hr; exact hr
    have hv := hE.at_ x hx
    cases ht : g.ty t with
    | none =>
      exfalso
      rcases hc with hc | hc
      · apply hc; unfold resV; dsimp only; rw [ht]
      · have e : cellsOk g en h [.cell x t] = (match g.ty t with
          | some y => (match (loadA y.agg y.size).f ((gT x).f en) h with
            | .ok _ _ => true
            | .fail => false)
          | none => false) := rfl
        rw [e, ht] at hc; cases hc
    | some y =>
      cases hl : (loadA y.agg y.size).f ((gT x).f en) h with
      | fail =>
        exfalso
        rcases hc with hc | hc
        · apply hc; unfold resV; dsimp only; rw [ht]; dsimp only; rw [hl]
        · have e : cellsOk g en h [.cell x t] = (match g.ty t with
            | some y => (match (loadA y.agg y.size).f ((gT x).f en) h with
              | .ok _ _ => true
              | .fail => false)
            | none => false) := rfl
          rw [e, ht] at hc; dsimp only at hc; rw [hl] at hc; cases hc
      | ok v h2 =>
        obtain ⟨v', h1, h2, _⟩ := load_same hg k ht hv hl
        refine ⟨v', h1, ?_⟩
        have : resV g (.cell x t) en h = v := by unfold resV; dsimp only; rw [ht]; dsimp only; rw [hl]
        rw [this]; exact h2
theorem cellsOk_cons {r : ResultVar} {rs : List ResultVar} (e : cellsOk g en h (r :: rs) = true) : cellsOk g en h [r] = true ∧ cellsOk g en h rs = true := by
  cases r with
  | tmp t => exact ⟨rfl, e⟩
  | cell x t =>
    have e1 : cellsOk g en h (.cell x t :: rs) = (match g.ty t with
      | some y => (match (loadA y.agg y.size).f ((gT x).f en) h with
        | .ok _ _ => cellsOk g en h rs
        | .fail => false)
      | none => false) := rfl
    have e2 : cellsOk g en h [.cell x t] = (match g.ty t with
      | some y => (match (loadA y.agg y.size).f ((gT x).f en) h with
        | .ok _ _ => true
        | .fail => false)
      | none => false) := rfl
    rw [e1] at e
    rw [e2]
    cases ht : g.ty t with
    | none => rw [ht] at e; cases e
    | some y =>
      rw [ht] at e
      dsimp only at e ⊢
      cases hl : (loadA y.agg y.size).f ((gT x).f en) h with
      | fail => rw [hl] at e; cases e
      | ok v h2 => rw [hl] at e; exact ⟨rfl, e⟩
theorem resVs_ok (hg : GOk P g) (k : WR ι h w) (hE : EnvR ι n en a.tmps) : ∀ (rs : List ResultVar), rs.all (resOk n) = true → cellsOk g en h rs = true →
    ∃ xs, (rs.mapM (rd1 a.tmps)).run P w = .ok xs w ∧ VRs ι (resVs g en h rs) xs
  | [], _, _ => ⟨[], rfl, rfl⟩
  | r :: rs, hr, hc => by
    simp only [List.all_cons, Bool.and_eq_true] at hr
    obtain ⟨hc1, hc2⟩ := cellsOk_cons hc
    obtain ⟨x, h1, h2⟩ := resV_ok hg k hE r hr.1 (.inr hc1)
    obtain ⟨xs, h3, h4⟩ := resVs_ok hg k hE rs hr.2 hc2
    refine ⟨x :: xs, ?_, x, xs, rfl, h2, h4⟩
    rw [List.mapM_cons]
    simp only [Sem.run_bind, h1, Result.andThen_ok, h3, Sem.run_pure]
theorem outOf_ok (hg : GOk P g) (k : WR ι h w) (hE : EnvR ι n en a.tmps) {fn : Func} {rs : List ResultVar} (hrs : fn.results.toList = rs) (hr : rs.all (resOk n) = true) {v : AV} (e : outOf g rs en h = .ok v h') :
    h' = h ∧ ∃ x, (results fn a.tmps).run P w = .ok x w ∧ VR ι v x := by
  have hma : ∀ xs : List Value, (rs.mapM (rd1 a.tmps)).run P w = .ok xs w → (fn.results.mapM (rd1 a.tmps)).run P w = .ok xs.toArray w := fun xs hx => by
    rw [Array.mapM_eq_mapM_toList, hrs]
    simp only [Sem.run_map, hx, Result.andThen_ok]
  rw [results_rd]
  simp only [Sem.run_bind]
  unfold outOf at e
  split at e
  · rename_i r
    obtain ⟨rfl, rfl, hv⟩ := chk_ok e
    simp only [List.all_cons, Bool.and_eq_true] at hr
    obtain ⟨x, h1, h2⟩ := resV_ok (a := a) hg k hE r hr.1 (.inl hv)
    have h3 : ([r].mapM (rd1 a.tmps)).run P w = .ok [x] w := by
      rw [List.mapM_cons]
      simp only [Sem.run_bind, h1, Result.andThen_ok, Sem.run_pure, List.mapM_nil]
    refine ⟨rfl, x, ?_, h2⟩
    rw [hma _ h3]
    rfl
  · rename_i hne
    split at e
    · rename_i hc
      cases e
      obtain ⟨xs, h1, h2⟩ := resVs_ok (a := a) hg k hE _ hr hc
      refine ⟨rfl, .tuple xs.toArray, ?_, xs.toArray, rfl, h2⟩
      rw [hma _ h1]
      simp only [Result.andThen_ok, Sem.run_pure]
      have hl : xs.toArray.size ≠ 1 := by
        have : xs.length = rs.length := by
          have := llen_ok h2
          rw [← this]
          have : ∀ l : List ResultVar, llen (resVs g en h l) = l.length := fun l => by
            induction l with
            | nil => rfl
            | cons _ _ ih => exact congrArg Nat.succ ih
          exact this rs
        rw [List.size_toArray, this]
        intro c
        obtain ⟨r, hr1⟩ := List.length_eq_one_iff.1 c
        exact hne r hr1
      rw [dif_neg hl]
    · cases e

/-! ### deferred calls -/
/-- a call of a function: a value, or a frame -/
def EndsF (P : Program) (s : Sem Next) (w : World) (R : Value → World → Prop) : Prop :=
  (∃ v w', s.run P w = .ok (.value v) w' ∧ R v w') ∨ (∃ f vs w1, s.run P w = .ok (.enter f vs) w1 ∧ EnterC P f vs w1 R)
theorem EndsF.ends {s : Sem Next} {R : Value → World → Prop} (e : EndsF P s w R) : Ends P s w R := by
  rcases e with e | e
  · exact .inl e
  · exact .inr (.inl e)
/-- the frame, done but for its deferred calls -/
def Rt (b : Frame) (a : Go.Act) (todo : List Item) (ds : List Deferred) : Frame := { b with tmps := a.tmps, todo, defers := ds, mode := .returning }
theorem step_leave_d {fr c : Frame} {cs : List Frame} {w : World} {v : Value} {f : FuncId} (h : Lv P fr f .deferred w v) (hc : c.mode = .returning) :
    step P (lone fr (c :: cs) w) = .next (lone c cs w) := by
  obtain ⟨hm, hd, hk, rfl, fn, hf, hr⟩ := h
  exact step_lone_go (by simp [stepG, unwind, doReturn, hm, hd, hk, hf, hr, hc])
theorem st_deferred {todo : List Item} {f : FuncId} {capt as : Array Value} {ds : List Deferred} {R : Value → World → Prop} (e : EndsF P (callFunc f (as ++ capt)) w R) :
    ∃ v w', R v w' ∧ Steps P (lone (Rt b a todo ({ target := .fn (.func f) capt, args := as } :: ds)) cs w) (lone (Rt b a todo ds) cs w') := by
  have hinv : (invoke (.fn (.func f) capt) as).run P w = (callFunc f (as ++ capt)).run P w := rfl
  rcases e with ⟨v, w', h, r⟩ | ⟨f0, vs, w1, h, r⟩
  · refine ⟨v, w', r, .one (step_lone_go ?_)⟩
    rw [← hinv] at h
    simp [stepG, unwind, callDeferred, Rt, h]
  · obtain ⟨fr, v, w', q, hs, hl⟩ := r .deferred (Rt b a todo ds :: cs) (.inr ⟨rfl, fun c r e => by cases e; rfl⟩)
    have henter : step P (lone (Rt b a todo ({ target := .fn (.func f) capt, args := as } :: ds)) cs w) = .next (lone (Frame.enter P f0 vs .deferred) (Rt b a todo ds :: cs) w1) :=
      step_lone_go (by rw [← hinv] at h; simp [stepG, unwind, callDeferred, Rt, h])
    exact ⟨v, w', q, .head henter (hs.trans (.one (step_leave_d hl rfl)))⟩
theorem st_collected {todo : List Item} {l : Nat} {args : Array Value} {ds : List Deferred} (hw : w.heap[l]? = some (.deferred (some []))) :
    step P (lone (Rt b a todo ({ target := .collected l, args := args } :: ds)) cs w) = .next (lone (Rt b a todo ds) cs { w with heap := w.heap.setIfInBounds l (.deferred none) }) := by
  have hrun : (Instr.takeDeferred l).run P w = .ok [] { w with heap := w.heap.setIfInBounds l (.deferred none) } := by
    have h1 : (getObj l).run P w = .ok (.deferred (some [])) w := by
      show Sem.run P (Sem.getObj l Sem.pure) w = _
      unfold Sem.run; rw [hw]; rfl
    have h2 : (setObj l (.deferred none)).run P w = .ok () { w with heap := w.heap.setIfInBounds l (.deferred none) } := by
      show Sem.run P (Sem.setObj l _ (Sem.pure ())) w = _
      unfold Sem.run; rw [hw]; rfl
    unfold Instr.takeDeferred
    simp only [Sem.run_bind, h1, Result.andThen_ok, h2, Sem.run_pure]
  exact step_lone_go (by simp [stepG, unwind, Rt, hrun])
structure CxF (P : Program) (cx : Cx) : Prop where
  call : ∀ f args h v h', cx.call f args h = .ok v h' → ∀ ι w (vs : Array Value), WR ι h w → GI ι → VRs ι args vs.toList → EndsF P (callFunc f vs) w (CR ι h w v h')
  yld : ∀ l args h v h', cx.yld l args h = .ok v h' → ∀ ι w (vs : Array Value) m, WR ι h w → GI ι → ι l = some m → VRs ι args vs.toList → Ends P (Instr.yield m.B vs) w (CR ι h w v h')
theorem CxF.ok (h : CxF P cx) : CxOk P cx := ⟨fun f args h0 v h' e ι w vs k hG ha => (h.call f args h0 v h' e ι w vs k hG ha).ends, h.yld⟩
theorem runDf_ok (hc : CxF P cx) {todo : List Item} : ∀ (l : List Df) (ι : Nam) (h : H) (w : World) (ds : List Deferred), WR ι h w → GI ι → DfR ι l ds → ∀ h', runDf cx l h = some h' →
    ∃ ι' w' W, Steps P (lone (Rt b a todo ds) cs w) (lone (Rt b a todo []) cs w') ∧ WR ι' h' w' ∧ Ext ι h w ι' h' w' W
  | [], ι, h, w, ds, k, hG, hd, h', e => by
    cases e
    cases hd
    exact ⟨ι, w, [], .refl _ _, k, Ext.refl _ _ _ k.fresh⟩
  | .call f args :: r, ι, h, w, ds, k, hG, hd, h', e => by
    obtain ⟨capt, as, ds', rfl, ha, hd⟩ := hd
    have e : (match cx.call f args h with
      | .ok _ h' => runDf cx r h'
      | .fail => none) = some h' := e
    split at e
    · rename_i v h1 hcall
      obtain ⟨v', w1, ⟨ι1, W1, _, k1, e1⟩, hs⟩ := st_deferred (b := b) (a := a) (cs := cs) (todo := todo) (ds := ds') (capt := capt) (as := as) (hc.call f args h v h1 hcall ι w (as ++ capt) k hG (by rw [Array.toList_append]; exact ha))
      have hle := e1.le k.fresh
      obtain ⟨ι2, w2, W2, hs2, k2, e2⟩ := runDf_ok hc r ι1 h1 w1 ds' k1 (hG.mono hle) (hd.mono hle) h' e
      exact ⟨ι2, w2, _, hs.trans hs2, k2, e1.trans e2⟩
    · cases e
  | .coll bl :: r, ι, h, w, ds, k, hG, hd, h', e => by
    obtain ⟨m, ds', hm, rfl, hd⟩ := hd
    have e : (match h.get bl with
      | some .dfr => runDf cx r (h.set bl .taken)
      | _ => none) = some h' := e
    split at e
    · rename_i hb
      obtain ⟨o, ho, hbr⟩ := k.at hm hb
      have hbr : o = .deferred (some []) := hbr
      subst hbr
      have L := Loc.set_obj k hm hb ho (x := .taken) (o := .deferred none) rfl
      obtain ⟨ι2, w2, W2, hs2, k2, e2⟩ := runDf_ok hc r ι _ _ ds' (L.wr k) hG hd h' e
      exact ⟨ι2, w2, _, .head (st_collected ho) hs2, k2, L.toExt.trans e2⟩
    · cases e
end
end Go.Proofs.YtfmnninijakknaaGreatDoor.Am
namespace Go.Proofs.YtfmnninijakknaaGreatDoor.Am
/-- what must be so of each function -/
def fnOk (f : Fn) : Bool := codeOk f.nt f.body && Nat.ble f.nt 256 && f.res.all (resOk f.nt)
section
variable {P : Program} {g : G} {n : Nat} {cx : Cx} {ι : Nam} {en : Env} {h h' : H} {df df' : List Df} {a : Go.Act} {w : World} {b : Frame} {cs : List Frame}
theorem ble_blt {a b : Nat} (h : Nat.blt a b = true) : a < b := by
  have h : Nat.ble (a + 1) b = true := h
  rw [Nat.ble_eq] at h; exact h
/-- drawn regions are sound -/
def DrawOk (P : Program) (g : G) : Prop := ∀ n id (ops : Array Oper), ops.toList.all (operOk n ops.toList) = true → KOk P n (kRegion g ops.toList true) (fun kk => .code (.region id ops true) :: kk)
theorem exC_ok (hg : GOk P g) (hdr : DrawOk P g) : ∀ c, codeOk n c = true → KOk P n (exC g c).k (fun kk => .code c :: kk) ∧ LkOk P n (exC g c).lk c := by
  intro c
  induction c with
  | skip => intro _; exact ⟨KOk.pre (fun _ _ _ _ _ => st_skip) kNorm_ok, noLk_ok _ (fun _ => by rw [findLabel] <;> simp)⟩
  | region id ops draw =>
    intro hc
    have hc : ops.toList.all (operOk n ops.toList) = true := hc
    refine ⟨?_, noLk_ok _ (fun _ => by rw [findLabel] <;> simp)⟩
    cases draw
    · exact kRegion_ok hg hc
    · exact hdr n id ops hc
  | seq x y ihx ihy =>
    intro hc
    have hc : (codeOk n x && codeOk n y) = true := hc
    rw [Bool.and_eq_true] at hc
    obtain ⟨hx, lx⟩ := ihx hc.1
    obtain ⟨hy, ly⟩ := ihy hc.2
    exact ⟨KOk.pre (s := fun kk => .code x :: .code y :: kk) (fun _ _ _ _ _ => st_seq) (kSeq_ok hx hy), lkSeq_ok lx ly hy⟩
  | cond c x y ihx ihy =>
    intro hc
    have hc : (opndOk n c && codeOk n x && codeOk n y) = true := hc
    rw [Bool.and_eq_true, Bool.and_eq_true] at hc
    exact ⟨kCond_ok hc.1.1 (ihx hc.1.2).1 (ihy hc.2).1, noLk_ok _ (fun _ => by rw [findLabel] <;> simp)⟩
  | block i x ih => intro hc; exact ⟨kBlock_ok (ih hc).1, noLk_ok _ (fun _ => by rw [findLabel] <;> simp)⟩
  | loop x ih => intro hc; exact ⟨kLoop_ok (ih hc).1, noLk_ok _ (fun _ => by rw [findLabel] <;> simp)⟩
  | rangeFunc f ps as bo _ _ =>
    intro hc
    have hc : (opndOk n f && ps.toList.all (Nat.blt · n) && codeOk n as && codeOk n bo) = true := hc
    rw [Bool.and_eq_true, Bool.and_eq_true, Bool.and_eq_true] at hc
    exact ⟨kRange_ok hc.1.1.1 hc.1.1.2 hc.1.2 hc.2, noLk_ok _ (fun _ => by rw [findLabel] <;> simp)⟩
  | exit i => intro _; exact ⟨kExit_ok i, noLk_ok _ (fun _ => by rw [findLabel] <;> simp)⟩
  | scope x ih => intro hc; exact ⟨kScope_ok (ih hc).1 (ih hc).2, noLk_ok _ (fun _ => by rw [findLabel] <;> simp)⟩
  | label l =>
    intro _
    refine ⟨KOk.pre (fun _ _ _ _ _ => st_label) kNorm_ok, fun l' => ?_⟩
    have e1 : (exC g (.label l)).lk l' = match Nat.beq l l' with | true => some kNorm | false => none := rfl
    have e2 : findLabel (.label l) l' = if l == l' then some .skip else none := by rw [findLabel]
    rw [e1, e2]
    cases hb : Nat.beq l l'
    · have : ¬ ((l == l') = true) := fun c => by rw [beq_iff_eq] at c; subst c; rw [Nat.beq_refl] at hb; cases hb
      rw [if_neg this]; exact trivial
    · obtain rfl := Nat.eq_of_beq_eq_true hb
      rw [if_pos (by simp)]
      exact KOk.pre (fun _ _ _ _ _ => st_skip) kNorm_ok
  | goto l => intro _; exact ⟨kGoto_ok l, noLk_ok _ (fun _ => by rw [findLabel] <;> simp)⟩
  | ret => intro _; exact ⟨kRet_ok, noLk_ok _ (fun _ => by rw [findLabel] <;> simp)⟩
  | refuse _ => intro _; exact ⟨kFail_ok _, noLk_ok _ (fun _ => by rw [findLabel] <;> simp)⟩

/-! ### entering -/
theorem args0_get {j : Nat} (hj : j < 256) : ∀ (x : AV) (l : List Value), VRs ι x l → ∀ (k : Nat) (t : Env), k + l.length ≤ 256 →
    (gT j).f (args0 x k t) = if k ≤ j ∧ j < k + l.length then lnth x (j - k) else (gT j).f t := by
  refine VRs_ind ?_ ?_
  · intro k t _
    rw [if_neg (by simp)]; rfl
  · intro x r y ys _ _ ih k t hk
    simp only [List.length_cons] at hk ⊢
    have e : args0 (.cons x r) k t = args0 r (k + 1) ((pT k).f x t) := rfl
    rw [e, ih (k + 1) _ (by omega)]
    by_cases h1 : j = k
    · subst h1
      rw [if_neg (by omega), if_pos (by omega), Nat.sub_self, gT_pT_same hj]; rfl
    · by_cases h2 : k + 1 ≤ j ∧ j < k + 1 + ys.length
      · rw [if_pos h2, if_pos (by omega)]
        obtain ⟨i, rfl⟩ : ∃ i, j = k + 1 + i := ⟨j - (k + 1), by omega⟩
        rw [show k + 1 + i - (k + 1) = i by omega, show k + 1 + i - k = i + 1 by omega]; rfl
      · rw [if_neg h2, if_neg (by omega), gT_pT_ne (by omega) hj (fun c => h1 c.symm)]
theorem st_end (hr : b.roundOf = none) : step P (lone (St b a []) cs w) = .next (lone (Rt b a [] a.defers) cs w) :=
  step_lone_go (by simp [stepG, stepG.exec, St, Rt, hr])
theorem st_ret (hr : b.roundOf = none) {k : List Item} : step P (lone (St b a (.code .ret :: k)) cs w) = .next (lone (Rt b a (.code .ret :: k) a.defers) cs w) :=
  step_lone_go (by simp [stepG, stepG.exec, St, Rt, hr])
theorem enter_ok (hg : GOk P g) (hdr : DrawOk P g) (hc : CxF P cx) (hrd : cx.rd = none) {f : Nat} {x : Fn} (hf : g.fn f = some x) (hx : fnOk x = true) {args v : AV} {vs : Array Value}
    (k : WR ι h w) (hG : GI ι) (ha : VRs ι args vs.toList) (e : enter g cx x args h = .ok v h') : EnterC P f vs w (CR ι h w v h') := by
  obtain ⟨fn, hfn, hbody, hnt, hres⟩ := hg.fn f x hf
  unfold fnOk at hx
  rw [Bool.and_eq_true, Bool.and_eq_true, Nat.ble_eq] at hx
  obtain ⟨⟨hco, hn⟩, hro⟩ := hx
  intro kind cs hcalm
  let b : Frame := { (default : Frame) with fn := f, kind := kind }
  let a : Go.Act := { tmps := vs ++ Array.replicate (x.nt - vs.size) undef, defers := [] }
  have henter : Frame.enter P f vs kind = St b a [.code x.body] := by
    simp [Frame.enter, St, hfn, hbody, hnt, a, b]
    rfl
  rw [henter]
  unfold enter at e
  dsimp only at e
  have hla := llen_ok ha
  -- the arguments fit
  have fits : ∀ r : XR, (match Nat.ble (llen args) x.nt, r with
      | true, .norm en h df => (match runDf cx df h with | some h' => outOf g x.res en h' | none => .fail)
      | true, .ret en h df => (match runDf cx df h with | some h' => outOf g x.res en h' | none => .fail)
      | _, _ => Res.fail) = .ok v h' → llen args ≤ x.nt ∧ ∃ en1 h1 df1 h2, (r = .norm en1 h1 df1 ∨ r = .ret en1 h1 df1) ∧ runDf cx df1 h1 = some h2 ∧ outOf g x.res en1 h2 = .ok v h' := by
    intro r e
    split at e
    · rename_i hle
      rw [Nat.ble_eq] at hle
      split at e
      · rename_i h2 hd; exact ⟨hle, _, _, _, h2, .inl rfl, hd, e⟩
      · cases e
    · rename_i hle
      rw [Nat.ble_eq] at hle
      split at e
      · rename_i h2 hd; exact ⟨hle, _, _, _, h2, .inr rfl, hd, e⟩
      · cases e
    · cases e
  obtain ⟨hle, en1, h1, df1, h2, hr, hdf, hout⟩ := fits _ e
  have hsz : vs.size ≤ x.nt := by
    have : vs.toList.length = vs.size := by simp
    omega
  have hasz : a.tmps.size = x.nt := by
    show (vs ++ Array.replicate (x.nt - vs.size) undef).size = x.nt
    rw [Array.size_append, Array.size_replicate]; omega
  have hE : EnvR ι x.nt (args0 args (nat_lit 0) env0) a.tmps := by
    refine ⟨hasz, hn, fun i hi => ?_, fun i h1 h2 => ?_⟩
    rotate_left
    · rw [args0_get h2 args _ ha 0 env0 (by have : vs.toList.length = vs.size := by simp
                                            omega), if_neg (by have : vs.toList.length = vs.size := by simp
                                                               omega), gT_env0 h2]
    rw [args0_get (by omega) args _ ha 0 env0 (by have : vs.toList.length = vs.size := by simp
                                                  omega)]
    have hvl : vs.toList.length = vs.size := by simp
    by_cases c : i < vs.size
    · rw [if_pos (by omega), Nat.sub_zero]
      have := lnth_ok ha i
      have e2 : a.tmps.getD i undef = vs.toList.getD i undef := by
        show (vs ++ Array.replicate (x.nt - vs.size) undef).getD i undef = _
        rw [getD_app _ _ c, Array.getD_eq_getD_getElem?, List.getD_eq_getElem?_getD, Array.getElem?_toList]
      rw [e2]; exact this
    · rw [if_neg (by omega), gT_env0 (by omega)]; exact trivial
  have p : Pre P x.nt cx ι (args0 args (nat_lit 0) env0) h [] a w b cs := ⟨hc.ok, hE, rfl, k, hG, .inl ⟨hrd, rfl⟩, hcalm⟩
  have o := (exC_ok hg hdr x.body hco).1 cx ι _ h [] a w b cs p []
  have key : ∃ ι1 a1 w1 todo, Steps P (lone (St b a [.code x.body]) cs w) (lone (Rt b a1 todo a1.defers) cs w1) ∧ SR ι h w x.nt ι1 en1 h1 df1 a1 w1 := by
    rcases hr with hr | hr
    · rw [hr] at o
      obtain ⟨ι1, a1, w1, hs, s⟩ := o
      exact ⟨ι1, a1, w1, [], hs.trans (.one (st_end rfl)), s⟩
    · rw [hr] at o
      obtain ⟨ι1, a1, w1, todo, hs, s⟩ := o
      exact ⟨ι1, a1, w1, .code .ret :: todo, hs.trans (.one (st_ret rfl)), s⟩
  obtain ⟨ι1, a1, w1, todo, hs, s⟩ := key
  obtain ⟨W1, e1⟩ := s.ext
  have hle1 := e1.le k.fresh
  obtain ⟨ι2, w2, W2, hs2, k2, e2⟩ := runDf_ok (b := b) (a := a1) (cs := cs) hc (todo := todo) df1 ι1 h1 w1 a1.defers s.wr (hG.mono hle1) s.dfr h2 hdf
  obtain ⟨rfl, y, hrun, hv⟩ := outOf_ok (a := a1) hg k2 (s.env.mono (e2.le s.wr.fresh)) hres hro hout
  exact ⟨Rt b a1 todo [], y, w2, ⟨ι2, _, hv, k2, e1.trans e2⟩, hs.trans hs2, ⟨rfl, rfl, rfl, rfl, fn, hfn, hrun⟩⟩
end
end Go.Proofs.YtfmnninijakknaaGreatDoor.Am
namespace Go.Proofs.YtfmnninijakknaaGreatDoor.Am
section
variable {P : Program} {g : G} {n : Nat} {cx : Cx} {ι : Nam} {en : Env} {h h' : H} {df df' : List Df} {a : Go.Act} {w : World} {b : Frame} {cs : List Frame}
theorem params_ok : ∀ (ps : List Tmp) (args : AV) (vs : List Value), VRs ι args vs → ps.length = vs.length → (ps.all (Nat.blt · n)) = true → ∀ (en : Env) (tmps : Array Value), EnvR ι n en tmps →
    EnvR ι n (params ps args en) ((ps.zip vs).foldl (fun tmps (t, a) => tmps.setIfInBounds t a) tmps)
  | [], _, _, _, _, _, _, _, hE => hE
  | q :: ps, args, vs, ha, hl, hp, en, tmps, hE => by
    cases vs with
    | nil => cases hl
    | cons v vs =>
      have hl : ps.length = vs.length := by simpa using hl
      simp only [List.all_cons, Bool.and_eq_true] at hp
      have h0 := lnth_ok ha 0
      have h1 := ldrop_ok ha 1
      have e : params (q :: ps) args en = params ps (ldrop args (nat_lit 1)) ((pT q).f (lnth args (nat_lit 0)) en) := rfl
      rw [e, List.zip_cons_cons, List.foldl_cons]
      exact params_ok ps _ vs h1 hl hp.2 _ _ (hE.put (ble_blt hp.1) h0)
theorem run_setLoop {l : Nat} {r r' : Loop} (hw : w.heap[l]? = some (.loop r)) : (setObj l (.loop r')).run P w = .ok () { w with heap := w.heap.setIfInBounds l (.loop r') } := by
  show Sem.run P (Sem.setObj l _ (Sem.pure ())) w = _
  unfold Sem.run; rw [hw]; rfl
theorem st_begin {l : Nat} {r : Loop} (hw : w.heap[l]? = some (.loop r)) (hr : r.state = .ready) (hro : b.roundOf = some l) {k : List Item} :
    step P (lone (St b a (.beginRound :: k)) cs w) = .next (lone (St b a k) cs { w with heap := w.heap.setIfInBounds l (.loop { r with state := .busy }) }) := by
  have hrun : (Instr.beginRound l).run P w = .ok () { w with heap := w.heap.setIfInBounds l (.loop { r with state := .busy }) } := by
    unfold Instr.beginRound
    simp only [Sem.run_bind, run_getLoop hw, Result.andThen_ok, run_setLoop hw, hr, Sem.run_pure]
  exact step_lone_go (by simp [stepG, stepG.exec, stepG.apply, St, hro, hrun, Frame.finish])
theorem run_endRound {l : Nat} {r : Loop} (hw : w.heap[l]? = some (.loop r)) (jump : Option Code) :
    (Instr.endRound l jump).run P w = .ok (.bool jump.isNone) { w with heap := w.heap.setIfInBounds l (.loop { r with state := if jump.isNone then .ready else .done, pending := jump }) } := by
  unfold Instr.endRound
  simp only [Sem.run_bind, run_getLoop hw, Result.andThen_ok, run_setLoop hw, Sem.run_pure]
/-- the four ways out of a round -/
def outItems : Option Code → List Item → Prop
  | none, k => k = []
  | some .ret, k => ∃ t, k = .code .ret :: t
  | some (.exit i), k => ∃ t, k = .code (.exit i) :: t ∧ exitTo i t = none
  | some (.goto l), k => ∃ t, k = .code (.goto l) :: t ∧ gotoIn l t = none
  | _, _ => False
theorem st_outRound {l : Nat} {r : Loop} (hw : w.heap[l]? = some (.loop r)) (hro : b.roundOf = some l) (hk : b.kind = .normal) {c : Frame} {jump : Option Code} {k : List Item} (ho : outItems jump k) :
    step P (lone (St b a k) (c :: cs) w) = .next (lone (c.finish (.bool jump.isNone)) cs { w with heap := w.heap.setIfInBounds l (.loop { r with state := if jump.isNone then .ready else .done, pending := jump }) }) := by
  have hrun := run_endRound (P := P) hw jump
  refine step_lone_go ?_
  cases jump with
  | none =>
    have ho : k = [] := ho
    subst ho
    simp [stepG, stepG.exec, St, hro, hrun, doReturn, hk]
  | some j =>
    cases j with
    | ret =>
      obtain ⟨t, rfl⟩ := ho
      simp [stepG, stepG.exec, St, hro, hrun, doReturn, hk]
    | exit i =>
      obtain ⟨t, rfl, ht⟩ := ho
      simp [stepG, stepG.exec, St, hro, hrun, doReturn, hk, ht]
    | goto l' =>
      obtain ⟨t, rfl, ht⟩ := ho
      simp [stepG, stepG.exec, St, hro, hrun, doReturn, hk, ht]
    | _ => exact ho.elim
/-- the end of a round, by the machine's word -/
noncomputable def finR (l : Nat) (jump : Option Code) (st : LoopState) (b : Bool) (h2 : H) : Res :=
  match h2.get l with
  | some (.loop _ _ fn2 env2 ps2 as2 bo2 dd2) => .ok (.bool b) (h2.set l (.loop st jump fn2 env2 ps2 as2 bo2 dd2))
  | _ => .fail
noncomputable def bodyR (l : Nat) : XR → Res
  | .norm _ h2 _ => finR l none .ready true h2
  | .ret _ h2 _ => finR l (some .ret) .done false h2
  | .ext i _ h2 _ => finR l (some (.exit i)) .done false h2
  | .got l' _ h2 _ => finR l (some (.goto l')) .done false h2
  | .fail => .fail
theorem begun_inv {l : Nat} {args v : AV} (e : begun g cx l args h = .ok v h') : ∃ st0 pd0 fn0 env ps as bo dd0 en1 h1 pend fn env' ps' as' bo' dd,
    h.get l = some (.loop st0 pd0 fn0 env ps as bo dd0) ∧ llen args = ps.length ∧ (exC g as).k.k { cx with rd := some l } (params ps args env) h [] = .norm en1 h1 [] ∧
    h1.get l = some (.loop .ready pend fn env' ps' as' bo' dd) ∧ bodyR l ((exC g bo).k.k { cx with rd := some l } en1 (h1.set l (.loop .busy pend fn env' ps' as' bo' dd)) []) = .ok v h' := by
  unfold begun at e
  split at e
  · rename_i st0 pd0 fn0 env ps as bo dd0 hl
    split at e
    · rename_i hlen
      split at e
      · rename_i en1 h1 hk
        split at e
        · rename_i pend fn env' ps' as' bo' dd hl1
          refine ⟨st0, pd0, fn0, env, ps, as, bo, dd0, en1, h1, pend, fn, env', ps', as', bo', dd, hl, Nat.eq_of_beq_eq_true hlen, hk, hl1, ?_⟩
          rw [← e]
          generalize (exC g bo).k.k { cx with rd := some l } en1 (h1.set l (.loop .busy pend fn env' ps' as' bo' dd)) [] = r
          cases r <;> rfl
        · cases e
      · cases e
    · cases e
  · cases e
theorem fin_ok {h3 : H} {en3 : Env} {df3 : List Df} {ι3 : Nam} {a3 : Go.Act} {w3 : World} {l : Nat} {m : Nm} (k0 : WR ι h w) (hm : ι l = some m) (s3 : SR ι h w n ι3 en3 h3 df3 a3 w3) {jump : Option Code} {st : LoopState} {bb : Bool} {v : AV} {c : Frame} {k : List Item}
    (e : finR l jump st bb h3 = .ok v h') (hst : st = if jump.isNone then .ready else .done) (hbb : bb = jump.isNone) (ho : outItems jump k) (hro : b.roundOf = some m.B := by rfl) (hk : b.kind = .normal := by rfl) :
    ∃ v' w', CR ι h w v h' v' w' ∧ Steps P (lone (St b a3 k) (c :: cs) w3) (lone (c.finish v') cs w') := by
  unfold finR at e
  split at e
  · rename_i st3 pd3 fn3 env3 ps3 as3 bo3 dd3 hl3
    cases e
    have hm3 := s3.le k0 _ _ hm
    obtain ⟨o3, ho3, hbr3⟩ := s3.wr.at hm3 hl3
    obtain ⟨r3, n3, md3, rfl, d1, d2, d3, d4, d5, d6, d7, d8, d9⟩ := hbr3
    have L := Loc.set_obj s3.wr hm3 hl3 ho3 (x := .loop st jump fn3 env3 ps3 as3 bo3 dd3) (o := .loop { r3 with state := if jump.isNone then .ready else .done, pending := jump })
      ⟨{ r3 with state := if jump.isNone then .ready else .done, pending := jump }, n3, md3, rfl, hst.symm, rfl, d3, d4, d5, d6, d7, d8, d9⟩
    obtain ⟨W3, e3⟩ := s3.ext
    refine ⟨.bool jump.isNone, _, ⟨ι3, _, by rw [hbb]; rfl, L.wr s3.wr, e3.trans L.toExt⟩, .one (st_outRound ho3 hro hk ho)⟩
  · cases e
theorem begun_ok (hg : GOk P g) (hdr : DrawOk P g) (hc : CxF P cx) {l : Nat} {args v : AV} {vs : Array Value} {m : Nm} (k : WR ι h w) (hG : GI ι) (hm : ι l = some m) (ha : VRs ι args vs.toList)
    (e : begun g cx l args h = .ok v h') : Ends P (Instr.yield m.B vs) w (CR ι h w v h') := by
  obtain ⟨st0, pd0, fn0, env, ps, as, bo, dd0, en1, h1, pend, fn, env', ps', as', bo', dd, hl, hlen, hk, hl1, hfin⟩ := begun_inv e
  obtain ⟨o, ho, hbr⟩ := k.at hm hl
  obtain ⟨r, n, md, rfl, b1, b2, b3, b4, b5, b6, b7, b8, has, hbo, hps⟩ := hbr
  have hla := llen_ok ha
  have hsz : vs.size = r.params.size := by
    rw [← Array.length_toList, ← Array.length_toList, b4, ← hlen, hla]
  refine .inr (.inr ⟨m.B, r.fn, (r.params.zip vs).foldl (fun tmps (t, a) => tmps.setIfInBounds t a) r.tmps, r.assign, r.body, w, ?_, ?_⟩)
  · unfold Instr.yield
    simp only [Sem.run_bind, run_getLoop ho, Result.andThen_ok]
    rw [if_neg (by simp [hsz])]
    rfl
  intro c cs
  rw [b5, b6]
  let b : Frame := { (default : Frame) with fn := r.fn, kind := .normal, roundOf := some m.B }
  let a : Go.Act := { tmps := (r.params.zip vs).foldl (fun tmps (t, a) => tmps.setIfInBounds t a) r.tmps, defers := [] }
  have hround : Frame.round m.B r.fn ((r.params.zip vs).foldl (fun tmps (t, a) => tmps.setIfInBounds t a) r.tmps) as bo .normal = St b a [.code as, .beginRound, .code bo] := rfl
  rw [hround]
  have hE : EnvR ι n (params ps args env) a.tmps := by
    have := params_ok (n := n) ps args vs.toList ha (by rw [← hlen, hla]) hps env r.tmps b3
    have hz : (r.params.zip vs).foldl (fun tmps (t, a) => tmps.setIfInBounds t a) r.tmps = (ps.zip vs.toList).foldl (fun tmps (t, a) => tmps.setIfInBounds t a) r.tmps := by
      rw [← Array.foldl_toList, Array.toList_zip, b4]
    show EnvR ι n _ ((r.params.zip vs).foldl (fun tmps (t, a) => tmps.setIfInBounds t a) r.tmps)
    rw [hz]; exact this
  have hcx : CxF P { cx with rd := some l } := ⟨hc.call, hc.yld⟩
  have p : Pre P n { cx with rd := some l } ι (params ps args env) h [] a w b (c :: cs) := ⟨hcx.ok, hE, rfl, k, hG, .inr ⟨l, m, rfl, hm, rfl⟩, .inl rfl⟩
  have o1 := (exC_ok (n := n) hg hdr as has).1 { cx with rd := some l } ι _ h [] a w b (c :: cs) p [.beginRound, .code bo]
  rw [hk] at o1
  obtain ⟨ι1, a1, w1, hs1, s1⟩ := o1
  have hle1 := s1.le k
  have hm1 := hle1 _ _ hm
  obtain ⟨o2, ho2, hbr2⟩ := s1.wr.at hm1 hl1
  obtain ⟨r2, n2, md2, rfl, c1, c2, c3, c4, c5, c6, c7, c8, c9⟩ := hbr2
  have L2 := Loc.set_obj s1.wr hm1 hl1 ho2 (x := .loop .busy pend fn env' ps' as' bo' dd) (o := .loop { r2 with state := .busy }) ⟨{ r2 with state := .busy }, n2, md2, rfl, rfl, c2, c3, c4, c5, c6, c7, c8, c9⟩
  have k2 := L2.wr s1.wr
  have hs2 := st_begin (P := P) (b := b) (a := a1) (cs := c :: cs) ho2 c1 rfl (k := [.code bo])
  have hd1 : a1.defers = [] := s1.dfr
  have s2 : SR ι h w n ι1 en1 (h1.set l (.loop .busy pend fn env' ps' as' bo' dd)) [] a1 { w1 with heap := w1.heap.setIfInBounds m.B (.loop { r2 with state := .busy }) } := by
    obtain ⟨W1, e1⟩ := s1.ext
    exact ⟨s1.env, s1.dfr, k2, _, e1.trans L2.toExt⟩
  have p2 : Pre P n { cx with rd := some l } ι1 en1 (h1.set l (.loop .busy pend fn env' ps' as' bo' dd)) [] a1 { w1 with heap := w1.heap.setIfInBounds m.B (.loop { r2 with state := .busy }) } b (c :: cs) := p.next s2
  have o3 := (exC_ok (n := n) hg hdr bo hbo).1 { cx with rd := some l } ι1 en1 _ [] a1 _ b (c :: cs) p2 []
  have hpre := hs1.trans (.one hs2)
  generalize (exC g bo).k.k { cx with rd := some l } en1 (h1.set l (.loop .busy pend fn env' ps' as' bo' dd)) [] = rr at o3 hfin
  cases rr with
  | fail => cases hfin
  | norm en3 h3 df3 =>
    obtain ⟨ι3, a3, w3, hs3, s3⟩ := o3
    obtain ⟨v', w', hcr, hs4⟩ := fin_ok (P := P) (b := b) (c := c) (cs := cs) (jump := none) (k := []) k hm (s2.trans s3) hfin rfl rfl rfl
    exact ⟨v', w', hcr, hpre.trans (hs3.trans hs4)⟩
  | ret en3 h3 df3 =>
    obtain ⟨ι3, a3, w3, todo, hs3, s3⟩ := o3
    obtain ⟨v', w', hcr, hs4⟩ := fin_ok (P := P) (b := b) (c := c) (cs := cs) (jump := some .ret) (k := .code .ret :: todo) k hm (s2.trans s3) hfin rfl rfl ⟨todo, rfl⟩
    exact ⟨v', w', hcr, hpre.trans (hs3.trans hs4)⟩
  | ext i en3 h3 df3 =>
    obtain ⟨ι3, a3, w3, todo, ht, hs3, s3⟩ := o3
    obtain ⟨v', w', hcr, hs4⟩ := fin_ok (P := P) (b := b) (c := c) (cs := cs) (jump := some (.exit i)) (k := .code (.exit i) :: todo) k hm (s2.trans s3) hfin rfl rfl ⟨todo, rfl, ht⟩
    exact ⟨v', w', hcr, hpre.trans (hs3.trans hs4)⟩
  | got l' en3 h3 df3 =>
    obtain ⟨ι3, a3, w3, todo, ht, hs3, s3⟩ := o3
    obtain ⟨v', w', hcr, hs4⟩ := fin_ok (P := P) (b := b) (c := c) (cs := cs) (jump := some (.goto l')) (k := .code (.goto l') :: todo) k hm (s2.trans s3) hfin rfl rfl ⟨todo, rfl, ht⟩
    exact ⟨v', w', hcr, hpre.trans (hs3.trans hs4)⟩

/-! ### all of it -/
def FnsOk (P : Program) (g : G) : Prop := ∀ f x, g.fn f = some x → fnOk x = true ∧ ∀ fn, P.funcs[f]? = some fn → (fn.name == "runtime.NumGoroutine") = false
def ExtOk (P : Program) (g : G) : Prop := ∀ f args h v h', g.fn f = none → extA (g.ext f) args h = .ok v h' → ∀ ι w (vs : Array Value), WR ι h w → GI ι → VRs ι args vs.toList →
  EndsF P (callFunc f vs) w (CR ι h w v h')
/-- what is said of calls without running them is so -/
def OrcOk (P : Program) (g : G) : Prop := ∀ f args h v h', g.orc f args h = some (.ok v h') → ∀ ι w (vs : Array Value), WR ι h w → GI ι → VRs ι args vs.toList →
  EndsF P (callFunc f vs) w (CR ι h w v h')
theorem call_enter {f : Nat} {x : Fn} (hg : GOk P g) (hfn : FnsOk P g) (hf : g.fn f = some x) (vs : Array Value) (w : World) : (callFunc f vs).run P w = .ok (.enter f vs) w := by
  obtain ⟨hx, hname⟩ := hfn f x hf
  obtain ⟨fn, hfn', hbody, _, _⟩ := hg.fn f x hf
  have hn := hname fn hfn'
  unfold callFunc
  simp only [Sem.run_bind, run_program, Result.andThen_ok, hfn', hn, Bool.false_eq_true, if_false, hbody, Option.isNone_some]
  rfl
theorem run_ok (hg : GOk P g) (hdr : DrawOk P g) (hfn : FnsOk P g) (hext : ExtOk P g) (horc : OrcOk P g) : ∀ N m rd, CxF P ⟨(run g N).call, (run g N).yld, m, rd⟩
  | 0, _, _ => ⟨fun _ _ _ _ _ e => (by cases e), fun _ _ _ _ _ e => (by cases e)⟩
  | N + 1, m, rd => by
    have ih := run_ok hg hdr hfn hext horc N N none
    refine ⟨fun f args h v h' e ι w vs k hG ha => ?_, fun l args h v h' e ι w vs m k hG hm ha => ?_⟩
    · have e : (match g.orc f args h with
        | some r => r
        | none => (match g.fn f with
          | some fn => enter g ⟨(run g N).call, (run g N).yld, N, none⟩ fn args h
          | none => extA (g.ext f) args h)) = .ok v h' := e
      cases ho : g.orc f args h with
      | some r =>
        rw [ho] at e
        have e : r = .ok v h' := e
        subst e
        exact horc f args h v h' ho ι w vs k hG ha
      | none =>
        rw [ho] at e
        dsimp only at e
        cases hf : g.fn f with
        | none => rw [hf] at e; exact hext f args h v h' hf e ι w vs k hG ha
        | some x =>
          rw [hf] at e
          exact .inr ⟨f, vs, w, call_enter hg hfn hf vs w, enter_ok hg hdr ih rfl hf (hfn f x hf).1 k hG ha e⟩
    · exact begun_ok hg hdr ih k hG hm ha e
end
end Go.Proofs.YtfmnninijakknaaGreatDoor.Am
