/- The machine's soundness: the operations of a region, one after another. -/
/- The machine's soundness: range over functions. -/
import Derived.Test.YtfmnninijakknaaGreatDoorAm28
namespace Go.Proofs.YtfmnninijakknaaGreatDoor.Am
section
variable {P : Program} {g : G} {n : Nat} {cx : Cx} {ι : Nam} {en : Env} {h h' : H} {df df' : List Df} {a : Go.Act} {w : World} {b : Frame} {cs : List Frame} {D : Nat → Prop}
/-- what one operation comes to, by the machine's word -/
def OpR (cx : Cx) (k : OpK) (en : Env) (h : H) (df : List Df) (v : AV) (h' : H) (df' : List Df) : Prop :=
  match k with
  | .plain a => a.f en h = .ok v h' ∧ df' = df
  | .call f as => apply cx ((ev f).f en) ((opsL as).f en) h = .ok v h' ∧ df' = df
  | .defer f as => cx.rd = none ∧ v = .tup .nil ∧ h' = h ∧ ∃ g0 x c, (ev f).f en = .fn g0 x c ∧ df' = .call g0 (lapp x (lapp ((opsL as).f en) c)) :: df
  | .recover => cx.rd = none ∧ v = .nili ∧ h' = h ∧ df' = df
theorem body_inv (d : Option Tmp) (k : OpK) (ih : K) : (bodyK d k ih).k cx en h df = .fail ∨ ∃ v h' df', (bodyK d k ih).k cx en h df = ih.k cx ((pO d).f v en) h' df' ∧ OpR cx k en h df v h' df' := by
  cases k with
  | plain x =>
    cases d with
    | none =>
      have e : (bodyK none (.plain x) ih).k cx en h df = onR (fun _ h' => ih.k cx en h' df) (x.f en h) := rfl
      rw [e]
      cases hr : x.f en h with
      | fail => exact .inl rfl
      | ok v h' => exact .inr ⟨v, h', df, rfl, hr, rfl⟩
    | some t =>
      have e : (bodyK (some t) (.plain x) ih).k cx en h df = onR (fun v h' => ih.k cx ((pT t).f v en) h' df) (x.f en h) := rfl
      rw [e]
      cases hr : x.f en h with
      | fail => exact .inl rfl
      | ok v h' => exact .inr ⟨v, h', df, rfl, hr, rfl⟩
  | call f as =>
    have e : (bodyK d (.call f as) ih).k cx en h df = onR (fun v h' => ih.k cx ((pO d).f v en) h' df) (apply cx ((ev f).f en) ((opsL as).f en) h) := rfl
    rw [e]
    cases hr : apply cx ((ev f).f en) ((opsL as).f en) h with
    | fail => exact .inl rfl
    | ok v h' => exact .inr ⟨v, h', df, rfl, hr, rfl⟩
  | defer f as =>
    have e : (bodyK d (.defer f as) ih).k cx en h df = (match cx.rd, (ev f).f en with
      | none, .fn g a c => ih.k cx ((pO d).f (.tup .nil) en) h (.call g (lapp a (lapp ((opsL as).f en) c)) :: df)
      | _, _ => .fail) := rfl
    rw [e]
    split
    · rename_i g0 x c hrd hf
      exact .inr ⟨_, _, _, rfl, hrd, rfl, rfl, g0, x, c, hf, rfl⟩
    · exact .inl rfl
  | recover =>
    have e : (bodyK d .recover ih).k cx en h df = (match cx.rd with
      | none => ih.k cx ((pO d).f .nili en) h df
      | some _ => .fail) := rfl
    rw [e]
    split
    · rename_i hrd
      exact .inr ⟨_, _, _, rfl, hrd, rfl, rfl, rfl⟩
    · exact .inl rfl
theorem put_env {d : Option Tmp} {v : AV} {v' : Value} (hE : EnvR ι n en a.tmps) (hd : ∀ t, d = some t → t < n) (hv : VR ι v v') : EnvR ι n ((pO d).f v en) (a.put d v').tmps := by
  cases d with
  | none => exact hE
  | some t => exact hE.put (hd t rfl) hv
theorem put_defers (a : Go.Act) (d : Option Tmp) (v : Value) : (a.put d v).defers = a.defers := by cases d <;> rfl
theorem oper_dst {ops : List Oper} {o : Oper} (h : operOk n ops o = true) : ∀ t, o.dst = some t → t < n := by
  intro t ht
  unfold operOk at h
  simp only [Bool.and_eq_true] at h
  have := h.1.1
  rw [ht] at this
  have : Nat.ble (t + 1) n = true := this
  rw [Nat.ble_eq] at this
  exact this
theorem oper_opnds {ops : List Oper} {o : Oper} (h : operOk n ops o = true) : o.op.operands.toList.all (opndOk n) = true := by
  unfold operOk at h
  simp only [Bool.and_eq_true] at h
  exact h.1.2
/-- a guard, and what the model asks -/
theorem guard_ok {ops : Array Oper} {o : Oper} (hop : operOk n ops.toList o = true) (hE : EnvR ι n en a.tmps) {j : Nat} {wn : Bool} (hg : o.guard = some (j, wn)) {t : Tmp} (ht : dstAt ops.toList j = some t) :
    (gsel wn ((gT t).f en) = .t → Region.wanted o (yielded ops a.tmps) = true) ∧ (gsel wn ((gT t).f en) = .f → Region.wanted o (yielded ops a.tmps) = false) := by
  unfold operOk at hop
  simp only [Bool.and_eq_true] at hop
  have h3 := hop.2
  rw [hg] at h3
  dsimp only at h3
  unfold dstAt at ht
  rw [Array.getElem?_toList] at ht h3
  cases hoj : ops[j]? with
  | none => rw [hoj] at ht; cases ht
  | some oj =>
    rw [hoj] at ht h3
    dsimp only at ht h3
    rw [ht] at h3
    have h3 : Nat.ble (t + 1) n = true := h3
    rw [Nat.ble_eq] at h3
    have htn : t < n := h3
    have hv := hE.at_ t htn
    have hw : Region.wanted o (yielded ops a.tmps) = (yielded ops a.tmps j == some wn) := by
      unfold Region.wanted; rw [hg]
    have hy : yielded ops a.tmps j = match a.tmps.getD t undef with | .bool b => some b | _ => none := by
      unfold yielded
      rw [hoj]
      simp only [Option.bind_some, ht]
      have hlt : t < a.tmps.size := by rw [hE.size]; exact htn
      rw [Array.getElem?_eq_getElem hlt]
      have : a.tmps.getD t undef = a.tmps[t] := by simp [Array.getD, hlt]
      rw [this]
      cases a.tmps[t] <;> rfl
    rw [hw, hy]
    generalize (gT t).f en = x at hv
    generalize a.tmps.getD t undef = y at hv
    cases x with
    | bool bb =>
      cases hv
      cases bb <;> cases wn <;> exact ⟨(fun c => by first | rfl | (cases c; done)), (fun c => by first | rfl | (cases c; done))⟩
    | tup vs =>
      obtain ⟨xs, rfl, _⟩ := hv
      cases wn <;> exact ⟨(fun c => by cases c), (fun _ => rfl)⟩
    | _ => exact ⟨(fun c => by cases c), (fun c => by cases c)⟩
theorem Calm.self {kind : CallKind} {cs : List Frame} (h : Calm kind cs) : Calm kind cs := h
/-- what an operation that calls nothing does to the model's machine -/
theorem plain_step (hg : GOk P g) (k : WR ι h w D) (hE : EnvR ι n en a.tmps) (hG : GI ι) {ops : Array Oper} {i : Nat} {rest : List Nat} {kk : List Item} {o : Oper} (ho : ops[i]? = some o)
    (hop : o.op.operands.toList.all (opndOk n) = true) (hw : Region.wanted o (yielded ops a.tmps) = true) {x : Act} (hk : opK g o.op = .plain x) {v : AV} (e : x.f en h = .ok v h') (hD : ∀ f, accOf o.op = some f → ∀ b ∈ f en, D b) :
    ∃ ι' W v' w', Steps P (lone (St b a (.inRegion ops (i :: rest) :: kk)) cs w) (lone (St b (a.put o.dst v') (.inRegion ops rest :: kk)) cs w') ∧ VR ι' v v' ∧ Loc ι h w ι' h' w' W := by
  have hx : x = aop g o.op ∧ isDefer o.op = false ∧ ∃ f, accOf o.op = some f := by
    cases hop' : o.op with
    | call c =>
      rw [hop'] at hk
      cases hc : c.callee with
      | value f => simp only [opK, hc] at hk; cases hk
      | invoke r m =>
        simp only [opK, hc] at hk
        cases hk
        unfold aop at e
        dsimp only at e
        rw [hc] at e
        cases e
      | builtin bb =>
        refine ⟨?_, rfl, ?_⟩
        · cases bb <;> first
            | (simp only [opK, hc] at hk; cases hk; rfl)
            | (simp only [opK, hc] at hk; cases hk)
        · exact ⟨_, by unfold accOf; dsimp only; rw [hc]⟩
    | defer c =>
      rw [hop'] at hk
      cases hc : c.callee <;> simp only [opK, hc] at hk <;> cases hk <;> cases e
    | _ =>
      rw [hop'] at hk
      cases hk
      exact ⟨rfl, rfl, _, rfl⟩
  obtain ⟨rfl, hd, f, hf⟩ := hx
  obtain ⟨ι', w', W, nx, h1, h2, h3⟩ := aop_ok (P := P) hE hG hg k o hop hf (hD f hf) e
  rcases h2 with ⟨v', rfl, hv⟩ | ⟨rfl, rfl⟩
  · obtain ⟨v2, w2, ⟨hv2, hw2⟩, hs⟩ := ends_op (R := fun u w2 => u = v' ∧ w2 = w') (k := kk) (cs := cs) (b := b) (rest := rest) ho hw (.inr hd) (.inl ⟨v', w', h1, rfl, rfl⟩)
    subst hv2; subst hw2
    exact ⟨ι', W, v2, w2, hs, hv, h3⟩
  · exact ⟨ι', W, undef, w', skip_op ho hw (.inr hd) h1, ⟨#[], rfl, rfl⟩, h3⟩
theorem apply_ok (hc : CxOk P cx) (k : WR ι h w) (hG : GI ι) {f args v : AV} {vf : Value} {vs : Array Value} (hf : VR ι f vf) (ha : VRs ι args vs.toList) (e : apply cx f args h = .ok v h') :
    Ends P (do let d ← Deferred.ofValue vf vs; invoke d.target d.args) w (CR ι h w v h') := by
  unfold apply at e
  split at e
  · rename_i f0 x c
    obtain ⟨xs, ys, rfl, hx, hy⟩ := hf
    refine Ends.congr (s := callFunc f0 (xs ++ vs ++ ys)) rfl (hc.call _ _ _ _ _ e ι w _ k hG ?_)
    rw [Array.toList_append, Array.toList_append, List.append_assoc]
    exact lapp_ok hx (lapp_ok ha hy)
  · rename_i l
    obtain ⟨m, hm, rfl⟩ := hf
    refine Ends.congr (s := Instr.yield m.B vs) ?_ (hc.yld _ _ _ _ _ e ι w vs m k hG hm ha)
    show (Instr.yield m.B (#[] ++ vs)).run P w = _
    rw [Array.empty_append]
  · cases e
/-- what a call does to the model's machine -/
theorem call_step (hc : CxOk P cx) (k : WR ι h w) (hE : EnvR ι n en a.tmps) (hG : GI ι) {ops : Array Oper} {i : Nat} {rest : List Nat} {kk : List Item} {o : Oper} (ho : ops[i]? = some o)
    (hop : o.op.operands.toList.all (opndOk n) = true) (hw : Region.wanted o (yielded ops a.tmps) = true) {f : Operand} {as : List Operand} (hk : opK g o.op = .call f as) {v : AV} (e : apply cx ((ev f).f en) ((opsL as).f en) h = .ok v h') :
    ∃ ι' W v' w', Steps P (lone (St b a (.inRegion ops (i :: rest) :: kk)) cs w) (lone (St b (a.put o.dst v') (.inRegion ops rest :: kk)) cs w') ∧ VR ι' v v' ∧ WR ι' h' w' ∧ Ext ι h w ι' h' w' W := by
  have hx : ∃ c, o.op = .call c ∧ c.callee = .value f ∧ as = c.args.toList := by
    cases hop' : o.op with
    | call c =>
      rw [hop'] at hk
      cases hc : c.callee with
      | value f0 => simp only [opK, hc] at hk; cases hk; exact ⟨c, rfl, hc, rfl⟩
      | invoke r m => simp only [opK, hc] at hk; cases hk
      | builtin bb => cases bb <;> (simp only [opK, hc] at hk; cases hk)
    | defer c => rw [hop'] at hk; cases hc : c.callee <;> (simp only [opK, hc] at hk; cases hk)
    | _ => rw [hop'] at hk; cases hk
  obtain ⟨c, hoc, hcv, rfl⟩ := hx
  have hops : opndOk n f = true ∧ c.args.toList.all (opndOk n) = true := by
    rw [hoc] at hop
    have : (c.operands).toList.all (opndOk n) = true := hop
    unfold Call.operands at this
    rw [hcv] at this
    simpa using this
  have hvf := ev_ok hE hG f hops.1
  have hva := opsL_ok hE hG c.args.toList hops.2
  rw [← Array.toList_map] at hva
  have he := apply_ok hc k hG hvf hva e
  have hx : execOp a.eval o = (do let d ← resolve a.eval c o.type; invoke d.target d.args : Sem Next) := by
    unfold execOp; rw [hoc]
  have he2 : Ends P (execOp a.eval o) w (CR ι h w v h') := by
    refine Ends.congr ?_ he
    rw [hx]
    unfold resolve
    rw [hcv]
  obtain ⟨v', w', ⟨ι', W, h1, h2, h3⟩, hs⟩ := ends_op (k := kk) (cs := cs) (b := b) (rest := rest) ho hw (.inr (by rw [hoc]; rfl)) he2
  exact ⟨ι', W, v', w', hs, h1, h2, h3⟩
/-- one operation, where all that there is is as it should be -/
theorem op_step (hg : GOk P g) (p : Pre P n cx ι en h df a w b cs) {ops : Array Oper} {i : Nat} {rest : List Nat} {kk : List Item} {o : Oper} (ho : ops[i]? = some o) (hok : operOk n ops.toList o = true)
    (hw : Region.wanted o (yielded ops a.tmps) = true) {v : AV} (e : OpR cx (opK g o.op) en h df v h' df') :
    ∃ ι' a' w', Steps P (lone (St b a (.inRegion ops (i :: rest) :: kk)) cs w) (lone (St b a' (.inRegion ops rest :: kk)) cs w') ∧ SR ι h w n ι' ((pO o.dst).f v en) h' df' a' w' := by
  have hop := oper_opnds hok
  have hdn := oper_dst hok
  generalize hk : opK g o.op = kd at e
  cases kd with
  | plain x =>
    obtain ⟨e, rfl⟩ := e
    obtain ⟨ι', W, v', w', hs, hv, hL⟩ := plain_step (b := b) (cs := cs) (rest := rest) (kk := kk) hg p.wr p.env p.gi ho hop hw hk e (fun _ _ _ _ => trivial)
    have hle := hL.toExt.le p.wr.fresh
    exact ⟨ι', _, w', hs, put_env (p.env.mono hle) hdn hv, (by rw [put_defers]; exact p.dfr.mono hle), hL.wr p.wr, W, hL.toExt⟩
  | call f as =>
    obtain ⟨e, rfl⟩ := e
    obtain ⟨ι', W, v', w', hs, hv, hwr, hE⟩ := call_step (b := b) (cs := cs) (rest := rest) (kk := kk) p.cok p.wr p.env p.gi ho hop hw hk e
    have hle := hE.le p.wr.fresh
    exact ⟨ι', _, w', hs, put_env (p.env.mono hle) hdn hv, (by rw [put_defers]; exact p.dfr.mono hle), hwr, W, hE⟩
  | defer f as =>
    obtain ⟨hrd, rfl, rfl, g0, x, c0, hf, rfl⟩ := e
    have hx : ∃ c, o.op = .defer c ∧ c.callee = .value f ∧ as = c.args.toList := by
      cases hop' : o.op with
      | call c =>
        rw [hop'] at hk
        cases hc : c.callee with
        | builtin bb => cases bb <;> (simp only [opK, hc] at hk; cases hk)
        | _ => simp only [opK, hc] at hk; cases hk
      | defer c =>
        rw [hop'] at hk
        cases hc : c.callee with
        | value f0 => simp only [opK, hc] at hk; cases hk; exact ⟨c, rfl, hc, rfl⟩
        | _ => simp only [opK, hc] at hk; cases hk
      | _ => rw [hop'] at hk; cases hk
    obtain ⟨c, hoc, hcv, rfl⟩ := hx
    have hops : opndOk n f = true ∧ c.args.toList.all (opndOk n) = true := by
      rw [hoc] at hop
      have : (c.operands).toList.all (opndOk n) = true := hop
      unfold Call.operands at this
      rw [hcv] at this
      simpa using this
    have hvf := ev_ok p.env p.gi f hops.1
    have hva := opsL_ok p.env p.gi c.args.toList hops.2
    rw [hf] at hvf
    obtain ⟨xs, ys, hvf, hxs, hys⟩ := hvf
    have hro : b.roundOf = none := by
      rcases p.rd with ⟨_, h2⟩ | ⟨l, m, h1, _, _⟩
      · exact h2
      · rw [hrd] at h1; cases h1
    have hx : (execOp a.eval o).run P w = .ok (.defer { target := .fn (.func g0) ys, args := xs ++ c.args.map a.eval }) w := by
      unfold execOp; rw [hoc]
      dsimp only
      unfold resolve; rw [hcv]
      dsimp only
      rw [hvf]
      rfl
    refine ⟨ι, _, w, defer_op ho hw hro hx, put_env (a := { a with defers := _ :: a.defers }) p.env hdn ⟨#[], rfl, rfl⟩, ?_, p.wr, [], Ext.refl _ _ _ p.wr.fresh⟩
    rw [put_defers]
    refine ⟨ys, xs ++ c.args.map a.eval, a.defers, rfl, ?_, p.dfr⟩
    rw [Array.toList_append, Array.toList_map, List.append_assoc]
    exact lapp_ok hxs (lapp_ok hva hys)
  | recover =>
    obtain ⟨hrd, rfl, rfl, rfl⟩ := e
    have hx : ∃ c, o.op = .call c ∧ c.callee = .builtin .recover := by
      cases hop' : o.op with
      | call c =>
        rw [hop'] at hk
        cases hc : c.callee with
        | builtin bb => cases bb <;> first | exact ⟨c, rfl, hc⟩ | (simp only [opK, hc] at hk; cases hk)
        | _ => simp only [opK, hc] at hk; cases hk
      | defer c => rw [hop'] at hk; cases hc : c.callee <;> (simp only [opK, hc] at hk; cases hk)
      | _ => rw [hop'] at hk; cases hk
    obtain ⟨c, hoc, hcv⟩ := hx
    have hro : b.roundOf = none := by
      rcases p.rd with ⟨_, h2⟩ | ⟨l, m, h1, _, _⟩
      · exact h2
      · rw [hrd] at h1; cases h1
    have hx : (execOp a.eval o).run P w = .ok .recover w := by
      unfold execOp; rw [hoc]
      dsimp only
      unfold resolve; rw [hcv]
      rfl
    exact ⟨ι, _, w, recover_op ho hw hro p.calm hx, put_env p.env hdn rfl, (by rw [put_defers]; exact p.dfr), p.wr, [], Ext.refl _ _ _ p.wr.fresh⟩
theorem opStep_ok (hg : GOk P g) {ops : Array Oper} {i : Nat} {rest : List Nat} {o : Oper} (ho : ops[i]? = some o) (hok : operOk n ops.toList o = true) {ih : K} (hih : KOk P n ih (fun kk => .inRegion ops rest :: kk)) :
    KOk P n (opStep g ops.toList o ih) (fun kk => .inRegion ops (i :: rest) :: kk) := by
  intro cx ι en h df a w b cs p kk
  have body : Region.wanted o (yielded ops a.tmps) = true → Out P b n kk cs ι h w (lone (St b a (.inRegion ops (i :: rest) :: kk)) cs w) ((bodyK o.dst (opK g o.op) ih).k cx en h df) := fun hw => by
    rcases body_inv (cx := cx) (en := en) (h := h) (df := df) o.dst (opK g o.op) ih with e | ⟨v, h', df', e, hr⟩
    · rw [e]; trivial
    · rw [e]
      obtain ⟨ι', a', w', hs, s⟩ := op_step (rest := rest) (kk := kk) hg p ho hok hw hr
      exact Out.trans hs s (hih cx ι' _ h' df' a' w' b cs (p.next s) kk)
  unfold opStep
  cases hgd : o.guard with
  | none =>
    dsimp only
    exact body (by unfold Region.wanted; rw [hgd])
  | some jw =>
    obtain ⟨j, wn⟩ := jw
    dsimp only
    cases ht : dstAt ops.toList j with
    | none => trivial
    | some t =>
      obtain ⟨h1, h2⟩ := guard_ok hok p.env hgd ht
      show Out P b n kk cs ι h w _ (OB.rec (motive := fun _ => XR) .fail (ih.k cx ((pO o.dst).f (.tup .nil) en) h df) ((bodyK o.dst (opK g o.op) ih).k cx en h df) (gsel wn ((gT t).f en)))
      cases hs : gsel wn ((gT t).f en) with
      | none => trivial
      | f =>
        have hw := h2 hs
        have hstep : step P (lone (St b a (.inRegion ops (i :: rest) :: kk)) cs w) = .next (lone (St b (a.put ((ops[i]?).bind (·.dst)) undef) (.inRegion ops rest :: kk)) cs w) :=
          st_op_skip (by rw [ho]; exact hw)
        rw [ho] at hstep
        have s : SR ι h w n ι ((pO o.dst).f (.tup .nil) en) h df (a.put o.dst undef) w := ⟨put_env p.env (oper_dst hok) ⟨#[], rfl, rfl⟩, (by rw [put_defers]; exact p.dfr), p.wr, [], Ext.refl _ _ _ p.wr.fresh⟩
        exact Out.trans (.one hstep) s (hih cx ι _ h df _ w b cs (p.next s) kk)
      | t => exact body (h1 hs)
theorem kOps_ok (hg : GOk P g) {ops : Array Oper} (hok : ops.toList.all (operOk n ops.toList) = true) : ∀ (l : List Oper) (i : Nat), ops.toList.drop i = l → KOk P n (kOps g ops.toList l) (fun kk => .inRegion ops (List.range' i l.length) :: kk)
  | [], _, _ => KOk.pre (fun _ _ _ _ _ => st_region_end) kNorm_ok
  | o :: r, i, hl => by
    have hi : i < ops.toList.length := by
      rcases Nat.lt_or_ge i ops.toList.length with c | c
      · exact c
      · rw [List.drop_eq_nil_of_le c] at hl; cases hl
    rw [List.drop_eq_getElem_cons hi] at hl
    injection hl with h1 h2
    have ho : ops[i]? = some o := by rw [← Array.getElem?_toList, List.getElem?_eq_getElem hi, h1]
    have hoo : operOk n ops.toList o = true := List.all_eq_true.1 hok o (h1 ▸ List.getElem_mem hi)
    exact opStep_ok hg ho hoo (kOps_ok hg hok r (i + 1) h2)
theorem kRegion_ok (hg : GOk P g) {id : Nat} {ops : Array Oper} (hok : ops.toList.all (operOk n ops.toList) = true) : KOk P n (kRegion g ops.toList false) (fun kk => .code (.region id ops false) :: kk) := by
  refine KOk.pre (s := fun kk => .inRegion ops (List.range ops.size) :: kk) (fun _ _ _ _ _ => st_region) ?_
  have := kOps_ok (P := P) hg hok ops.toList 0 rfl
  rw [← List.range_eq_range', Array.length_toList] at this
  exact this
end
end Go.Proofs.YtfmnninijakknaaGreatDoor.Am
namespace Go.Proofs.YtfmnninijakknaaGreatDoor.Am
section
variable {P : Program} {g : G} {n : Nat} {cx : Cx} {ι : Nam} {en : Env} {h h' : H} {df df' : List Df} {a : Go.Act} {w : World} {b : Frame} {cs : List Frame} {D : Nat → Prop}
theorem range_step {R : Value → World → Prop} {f : Operand} {ps : Array Tmp} {as bo : Code} {k : List Item} {l : Nat} {mark : List Deferred} {w1 : World}
    (he : (Instr.enterLoop b.fn a.tmps ps as bo b.roundOf).run P w = .ok (l, mark) w1)
    (e : Ends P (do let d ← Deferred.ofValue (a.eval f) #[.func (.yield l) #[] #[]]; invoke d.target d.args) w1 R) :
    ∃ v w', R v w' ∧ Steps P (lone (St b a (.code (.rangeFunc f ps as bo) :: k)) cs w) (lone (St b { a with defers := mark ++ a.defers } (.endRangeFunc l :: k)) cs w') := by
  have hev : (St b { a with defers := mark ++ a.defers } (.inRangeFunc l :: k)).eval = a.eval := by rw [St_eval]; rfl
  have hstep : (stepG P true { frame := St b a (.code (.rangeFunc f ps as bo) :: k), callers := cs, status := .running, dying := none } w).bare =
      (stepG.apply P true (St b { a with defers := mark ++ a.defers } (.inRangeFunc l :: k)) cs none (do let d ← Deferred.ofValue (a.eval f) #[.func (.yield l) #[] #[]]; invoke d.target d.args) w1).bare := by
    have : (do let d ← resolve (St b { a with defers := mark ++ a.defers } (.inRangeFunc l :: k)).eval { callee := .value f, args := #[.const (.func (.yield l) #[] #[])], argTypes := #[] } 0; invoke d.target d.args : Sem Next) =
        (do let d ← Deferred.ofValue (a.eval f) #[.func (.yield l) #[] #[]]; invoke d.target d.args : Sem Next) := by
      rw [hev]; unfold resolve; simp [Go.Act.eval]
    rw [← this]
    simp only [stepG, stepG.exec, St, Sem.runT_eq, he, GStep.bare_after]
  rcases e with ⟨v, w', hr, q⟩ | ⟨f0, vs, w2, hr, q⟩ | ⟨l0, f0, tmps, as0, bo0, w2, hr, q⟩
  · refine ⟨v, w', q, .one (step_lone_go ?_)⟩
    rw [hstep]; simp [stepG.apply, hr, Frame.finish, St]
  · obtain ⟨fr, v, w', q, hs, hl⟩ := q .normal (St b { a with defers := mark ++ a.defers } (.inRangeFunc l :: k) :: cs) (.inl rfl)
    have henter : step P (lone (St b a (.code (.rangeFunc f ps as bo) :: k)) cs w) =
        .next (lone (Frame.enter P f0 vs .normal) (St b { a with defers := mark ++ a.defers } (.inRangeFunc l :: k) :: cs) w2) :=
      step_lone_go (by rw [hstep]; simp [stepG.apply, hr, St])
    exact ⟨v, w', q, .head henter (hs.trans (.one (step_leave hl)))⟩
  · obtain ⟨v, w', q, hs⟩ := q (St b { a with defers := mark ++ a.defers } (.inRangeFunc l :: k)) cs
    have henter : step P (lone (St b a (.code (.rangeFunc f ps as bo) :: k)) cs w) =
        .next (lone (Frame.round l0 f0 tmps as0 bo0 .normal) (St b { a with defers := mark ++ a.defers } (.inRangeFunc l :: k) :: cs) w2) :=
      step_lone_go (by rw [hstep]; simp [stepG.apply, hr, St])
    exact ⟨v, w', q, .head henter hs⟩
theorem end_step {l : Nat} {r : Loop} (hw : w.heap[l]? = some (.loop r)) (hb : r.state ≠ .busy) {k : List Item} :
    step P (lone (St b a (.endRangeFunc l :: k)) cs w) = .next (lone (St b a ((r.pending.map Item.code).toList ++ k)) cs { w with heap := w.heap.setIfInBounds l (.loop { r with state := .exhausted }) }) := by
  have hrun : (Instr.endLoop l).run P w = .ok r.pending { w with heap := w.heap.setIfInBounds l (.loop { r with state := .exhausted }) } := by
    have h1 : (Instr.getLoop l).run P w = .ok r w := by
      unfold Instr.getLoop
      rw [Sem.run_bind]
      have : (getObj l).run P w = .ok (.loop r) w := by
        show Sem.run P (Sem.getObj l Sem.pure) w = _
        unfold Sem.run; rw [hw]; rfl
      rw [this]; rfl
    have h2 : (setObj l (.loop { r with state := .exhausted })).run P w = .ok () { w with heap := w.heap.setIfInBounds l (.loop { r with state := .exhausted }) } := by
      show Sem.run P (Sem.setObj l _ (Sem.pure ())) w = _
      unfold Sem.run; rw [hw]; rfl
    have hbs : (r.state == .busy) = false := by
      cases hs : r.state <;> first | rfl | exact absurd hs hb
    unfold Instr.endLoop
    simp only [Sem.run_bind, h1, Result.andThen_ok, hbs, Bool.false_eq_true, if_false, h2, Sem.run_pure]
  exact step_lone_go (by simp [stepG, stepG.exec, St, hrun])
theorem run_newObjP (o : Obj) (w : World) : (newObj o).run P w = .ok w.heap.size (World.grown w w.drawn o) := rfl
theorem run_getLoop {l : Nat} {r : Loop} (hw : w.heap[l]? = some (.loop r)) : (Instr.getLoop l).run P w = .ok r w := by
  unfold Instr.getLoop
  rw [Sem.run_bind]
  have : (getObj l).run P w = .ok (.loop r) w := by
    show Sem.run P (Sem.getObj l Sem.pure) w = _
    unfold Sem.run; rw [hw]; rfl
  rw [this]; rfl
theorem ext_one (k : WR ι h w) {ι' : Nam} {h' : H} {w' : World} {W : List Nat} (L : Loc ι h w ι' h' w' W) : WR ι' h' w' ∧ Ext ι h w ι' h' w' W := ⟨L.wr k, L.toExt⟩
theorem WR.at (k : WR ι h w) {b : Nat} {m : Nm} (e : ι b = some m) {x : Blk} (hb : h.get b = some x) : ∃ o, w.heap[m.B]? = some o ∧ BR ι x o m := k.map trivial e hb
/-- the tail of a range: the call is made, the loop is over -/
theorem range_fin (p : Pre P n cx ι en h df a w b cs) {f : Operand} (hf : opndOk n f = true) {ps : Array Tmp} {as bo : Code} {kk : List Item} {l : Nat} {mark : List Deferred} {w1 : World} {ι1 : Nam} {h1 : H} {df1 : List Df} {W1 : List Nat}
    (he : (Instr.enterLoop b.fn a.tmps ps as bo b.roundOf).run P w = .ok (l, mark) w1) {la : Nat} {m : Nm} (hm : ι1 la = some m) (hl : m.B = l)
    (k1 : WR ι1 h1 w1) (e1 : Ext ι h w ι1 h1 w1 W1) (hdf : DfR ι1 df1 (mark ++ a.defers)) {r : XR}
    (hr : r = (match apply cx ((ev f).f en) (.cons (.yld la) .nil) h1 with
      | .ok _ h' => (match h'.get la with
        | some (.loop st pend fn env ps' as' bo' dd) => (match st with
          | .busy => .fail
          | _ => jumpOf pend en (h'.set la (.loop .exhausted pend fn env ps' as' bo' dd)) df1)
        | _ => .fail)
      | .fail => .fail)) : Out P b n kk cs ι h w (lone (St b a (.code (.rangeFunc f ps as bo) :: kk)) cs w) r := by
  have hle := e1.le p.wr.fresh
  have hvf := (ev_ok p.env p.gi f hf).mono hle
  cases hap : apply cx ((ev f).f en) (.cons (.yld la) .nil) h1 with
  | fail => rw [hap] at hr; subst hr; trivial
  | ok v h2 =>
    rw [hap] at hr
    dsimp only at hr
    have hargs : VRs ι1 (.cons (.yld la) .nil) (#[Value.func (.yield l) #[] #[]] : Array Value).toList := ⟨_, _, rfl, ⟨m, hm, by rw [hl]⟩, rfl⟩
    have hends := apply_ok p.cok k1 (p.gi.mono hle) hvf hargs hap
    obtain ⟨v', w2, ⟨ι2, W2, _, k2, e2⟩, hs⟩ := range_step (cs := cs) (k := kk) he hends
    have hle2 := e2.le k1.fresh
    cases hg : h2.get la with
    | none => rw [hg] at hr; subst hr; trivial
    | some x =>
      rw [hg] at hr
      cases x with
      | loop st pend fn env ps' as' bo' dd =>
        dsimp only at hr
        have hm2 := hle2 _ _ hm
        obtain ⟨o, ho, hbr⟩ := k2.at hm2 hg
        obtain ⟨rr, n', md, rfl, b1, b2, b3, b4, b5, b6, b7, b8, b9⟩ := hbr
        by_cases hst : st = .busy
        · subst hst; subst hr; trivial
        have hr : r = jumpOf pend en (h2.set la (.loop .exhausted pend fn env ps' as' bo' dd)) df1 := by
          cases st <;> first | exact hr | exact absurd rfl hst
        have hbr' : BR ι2 (.loop .exhausted pend fn env ps' as' bo' dd) (.loop { rr with state := .exhausted }) m := ⟨{ rr with state := .exhausted }, n', md, rfl, rfl, b2, b3, b4, b5, b6, b7, b8, b9⟩
        have L := Loc.set_obj k2 hm2 hg ho hbr'
        rw [hl] at ho L
        have hstep := end_step (P := P) (b := b) (a := { a with defers := mark ++ a.defers }) (cs := cs) (k := kk) ho (by rw [b1]; exact hst)
        have hsr : SR ι h w n ι2 en (h2.set la (.loop .exhausted pend fn env ps' as' bo' dd)) df1 { a with defers := mark ++ a.defers } { w2 with heap := w2.heap.setIfInBounds l (.loop { rr with state := .exhausted }) } :=
          ⟨p.env.mono (Nam.le_trans hle hle2), hdf.mono hle2, L.wr k2, _, (e1.trans e2).trans L.toExt⟩
        have htodo : (rr.pending.map Item.code).toList = (pend.map Item.code).toList := by rw [b2]
        rw [htodo] at hstep
        subst hr
        cases pend with
        | none => exact ⟨ι2, _, _, hs.trans (.one hstep), hsr⟩
        | some c =>
          cases c with
          | ret => exact ⟨ι2, _, _, kk, hs.trans (.one hstep), hsr⟩
          | exit i => exact ⟨ι2, _, _, kk, rfl, hs.trans (.one hstep), hsr⟩
          | goto l' => exact ⟨ι2, _, _, kk, rfl, hs.trans (.one hstep), hsr⟩
          | _ => trivial
      | _ => subst hr; trivial
theorem kRange_ok {f : Operand} (hf : opndOk n f = true) {ps : Array Tmp} {as bo : Code} (hps : (ps.toList.all (Nat.blt · n)) = true) (has : codeOk n as = true) (hbo : codeOk n bo = true) :
    KOk P n (kRange (ev f) ps.toList as bo) (fun kk => .code (.rangeFunc f ps as bo) :: kk) := by
  intro cx ι en h df a w b cs p kk
  rcases p.rd with ⟨hrd, hro⟩ | ⟨l0, m0, hrd, hm0, hro⟩
  · -- outermost
    unfold kRange
    dsimp only
    rw [hrd]
    dsimp only
    split
    · rename_i hroom
      rw [Nat.ble_eq] at hroom
      have hroom : h.next + 1 < 65536 := hroom
      have L1 := Loc.mkNew p.wr (by omega) .dfr ⟨w.heap.size, 0, 0⟩ (.deferred (some [])) (w' := World.grown w w.drawn (.deferred (some []))) (by simp [World.grown]) grown_old (Nat.le_refl _) grown_new rfl rfl rfl rfl
      have k1 := L1.wr p.wr
      have hle1 := L1.toExt.le p.wr.fresh
      let rr : Loop := { state := .ready, pending := none, fn := b.fn, tmps := a.tmps, params := ps, assign := as, body := bo, defers := w.heap.size }
      have hn1 : (h.new .dfr).next = h.next + 1 := rfl
      have hdd : (ι.add h.next ⟨w.heap.size, 0, 0⟩).add (h.next + 1) ⟨w.heap.size + 1, 0, 0⟩ h.next = some ⟨w.heap.size, 0, 0⟩ := by
        rw [Nam.add_ne _ _ (by omega), Nam.add_same]
      have hfr : (ι.add h.next ⟨w.heap.size, 0, 0⟩) (h.next + 1) = none := k1.fresh _ (Nat.le_refl _)
      have hle2 : (ι.add h.next ⟨w.heap.size, 0, 0⟩).le ((ι.add h.next ⟨w.heap.size, 0, 0⟩).add (h.next + 1) ⟨w.heap.size + 1, 0, 0⟩) := Nam.le_add _ hfr
      have L2 := Loc.mkNew (ι := ι.add h.next ⟨w.heap.size, 0, 0⟩) k1 (by rw [hn1]; omega) (.loop .ready none (nat_lit 0) en ps.toList as bo h.next) ⟨w.heap.size + 1, 0, 0⟩ (.loop rr) (w' := World.grown (World.grown w w.drawn (.deferred (some []))) w.drawn (.loop rr))
        (by simp [World.grown]) grown_old (by simp [World.grown])
        (by have := grown_new (w := World.grown w w.drawn (.deferred (some []))) (n := w.drawn) (o := .loop rr)
            have hsz : (World.grown w w.drawn (.deferred (some []))).heap.size = w.heap.size + 1 := by simp [World.grown]
            rw [hsz] at this; exact this)
        ⟨rr, n, ⟨w.heap.size, 0, 0⟩, rfl, rfl, rfl, p.env.mono (Nam.le_trans hle1 hle2), rfl, rfl, rfl, hdd, rfl, has, hbo, hps⟩ rfl rfl rfl
      have k2 := L2.wr k1
      refine range_fin p hf (l := w.heap.size + 1) (mark := [{ target := .collected w.heap.size, args := #[] }]) (w1 := World.grown (World.grown w w.drawn (.deferred (some []))) w.drawn (.loop rr)) ?_ (la := h.next + 1) (m := ⟨w.heap.size + 1, 0, 0⟩) (Nam.add_same _ _ _) rfl k2 (L1.toExt.trans L2.toExt) ?_ rfl
      · have hsz : (World.grown w w.drawn (.deferred (some []))).heap.size = w.heap.size + 1 := by simp [World.grown]
        rw [hro]
        simp only [Instr.enterLoop, Sem.run_bind, run_newObjP, Result.andThen_ok, Sem.run_pure, hsz]
        rfl
      · exact ⟨_, a.defers, hdd, rfl, p.dfr.mono (Nam.le_trans hle1 hle2)⟩
    · trivial
  · -- within a round
    unfold kRange
    dsimp only
    rw [hrd]
    dsimp only
    split
    · rename_i st0 pd0 fn0 en0 ps0 as0 bo0 dd hroom hl0
      have hr := H.room_iff.1 hroom
      obtain ⟨o, ho, hbr⟩ := p.wr.at hm0 hl0
      obtain ⟨r0, n', md, rfl, b1, b2, b3, b4, b5, b6, b7, b8, b9⟩ := hbr
      let rr : Loop := { state := .ready, pending := none, fn := b.fn, tmps := a.tmps, params := ps, assign := as, body := bo, defers := r0.defers }
      have hfr := p.wr.fresh h.next (Nat.le_refl _)
      have hle2 : ι.le (ι.add h.next ⟨w.heap.size, 0, 0⟩) := Nam.le_add _ hfr
      have L2 := Loc.mkNew p.wr hr (.loop .ready none (nat_lit 0) en ps.toList as bo dd) ⟨w.heap.size, 0, 0⟩ (.loop rr) (w' := World.grown w w.drawn (.loop rr))
        (by simp [World.grown]) grown_old (Nat.le_refl _) grown_new
        ⟨rr, n, md, rfl, rfl, rfl, p.env.mono hle2, rfl, rfl, rfl, hle2 _ _ b7, b8, has, hbo, hps⟩ rfl rfl rfl
      have k2 := L2.wr p.wr
      refine range_fin p hf (l := w.heap.size) (mark := []) (w1 := World.grown w w.drawn (.loop rr)) ?_ (la := h.next) (m := ⟨w.heap.size, 0, 0⟩) (Nam.add_same _ _ _) rfl k2 L2.toExt ?_ rfl
      · rw [hro]
        simp only [Instr.enterLoop, Sem.run_bind, run_getLoop ho, Result.andThen_ok, Sem.run_pure, run_newObjP]
        rfl
      · exact p.dfr.mono hle2
    · trivial
end
end Go.Proofs.YtfmnninijakknaaGreatDoor.Am
