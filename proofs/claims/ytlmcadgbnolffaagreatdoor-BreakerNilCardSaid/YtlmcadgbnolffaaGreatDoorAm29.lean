/- The machine's soundness: the operations of a region, one after another. -/
import Derived.Test.YtlmcadgbnolffaaGreatDoorAm28
namespace Go.Proofs.YtlmcadgbnolffaaGreatDoor.Am
section
variable {P : Program} {g : G} {n : Nat} {cx : Cx} {ι : Nam} {en : Env} {h h' : H} {df df' : List Df} {a : Go.Act} {w : World} {b : Frame} {cs : List Frame} {D : Nat → Prop}
/-- what one operation comes to, by the machine's word -/
def OpR (cx : Cx) (k : OpK) (en : Env) (h : H) (df : List Df) (v : AV) (h' : H) (df' : List Df) : Prop :=
  match k with
  | .plain a => a.f en h = .ok v h' ∧ df' = df
  | .call f as => apply cx ((ev f).f en) ((opsL as).f en) h = .ok v h' ∧ df' = df
  | .defer f as => cx.rd = none ∧ v = .tup .nil ∧ h' = h ∧ ∃ g0 x c, (ev f).f en = .fn g0 x c ∧ df' = .call g0 (lapp x (lapp ((opsL as).f en) c)) :: df
  | .recover => cx.rd = none ∧ v = .nili ∧ h' = h ∧ df' = df
theorem body_inv (d : Option Tmp) (k : OpK) (ih : K) : (bodyK d k ih).k cx en h df = .fail ∨ ∃ v h' df', (bodyK d k ih).k cx en h df = ih.k cx ((pO d).f v en) h' df' ∧ OpR cx k en h df v h' df' := by
  cases k with
  | plain x =>
    cases d with
    | none =>
      have e : (bodyK none (.plain x) ih).k cx en h df = onR (fun _ h' => ih.k cx en h' df) (x.f en h) := rfl
      rw [e]
      cases hr : x.f en h with
      | fail => exact .inl rfl
      | ok v h' => exact .inr ⟨v, h', df, rfl, hr, rfl⟩
    | some t =>
      have e : (bodyK (some t) (.plain x) ih).k cx en h df = onR (fun v h' => ih.k cx ((pT t).f v en) h' df) (x.f en h) := rfl
      rw [e]
      cases hr : x.f en h with
      | fail => exact .inl rfl
      | ok v h' => exact .inr ⟨v, h', df, rfl, hr, rfl⟩
  | call f as =>
    have e : (bodyK d (.call f as) ih).k cx en h df = onR (fun v h' => ih.k cx ((pO d).f v en) h' df) (apply cx ((ev f).f en) ((opsL as).f en) h) := rfl
    rw [e]
    cases hr : apply cx ((ev f).f en) ((opsL as).f en) h with
    | fail => exact .inl rfl
    | ok v h' => exact .inr ⟨v, h', df, rfl, hr, rfl⟩
  | defer f as =>
    have e : (bodyK d (.defer f as) ih).k cx en h df = (match cx.rd, (ev f).f en with
      | none, .fn g a c => ih.k cx ((pO d).f (.tup .nil) en) h (.call g (lapp a (lapp ((opsL as).f en) c)) :: df)
      | _, _ => .fail) := rfl
    rw [e]
    split
    · rename_i g0 x c hrd hf
      exact .inr ⟨_, _, _, rfl, hrd, rfl, rfl, g0, x, c, hf, rfl⟩
    · exact .inl rfl
  | recover =>
    have e : (bodyK d .recover ih).k cx en h df = (match cx.rd with
      | none => ih.k cx ((pO d).f .nili en) h df
      | some _ => .fail) := rfl
    rw [e]
    split
    · rename_i hrd
      exact .inr ⟨_, _, _, rfl, hrd, rfl, rfl, rfl⟩
    · exact .inl rfl
theorem put_env {d : Option Tmp} {v : AV} {v' : Value} (hE : EnvR ι n en a.tmps) (hd : ∀ t, d = some t → t < n) (hv : VR ι v v') : EnvR ι n ((pO d).f v en) (a.put d v').tmps := by
  cases d with
  | none => exact hE
  | some t => exact hE.put (hd t rfl) hv
theorem put_defers (a : Go.Act) (d : Option Tmp) (v : Value) : (a.put d v).defers = a.defers := by cases d <;> rfl
theorem oper_dst {ops : List Oper} {o : Oper} (h : operOk n ops o = true) : ∀ t, o.dst = some t → t < n := by
  intro t ht
  unfold operOk at h
  simp only [Bool.and_eq_true] at h
  have := h.1.1
  rw [ht] at this
  have : Nat.ble (t + 1) n = true := this
  rw [Nat.ble_eq] at this
  exact this
theorem oper_opnds {ops : List Oper} {o : Oper} (h : operOk n ops o = true) : o.op.operands.toList.all (opndOk n) = true := by
  unfold operOk at h
  simp only [Bool.and_eq_true] at h
  exact h.1.2
/-- a guard, and what the model asks -/
theorem guard_ok {ops : Array Oper} {o : Oper} (hop : operOk n ops.toList o = true) (hE : EnvR ι n en a.tmps) {j : Nat} {wn : Bool} (hg : o.guard = some (j, wn)) {t : Tmp} (ht : dstAt ops.toList j = some t) :
    (gsel wn ((gT t).f en) = .t → Region.wanted o (yielded ops a.tmps) = true) ∧ (gsel wn ((gT t).f en) = .f → Region.wanted o (yielded ops a.tmps) = false) := by
  unfold operOk at hop
  simp only [Bool.and_eq_true] at hop
  have h3 := hop.2
  rw [hg] at h3
  dsimp only at h3
  unfold dstAt at ht
  rw [Array.getElem?_toList] at ht h3
  cases hoj : ops[j]? with
  | none => rw [hoj] at ht; cases ht
  | some oj =>
    rw [hoj] at ht h3
    dsimp only at ht h3
    rw [ht] at h3
    have h3 : Nat.ble (t + 1) n = true := h3
    rw [Nat.ble_eq] at h3
    have htn : t < n := h3
    have hv := hE.at_ t htn
    have hw : Region.wanted o (yielded ops a.tmps) = (yielded ops a.tmps j == some wn) := by
      unfold Region.wanted; rw [hg]
    have hy : yielded ops a.tmps j = match a.tmps.getD t undef with | .bool b => some b | _ => none := by
      unfold yielded
      rw [hoj]
      simp only [Option.bind_some, ht]
      have hlt : t < a.tmps.size := by rw [hE.size]; exact htn
      rw [Array.getElem?_eq_getElem hlt]
      have : a.tmps.getD t undef = a.tmps[t] := by simp [Array.getD, hlt]
      rw [this]
      cases a.tmps[t] <;> rfl
    rw [hw, hy]
    generalize (gT t).f en = x at hv
    generalize a.tmps.getD t undef = y at hv
    cases x with
    | bool bb =>
      cases hv
      cases bb <;> cases wn <;> exact ⟨(fun c => by first | rfl | (cases c; done)), (fun c => by first | rfl | (cases c; done))⟩
    | tup vs =>
      obtain ⟨xs, rfl, _⟩ := hv
      cases wn <;> exact ⟨(fun c => by cases c), (fun _ => rfl)⟩
    | _ => exact ⟨(fun c => by cases c), (fun c => by cases c)⟩
theorem Calm.self {kind : CallKind} {cs : List Frame} (h : Calm kind cs) : Calm kind cs := h
/-- what an operation that calls nothing does to the model's machine -/
theorem plain_step (hg : GOk P g) (k : WR ι h w D) (hE : EnvR ι n en a.tmps) (hG : GI ι) {ops : Array Oper} {i : Nat} {rest : List Nat} {kk : List Item} {o : Oper} (ho : ops[i]? = some o)
    (hop : o.op.operands.toList.all (opndOk n) = true) (hw : Region.wanted o (yielded ops a.tmps) = true) {x : Act} (hk : opK g o.op = .plain x) {v : AV} (e : x.f en h = .ok v h') (hD : ∀ f, accOf o.op = some f → ∀ b ∈ f en, D b) :
    ∃ ι' W v' w', Steps P (lone (St b a (.inRegion ops (i :: rest) :: kk)) cs w) (lone (St b (a.put o.dst v') (.inRegion ops rest :: kk)) cs w') ∧ VR ι' v v' ∧ Loc ι h w ι' h' w' W := by
  have hx : x = aop g o.op ∧ isDefer o.op = false ∧ ∃ f, accOf o.op = some f := by
    cases hop' : o.op with
    | call c =>
      rw [hop'] at hk
      cases hc : c.callee with
      | value f => simp only [opK, hc] at hk; cases hk
      | invoke r m =>
        simp only [opK, hc] at hk
        cases hk
        unfold aop at e
        dsimp only at e
        rw [hc] at e
        cases e
      | builtin bb =>
        refine ⟨?_, rfl, ?_⟩
        · cases bb <;> first
            | (simp only [opK, hc] at hk; cases hk; rfl)
            | (simp only [opK, hc] at hk; cases hk)
        · exact ⟨_, by unfold accOf; dsimp only; rw [hc]⟩
    | defer c =>
      rw [hop'] at hk
      cases hc : c.callee <;> simp only [opK, hc] at hk <;> cases hk <;> cases e
    | _ =>
      rw [hop'] at hk
      cases hk
      exact ⟨rfl, rfl, _, rfl⟩
  obtain ⟨rfl, hd, f, hf⟩ := hx
  obtain ⟨ι', w', W, nx, h1, h2, h3⟩ := aop_ok (P := P) hE hG hg k o hop hf (hD f hf) e
  rcases h2 with ⟨v', rfl, hv⟩ | ⟨rfl, rfl⟩
  · obtain ⟨v2, w2, ⟨hv2, hw2⟩, hs⟩ := ends_op (R := fun u w2 => u = v' ∧ w2 = w') (k := kk) (cs := cs) (b := b) (rest := rest) ho hw (.inr hd) (.inl ⟨v', w', h1, rfl, rfl⟩)
    subst hv2; subst hw2
    exact ⟨ι', W, v2, w2, hs, hv, h3⟩
  · exact ⟨ι', W, undef, w', skip_op ho hw (.inr hd) h1, ⟨#[], rfl, rfl⟩, h3⟩
theorem apply_ok (hc : CxOk P cx) (k : WR ι h w) (hG : GI ι) {f args v : AV} {vf : Value} {vs : Array Value} (hf : VR ι f vf) (ha : VRs ι args vs.toList) (e : apply cx f args h = .ok v h') :
    Ends P (do let d ← Deferred.ofValue vf vs; invoke d.target d.args) w (CR ι h w v h') := by
  unfold apply at e
  split at e
  · rename_i f0 x c
    obtain ⟨xs, ys, rfl, hx, hy⟩ := hf
    refine Ends.congr (s := callFunc f0 (xs ++ vs ++ ys)) rfl (hc.call _ _ _ _ _ e ι w _ k hG ?_)
    rw [Array.toList_append, Array.toList_append, List.append_assoc]
    exact lapp_ok hx (lapp_ok ha hy)
  · rename_i l
    obtain ⟨m, hm, rfl⟩ := hf
    refine Ends.congr (s := Instr.yield m.B vs) ?_ (hc.yld _ _ _ _ _ e ι w vs m k hG hm ha)
    show (Instr.yield m.B (#[] ++ vs)).run P w = _
    rw [Array.empty_append]
  · cases e
/-- what a call does to the model's machine -/
theorem call_step (hc : CxOk P cx) (k : WR ι h w) (hE : EnvR ι n en a.tmps) (hG : GI ι) {ops : Array Oper} {i : Nat} {rest : List Nat} {kk : List Item} {o : Oper} (ho : ops[i]? = some o)
    (hop : o.op.operands.toList.all (opndOk n) = true) (hw : Region.wanted o (yielded ops a.tmps) = true) {f : Operand} {as : List Operand} (hk : opK g o.op = .call f as) {v : AV} (e : apply cx ((ev f).f en) ((opsL as).f en) h = .ok v h') :
    ∃ ι' W v' w', Steps P (lone (St b a (.inRegion ops (i :: rest) :: kk)) cs w) (lone (St b (a.put o.dst v') (.inRegion ops rest :: kk)) cs w') ∧ VR ι' v v' ∧ WR ι' h' w' ∧ Ext ι h w ι' h' w' W := by
  have hx : ∃ c, o.op = .call c ∧ c.callee = .value f ∧ as = c.args.toList := by
    cases hop' : o.op with
    | call c =>
      rw [hop'] at hk
      cases hc : c.callee with
      | value f0 => simp only [opK, hc] at hk; cases hk; exact ⟨c, rfl, hc, rfl⟩
      | invoke r m => simp only [opK, hc] at hk; cases hk
      | builtin bb => cases bb <;> (simp only [opK, hc] at hk; cases hk)
    | defer c => rw [hop'] at hk; cases hc : c.callee <;> (simp only [opK, hc] at hk; cases hk)
    | _ => rw [hop'] at hk; cases hk
  obtain ⟨c, hoc, hcv, rfl⟩ := hx
  have hops : opndOk n f = true ∧ c.args.toList.all (opndOk n) = true := by
    rw [hoc] at hop
    have : (c.operands).toList.all (opndOk n) = true := hop
    unfold Call.operands at this
    rw [hcv] at this
    simpa using this
  have hvf := ev_ok hE hG f hops.1
  have hva := opsL_ok hE hG c.args.toList hops.2
  rw [← Array.toList_map] at hva
  have he := apply_ok hc k hG hvf hva e
  have hx : execOp a.eval o = (do let d ← resolve a.eval c o.type; invoke d.target d.args : Sem Next) := by
    unfold execOp; rw [hoc]
  have he2 : Ends P (execOp a.eval o) w (CR ι h w v h') := by
    refine Ends.congr ?_ he
    rw [hx]
    unfold resolve
    rw [hcv]
  obtain ⟨v', w', ⟨ι', W, h1, h2, h3⟩, hs⟩ := ends_op (k := kk) (cs := cs) (b := b) (rest := rest) ho hw (.inr (by rw [hoc]; rfl)) he2
  exact ⟨ι', W, v', w', hs, h1, h2, h3⟩
/-- one operation, where all that there is is as it should be -/
theorem op_step (hg : GOk P g) (p : Pre P n cx ι en h df a w b cs) {ops : Array Oper} {i : Nat} {rest : List Nat} {kk : List Item} {o : Oper} (ho : ops[i]? = some o) (hok : operOk n ops.toList o = true)
    (hw : Region.wanted o (yielded ops a.tmps) = true) {v : AV} (e : OpR cx (opK g o.op) en h df v h' df') :
    ∃ ι' a' w', Steps P (lone (St b a (.inRegion ops (i :: rest) :: kk)) cs w) (lone (St b a' (.inRegion ops rest :: kk)) cs w') ∧ SR ι h w n ι' ((pO o.dst).f v en) h' df' a' w' := by
  have hop := oper_opnds hok
  have hdn := oper_dst hok
  generalize hk : opK g o.op = kd at e
  cases kd with
  | plain x =>
    obtain ⟨e, rfl⟩ := e
    obtain ⟨ι', W, v', w', hs, hv, hL⟩ := plain_step (b := b) (cs := cs) (rest := rest) (kk := kk) hg p.wr p.env p.gi ho hop hw hk e (fun _ _ _ _ => trivial)
    have hle := hL.toExt.le p.wr.fresh
    exact ⟨ι', _, w', hs, put_env (p.env.mono hle) hdn hv, (by rw [put_defers]; exact p.dfr.mono hle), hL.wr p.wr, W, hL.toExt⟩
  | call f as =>
    obtain ⟨e, rfl⟩ := e
    obtain ⟨ι', W, v', w', hs, hv, hwr, hE⟩ := call_step (b := b) (cs := cs) (rest := rest) (kk := kk) p.cok p.wr p.env p.gi ho hop hw hk e
    have hle := hE.le p.wr.fresh
    exact ⟨ι', _, w', hs, put_env (p.env.mono hle) hdn hv, (by rw [put_defers]; exact p.dfr.mono hle), hwr, W, hE⟩
  | defer f as =>
    obtain ⟨hrd, rfl, rfl, g0, x, c0, hf, rfl⟩ := e
    have hx : ∃ c, o.op = .defer c ∧ c.callee = .value f ∧ as = c.args.toList := by
      cases hop' : o.op with
      | call c =>
        rw [hop'] at hk
        cases hc : c.callee with
        | builtin bb => cases bb <;> (simp only [opK, hc] at hk; cases hk)
        | _ => simp only [opK, hc] at hk; cases hk
      | defer c =>
        rw [hop'] at hk
        cases hc : c.callee with
        | value f0 => simp only [opK, hc] at hk; cases hk; exact ⟨c, rfl, hc, rfl⟩
        | _ => simp only [opK, hc] at hk; cases hk
      | _ => rw [hop'] at hk; cases hk
    obtain ⟨c, hoc, hcv, rfl⟩ := hx
    have hops : opndOk n f = true ∧ c.args.toList.all (opndOk n) = true := by
      rw [hoc] at hop
      have : (c.operands).toList.all (opndOk n) = true := hop
      unfold Call.operands at this
      rw [hcv] at this
      simpa using this
    have hvf := ev_ok p.env p.gi f hops.1
    have hva := opsL_ok p.env p.gi c.args.toList hops.2
    rw [hf] at hvf
    obtain ⟨xs, ys, hvf, hxs, hys⟩ := hvf
    have hro : b.roundOf = none := by
      rcases p.rd with ⟨_, h2⟩ | ⟨l, m, h1, _, _⟩
      · exact h2
      · rw [hrd] at h1; cases h1
    have hx : (execOp a.eval o).run P w = .ok (.defer { target := .fn (.func g0) ys, args := xs ++ c.args.map a.eval }) w := by
      unfold execOp; rw [hoc]
      dsimp only
      unfold resolve; rw [hcv]
      dsimp only
      rw [hvf]
      rfl
    refine ⟨ι, _, w, defer_op ho hw hro hx, put_env (a := { a with defers := _ :: a.defers }) p.env hdn ⟨#[], rfl, rfl⟩, ?_, p.wr, [], Ext.refl _ _ _ p.wr.fresh⟩
    rw [put_defers]
    refine ⟨ys, xs ++ c.args.map a.eval, a.defers, rfl, ?_, p.dfr⟩
    rw [Array.toList_append, Array.toList_map, List.append_assoc]
    exact lapp_ok hxs (lapp_ok hva hys)
  | recover =>
    obtain ⟨hrd, rfl, rfl, rfl⟩ := e
    have hx : ∃ c, o.op = .call c ∧ c.callee = .builtin .recover := by
      cases hop' : o.op with
      | call c =>
        rw [hop'] at hk
        cases hc : c.callee with
        | builtin bb => cases bb <;> first | exact ⟨c, rfl, hc⟩ | (simp only [opK, hc] at hk; cases hk)
        | _ => simp only [opK, hc] at hk; cases hk
      | defer c => rw [hop'] at hk; cases hc : c.callee <;> (simp only [opK, hc] at hk; cases hk)
      | _ => rw [hop'] at hk; cases hk
    obtain ⟨c, hoc, hcv⟩ := hx
    have hro : b.roundOf = none := by
      rcases p.rd with ⟨_, h2⟩ | ⟨l, m, h1, _, _⟩
      · exact h2
      · rw [hrd] at h1; cases h1
    have hx : (execOp a.eval o).run P w = .ok .recover w := by
      unfold execOp; rw [hoc]
      dsimp only
      unfold resolve; rw [hcv]
      rfl
    exact ⟨ι, _, w, recover_op ho hw hro p.calm hx, put_env p.env hdn rfl, (by rw [put_defers]; exact p.dfr), p.wr, [], Ext.refl _ _ _ p.wr.fresh⟩
theorem opStep_ok (hg : GOk P g) {ops : Array Oper} {i : Nat} {rest : List Nat} {o : Oper} (ho : ops[i]? = some o) (hok : operOk n ops.toList o = true) {ih : K} (hih : KOk P n ih (fun kk => .inRegion ops rest :: kk)) :
    KOk P n (opStep g ops.toList o ih) (fun kk => .inRegion ops (i :: rest) :: kk) := by
  intro cx ι en h df a w b cs p kk
  have body : Region.wanted o (yielded ops a.tmps) = true → Out P b n kk cs ι h w (lone (St b a (.inRegion ops (i :: rest) :: kk)) cs w) ((bodyK o.dst (opK g o.op) ih).k cx en h df) := fun hw => by
    rcases body_inv (cx := cx) (en := en) (h := h) (df := df) o.dst (opK g o.op) ih with e | ⟨v, h', df', e, hr⟩
    · rw [e]; trivial
    · rw [e]
      obtain ⟨ι', a', w', hs, s⟩ := op_step (rest := rest) (kk := kk) hg p ho hok hw hr
      exact Out.trans hs s (hih cx ι' _ h' df' a' w' b cs (p.next s) kk)
  unfold opStep
  cases hgd : o.guard with
  | none =>
    dsimp only
    exact body (by unfold Region.wanted; rw [hgd])
  | some jw =>
    obtain ⟨j, wn⟩ := jw
    dsimp only
    cases ht : dstAt ops.toList j with
    | none => trivial
    | some t =>
      obtain ⟨h1, h2⟩ := guard_ok hok p.env hgd ht
      show Out P b n kk cs ι h w _ (OB.rec (motive := fun _ => XR) .fail (ih.k cx ((pO o.dst).f (.tup .nil) en) h df) ((bodyK o.dst (opK g o.op) ih).k cx en h df) (gsel wn ((gT t).f en)))
      cases hs : gsel wn ((gT t).f en) with
      | none => trivial
      | f =>
        have hw := h2 hs
        have hstep : step P (lone (St b a (.inRegion ops (i :: rest) :: kk)) cs w) = .next (lone (St b (a.put ((ops[i]?).bind (·.dst)) undef) (.inRegion ops rest :: kk)) cs w) :=
          st_op_skip (by rw [ho]; exact hw)
        rw [ho] at hstep
        have s : SR ι h w n ι ((pO o.dst).f (.tup .nil) en) h df (a.put o.dst undef) w := ⟨put_env p.env (oper_dst hok) ⟨#[], rfl, rfl⟩, (by rw [put_defers]; exact p.dfr), p.wr, [], Ext.refl _ _ _ p.wr.fresh⟩
        exact Out.trans (.one hstep) s (hih cx ι _ h df _ w b cs (p.next s) kk)
      | t => exact body (h1 hs)
theorem kOps_ok (hg : GOk P g) {ops : Array Oper} (hok : ops.toList.all (operOk n ops.toList) = true) : ∀ (l : List Oper) (i : Nat), ops.toList.drop i = l → KOk P n (kOps g ops.toList l) (fun kk => .inRegion ops (List.range' i l.length) :: kk)
  | [], _, _ => KOk.pre (fun _ _ _ _ _ => st_region_end) kNorm_ok
  | o :: r, i, hl => by
    have hi : i < ops.toList.length := by
      rcases Nat.lt_or_ge i ops.toList.length with c | c
      · exact c
      · rw [List.drop_eq_nil_of_le c] at hl; cases hl
    rw [List.drop_eq_getElem_cons hi] at hl
    injection hl with h1 h2
    have ho : ops[i]? = some o := by rw [← Array.getElem?_toList, List.getElem?_eq_getElem hi, h1]
    have hoo : operOk n ops.toList o = true := List.all_eq_true.1 hok o (h1 ▸ List.getElem_mem hi)
    exact opStep_ok hg ho hoo (kOps_ok hg hok r (i + 1) h2)
theorem kRegion_ok (hg : GOk P g) {id : Nat} {ops : Array Oper} (hok : ops.toList.all (operOk n ops.toList) = true) : KOk P n (kRegion g ops.toList false) (fun kk => .code (.region id ops false) :: kk) := by
  refine KOk.pre (s := fun kk => .inRegion ops (List.range ops.size) :: kk) (fun _ _ _ _ _ => st_region) ?_
  have := kOps_ok (P := P) hg hok ops.toList 0 rfl
  rw [← List.range_eq_range', Array.length_toList] at this
  exact this
end
end Go.Proofs.YtlmcadgbnolffaaGreatDoor.Am
