/- The machine's soundness: frames, one step at a time; what a call comes to. -/
import Derived.Test.YtlmcadgbnolffaaGreatDoorAm26
import Derived.Scope
namespace Go.Proofs.YtlmcadgbnolffaaGreatDoor.Am

/-- b's frame with a's slots and deferred calls, running -/
def St (b : Frame) (a : Go.Act) (todo : List Item) : Frame := { b with tmps := a.tmps, todo, defers := a.defers, mode := .run }
theorem St_eval (b : Frame) (a : Go.Act) (todo : List Item) : (St b a todo).eval = a.eval := by
  funext x; cases x <;> rfl
section
variable {P : Program} {b : Frame} {a : Go.Act} {k : List Item} {cs : List Frame} {w : World}
theorem st_skip : step P (lone (St b a (.code .skip :: k)) cs w) = .next (lone (St b a k) cs w) :=
  step_lone_go (by simp [stepG, stepG.exec, St])
theorem st_label {l : Nat} : step P (lone (St b a (.code (.label l) :: k)) cs w) = .next (lone (St b a k) cs w) :=
  step_lone_go (by simp [stepG, stepG.exec, St])
theorem st_inBlock {i : Nat} : step P (lone (St b a (.inBlock i :: k)) cs w) = .next (lone (St b a k) cs w) :=
  step_lone_go (by simp [stepG, stepG.exec, St])
theorem st_inScope {c : Code} : step P (lone (St b a (.inScope c :: k)) cs w) = .next (lone (St b a k) cs w) :=
  step_lone_go (by simp [stepG, stepG.exec, St])
theorem st_seq {x y : Code} : step P (lone (St b a (.code (.seq x y) :: k)) cs w) = .next (lone (St b a (.code x :: .code y :: k)) cs w) :=
  step_lone_go (by simp [stepG, stepG.exec, St])
theorem st_cond {c : Operand} {x y : Code} {t : Bool} (h : a.eval c = .bool t) :
    step P (lone (St b a (.code (.cond c x y) :: k)) cs w) = .next (lone (St b a (.code (if t then x else y) :: k)) cs w) :=
  step_lone_go (by
    have he : (St b a (.code (.cond c x y) :: k)).eval c = .bool t := by rw [St_eval]; exact h
    simp only [St] at he
    simp [stepG, stepG.exec, St, he])
theorem st_block {i : Nat} {c : Code} : step P (lone (St b a (.code (.block i c) :: k)) cs w) = .next (lone (St b a (.code c :: .inBlock i :: k)) cs w) :=
  step_lone_go (by simp [stepG, stepG.exec, St])
theorem st_loop {c : Code} : step P (lone (St b a (.code (.loop c) :: k)) cs w) = .next (lone (St b a (.code c :: .inLoop c :: k)) cs w) :=
  step_lone_go (by simp [stepG, stepG.exec, St])
theorem st_inLoop {c : Code} : step P (lone (St b a (.inLoop c :: k)) cs w) = .next (lone (St b a (.code c :: .inLoop c :: k)) cs w) :=
  step_lone_go (by simp [stepG, stepG.exec, St])
theorem st_scope {c : Code} : step P (lone (St b a (.code (.scope c) :: k)) cs w) = .next (lone (St b a (.code c :: .inScope c :: k)) cs w) :=
  step_lone_go (by simp [stepG, stepG.exec, St])
theorem st_exit {i : Nat} {k' : List Item} (h : exitTo i k = some k') : step P (lone (St b a (.code (.exit i) :: k)) cs w) = .next (lone (St b a k') cs w) :=
  step_lone_go (by simp [stepG, stepG.exec, St, h])
theorem st_goto {l : Nat} {k' : List Item} (h : gotoIn l k = some k') : step P (lone (St b a (.code (.goto l) :: k)) cs w) = .next (lone (St b a k') cs w) :=
  step_lone_go (by simp [stepG, stepG.exec, St, h])
theorem st_region {i : Nat} {ops : Array Oper} :
    step P (lone (St b a (.code (.region i ops false) :: k)) cs w) = .next (lone (St b a (.inRegion ops (List.range ops.size) :: k)) cs w) :=
  step_lone_go (by simp [stepG, stepG.exec, St])
theorem st_region_draw {i : Nat} {ops : Array Oper} :
    step P (lone (St b a (.code (.region i ops true) :: k)) cs w) =
      .next (lone (St b a (.inRegion ops (Region.schedule (P.follows .mixedOrders) ops (w.tape w.drawn (.order b.fn i))) :: k)) cs (World.drawnTo w (w.drawn + 1))) :=
  step_lone_go (by simp [stepG, stepG.exec, St, World.drawnTo, choose, Sem.run, Question.forced, Question.cut])
theorem st_region_end {ops : Array Oper} : step P (lone (St b a (.inRegion ops [] :: k)) cs w) = .next (lone (St b a k) cs w) :=
  step_lone_go (by simp [stepG, stepG.exec, St])
theorem st_finish {ops : Array Oper} {i : Nat} {rest : List Nat} (v : Value) :
    (St b a (.inRegion ops (i :: rest) :: k)).finish v = St b (a.put ((ops[i]?).bind (·.dst)) v) (.inRegion ops rest :: k) := by
  cases h : (ops[i]?).bind (·.dst) <;> simp [Frame.finish, St, Act.put, h]
theorem st_op_skip {ops : Array Oper} {i : Nat} {rest : List Nat} (h : ((ops[i]?).map (Region.wanted · (yielded ops a.tmps))).getD false = false) :
    step P (lone (St b a (.inRegion ops (i :: rest) :: k)) cs w) = .next (lone (St b (a.put ((ops[i]?).bind (·.dst)) undef) (.inRegion ops rest :: k)) cs w) := by
  rw [← st_finish]
  exact step_lone_go (by
    have h' := h
    simp only [St] at *
    simp [stepG, stepG.exec, h'])
def isDefer : Op → Bool
  | .defer _ => true
  | _ => false
theorem stG_op {ops : Array Oper} {i : Nat} {rest : List Nat} {o : Oper} (ho : ops[i]? = some o) (hw : Region.wanted o (yielded ops a.tmps) = true) (hd : b.roundOf = none ∨ isDefer o.op = false) :
    stepG P true { frame := St b a (.inRegion ops (i :: rest) :: k), callers := cs, status := .running, dying := none } w =
      stepG.apply P true (St b a (.inRegion ops (i :: rest) :: k)) cs none (execOp a.eval o) w := by
  have he := St_eval b a (.inRegion ops (i :: rest) :: k)
  simp only [St] at he
  rcases hd with hd | hd
  · rw [hd] at he
    simp [stepG, stepG.exec, stepG.oper, Frame.oper?, St, ho, hw, he, hd]
  · cases hr : b.roundOf with
    | none =>
      rw [hr] at he
      simp [stepG, stepG.exec, stepG.oper, Frame.oper?, St, ho, hw, he, hr]
    | some l =>
      rw [hr] at he
      obtain ⟨dst, op, ty, pos, after, gd⟩ := o
      cases op <;> first | (cases hd; done) | (simp [stepG, stepG.exec, stepG.oper, Frame.oper?, St, ho, hw, he, hr]; done)
end

/-! ### what a call comes to -/
/-- who recovers nothing -/
def Calm (kind : CallKind) (cs : List Frame) : Prop := kind = .normal ∨ (kind = .deferred ∧ ∀ c r, cs = c :: r → c.mode = .returning)
structure Lv (P : Program) (fr : Frame) (f : FuncId) (kind : CallKind) (w : World) (v : Value) : Prop where
  mode : fr.mode = .returning
  defers : fr.defers = []
  kind : fr.kind = kind
  fn : fr.fn = f
  res : ∃ fn, P.funcs[f]? = some fn ∧ (results fn fr.tmps).run P w = .ok v w
def EnterC (P : Program) (f : FuncId) (vs : Array Value) (w : World) (R : Value → World → Prop) : Prop :=
  ∀ kind cs, Calm kind cs → ∃ fr v w', R v w' ∧ Steps P (lone (Frame.enter P f vs kind) cs w) (lone fr cs w') ∧ Lv P fr f kind w' v
def RoundC (P : Program) (l : Nat) (f : FuncId) (tmps : Array Value) (as bo : Code) (w : World) (R : Value → World → Prop) : Prop :=
  ∀ c cs, ∃ v w', R v w' ∧ Steps P (lone (Frame.round l f tmps as bo .normal) (c :: cs) w) (lone (c.finish v) cs w')
def Ends (P : Program) (s : Sem Next) (w : World) (R : Value → World → Prop) : Prop :=
  (∃ v w', s.run P w = .ok (.value v) w' ∧ R v w') ∨ (∃ f vs w1, s.run P w = .ok (.enter f vs) w1 ∧ EnterC P f vs w1 R) ∨
  (∃ l f tmps as bo w1, s.run P w = .ok (.round l f tmps as bo) w1 ∧ RoundC P l f tmps as bo w1 R)
section
variable {P : Program} {w : World} {R R' : Value → World → Prop}
theorem Ends.congr {s s' : Sem Next} (h : s'.run P w = s.run P w) (e : Ends P s w R) : Ends P s' w R := by
  unfold Ends; rw [h]; exact e
theorem Ends.mono {s : Sem Next} (hR : ∀ v w, R v w → R' v w) (e : Ends P s w R) : Ends P s w R' := by
  rcases e with ⟨v, w', h, r⟩ | ⟨f, vs, w1, h, r⟩ | ⟨l, f, tmps, as, bo, w1, h, r⟩
  · exact .inl ⟨v, w', h, hR _ _ r⟩
  · exact .inr (.inl ⟨f, vs, w1, h, fun kind cs hc => let ⟨fr, v, w', q, s, t⟩ := r kind cs hc; ⟨fr, v, w', hR _ _ q, s, t⟩⟩)
  · exact .inr (.inr ⟨l, f, tmps, as, bo, w1, h, fun c cs => let ⟨v, w', q, s⟩ := r c cs; ⟨v, w', hR _ _ q, s⟩⟩)
theorem step_leave {P : Program} {fr c : Frame} {cs : List Frame} {w : World} {v : Value} {f : FuncId} (h : Lv P fr f .normal w v) :
    step P (lone fr (c :: cs) w) = .next (lone (c.finish v) cs w) := by
  obtain ⟨hm, hd, hk, rfl, fn, hf, hr⟩ := h
  exact step_lone_go (by simp [stepG, unwind, doReturn, hm, hd, hk, hf, hr])
/-- an operation that ends: its frame goes on -/
theorem ends_op {ops : Array Oper} {i : Nat} {rest : List Nat} {o : Oper} {b : Frame} {a : Go.Act} {k : List Item} {cs : List Frame} (ho : ops[i]? = some o) (hw : Region.wanted o (yielded ops a.tmps) = true)
    (hd : b.roundOf = none ∨ isDefer o.op = false) (e : Ends P (execOp a.eval o) w R) :
    ∃ v w', R v w' ∧ Steps P (lone (St b a (.inRegion ops (i :: rest) :: k)) cs w) (lone (St b (a.put o.dst v) (.inRegion ops rest :: k)) cs w') := by
  have hg := stG_op (P := P) (k := k) (cs := cs) (w := w) (rest := rest) ho hw hd
  have hfin : ∀ v, (St b a (.inRegion ops (i :: rest) :: k)).finish v = St b (a.put o.dst v) (.inRegion ops rest :: k) := by
    intro v; rw [st_finish, ho]; rfl
  rcases e with ⟨v, w', h, r⟩ | ⟨f, vs, w1, h, r⟩ | ⟨l, f, tmps, as, bo, w1, h, r⟩
  · refine ⟨v, w', r, .one (step_lone_go ?_)⟩
    rw [hg, ← hfin]; simp [stepG.apply, h]
  · obtain ⟨fr, v, w', q, hs, hl⟩ := r .normal (St b a (.inRegion ops (i :: rest) :: k) :: cs) (.inl rfl)
    have henter : step P (lone (St b a (.inRegion ops (i :: rest) :: k)) cs w) =
        .next (lone (Frame.enter P f vs .normal) (St b a (.inRegion ops (i :: rest) :: k) :: cs) w1) :=
      step_lone_go (by rw [hg]; simp [stepG.apply, h, St])
    refine ⟨v, w', q, .head henter (hs.trans (.one ?_))⟩
    rw [← hfin]; exact step_leave hl
  · obtain ⟨v, w', q, hs⟩ := r (St b a (.inRegion ops (i :: rest) :: k)) cs
    have henter : step P (lone (St b a (.inRegion ops (i :: rest) :: k)) cs w) =
        .next (lone (Frame.round l f tmps as bo .normal) (St b a (.inRegion ops (i :: rest) :: k) :: cs) w1) :=
      step_lone_go (by rw [hg]; simp [stepG.apply, h, St])
    refine ⟨v, w', q, .head henter ?_⟩
    rw [← hfin]; exact hs
/-- an operation that says nothing -/
theorem skip_op {ops : Array Oper} {i : Nat} {rest : List Nat} {o : Oper} {b : Frame} {a : Go.Act} {k : List Item} {cs : List Frame} {w' : World} (ho : ops[i]? = some o) (hw : Region.wanted o (yielded ops a.tmps) = true)
    (hd : b.roundOf = none ∨ isDefer o.op = false) (h : (execOp a.eval o).run P w = .ok .skip w') :
    Steps P (lone (St b a (.inRegion ops (i :: rest) :: k)) cs w) (lone (St b (a.put o.dst undef) (.inRegion ops rest :: k)) cs w') := by
  have hg := stG_op (P := P) (k := k) (cs := cs) (w := w) (rest := rest) ho hw hd
  have hfin : ∀ v, (St b a (.inRegion ops (i :: rest) :: k)).finish v = St b (a.put o.dst v) (.inRegion ops rest :: k) := by
    intro v; rw [st_finish, ho]; rfl
  refine .one (step_lone_go ?_)
  rw [hg, ← hfin]; simp [stepG.apply, h]
/-- a call put off -/
theorem defer_op {ops : Array Oper} {i : Nat} {rest : List Nat} {o : Oper} {b : Frame} {a : Go.Act} {k : List Item} {cs : List Frame} {w' : World} {d : Deferred} (ho : ops[i]? = some o) (hw : Region.wanted o (yielded ops a.tmps) = true)
    (hd : b.roundOf = none) (h : (execOp a.eval o).run P w = .ok (.defer d) w') :
    Steps P (lone (St b a (.inRegion ops (i :: rest) :: k)) cs w) (lone (St b (({ a with defers := d :: a.defers } : Go.Act).put o.dst undef) (.inRegion ops rest :: k)) cs w') := by
  have hg := stG_op (P := P) (k := k) (cs := cs) (w := w) (rest := rest) ho hw (.inl hd)
  have hfin : ({ St b a (.inRegion ops (i :: rest) :: k) with defers := d :: a.defers } : Frame).finish undef =
      St b (({ a with defers := d :: a.defers } : Go.Act).put o.dst undef) (.inRegion ops rest :: k) := by
    have := st_finish (b := b) (a := { a with defers := d :: a.defers }) (k := k) (ops := ops) (i := i) (rest := rest) undef
    rw [ho] at this; exact this
  refine .one (step_lone_go ?_)
  rw [hg]; simp only [stepG.apply, Sem.runT_eq, h, GStep.bare_after]
  exact congrArg (fun fr => GStep.go { frame := fr, callers := cs, status := .running, dying := none } w') hfin
theorem no_recover {fr : Frame} {cs : List Frame} (h : Calm fr.kind cs) : tryRecover fr cs = none := by
  unfold tryRecover
  rcases h with h | ⟨h, hc⟩
  · rw [h]
  · rw [h]
    cases cs with
    | nil => rfl
    | cons c r => simp only [hc c r rfl]
/-- a recover where nothing panics -/
theorem recover_op {ops : Array Oper} {i : Nat} {rest : List Nat} {o : Oper} {b : Frame} {a : Go.Act} {k : List Item} {cs : List Frame} {w' : World} (ho : ops[i]? = some o) (hw : Region.wanted o (yielded ops a.tmps) = true)
    (hd : b.roundOf = none) (hc : Calm b.kind cs) (h : (execOp a.eval o).run P w = .ok .recover w') :
    Steps P (lone (St b a (.inRegion ops (i :: rest) :: k)) cs w) (lone (St b (a.put o.dst .nilIface) (.inRegion ops rest :: k)) cs w') := by
  have hg := stG_op (P := P) (k := k) (cs := cs) (w := w) (rest := rest) ho hw (.inl hd)
  have hfin : ∀ v, (St b a (.inRegion ops (i :: rest) :: k)).finish v = St b (a.put o.dst v) (.inRegion ops rest :: k) := by
    intro v; rw [st_finish, ho]; rfl
  have hr : tryRecover (St b a (.inRegion ops (i :: rest) :: k)) cs = none := no_recover hc
  have hro : (St b a (.inRegion ops (i :: rest) :: k)).roundOf = none := hd
  refine .one (step_lone_go ?_)
  rw [hg, ← hfin]; simp [stepG.apply, h, hro, hr]
end
end Go.Proofs.YtlmcadgbnolffaaGreatDoor.Am
