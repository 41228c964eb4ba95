/- The machine's soundness: range over functions. -/
import Derived.Test.YtlmcadgbnolffaaGreatDoorAm29
namespace Go.Proofs.YtlmcadgbnolffaaGreatDoor.Am
section
variable {P : Program} {g : G} {n : Nat} {cx : Cx} {ι : Nam} {en : Env} {h h' : H} {df df' : List Df} {a : Go.Act} {w : World} {b : Frame} {cs : List Frame} {D : Nat → Prop}
theorem range_step {R : Value → World → Prop} {f : Operand} {ps : Array Tmp} {as bo : Code} {k : List Item} {l : Nat} {mark : List Deferred} {w1 : World}
    (he : (Instr.enterLoop b.fn a.tmps ps as bo b.roundOf).run P w = .ok (l, mark) w1)
    (e : Ends P (do let d ← Deferred.ofValue (a.eval f) #[.func (.yield l) #[] #[]]; invoke d.target d.args) w1 R) :
    ∃ v w', R v w' ∧ Steps P (lone (St b a (.code (.rangeFunc f ps as bo) :: k)) cs w) (lone (St b { a with defers := mark ++ a.defers } (.endRangeFunc l :: k)) cs w') := by
  have hev : (St b { a with defers := mark ++ a.defers } (.inRangeFunc l :: k)).eval = a.eval := by rw [St_eval]; rfl
  have hstep : (stepG P true { frame := St b a (.code (.rangeFunc f ps as bo) :: k), callers := cs, status := .running, dying := none } w).bare =
      (stepG.apply P true (St b { a with defers := mark ++ a.defers } (.inRangeFunc l :: k)) cs none (do let d ← Deferred.ofValue (a.eval f) #[.func (.yield l) #[] #[]]; invoke d.target d.args) w1).bare := by
    have : (do let d ← resolve (St b { a with defers := mark ++ a.defers } (.inRangeFunc l :: k)).eval { callee := .value f, args := #[.const (.func (.yield l) #[] #[])], argTypes := #[] } 0; invoke d.target d.args : Sem Next) =
        (do let d ← Deferred.ofValue (a.eval f) #[.func (.yield l) #[] #[]]; invoke d.target d.args : Sem Next) := by
      rw [hev]; unfold resolve; simp [Go.Act.eval]
    rw [← this]
    simp only [stepG, stepG.exec, St, Sem.runT_eq, he, GStep.bare_after]
  rcases e with ⟨v, w', hr, q⟩ | ⟨f0, vs, w2, hr, q⟩ | ⟨l0, f0, tmps, as0, bo0, w2, hr, q⟩
  · refine ⟨v, w', q, .one (step_lone_go ?_)⟩
    rw [hstep]; simp [stepG.apply, hr, Frame.finish, St]
  · obtain ⟨fr, v, w', q, hs, hl⟩ := q .normal (St b { a with defers := mark ++ a.defers } (.inRangeFunc l :: k) :: cs) (.inl rfl)
    have henter : step P (lone (St b a (.code (.rangeFunc f ps as bo) :: k)) cs w) =
        .next (lone (Frame.enter P f0 vs .normal) (St b { a with defers := mark ++ a.defers } (.inRangeFunc l :: k) :: cs) w2) :=
      step_lone_go (by rw [hstep]; simp [stepG.apply, hr, St])
    exact ⟨v, w', q, .head henter (hs.trans (.one (step_leave hl)))⟩
  · obtain ⟨v, w', q, hs⟩ := q (St b { a with defers := mark ++ a.defers } (.inRangeFunc l :: k)) cs
    have henter : step P (lone (St b a (.code (.rangeFunc f ps as bo) :: k)) cs w) =
        .next (lone (Frame.round l0 f0 tmps as0 bo0 .normal) (St b { a with defers := mark ++ a.defers } (.inRangeFunc l :: k) :: cs) w2) :=
      step_lone_go (by rw [hstep]; simp [stepG.apply, hr, St])
    exact ⟨v, w', q, .head henter hs⟩
theorem end_step {l : Nat} {r : Loop} (hw : w.heap[l]? = some (.loop r)) (hb : r.state ≠ .busy) {k : List Item} :
    step P (lone (St b a (.endRangeFunc l :: k)) cs w) = .next (lone (St b a ((r.pending.map Item.code).toList ++ k)) cs { w with heap := w.heap.setIfInBounds l (.loop { r with state := .exhausted }) }) := by
  have hrun : (Instr.endLoop l).run P w = .ok r.pending { w with heap := w.heap.setIfInBounds l (.loop { r with state := .exhausted }) } := by
    have h1 : (Instr.getLoop l).run P w = .ok r w := by
      unfold Instr.getLoop
      rw [Sem.run_bind]
      have : (getObj l).run P w = .ok (.loop r) w := by
        show Sem.run P (Sem.getObj l Sem.pure) w = _
        unfold Sem.run; rw [hw]; rfl
      rw [this]; rfl
    have h2 : (setObj l (.loop { r with state := .exhausted })).run P w = .ok () { w with heap := w.heap.setIfInBounds l (.loop { r with state := .exhausted }) } := by
      show Sem.run P (Sem.setObj l _ (Sem.pure ())) w = _
      unfold Sem.run; rw [hw]; rfl
    have hbs : (r.state == .busy) = false := by
      cases hs : r.state <;> first | rfl | exact absurd hs hb
    unfold Instr.endLoop
    simp only [Sem.run_bind, h1, Result.andThen_ok, hbs, Bool.false_eq_true, if_false, h2, Sem.run_pure]
  exact step_lone_go (by simp [stepG, stepG.exec, St, hrun])
theorem run_newObjP (o : Obj) (w : World) : (newObj o).run P w = .ok w.heap.size (World.grown w w.drawn o) := rfl
theorem run_getLoop {l : Nat} {r : Loop} (hw : w.heap[l]? = some (.loop r)) : (Instr.getLoop l).run P w = .ok r w := by
  unfold Instr.getLoop
  rw [Sem.run_bind]
  have : (getObj l).run P w = .ok (.loop r) w := by
    show Sem.run P (Sem.getObj l Sem.pure) w = _
    unfold Sem.run; rw [hw]; rfl
  rw [this]; rfl
theorem ext_one (k : WR ι h w) {ι' : Nam} {h' : H} {w' : World} {W : List Nat} (L : Loc ι h w ι' h' w' W) : WR ι' h' w' ∧ Ext ι h w ι' h' w' W := ⟨L.wr k, L.toExt⟩
theorem WR.at (k : WR ι h w) {b : Nat} {m : Nm} (e : ι b = some m) {x : Blk} (hb : h.get b = some x) : ∃ o, w.heap[m.B]? = some o ∧ BR ι x o m := k.map trivial e hb
/-- the tail of a range: the call is made, the loop is over -/
theorem range_fin (p : Pre P n cx ι en h df a w b cs) {f : Operand} (hf : opndOk n f = true) {ps : Array Tmp} {as bo : Code} {kk : List Item} {l : Nat} {mark : List Deferred} {w1 : World} {ι1 : Nam} {h1 : H} {df1 : List Df} {W1 : List Nat}
    (he : (Instr.enterLoop b.fn a.tmps ps as bo b.roundOf).run P w = .ok (l, mark) w1) {la : Nat} {m : Nm} (hm : ι1 la = some m) (hl : m.B = l)
    (k1 : WR ι1 h1 w1) (e1 : Ext ι h w ι1 h1 w1 W1) (hdf : DfR ι1 df1 (mark ++ a.defers)) {r : XR}
    (hr : r = (match apply cx ((ev f).f en) (.cons (.yld la) .nil) h1 with
      | .ok _ h' => (match h'.get la with
        | some (.loop st pend fn env ps' as' bo' dd) => (match st with
          | .busy => .fail
          | _ => jumpOf pend en (h'.set la (.loop .exhausted pend fn env ps' as' bo' dd)) df1)
        | _ => .fail)
      | .fail => .fail)) : Out P b n kk cs ι h w (lone (St b a (.code (.rangeFunc f ps as bo) :: kk)) cs w) r := by
  have hle := e1.le p.wr.fresh
  have hvf := (ev_ok p.env p.gi f hf).mono hle
  cases hap : apply cx ((ev f).f en) (.cons (.yld la) .nil) h1 with
  | fail => rw [hap] at hr; subst hr; trivial
  | ok v h2 =>
    rw [hap] at hr
    dsimp only at hr
    have hargs : VRs ι1 (.cons (.yld la) .nil) (#[Value.func (.yield l) #[] #[]] : Array Value).toList := ⟨_, _, rfl, ⟨m, hm, by rw [hl]⟩, rfl⟩
    have hends := apply_ok p.cok k1 (p.gi.mono hle) hvf hargs hap
    obtain ⟨v', w2, ⟨ι2, W2, _, k2, e2⟩, hs⟩ := range_step (cs := cs) (k := kk) he hends
    have hle2 := e2.le k1.fresh
    cases hg : h2.get la with
    | none => rw [hg] at hr; subst hr; trivial
    | some x =>
      rw [hg] at hr
      cases x with
      | loop st pend fn env ps' as' bo' dd =>
        dsimp only at hr
        have hm2 := hle2 _ _ hm
        obtain ⟨o, ho, hbr⟩ := k2.at hm2 hg
        obtain ⟨rr, n', md, rfl, b1, b2, b3, b4, b5, b6, b7, b8, b9⟩ := hbr
        by_cases hst : st = .busy
        · subst hst; subst hr; trivial
        have hr : r = jumpOf pend en (h2.set la (.loop .exhausted pend fn env ps' as' bo' dd)) df1 := by
          cases st <;> first | exact hr | exact absurd rfl hst
        have hbr' : BR ι2 (.loop .exhausted pend fn env ps' as' bo' dd) (.loop { rr with state := .exhausted }) m := ⟨{ rr with state := .exhausted }, n', md, rfl, rfl, b2, b3, b4, b5, b6, b7, b8, b9⟩
        have L := Loc.set_obj k2 hm2 hg ho hbr'
        rw [hl] at ho L
        have hstep := end_step (P := P) (b := b) (a := { a with defers := mark ++ a.defers }) (cs := cs) (k := kk) ho (by rw [b1]; exact hst)
        have hsr : SR ι h w n ι2 en (h2.set la (.loop .exhausted pend fn env ps' as' bo' dd)) df1 { a with defers := mark ++ a.defers } { w2 with heap := w2.heap.setIfInBounds l (.loop { rr with state := .exhausted }) } :=
          ⟨p.env.mono (Nam.le_trans hle hle2), hdf.mono hle2, L.wr k2, _, (e1.trans e2).trans L.toExt⟩
        have htodo : (rr.pending.map Item.code).toList = (pend.map Item.code).toList := by rw [b2]
        rw [htodo] at hstep
        subst hr
        cases pend with
        | none => exact ⟨ι2, _, _, hs.trans (.one hstep), hsr⟩
        | some c =>
          cases c with
          | ret => exact ⟨ι2, _, _, kk, hs.trans (.one hstep), hsr⟩
          | exit i => exact ⟨ι2, _, _, kk, rfl, hs.trans (.one hstep), hsr⟩
          | goto l' => exact ⟨ι2, _, _, kk, rfl, hs.trans (.one hstep), hsr⟩
          | _ => trivial
      | _ => subst hr; trivial
theorem kRange_ok {f : Operand} (hf : opndOk n f = true) {ps : Array Tmp} {as bo : Code} (hps : (ps.toList.all (Nat.blt · n)) = true) (has : codeOk n as = true) (hbo : codeOk n bo = true) :
    KOk P n (kRange (ev f) ps.toList as bo) (fun kk => .code (.rangeFunc f ps as bo) :: kk) := by
  intro cx ι en h df a w b cs p kk
  rcases p.rd with ⟨hrd, hro⟩ | ⟨l0, m0, hrd, hm0, hro⟩
  · -- outermost
    unfold kRange
    dsimp only
    rw [hrd]
    dsimp only
    split
    · rename_i hroom
      rw [Nat.ble_eq] at hroom
      have hroom : h.next + 1 < 65536 := hroom
      have L1 := Loc.mkNew p.wr (by omega) .dfr ⟨w.heap.size, 0, 0⟩ (.deferred (some [])) (w' := World.grown w w.drawn (.deferred (some []))) (by simp [World.grown]) grown_old (Nat.le_refl _) grown_new rfl rfl rfl rfl
      have k1 := L1.wr p.wr
      have hle1 := L1.toExt.le p.wr.fresh
      let rr : Loop := { state := .ready, pending := none, fn := b.fn, tmps := a.tmps, params := ps, assign := as, body := bo, defers := w.heap.size }
      have hn1 : (h.new .dfr).next = h.next + 1 := rfl
      have hdd : (ι.add h.next ⟨w.heap.size, 0, 0⟩).add (h.next + 1) ⟨w.heap.size + 1, 0, 0⟩ h.next = some ⟨w.heap.size, 0, 0⟩ := by
        rw [Nam.add_ne _ _ (by omega), Nam.add_same]
      have hfr : (ι.add h.next ⟨w.heap.size, 0, 0⟩) (h.next + 1) = none := k1.fresh _ (Nat.le_refl _)
      have hle2 : (ι.add h.next ⟨w.heap.size, 0, 0⟩).le ((ι.add h.next ⟨w.heap.size, 0, 0⟩).add (h.next + 1) ⟨w.heap.size + 1, 0, 0⟩) := Nam.le_add _ hfr
      have L2 := Loc.mkNew (ι := ι.add h.next ⟨w.heap.size, 0, 0⟩) k1 (by rw [hn1]; omega) (.loop .ready none (nat_lit 0) en ps.toList as bo h.next) ⟨w.heap.size + 1, 0, 0⟩ (.loop rr) (w' := World.grown (World.grown w w.drawn (.deferred (some []))) w.drawn (.loop rr))
        (by simp [World.grown]) grown_old (by simp [World.grown])
        (by have := grown_new (w := World.grown w w.drawn (.deferred (some []))) (n := w.drawn) (o := .loop rr)
            have hsz : (World.grown w w.drawn (.deferred (some []))).heap.size = w.heap.size + 1 := by simp [World.grown]
            rw [hsz] at this; exact this)
        ⟨rr, n, ⟨w.heap.size, 0, 0⟩, rfl, rfl, rfl, p.env.mono (Nam.le_trans hle1 hle2), rfl, rfl, rfl, hdd, rfl, has, hbo, hps⟩ rfl rfl rfl
      have k2 := L2.wr k1
      refine range_fin p hf (l := w.heap.size + 1) (mark := [{ target := .collected w.heap.size, args := #[] }]) (w1 := World.grown (World.grown w w.drawn (.deferred (some []))) w.drawn (.loop rr)) ?_ (la := h.next + 1) (m := ⟨w.heap.size + 1, 0, 0⟩) (Nam.add_same _ _ _) rfl k2 (L1.toExt.trans L2.toExt) ?_ rfl
      · have hsz : (World.grown w w.drawn (.deferred (some []))).heap.size = w.heap.size + 1 := by simp [World.grown]
        rw [hro]
        simp only [Instr.enterLoop, Sem.run_bind, run_newObjP, Result.andThen_ok, Sem.run_pure, hsz]
        rfl
      · exact ⟨_, a.defers, hdd, rfl, p.dfr.mono (Nam.le_trans hle1 hle2)⟩
    · trivial
  · -- within a round
    unfold kRange
    dsimp only
    rw [hrd]
    dsimp only
    split
    · rename_i st0 pd0 fn0 en0 ps0 as0 bo0 dd hroom hl0
      have hr := H.room_iff.1 hroom
      obtain ⟨o, ho, hbr⟩ := p.wr.at hm0 hl0
      obtain ⟨r0, n', md, rfl, b1, b2, b3, b4, b5, b6, b7, b8, b9⟩ := hbr
      let rr : Loop := { state := .ready, pending := none, fn := b.fn, tmps := a.tmps, params := ps, assign := as, body := bo, defers := r0.defers }
      have hfr := p.wr.fresh h.next (Nat.le_refl _)
      have hle2 : ι.le (ι.add h.next ⟨w.heap.size, 0, 0⟩) := Nam.le_add _ hfr
      have L2 := Loc.mkNew p.wr hr (.loop .ready none (nat_lit 0) en ps.toList as bo dd) ⟨w.heap.size, 0, 0⟩ (.loop rr) (w' := World.grown w w.drawn (.loop rr))
        (by simp [World.grown]) grown_old (Nat.le_refl _) grown_new
        ⟨rr, n, md, rfl, rfl, rfl, p.env.mono hle2, rfl, rfl, rfl, hle2 _ _ b7, b8, has, hbo, hps⟩ rfl rfl rfl
      have k2 := L2.wr p.wr
      refine range_fin p hf (l := w.heap.size) (mark := []) (w1 := World.grown w w.drawn (.loop rr)) ?_ (la := h.next) (m := ⟨w.heap.size, 0, 0⟩) (Nam.add_same _ _ _) rfl k2 L2.toExt ?_ rfl
      · rw [hro]
        simp only [Instr.enterLoop, Sem.run_bind, run_getLoop ho, Result.andThen_ok, Sem.run_pure, run_newObjP]
        rfl
      · exact p.dfr.mono hle2
    · trivial
end
end Go.Proofs.YtlmcadgbnolffaaGreatDoor.Am
