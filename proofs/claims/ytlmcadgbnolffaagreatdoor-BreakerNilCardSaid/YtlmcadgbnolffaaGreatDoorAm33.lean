/- The machine's soundness: rounds of a range over a function; the whole machine, where drawn regions and functions without a body are supposed. -/
import Derived.Test.YtlmcadgbnolffaaGreatDoorAm32
namespace Go.Proofs.YtlmcadgbnolffaaGreatDoor.Am
section
variable {P : Program} {g : G} {n : Nat} {cx : Cx} {ι : Nam} {en : Env} {h h' : H} {df df' : List Df} {a : Go.Act} {w : World} {b : Frame} {cs : List Frame}
theorem params_ok : ∀ (ps : List Tmp) (args : AV) (vs : List Value), VRs ι args vs → ps.length = vs.length → (ps.all (Nat.blt · n)) = true → ∀ (en : Env) (tmps : Array Value), EnvR ι n en tmps →
    EnvR ι n (params ps args en) ((ps.zip vs).foldl (fun tmps (t, a) => tmps.setIfInBounds t a) tmps)
  | [], _, _, _, _, _, _, _, hE => hE
  | q :: ps, args, vs, ha, hl, hp, en, tmps, hE => by
    cases vs with
    | nil => cases hl
    | cons v vs =>
      have hl : ps.length = vs.length := by simpa using hl
      simp only [List.all_cons, Bool.and_eq_true] at hp
      have h0 := lnth_ok ha 0
      have h1 := ldrop_ok ha 1
      have e : params (q :: ps) args en = params ps (ldrop args (nat_lit 1)) ((pT q).f (lnth args (nat_lit 0)) en) := rfl
      rw [e, List.zip_cons_cons, List.foldl_cons]
      exact params_ok ps _ vs h1 hl hp.2 _ _ (hE.put (ble_blt hp.1) h0)
theorem run_setLoop {l : Nat} {r r' : Loop} (hw : w.heap[l]? = some (.loop r)) : (setObj l (.loop r')).run P w = .ok () { w with heap := w.heap.setIfInBounds l (.loop r') } := by
  show Sem.run P (Sem.setObj l _ (Sem.pure ())) w = _
  unfold Sem.run; rw [hw]; rfl
theorem st_begin {l : Nat} {r : Loop} (hw : w.heap[l]? = some (.loop r)) (hr : r.state = .ready) (hro : b.roundOf = some l) {k : List Item} :
    step P (lone (St b a (.beginRound :: k)) cs w) = .next (lone (St b a k) cs { w with heap := w.heap.setIfInBounds l (.loop { r with state := .busy }) }) := by
  have hrun : (Instr.beginRound l).run P w = .ok () { w with heap := w.heap.setIfInBounds l (.loop { r with state := .busy }) } := by
    unfold Instr.beginRound
    simp only [Sem.run_bind, run_getLoop hw, Result.andThen_ok, run_setLoop hw, hr, Sem.run_pure]
  exact step_lone_go (by simp [stepG, stepG.exec, stepG.apply, St, hro, hrun, Frame.finish])
theorem run_endRound {l : Nat} {r : Loop} (hw : w.heap[l]? = some (.loop r)) (jump : Option Code) :
    (Instr.endRound l jump).run P w = .ok (.bool jump.isNone) { w with heap := w.heap.setIfInBounds l (.loop { r with state := if jump.isNone then .ready else .done, pending := jump }) } := by
  unfold Instr.endRound
  simp only [Sem.run_bind, run_getLoop hw, Result.andThen_ok, run_setLoop hw, Sem.run_pure]
/-- the four ways out of a round -/
def outItems : Option Code → List Item → Prop
  | none, k => k = []
  | some .ret, k => ∃ t, k = .code .ret :: t
  | some (.exit i), k => ∃ t, k = .code (.exit i) :: t ∧ exitTo i t = none
  | some (.goto l), k => ∃ t, k = .code (.goto l) :: t ∧ gotoIn l t = none
  | _, _ => False
theorem st_outRound {l : Nat} {r : Loop} (hw : w.heap[l]? = some (.loop r)) (hro : b.roundOf = some l) (hk : b.kind = .normal) {c : Frame} {jump : Option Code} {k : List Item} (ho : outItems jump k) :
    step P (lone (St b a k) (c :: cs) w) = .next (lone (c.finish (.bool jump.isNone)) cs { w with heap := w.heap.setIfInBounds l (.loop { r with state := if jump.isNone then .ready else .done, pending := jump }) }) := by
  have hrun := run_endRound (P := P) hw jump
  refine step_lone_go ?_
  cases jump with
  | none =>
    have ho : k = [] := ho
    subst ho
    simp [stepG, stepG.exec, St, hro, hrun, doReturn, hk]
  | some j =>
    cases j with
    | ret =>
      obtain ⟨t, rfl⟩ := ho
      simp [stepG, stepG.exec, St, hro, hrun, doReturn, hk]
    | exit i =>
      obtain ⟨t, rfl, ht⟩ := ho
      simp [stepG, stepG.exec, St, hro, hrun, doReturn, hk, ht]
    | goto l' =>
      obtain ⟨t, rfl, ht⟩ := ho
      simp [stepG, stepG.exec, St, hro, hrun, doReturn, hk, ht]
    | _ => exact ho.elim
/-- the end of a round, by the machine's word -/
noncomputable def finR (l : Nat) (jump : Option Code) (st : LoopState) (b : Bool) (h2 : H) : Res :=
  match h2.get l with
  | some (.loop _ _ fn2 env2 ps2 as2 bo2 dd2) => .ok (.bool b) (h2.set l (.loop st jump fn2 env2 ps2 as2 bo2 dd2))
  | _ => .fail
noncomputable def bodyR (l : Nat) : XR → Res
  | .norm _ h2 _ => finR l none .ready true h2
  | .ret _ h2 _ => finR l (some .ret) .done false h2
  | .ext i _ h2 _ => finR l (some (.exit i)) .done false h2
  | .got l' _ h2 _ => finR l (some (.goto l')) .done false h2
  | .fail => .fail
theorem begun_inv {l : Nat} {args v : AV} (e : begun g cx l args h = .ok v h') : ∃ st0 pd0 fn0 env ps as bo dd0 en1 h1 pend fn env' ps' as' bo' dd,
    h.get l = some (.loop st0 pd0 fn0 env ps as bo dd0) ∧ llen args = ps.length ∧ (exC g as).k.k { cx with rd := some l } (params ps args env) h [] = .norm en1 h1 [] ∧
    h1.get l = some (.loop .ready pend fn env' ps' as' bo' dd) ∧ bodyR l ((exC g bo).k.k { cx with rd := some l } en1 (h1.set l (.loop .busy pend fn env' ps' as' bo' dd)) []) = .ok v h' := by
  unfold begun at e
  split at e
  · rename_i st0 pd0 fn0 env ps as bo dd0 hl
    split at e
    · rename_i hlen
      split at e
      · rename_i en1 h1 hk
        split at e
        · rename_i pend fn env' ps' as' bo' dd hl1
          refine ⟨st0, pd0, fn0, env, ps, as, bo, dd0, en1, h1, pend, fn, env', ps', as', bo', dd, hl, Nat.eq_of_beq_eq_true hlen, hk, hl1, ?_⟩
          rw [← e]
          generalize (exC g bo).k.k { cx with rd := some l } en1 (h1.set l (.loop .busy pend fn env' ps' as' bo' dd)) [] = r
          cases r <;> rfl
        · cases e
      · cases e
    · cases e
  · cases e
theorem fin_ok {h3 : H} {en3 : Env} {df3 : List Df} {ι3 : Nam} {a3 : Go.Act} {w3 : World} {l : Nat} {m : Nm} (k0 : WR ι h w) (hm : ι l = some m) (s3 : SR ι h w n ι3 en3 h3 df3 a3 w3) {jump : Option Code} {st : LoopState} {bb : Bool} {v : AV} {c : Frame} {k : List Item}
    (e : finR l jump st bb h3 = .ok v h') (hst : st = if jump.isNone then .ready else .done) (hbb : bb = jump.isNone) (ho : outItems jump k) (hro : b.roundOf = some m.B := by rfl) (hk : b.kind = .normal := by rfl) :
    ∃ v' w', CR ι h w v h' v' w' ∧ Steps P (lone (St b a3 k) (c :: cs) w3) (lone (c.finish v') cs w') := by
  unfold finR at e
  split at e
  · rename_i st3 pd3 fn3 env3 ps3 as3 bo3 dd3 hl3
    cases e
    have hm3 := s3.le k0 _ _ hm
    obtain ⟨o3, ho3, hbr3⟩ := s3.wr.at hm3 hl3
    obtain ⟨r3, n3, md3, rfl, d1, d2, d3, d4, d5, d6, d7, d8, d9⟩ := hbr3
    have L := Loc.set_obj s3.wr hm3 hl3 ho3 (x := .loop st jump fn3 env3 ps3 as3 bo3 dd3) (o := .loop { r3 with state := if jump.isNone then .ready else .done, pending := jump })
      ⟨{ r3 with state := if jump.isNone then .ready else .done, pending := jump }, n3, md3, rfl, hst.symm, rfl, d3, d4, d5, d6, d7, d8, d9⟩
    obtain ⟨W3, e3⟩ := s3.ext
    refine ⟨.bool jump.isNone, _, ⟨ι3, _, by rw [hbb]; rfl, L.wr s3.wr, e3.trans L.toExt⟩, .one (st_outRound ho3 hro hk ho)⟩
  · cases e
theorem begun_ok (hg : GOk P g) (hdr : DrawOk P g) (hc : CxF P cx) {l : Nat} {args v : AV} {vs : Array Value} {m : Nm} (k : WR ι h w) (hG : GI ι) (hm : ι l = some m) (ha : VRs ι args vs.toList)
    (e : begun g cx l args h = .ok v h') : Ends P (Instr.yield m.B vs) w (CR ι h w v h') := by
  obtain ⟨st0, pd0, fn0, env, ps, as, bo, dd0, en1, h1, pend, fn, env', ps', as', bo', dd, hl, hlen, hk, hl1, hfin⟩ := begun_inv e
  obtain ⟨o, ho, hbr⟩ := k.at hm hl
  obtain ⟨r, n, md, rfl, b1, b2, b3, b4, b5, b6, b7, b8, has, hbo, hps⟩ := hbr
  have hla := llen_ok ha
  have hsz : vs.size = r.params.size := by
    rw [← Array.length_toList, ← Array.length_toList, b4, ← hlen, hla]
  refine .inr (.inr ⟨m.B, r.fn, (r.params.zip vs).foldl (fun tmps (t, a) => tmps.setIfInBounds t a) r.tmps, r.assign, r.body, w, ?_, ?_⟩)
  · unfold Instr.yield
    simp only [Sem.run_bind, run_getLoop ho, Result.andThen_ok]
    rw [if_neg (by simp [hsz])]
    rfl
  intro c cs
  rw [b5, b6]
  let b : Frame := { (default : Frame) with fn := r.fn, kind := .normal, roundOf := some m.B }
  let a : Go.Act := { tmps := (r.params.zip vs).foldl (fun tmps (t, a) => tmps.setIfInBounds t a) r.tmps, defers := [] }
  have hround : Frame.round m.B r.fn ((r.params.zip vs).foldl (fun tmps (t, a) => tmps.setIfInBounds t a) r.tmps) as bo .normal = St b a [.code as, .beginRound, .code bo] := rfl
  rw [hround]
  have hE : EnvR ι n (params ps args env) a.tmps := by
    have := params_ok (n := n) ps args vs.toList ha (by rw [← hlen, hla]) hps env r.tmps b3
    have hz : (r.params.zip vs).foldl (fun tmps (t, a) => tmps.setIfInBounds t a) r.tmps = (ps.zip vs.toList).foldl (fun tmps (t, a) => tmps.setIfInBounds t a) r.tmps := by
      rw [← Array.foldl_toList, Array.toList_zip, b4]
    show EnvR ι n _ ((r.params.zip vs).foldl (fun tmps (t, a) => tmps.setIfInBounds t a) r.tmps)
    rw [hz]; exact this
  have hcx : CxF P { cx with rd := some l } := ⟨hc.call, hc.yld⟩
  have p : Pre P n { cx with rd := some l } ι (params ps args env) h [] a w b (c :: cs) := ⟨hcx.ok, hE, rfl, k, hG, .inr ⟨l, m, rfl, hm, rfl⟩, .inl rfl⟩
  have o1 := (exC_ok (n := n) hg hdr as has).1 { cx with rd := some l } ι _ h [] a w b (c :: cs) p [.beginRound, .code bo]
  rw [hk] at o1
  obtain ⟨ι1, a1, w1, hs1, s1⟩ := o1
  have hle1 := s1.le k
  have hm1 := hle1 _ _ hm
  obtain ⟨o2, ho2, hbr2⟩ := s1.wr.at hm1 hl1
  obtain ⟨r2, n2, md2, rfl, c1, c2, c3, c4, c5, c6, c7, c8, c9⟩ := hbr2
  have L2 := Loc.set_obj s1.wr hm1 hl1 ho2 (x := .loop .busy pend fn env' ps' as' bo' dd) (o := .loop { r2 with state := .busy }) ⟨{ r2 with state := .busy }, n2, md2, rfl, rfl, c2, c3, c4, c5, c6, c7, c8, c9⟩
  have k2 := L2.wr s1.wr
  have hs2 := st_begin (P := P) (b := b) (a := a1) (cs := c :: cs) ho2 c1 rfl (k := [.code bo])
  have hd1 : a1.defers = [] := s1.dfr
  have s2 : SR ι h w n ι1 en1 (h1.set l (.loop .busy pend fn env' ps' as' bo' dd)) [] a1 { w1 with heap := w1.heap.setIfInBounds m.B (.loop { r2 with state := .busy }) } := by
    obtain ⟨W1, e1⟩ := s1.ext
    exact ⟨s1.env, s1.dfr, k2, _, e1.trans L2.toExt⟩
  have p2 : Pre P n { cx with rd := some l } ι1 en1 (h1.set l (.loop .busy pend fn env' ps' as' bo' dd)) [] a1 { w1 with heap := w1.heap.setIfInBounds m.B (.loop { r2 with state := .busy }) } b (c :: cs) := p.next s2
  have o3 := (exC_ok (n := n) hg hdr bo hbo).1 { cx with rd := some l } ι1 en1 _ [] a1 _ b (c :: cs) p2 []
  have hpre := hs1.trans (.one hs2)
  generalize (exC g bo).k.k { cx with rd := some l } en1 (h1.set l (.loop .busy pend fn env' ps' as' bo' dd)) [] = rr at o3 hfin
  cases rr with
  | fail => cases hfin
  | norm en3 h3 df3 =>
    obtain ⟨ι3, a3, w3, hs3, s3⟩ := o3
    obtain ⟨v', w', hcr, hs4⟩ := fin_ok (P := P) (b := b) (c := c) (cs := cs) (jump := none) (k := []) k hm (s2.trans s3) hfin rfl rfl rfl
    exact ⟨v', w', hcr, hpre.trans (hs3.trans hs4)⟩
  | ret en3 h3 df3 =>
    obtain ⟨ι3, a3, w3, todo, hs3, s3⟩ := o3
    obtain ⟨v', w', hcr, hs4⟩ := fin_ok (P := P) (b := b) (c := c) (cs := cs) (jump := some .ret) (k := .code .ret :: todo) k hm (s2.trans s3) hfin rfl rfl ⟨todo, rfl⟩
    exact ⟨v', w', hcr, hpre.trans (hs3.trans hs4)⟩
  | ext i en3 h3 df3 =>
    obtain ⟨ι3, a3, w3, todo, ht, hs3, s3⟩ := o3
    obtain ⟨v', w', hcr, hs4⟩ := fin_ok (P := P) (b := b) (c := c) (cs := cs) (jump := some (.exit i)) (k := .code (.exit i) :: todo) k hm (s2.trans s3) hfin rfl rfl ⟨todo, rfl, ht⟩
    exact ⟨v', w', hcr, hpre.trans (hs3.trans hs4)⟩
  | got l' en3 h3 df3 =>
    obtain ⟨ι3, a3, w3, todo, ht, hs3, s3⟩ := o3
    obtain ⟨v', w', hcr, hs4⟩ := fin_ok (P := P) (b := b) (c := c) (cs := cs) (jump := some (.goto l')) (k := .code (.goto l') :: todo) k hm (s2.trans s3) hfin rfl rfl ⟨todo, rfl, ht⟩
    exact ⟨v', w', hcr, hpre.trans (hs3.trans hs4)⟩

/-! ### all of it -/
def FnsOk (P : Program) (g : G) : Prop := ∀ f x, g.fn f = some x → fnOk x = true ∧ ∀ fn, P.funcs[f]? = some fn → (fn.name == "runtime.NumGoroutine") = false
def ExtOk (P : Program) (g : G) : Prop := ∀ f args h v h', g.fn f = none → extA (g.ext f) args h = .ok v h' → ∀ ι w (vs : Array Value), WR ι h w → GI ι → VRs ι args vs.toList →
  EndsF P (callFunc f vs) w (CR ι h w v h')
theorem run_ok (hg : GOk P g) (hdr : DrawOk P g) (hfn : FnsOk P g) (hext : ExtOk P g) : ∀ N m rd, CxF P ⟨(run g N).call, (run g N).yld, m, rd⟩
  | 0, _, _ => ⟨fun _ _ _ _ _ e => (by cases e), fun _ _ _ _ _ e => (by cases e)⟩
  | N + 1, m, rd => by
    have ih := run_ok hg hdr hfn hext N N none
    refine ⟨fun f args h v h' e ι w vs k hG ha => ?_, fun l args h v h' e ι w vs m k hG hm ha => ?_⟩
    · have e : (match g.fn f with
        | some fn => enter g ⟨(run g N).call, (run g N).yld, N, none⟩ fn args h
        | none => extA (g.ext f) args h) = .ok v h' := e
      cases hf : g.fn f with
      | none => rw [hf] at e; exact hext f args h v h' hf e ι w vs k hG ha
      | some x =>
        rw [hf] at e
        obtain ⟨hx, hname⟩ := hfn f x hf
        obtain ⟨fn, hfn', hbody, _, _⟩ := hg.fn f x hf
        have hn := hname fn hfn'
        refine .inr ⟨f, vs, w, ?_, enter_ok hg hdr ih rfl hf hx k hG ha e⟩
        unfold callFunc
        simp only [Sem.run_bind, run_program, Result.andThen_ok, hfn', hn, Bool.false_eq_true, if_false, hbody, Option.isNone_some]
        rfl
    · exact begun_ok hg hdr ih k hG hm ha e
end
end Go.Proofs.YtlmcadgbnolffaaGreatDoor.Am
