/- The machine's soundness: every operation that calls nothing, put together. -/
import Derived.Test.YtlmcadgbnolffaaGreatDoorAm25
namespace Go.Proofs.YtlmcadgbnolffaaGreatDoor.Am
def oOk (n : Nat) : Option Operand → Bool
  | some o => opndOk n o
  | none => true
section
variable {P : Program} {g : G} {ι : Nam} {h h' : H} {w : World} {D : Nat → Prop}
section
variable {n : Nat} {en : Env} {a : Go.Act}
theorem aop_ok (hE : EnvR ι n en a.tmps) (hG : GI ι) (hg : GOk P g) (k : WR ι h w D) (o : Oper) (ho : (o.op.operands.toList.all (opndOk n)) = true) {f : Env → List Nat} (hacc : accOf o.op = some f) (hD : ∀ b ∈ f en, D b) {v : AV}
    (e : (aop g o.op).f en h = .ok v h') : SimN P ι h w (execOp a.eval o) v h' := by
  cases hop : o.op with
  | move x =>
    rw [hop] at e ho
    have e : chkV ((ev x).f en) h = .ok v h' := e
    have hx : opndOk n x = true := by simpa [Op.operands] using ho
    have hs : execOp a.eval o = pure (.value (a.eval x)) := by unfold execOp; rw [hop]
    rw [hs]
    obtain ⟨rfl, rfl⟩ := chkV_ok e
    exact SimV.toN (s := pure (a.eval x)) (SimV.ret k rfl (ev_ok hE hG x hx))
  | assign x =>
    rw [hop] at e ho
    have e : chkV ((ev x).f en) h = .ok v h' := e
    have hx : opndOk n x = true := by simpa [Op.operands] using ho
    have hs : execOp a.eval o = pure (.value (a.eval x)) := by unfold execOp; rw [hop]
    rw [hs]
    obtain ⟨rfl, rfl⟩ := chkV_ok e
    exact SimV.toN (s := pure (a.eval x)) (SimV.ret k rfl (ev_ok hE hG x hx))
  | pick c x y =>
    rw [hop] at e ho
    have e : OB.rec (motive := fun _ => Res) .fail (chk ((ev y).f en) h) (chk ((ev x).f en) h) (toB ((ev c).f en)) = .ok v h' := e
    have hx : opndOk n c = true ∧ opndOk n x = true ∧ opndOk n y = true := by simpa [Op.operands] using ho
    have hs : execOp a.eval o = (do pure (.value (if ← asBool (a.eval c) then a.eval x else a.eval y)) : Sem Next) := by unfold execOp; rw [hop]
    have hc := ev_ok hE hG c hx.1
    rw [hs]
    cases hb : toB ((ev c).f en) with
    | none => rw [hb] at e; cases e
    | f =>
      rw [hb] at e
      rw [toB_f hb] at hc
      have hc : a.eval c = .bool false := hc
      rw [hc]
      exact SimV.toN (s := pure (a.eval y)) (SimV.chk k e rfl (ev_ok hE hG y hx.2.2))
    | t =>
      rw [hb] at e
      rw [toB_t hb] at hc
      have hc : a.eval c = .bool true := hc
      rw [hc]
      exact SimV.toN (s := pure (a.eval x)) (SimV.chk k e rfl (ev_ok hE hG x hx.2.1))
  | alloc t =>
    rw [hop] at e ho
    obtain ⟨y, ht, e⟩ := tyA_inv e
    have hs : execOp a.eval o = (do pure (.value (← Instr.alloc t true (.tuple #[]))) : Sem Next) := by unfold execOp; rw [hop]
    rw [hs]
    exact SimV.toN (alloc_ok hg k ht e)
  | box t x =>
    rw [hop] at e ho
    have hx : opndOk n x = true := by simpa [Op.operands] using ho
    have hs : execOp a.eval o = (do pure (.value (← Instr.box t (a.eval x))) : Sem Next) := by unfold execOp; rw [hop]
    rw [hs]
    exact SimV.toN (box_ok k (ev_ok hE hG x hx) e)
  | build t ps =>
    rw [hop] at e ho
    obtain ⟨y, ht, e⟩ := tyA_inv e
    obtain ⟨hpl, e⟩ := onB_inv e
    have hp : (ps.toList.all fun p => opndOk n p.2) = true := by simpa [Op.operands] using ho
    have hs : execOp a.eval o = (do pure (.value (← Instr.build t (ps.map fun (i, x) => (i, a.eval x)))) : Sem Next) := by unfold execOp; rw [hop]
    rw [hs]
    exact SimV.toN (build_ok hg k hE hG ht hp hpl e)
  | buildSlice t m ps =>
    rw [hop] at e ho
    obtain ⟨y, el, ye, arr, ht, he, hd, e⟩ := elemT_inv e
    have hp : (ps.toList.all fun p => opndOk n p.2) = true := by simpa [Op.operands] using ho
    have hs : execOp a.eval o = (do pure (.value (← Instr.buildSlice t m (ps.map fun (i, x) => (i, a.eval x)))) : Sem Next) := by unfold execOp; rw [hop]
    rw [hs]
    rcases hd with ⟨hd, rfl⟩ | ⟨m', hd, rfl⟩
    · exact SimV.toN (buildSlice_ok hE hG hg k ht hd he hp e)
    · cases e
  | load t x =>
    rw [hop] at e ho hacc
    cases hacc
    obtain ⟨y, ht, e⟩ := tyA_inv e
    have hx : opndOk n x = true := by simpa [Op.operands] using ho
    have hs : execOp a.eval o = (do pure (.value (← Instr.loadAt t (a.eval x))) : Sem Next) := by unfold execOp; rw [hop]
    rw [hs]
    exact SimV.toN (load_ok hg k ht (ev_ok hE hG x hx) hD e)
  | store t x y =>
    rw [hop] at e ho hacc
    cases hacc
    obtain ⟨yt, ht, e⟩ := tyA_inv e
    have hx : opndOk n x = true ∧ opndOk n y = true := by simpa [Op.operands] using ho
    have hs : execOp a.eval o = (do Instr.storeAt t (a.eval x) (a.eval y); pure .skip : Sem Next) := by unfold execOp; rw [hop]
    rw [hs]
    exact SimU.toN (store_ok hg k ht (ev_ok hE hG x hx.1) (ev_ok hE hG y hx.2) hD e)
  | nilCheck x =>
    rw [hop] at e ho
    have e : chk (nilCheckA ((ev x).f en)) h = .ok v h' := e
    have hx : opndOk n x = true := by simpa [Op.operands] using ho
    obtain ⟨h1, h2, rfl⟩ := nilCheck_ok (P := P) k (ev_ok hE hG x hx) e o a.eval x hop rfl
    exact ⟨ι, w, [], _, h1, .inl ⟨_, rfl, h2⟩, Loc.refl k⟩
  | binOp op t x y ty =>
    rw [hop] at e ho
    have e : chk ((binF op (Bool.rec (isC y) true (isC x)) (eqK g t)).f ((ev x).f en) ((ev y).f en)) h = .ok v h' := e
    have hx : opndOk n x = true ∧ opndOk n y = true := by simpa [Op.operands] using ho
    have hs : execOp a.eval o = (do pure (.value (← (do eqGuard op t x y (a.eval x) (a.eval y); binOp op t (a.eval x) (a.eval y) : Sem Value))) : Sem Next) := by unfold execOp; rw [hop]
    rw [hs]
    obtain ⟨e1, rfl, hv⟩ := chk_ok e
    subst e1
    obtain ⟨v', h1, h2⟩ := binF_ok (P := P) hg (ev_ok hE hG x hx.1) (ev_ok hE hG y hx.2) rfl hv w
    exact SimV.toN (SimV.ret k h1 h2)
  | unOp op t x =>
    rw [hop] at e ho
    have e : chk ((uop op).f ((ev x).f en)) h = .ok v h' := e
    have hx : opndOk n x = true := by simpa [Op.operands] using ho
    have hs : execOp a.eval o = (do pure (.value (← Op.unary op (a.eval x))) : Sem Next) := by unfold execOp; rw [hop]
    rw [hs]
    obtain ⟨e1, rfl, hv⟩ := chk_ok e
    subst e1
    obtain ⟨v', h1, h2⟩ := uop_ok (P := P) (ev_ok hE hG x hx) rfl hv
    exact SimV.toN (SimV.ret k (h1 w) h2)
  | convert s d x =>
    rw [hop] at e ho hacc
    cases hacc
    obtain ⟨ys, hs', e⟩ := tyA_inv e
    obtain ⟨yd, hd', e⟩ := tyA_inv e
    have hx : opndOk n x = true := by simpa [Op.operands] using ho
    have hs : execOp a.eval o = (do pure (.value (← convert s d (a.eval x))) : Sem Next) := by unfold execOp; rw [hop]
    rw [hs]
    exact SimV.toN (conv_ok hg k hs' hd' (ev_ok hE hG x hx) hD e)
  | makeInterface t x =>
    rw [hop] at e ho
    obtain ⟨y, ht, e⟩ := tyA_inv e
    have hx : opndOk n x = true := by simpa [Op.operands] using ho
    have hs : execOp a.eval o = (do pure (.value (← Instr.makeInterface t (a.eval x))) : Sem Next) := by unfold execOp; rw [hop]
    rw [hs]
    have hi : (∀ ms, y.desc ≠ .interface ms) ∧ v = .ifc t ((ev x).f en) ∧ h' = h := by
      split at e
      · cases e
      · rename_i hne
        refine ⟨fun ms hms => hne ms hms, ?_⟩
        dsimp only at e
        split at e
        · cases e
        · cases e; exact ⟨rfl, rfl⟩
    obtain ⟨h1, rfl, rfl⟩ := hi
    exact SimV.toN (makeIface_ok k hg ht h1 (ev_ok hE hG x hx))
  | makeFunc fn fs cs =>
    rw [hop] at e ho
    have hs : execOp a.eval o = (do pure (.value (← Instr.makeFunc fn (fs.map a.eval) (cs.map a.eval))) : Sem Next) := by unfold execOp; rw [hop]
    rw [hs]
    cases fn with
    | func f0 =>
      cases e
      have hx : fs.toList.all (opndOk n) = true ∧ cs.toList.all (opndOk n) = true := by
        have : (fs ++ cs).toList.all (opndOk n) = true := ho
        rw [Array.toList_append, List.all_append, Bool.and_eq_true] at this
        exact this
      exact SimV.toN (makeFunc_ok k (by rw [Array.toList_map]; exact opsL_ok hE hG _ hx.1) (by rw [Array.toList_map]; exact opsL_ok hE hG _ hx.2))
    | _ => cases e
  | makeMap t r =>
    rw [hop] at e ho
    have hs : execOp a.eval o = (do pure (.value (← Instr.makeMap t (r.map a.eval))) : Sem Next) := by unfold execOp; rw [hop]
    rw [hs]
    cases r with
    | none => exact SimV.toN (makeMap_new k hg e _ (by simp))
    | some x =>
      have hx : opndOk n x = true := by simpa [Op.operands] using ho
      have hv := ev_ok hE hG x hx
      have e : (match (ev x).f en with
        | .int _ _ => makeMapA (mapKind g t) h
        | _ => .fail) = .ok v h' := e
      have hi : (∃ kd m, a.eval x = .int kd m) ∧ makeMapA (mapKind g t) h = .ok v h' := by
        generalize (ev x).f en = xa at e hv
        cases xa <;> first | (cases e; done) | exact ⟨⟨_, _, hv⟩, e⟩
      exact SimV.toN (makeMap_new k hg hi.2 _ (fun y hy => by cases hy; exact hi.1))
  | makeSlice t l c =>
    rw [hop] at e ho
    obtain ⟨y, el, ye, arr, ht, he, hd, e⟩ := elemT_inv e
    have hx : opndOk n l = true ∧ opndOk n c = true := by simpa [Op.operands] using ho
    have hs : execOp a.eval o = (do pure (.value (← Instr.makeSlice t (a.eval l) (a.eval c))) : Sem Next) := by unfold execOp; rw [hop]
    rw [hs]
    rcases hd with ⟨hd, rfl⟩ | ⟨m', hd, rfl⟩
    · exact SimV.toN (makeSlice_ok hg k ht hd he (ev_ok hE hG l hx.1) (ev_ok hE hG c hx.2) e)
    · cases e
  | slice t x lo hi mx =>
    rw [hop] at e ho hacc
    cases hacc
    have hs : execOp a.eval o = (do pure (.value (← Instr.sliceAt t (a.eval x) (lo.map a.eval) (hi.map a.eval) (mx.map a.eval))) : Sem Next) := by unfold execOp; rw [hop]
    rw [hs]
    have hx : opndOk n x = true ∧ oOk n lo = true ∧ oOk n hi = true ∧ oOk n mx = true := by
      cases lo <;> cases hi <;> cases mx <;> simpa [Op.operands, oOk] using ho
    unfold aop at e
    dsimp only at e
    split at e
    · rename_i el _ _ _ _ _ ht
      obtain ⟨ye, he, e⟩ := tyA_inv e
      obtain ⟨hmh, e⟩ := onB_inv e
      exact SimV.toN (slice_ok hE hG hg k ht rfl he hx.1 hx.2.1 hx.2.2.1 hx.2.2.2 hmh e)
    · rename_i ht
      split at e
      · exact SimV.toN (sliceStr_ok hE hG hg k ht rfl hx.1 hx.2.1 hx.2.2.1 e)
      · cases e
    · rename_i m el _ _ _ _ _ ht
      obtain ⟨ye, he, e⟩ := tyA_inv e
      exact SimV.toN (sliceArr_ok hE hG hg k ht rfl he hx.1 hx.2.1 hx.2.2.1 hD e)
    · cases e
  | fieldAddr s x f0 =>
    rw [hop] at e ho
    obtain ⟨y, fs, fd, yf, hy, hd, hf, he, e⟩ := fieldT_inv e
    have hx : opndOk n x = true := by simpa [Op.operands] using ho
    have hs : execOp a.eval o = (do pure (.value (← Instr.fieldAt s (a.eval x) f0)) : Sem Next) := by unfold execOp; rw [hop]
    rw [hs]
    split at e
    · rename_i hz
      exact SimV.toN (fieldAddr_ok hg k hy hd hf he (by rw [hz]; simp) (ev_ok hE hG x hx) e)
    · cases e
  | field s x f0 =>
    rw [hop] at e ho
    obtain ⟨y, fs, fd, yf, hy, hd, hf, he, e⟩ := fieldT_inv e
    have hx : opndOk n x = true := by simpa [Op.operands] using ho
    have hs : execOp a.eval o = (do pure (.value (← Instr.field s (a.eval x) f0)) : Sem Next) := by unfold execOp; rw [hop]
    rw [hs]
    have hv := ev_ok hE hG x hx
    dsimp only at e
    split at e
    · rename_i cs hcs
      rw [hcs] at hv
      exact SimV.toN (fields_ok hg k hy hd hf he hv e)
    · cases e
  | indexAddr t x i =>
    rw [hop] at e ho
    obtain ⟨y, el, ye, arr, ht, he, hd, e⟩ := elemT_inv e
    have hx : opndOk n x = true ∧ opndOk n i = true := by simpa [Op.operands] using ho
    have hs : execOp a.eval o = (do pure (.value (← Instr.indexAt t (a.eval x) (a.eval i))) : Sem Next) := by unfold execOp; rw [hop]
    rw [hs]
    rcases hd with ⟨hd, rfl⟩ | ⟨m', hd, rfl⟩
    · exact SimV.toN (idxS_ok hg k ht hd he (ev_ok hE hG x hx.1) (ev_ok hE hG i hx.2) e)
    · exact SimV.toN (idxA_ok hg k ht hd he (ev_ok hE hG x hx.1) (ev_ok hE hG i hx.2) e)
  | index t x i =>
    rw [hop] at e ho
    have hx : opndOk n x = true ∧ opndOk n i = true := by simpa [Op.operands] using ho
    have hs : execOp a.eval o = (do pure (.value (← Instr.index t (a.eval x) (a.eval i))) : Sem Next) := by unfold execOp; rw [hop]
    rw [hs]
    unfold aop at e
    dsimp only at e
    split at e
    · rename_i ht
      exact SimV.toN (idxStr_ok hg k ht rfl (ev_ok hE hG x hx.1) (ev_ok hE hG i hx.2) e)
    · rename_i m el _ _ _ _ _ ht
      obtain ⟨ye, he, e⟩ := tyA_inv e
      exact SimV.toN (indexA_ok hg k ht rfl he (ev_ok hE hG x hx.1) (ev_ok hE hG i hx.2) e)
    · cases e
  | lookup t x i ok =>
    rw [hop] at e ho hacc
    cases hacc
    obtain ⟨y, kt, et, ye, ht, hd, he, e⟩ := mapElem_inv e
    have hx : opndOk n x = true ∧ opndOk n i = true := by simpa [Op.operands] using ho
    have hs : execOp a.eval o = (do pure (.value (← Instr.lookup t (a.eval x) (a.eval i) ok)) : Sem Next) := by unfold execOp; rw [hop]
    rw [hs]
    exact SimV.toN (lookup_ok hg k ht hd he (ev_ok hE hG x hx.1) (ev_ok hE hG i hx.2) hD e)
  | mapUpdate t m kk x =>
    rw [hop] at e ho hacc
    cases hacc
    have hx : opndOk n m = true ∧ opndOk n kk = true ∧ opndOk n x = true := by simpa [Op.operands] using ho
    have hs : execOp a.eval o = (do Instr.mapUpdate t (a.eval m) (a.eval kk) (a.eval x); pure .skip : Sem Next) := by unfold execOp; rw [hop]
    rw [hs]
    have e : (match (ev x).f en with
      | .bad => Res.fail
      | v => mapUpA (mapKind g t) ((ev m).f en) ((ev kk).f en) v h) = .ok v h' := e
    split at e
    · cases e
    · exact SimU.toN (mapUp_ok hg k (ev_ok hE hG m hx.1) (ev_ok hE hG kk hx.2.1) (ev_ok hE hG x hx.2.2) hD e)
  | insert t m kk x =>
    rw [hop] at e ho hacc
    cases hacc
    have hx : opndOk n m = true ∧ opndOk n kk = true ∧ opndOk n x = true := by simpa [Op.operands] using ho
    have hs : execOp a.eval o = (do Instr.mapUpdate t (a.eval m) (a.eval kk) (a.eval x); pure .skip : Sem Next) := by unfold execOp; rw [hop]
    rw [hs]
    have e : (match (ev x).f en with
      | .bad => Res.fail
      | v => mapUpA (mapKind g t) ((ev m).f en) ((ev kk).f en) v h) = .ok v h' := e
    split at e
    · cases e
    · exact SimU.toN (mapUp_ok hg k (ev_ok hE hG m hx.1) (ev_ok hE hG kk hx.2.1) (ev_ok hE hG x hx.2.2) hD e)
  | range t x =>
    rw [hop] at e ho
    have hx : opndOk n x = true := by simpa [Op.operands] using ho
    have hs : execOp a.eval o = (do pure (.value (← Instr.range t (a.eval x))) : Sem Next) := by unfold execOp; rw [hop]
    rw [hs]
    unfold aop at e
    dsimp only at e
    split at e
    · rename_i ht
      exact SimV.toN (range_ok k hg ht rfl (ev_ok hE hG x hx) e)
    · cases e
  | next it s =>
    rw [hop] at e ho hacc
    cases hacc
    have hx : opndOk n it = true := by simpa [Op.operands] using ho
    have hs : execOp a.eval o = (do pure (.value (← Instr.next (a.eval it) s o.type)) : Sem Next) := by unfold execOp; rw [hop]
    rw [hs]
    cases s
    · cases e
    · exact SimV.toN (next_ok k (ev_ok hE hG it hx) hD o.type e)
  | extract x i =>
    rw [hop] at e ho
    have hx : opndOk n x = true := by simpa [Op.operands] using ho
    have hs : execOp a.eval o = (do pure (.value (← Instr.extract (a.eval x) i)) : Sem Next) := by unfold execOp; rw [hop]
    rw [hs]
    exact SimV.toN (extract_ok k (ev_ok hE hG x hx) e)
  | call c =>
    rw [hop] at e ho hacc
    have hs : execOp a.eval o = (do let d ← resolve a.eval c o.type; invoke d.target d.args : Sem Next) := by unfold execOp; rw [hop]
    rw [hs]
    cases hc : c.callee with
    | builtin b =>
      have hacc : some (fun en => blks c.args.toList en) = some f := by rw [← hacc]; unfold accOf; dsimp only; rw [hc]
      cases hacc
      refine builtin_ok hE hG hg k hc ?_ hD e
      have ho : (c.operands).toList.all (opndOk n) = true := ho
      unfold Call.operands at ho
      rw [hc] at ho
      simpa using ho
    | _ =>
      unfold aop at e
      dsimp only at e
      rw [hc] at e
      cases e
  | _ => rw [hop] at e; cases e
end
end
end Go.Proofs.YtlmcadgbnolffaaGreatDoor.Am
