/- The machine's soundness: every operation that calls nothing. -/
/- The machine's soundness: every operation that calls nothing, put together. -/
import Derived.Test.YtfmnninijakknaaGreatDoorAm24
namespace Go.Proofs.YtfmnninijakknaaGreatDoor.Am
section
variable {P : Program} {g : G} {ι : Nam} {h h' : H} {w : World} {D : Nat → Prop}
def NextR (ι : Nam) (v : AV) (x : Next) : Prop := (∃ v', x = .value v' ∧ VR ι v v') ∨ (x = .skip ∧ v = .tup .nil)
def SimN (P : Program) (ι : Nam) (h : H) (w : World) (s : Sem Next) (v : AV) (h' : H) : Prop :=
  ∃ ι' w' W x, s.run P w = .ok x w' ∧ NextR ι' v x ∧ Loc ι h w ι' h' w' W
theorem SimV.toN {s : Sem Value} {v : AV} (e : SimV P ι h w s v h') : SimN P ι h w (do pure (.value (← s))) v h' := by
  obtain ⟨ι', w', W, v', h1, h2, h3⟩ := e
  refine ⟨ι', w', W, .value v', ?_, .inl ⟨v', rfl, h2⟩, h3⟩
  simp only [Sem.run_bind, h1, Result.andThen_ok, Sem.run_pure]
theorem SimU.toN {s : Sem Unit} {v : AV} (e : v = .tup .nil ∧ SimU P ι h w s h') : SimN P ι h w (do s; pure .skip) v h' := by
  obtain ⟨hv, ι', w', W, h1, h3⟩ := e
  refine ⟨ι', w', W, .skip, ?_, .inr ⟨rfl, hv⟩, h3⟩
  simp only [Sem.run_bind, h1, Result.andThen_ok, Sem.run_pure]
theorem tyA_inv {t : Nat} {k : Ty → Act} {en : Env} {v : AV} (e : (tyA g t k).f en h = .ok v h') : ∃ y, g.ty t = some y ∧ (k y).f en h = .ok v h' := by
  unfold tyA at e
  split at e
  · rename_i y hy
    exact ⟨y, hy, e⟩
  · cases e
theorem onB_inv {b : Bool} {a : Act} {en : Env} {v : AV} (e : (onB b a).f en h = .ok v h') : b = true ∧ a.f en h = .ok v h' := by
  cases b
  · cases e
  · exact ⟨rfl, e⟩
theorem elemT_inv {t : Nat} {k : Nat → Option Nat → Ty → Act} {en : Env} {v : AV} (e : (elemT g t k).f en h = .ok v h') :
    ∃ y el ye arr, g.ty t = some y ∧ g.ty el = some ye ∧ ((y.desc = .slice el ∧ arr = none) ∨ ∃ n, y.desc = .array n el ∧ arr = some n) ∧ (k el arr ye).f en h = .ok v h' := by
  unfold elemT at e
  split at e
  · rename_i el _ _ _ _ _ hy
    obtain ⟨ye, he, e⟩ := tyA_inv e
    exact ⟨_, el, ye, none, hy, he, .inl ⟨rfl, rfl⟩, e⟩
  · rename_i n el _ _ _ _ _ hy
    obtain ⟨ye, he, e⟩ := tyA_inv e
    exact ⟨_, el, ye, some n, hy, he, .inr ⟨n, rfl, rfl⟩, e⟩
  · cases e
theorem mapElem_inv {t : Nat} {k : Ty → Act} {en : Env} {v : AV} (e : (mapElem g t k).f en h = .ok v h') :
    ∃ y kt et ye, g.ty t = some y ∧ y.desc = .map kt et ∧ g.ty et = some ye ∧ (k ye).f en h = .ok v h' := by
  unfold mapElem at e
  split at e
  · rename_i kt et _ _ _ _ _ hy
    obtain ⟨ye, he, e⟩ := tyA_inv e
    exact ⟨_, kt, et, ye, hy, rfl, he, e⟩
  · cases e
theorem fieldT_inv {s f : Nat} {k : Field → Ty → Act} {en : Env} {v : AV} (e : (fieldT g s f k).f en h = .ok v h') :
    ∃ y fs fd yf, g.ty s = some y ∧ y.desc = .struct fs ∧ fs[f]? = some fd ∧ g.ty fd.type = some yf ∧ (k fd yf).f en h = .ok v h' := by
  unfold fieldT at e
  split at e
  · rename_i fs _ _ _ _ _ hy
    split at e
    · rename_i fd hf
      obtain ⟨ye, he, e⟩ := tyA_inv e
      exact ⟨_, fs, fd, ye, hy, rfl, hf, he, e⟩
    · cases e
  · cases e
theorem opsL_cons {l : List Operand} {en : Env} {x r : AV} (e : (opsL l).f en = .cons x r) : ∃ o l', l = o :: l' ∧ (ev o).f en = x ∧ (opsL l').f en = r := by
  cases l with
  | nil => cases e
  | cons o l' =>
    have e : AV.cons ((ev o).f en) ((opsL l').f en) = .cons x r := e
    injection e with e1 e2
    exact ⟨o, l', rfl, e1, e2⟩
theorem opsL_nil {l : List Operand} {en : Env} (e : (opsL l).f en = .nil) : l = [] := by
  cases l with
  | nil => rfl
  | cons o l' =>
    have e : AV.cons ((ev o).f en) ((opsL l').f en) = .nil := e
    cases e
theorem arr_of_toList {α : Type} {a : Array α} {l : List α} (h : a.toList = l) : a = l.toArray := by cases a; cases h; rfl
theorem map1 {α β : Type} (f : α → β) (x : α) : ([x].toArray).map f = #[f x] := by simp
theorem map2 {α β : Type} (f : α → β) (x y : α) : ([x, y].toArray).map f = #[f x, f y] := by simp
theorem blks_cons {o : Operand} {l : List Operand} {en : Env} : blks (o :: l) en = blkOf ((ev o).f en) ++ blks l en := rfl
section
variable {n : Nat} {en : Env} {a : Go.Act}
theorem builtin_ok (hE : EnvR ι n en a.tmps) (hG : GI ι) (hg : GOk P g) (k : WR ι h w D) {b : Builtin} {c : Call} {ty : TypeId} (hc : c.callee = .builtin b) (ho : (c.args.toList.all (opndOk n)) = true) (hD : ∀ b ∈ blks c.args.toList en, D b) {v : AV}
    (e : (aop g (.call c)).f en h = .ok v h') : SimN P ι h w (do let d ← resolve a.eval c ty; invoke d.target d.args) v h' := by
  have hres : (do let d ← resolve a.eval c ty; invoke d.target d.args : Sem Next) = builtin b c.argTypes ty (c.args.map fun | .const _ => true | _ => false) (c.args.map a.eval) := by
    unfold resolve; rw [hc]; rfl
  rw [hres]
  clear hres
  generalize (c.args.map fun | .const _ => true | _ => false) = cs
  unfold aop at e
  dsimp only at e
  rw [hc] at e
  dsimp only at e
  have hargs := opsL_ok hE hG c.args.toList ho
  rw [← Array.toList_map] at hargs
  split at e
  · -- len
    rename_i t ts x hts hx
    have hx' := arr_of_toList hx
    rw [hx'] at ho hD ⊢
    have hxo : opndOk n x = true := by simpa using ho
    have hts0 : c.argTypes[0]? = some t := by rw [arr_of_toList hts]; rfl
    rw [map1]
    show SimN P ι h w (do pure (.value (← Builtin.len_ c.argTypes ty #[a.eval x]))) v h'
    refine SimV.toN ?_
    split at e
    · rename_i m el _ _ _ _ _ hy
      cases e
      have hut := (hg.ty _ _ hy).1
      have hx0 : (#[a.eval x] : Array Value)[0]? = some (a.eval x) := rfl
      refine SimV.ret k (v' := goInt m) ?_ rfl
      simp only [Builtin.len_, hts0, hx0, Sem.run_bind, run_und hut, Result.andThen_ok, Sem.run_pure]
    · cases e
    · rename_i y _ _ hy
      exact len_ok k hg hy hts0 (ev_ok hE hG x hxo) (fun b' hb => hD b' (by rw [blks_cons]; exact List.mem_append_left _ hb)) e
    · cases e
  · rename_i hne
    have e2 : builtA g _ c.argTypes.toList ((opsL c.args.toList).f en) h = .ok v h' := e
    clear e hne
    have e := e2
    clear e2
    unfold builtA at e
    split at e
    · -- append
      rename_i s x hl
      obtain ⟨os, l1, hl1, hs1, hr1⟩ := opsL_cons hl
      obtain ⟨ox, l2, hl2, hs2, hr2⟩ := opsL_cons hr1
      have hl3 := opsL_nil hr2
      subst hl3; subst hl2
      rw [arr_of_toList hl1] at ho hD ⊢
      have hoo : opndOk n os = true ∧ opndOk n ox = true := by simpa using ho
      have hvs := ev_ok hE hG os hoo.1
      have hvx := ev_ok hE hG ox hoo.2
      rw [hs1] at hvs; rw [hs2] at hvx
      have hDs : ∀ b ∈ blkOf s, D b := fun b hb => hD b (by rw [List.toList_toArray, blks_cons, hs1]; exact List.mem_append_left _ hb)
      have hDx : ∀ b ∈ blkOf x, D b := fun b hb => hD b (by rw [List.toList_toArray, blks_cons, blks_cons, hs2]; exact List.mem_append_right _ (List.mem_append_left _ hb))
      split at e
      · rename_i t u hts
        rw [arr_of_toList hts, map2]
        show SimN P ι h w (do pure (.value (← Builtin.append_ #[t, u] ty #[a.eval os, a.eval ox]))) v h'
        refine SimV.toN ?_
        split at e
        · rename_i el _ _ _ _ _ _ _ _ _ _ _ ht hu
          split at e
          · rename_i ye he
            exact append_ok hg k ht rfl hu (.inl ⟨_, rfl⟩) he hvs hvx hDs hDx e
          · cases e
        · rename_i el _ _ _ _ _ _ _ _ _ _ ht hu
          split at e
          · rename_i ye he
            exact append_ok hg k ht rfl hu (.inr rfl) he hvs hvx hDs hDx e
          · cases e
        · rename_i el _ _ _ _ _ _ _ _ _ _ _ ht hu
          split at e
          · rename_i ye _ m he
            split at e
            · rename_i h1 h2
              rw [Nat.ble_eq] at h1 h2
              exact append0_ok hg k ht rfl hu rfl he hvs hvx hDs rfl h1 h2 e
            · cases e
          · cases e
        · cases e
      · cases e
    · -- copy
      rename_i s x hl
      obtain ⟨os, l1, hl1, hs1, hr1⟩ := opsL_cons hl
      obtain ⟨ox, l2, hl2, hs2, hr2⟩ := opsL_cons hr1
      have hl3 := opsL_nil hr2
      subst hl3; subst hl2
      rw [arr_of_toList hl1] at ho hD ⊢
      have hoo : opndOk n os = true ∧ opndOk n ox = true := by simpa using ho
      have hvs := ev_ok hE hG os hoo.1
      have hvx := ev_ok hE hG ox hoo.2
      rw [hs1] at hvs; rw [hs2] at hvx
      have hDs : ∀ b ∈ blkOf s, D b := fun b hb => hD b (by rw [List.toList_toArray, blks_cons, hs1]; exact List.mem_append_left _ hb)
      have hDx : ∀ b ∈ blkOf x, D b := fun b hb => hD b (by rw [List.toList_toArray, blks_cons, blks_cons, hs2]; exact List.mem_append_right _ (List.mem_append_left _ hb))
      split at e
      · rename_i t ts hts
        have hts0 : c.argTypes[0]? = some t := by rw [arr_of_toList hts]; rfl
        rw [map2]
        show SimN P ι h w (do pure (.value (← Builtin.copy_ c.argTypes ty #[a.eval os, a.eval ox]))) v h'
        refine SimV.toN ?_
        split at e
        · rename_i el _ _ _ _ _ ht
          split at e
          · rename_i ye he
            exact copy_ok hg k hts0 ht rfl he hvs hvx hDs hDx e
          · cases e
        · cases e
      · cases e
    · -- cap
      rename_i x hl
      obtain ⟨ox, l1, hl1, hs1, hr1⟩ := opsL_cons hl
      have hl3 := opsL_nil hr1
      subst hl3
      rw [arr_of_toList hl1] at ho hD ⊢
      have hoo : opndOk n ox = true := by simpa using ho
      have hvx := ev_ok hE hG ox hoo
      rw [hs1] at hvx
      split at e
      · rename_i t ts hts
        have hts0 : c.argTypes[0]? = some t := by rw [arr_of_toList hts]; rfl
        rw [map1]
        show SimN P ι h w (do pure (.value (← Builtin.cap_ c.argTypes ty #[a.eval ox]))) v h'
        refine SimV.toN ?_
        split at e
        · rename_i el _ _ _ _ _ ht
          exact cap_ok hg k ht rfl hts0 hvx e
        · cases e
      · cases e
    · exact SimV.toN (mm_ok (ts := c.argTypes) (t := ty) k true hargs e)
    · exact SimV.toN (mm_ok (ts := c.argTypes) (t := ty) k false hargs e)
    · -- unsafe.SliceData
      rename_i x hl
      obtain ⟨ox, l1, hl1, hs1, hr1⟩ := opsL_cons hl
      have hl2 := opsL_nil hr1
      subst hl2
      rw [arr_of_toList hl1] at ho ⊢
      have hoo : opndOk n ox = true := by simpa using ho
      have hvx := ev_ok hE hG ox hoo
      rw [hs1] at hvx
      rw [map1]
      show SimN P ι h w (do pure (.value (← Builtin.unsafeSliceData_ c.argTypes ty #[a.eval ox]))) v h'
      refine SimV.toN ?_
      split at e
      · cases e
        obtain ⟨cap, hcap⟩ : ∃ x, a.eval ox = .slice none x x := ⟨0, hvx⟩
        rw [hcap]
        exact SimV.ret k (v' := .pointer none) rfl rfl
      · cases e
        obtain ⟨m, y, cap, hm, hv, hle, hz, hy⟩ := hvx
        rw [hv]
        obtain ⟨cc, rfl⟩ : ∃ cc, cap = cc + 1 := ⟨cap - 1, by omega⟩
        rcases hy with hy | hy
        · omega
        · obtain ⟨rfl, _⟩ := hy
          exact SimV.ret k (v' := .pointer (some ⟨m.B, m.sh + _, none⟩)) rfl ⟨m, hm, rfl⟩
      · cases e
    · -- unsafe.String
      rename_i p kd m hl
      obtain ⟨op, l1, hl1, hs1, hr1⟩ := opsL_cons hl
      obtain ⟨on, l2, hl2, hs2, hr2⟩ := opsL_cons hr1
      have hl3 := opsL_nil hr2
      subst hl3; subst hl2
      rw [arr_of_toList hl1] at ho hD ⊢
      have hoo : opndOk n op = true ∧ opndOk n on = true := by simpa using ho
      have hvp := ev_ok hE hG op hoo.1
      have hvn := ev_ok hE hG on hoo.2
      rw [hs1] at hvp; rw [hs2] at hvn
      have hDp : ∀ b ∈ blkOf p, D b := fun b hb => hD b (by rw [List.toList_toArray, blks_cons, hs1]; exact List.mem_append_left _ hb)
      rw [map2]
      split at e
      · rename_i pt ts hts
        have hts0 : c.argTypes[0]? = some pt := by rw [arr_of_toList hts]; rfl
        show SimN P ι h w (do pure (.value (← Builtin.unsafeString_ c.argTypes ty #[a.eval op, a.eval on]))) v h'
        exact SimV.toN (unsafeStr_ok hg k hts0 hvp hvn hDp e)
      · cases e
    · cases e
end
end
end Go.Proofs.YtfmnninijakknaaGreatDoor.Am
namespace Go.Proofs.YtfmnninijakknaaGreatDoor.Am
def oOk (n : Nat) : Option Operand → Bool
  | some o => opndOk n o
  | none => true
section
variable {P : Program} {g : G} {ι : Nam} {h h' : H} {w : World} {D : Nat → Prop}
section
variable {n : Nat} {en : Env} {a : Go.Act}
theorem aop_ok (hE : EnvR ι n en a.tmps) (hG : GI ι) (hg : GOk P g) (k : WR ι h w D) (o : Oper) (ho : (o.op.operands.toList.all (opndOk n)) = true) {f : Env → List Nat} (hacc : accOf o.op = some f) (hD : ∀ b ∈ f en, D b) {v : AV}
    (e : (aop g o.op).f en h = .ok v h') : SimN P ι h w (execOp a.eval o) v h' := by
  cases hop : o.op with
  | move x =>
    rw [hop] at e ho
    have e : chkV ((ev x).f en) h = .ok v h' := e
    have hx : opndOk n x = true := by simpa [Op.operands] using ho
    have hs : execOp a.eval o = pure (.value (a.eval x)) := by unfold execOp; rw [hop]
    rw [hs]
    obtain ⟨rfl, rfl⟩ := chkV_ok e
    exact SimV.toN (s := pure (a.eval x)) (SimV.ret k rfl (ev_ok hE hG x hx))
  | assign x =>
    rw [hop] at e ho
    have e : chkV ((ev x).f en) h = .ok v h' := e
    have hx : opndOk n x = true := by simpa [Op.operands] using ho
    have hs : execOp a.eval o = pure (.value (a.eval x)) := by unfold execOp; rw [hop]
    rw [hs]
    obtain ⟨rfl, rfl⟩ := chkV_ok e
    exact SimV.toN (s := pure (a.eval x)) (SimV.ret k rfl (ev_ok hE hG x hx))
  | pick c x y =>
    rw [hop] at e ho
    have e : OB.rec (motive := fun _ => Res) .fail (chk ((ev y).f en) h) (chk ((ev x).f en) h) (toB ((ev c).f en)) = .ok v h' := e
    have hx : opndOk n c = true ∧ opndOk n x = true ∧ opndOk n y = true := by simpa [Op.operands] using ho
    have hs : execOp a.eval o = (do pure (.value (if ← asBool (a.eval c) then a.eval x else a.eval y)) : Sem Next) := by unfold execOp; rw [hop]
    have hc := ev_ok hE hG c hx.1
    rw [hs]
    cases hb : toB ((ev c).f en) with
    | none => rw [hb] at e; cases e
    | f =>
      rw [hb] at e
      rw [toB_f hb] at hc
      have hc : a.eval c = .bool false := hc
      rw [hc]
      exact SimV.toN (s := pure (a.eval y)) (SimV.chk k e rfl (ev_ok hE hG y hx.2.2))
    | t =>
      rw [hb] at e
      rw [toB_t hb] at hc
      have hc : a.eval c = .bool true := hc
      rw [hc]
      exact SimV.toN (s := pure (a.eval x)) (SimV.chk k e rfl (ev_ok hE hG x hx.2.1))
  | alloc t =>
    rw [hop] at e ho
    obtain ⟨y, ht, e⟩ := tyA_inv e
    have hs : execOp a.eval o = (do pure (.value (← Instr.alloc t true (.tuple #[]))) : Sem Next) := by unfold execOp; rw [hop]
    rw [hs]
    split at e
    · exact SimV.toN (allocM_ok hg k ht e)
    · exact SimV.toN (alloc_ok hg k ht e)
  | box t x =>
    rw [hop] at e ho
    have hx : opndOk n x = true := by simpa [Op.operands] using ho
    have hs : execOp a.eval o = (do pure (.value (← Instr.box t (a.eval x))) : Sem Next) := by unfold execOp; rw [hop]
    rw [hs]
    exact SimV.toN (box_ok k (ev_ok hE hG x hx) e)
  | build t ps =>
    rw [hop] at e ho
    obtain ⟨y, ht, e⟩ := tyA_inv e
    obtain ⟨hpl, e⟩ := onB_inv e
    have hp : (ps.toList.all fun p => opndOk n p.2) = true := by simpa [Op.operands] using ho
    have hs : execOp a.eval o = (do pure (.value (← Instr.build t (ps.map fun (i, x) => (i, a.eval x)))) : Sem Next) := by unfold execOp; rw [hop]
    rw [hs]
    exact SimV.toN (build_ok hg k hE hG ht hp hpl e)
  | buildSlice t m ps =>
    rw [hop] at e ho
    obtain ⟨y, el, ye, arr, ht, he, hd, e⟩ := elemT_inv e
    have hp : (ps.toList.all fun p => opndOk n p.2) = true := by simpa [Op.operands] using ho
    have hs : execOp a.eval o = (do pure (.value (← Instr.buildSlice t m (ps.map fun (i, x) => (i, a.eval x)))) : Sem Next) := by unfold execOp; rw [hop]
    rw [hs]
    rcases hd with ⟨hd, rfl⟩ | ⟨m', hd, rfl⟩
    · exact SimV.toN (buildSlice_ok hE hG hg k ht hd he hp e)
    · cases e
  | load t x =>
    rw [hop] at e ho hacc
    cases hacc
    obtain ⟨y, ht, e⟩ := tyA_inv e
    have hx : opndOk n x = true := by simpa [Op.operands] using ho
    have hs : execOp a.eval o = (do pure (.value (← Instr.loadAt t (a.eval x))) : Sem Next) := by unfold execOp; rw [hop]
    rw [hs]
    exact SimV.toN (load_ok hg k ht (ev_ok hE hG x hx) hD e)
  | store t x y =>
    rw [hop] at e ho hacc
    cases hacc
    obtain ⟨yt, ht, e⟩ := tyA_inv e
    have hx : opndOk n x = true ∧ opndOk n y = true := by simpa [Op.operands] using ho
    have hs : execOp a.eval o = (do Instr.storeAt t (a.eval x) (a.eval y); pure .skip : Sem Next) := by unfold execOp; rw [hop]
    rw [hs]
    exact SimU.toN (store_ok hg k ht (ev_ok hE hG x hx.1) (ev_ok hE hG y hx.2) hD e)
  | nilCheck x =>
    rw [hop] at e ho
    have e : chk (nilCheckA ((ev x).f en)) h = .ok v h' := e
    have hx : opndOk n x = true := by simpa [Op.operands] using ho
    obtain ⟨h1, h2, rfl⟩ := nilCheck_ok (P := P) k (ev_ok hE hG x hx) e o a.eval x hop rfl
    exact ⟨ι, w, [], _, h1, .inl ⟨_, rfl, h2⟩, Loc.refl k⟩
  | binOp op t x y ty =>
    rw [hop] at e ho
    have e : chk ((binF op (Bool.rec (isC y) true (isC x)) (eqK g t)).f ((ev x).f en) ((ev y).f en)) h = .ok v h' := e
    have hx : opndOk n x = true ∧ opndOk n y = true := by simpa [Op.operands] using ho
    have hs : execOp a.eval o = (do pure (.value (← (do eqGuard op t x y (a.eval x) (a.eval y); binOp op t (a.eval x) (a.eval y) : Sem Value))) : Sem Next) := by unfold execOp; rw [hop]
    rw [hs]
    obtain ⟨e1, rfl, hv⟩ := chk_ok e
    subst e1
    obtain ⟨v', h1, h2⟩ := binF_ok (P := P) hg (ev_ok hE hG x hx.1) (ev_ok hE hG y hx.2) rfl hv w
    exact SimV.toN (SimV.ret k h1 h2)
  | unOp op t x =>
    rw [hop] at e ho
    have e : chk ((uop op).f ((ev x).f en)) h = .ok v h' := e
    have hx : opndOk n x = true := by simpa [Op.operands] using ho
    have hs : execOp a.eval o = (do pure (.value (← Op.unary op (a.eval x))) : Sem Next) := by unfold execOp; rw [hop]
    rw [hs]
    obtain ⟨e1, rfl, hv⟩ := chk_ok e
    subst e1
    obtain ⟨v', h1, h2⟩ := uop_ok (P := P) (ev_ok hE hG x hx) rfl hv
    exact SimV.toN (SimV.ret k (h1 w) h2)
  | convert s d x =>
    rw [hop] at e ho hacc
    cases hacc
    obtain ⟨ys, hs', e⟩ := tyA_inv e
    obtain ⟨yd, hd', e⟩ := tyA_inv e
    have hx : opndOk n x = true := by simpa [Op.operands] using ho
    have hs : execOp a.eval o = (do pure (.value (← convert s d (a.eval x))) : Sem Next) := by unfold execOp; rw [hop]
    rw [hs]
    exact SimV.toN (conv_ok hg k hs' hd' (ev_ok hE hG x hx) hD e)
  | makeInterface t x =>
    rw [hop] at e ho
    obtain ⟨y, ht, e⟩ := tyA_inv e
    have hx : opndOk n x = true := by simpa [Op.operands] using ho
    have hs : execOp a.eval o = (do pure (.value (← Instr.makeInterface t (a.eval x))) : Sem Next) := by unfold execOp; rw [hop]
    rw [hs]
    have hi : (∀ ms, y.desc ≠ .interface ms) ∧ v = .ifc t ((ev x).f en) ∧ h' = h := by
      split at e
      · cases e
      · rename_i hne
        refine ⟨fun ms hms => hne ms hms, ?_⟩
        dsimp only at e
        split at e
        · cases e
        · cases e; exact ⟨rfl, rfl⟩
    obtain ⟨h1, rfl, rfl⟩ := hi
    exact SimV.toN (makeIface_ok k hg ht h1 (ev_ok hE hG x hx))
  | makeFunc fn fs cs =>
    rw [hop] at e ho
    have hs : execOp a.eval o = (do pure (.value (← Instr.makeFunc fn (fs.map a.eval) (cs.map a.eval))) : Sem Next) := by unfold execOp; rw [hop]
    rw [hs]
    cases fn with
    | func f0 =>
      cases e
      have hx : fs.toList.all (opndOk n) = true ∧ cs.toList.all (opndOk n) = true := by
        have : (fs ++ cs).toList.all (opndOk n) = true := ho
        rw [Array.toList_append, List.all_append, Bool.and_eq_true] at this
        exact this
      exact SimV.toN (makeFunc_ok k (by rw [Array.toList_map]; exact opsL_ok hE hG _ hx.1) (by rw [Array.toList_map]; exact opsL_ok hE hG _ hx.2))
    | _ => cases e
  | makeMap t r =>
    rw [hop] at e ho
    have hs : execOp a.eval o = (do pure (.value (← Instr.makeMap t (r.map a.eval))) : Sem Next) := by unfold execOp; rw [hop]
    rw [hs]
    cases r with
    | none => exact SimV.toN (makeMap_new k hg e _ (by simp))
    | some x =>
      have hx : opndOk n x = true := by simpa [Op.operands] using ho
      have hv := ev_ok hE hG x hx
      have e : (match (ev x).f en with
        | .int _ _ => makeMapA (mapKind g t) h
        | _ => .fail) = .ok v h' := e
      have hi : (∃ kd m, a.eval x = .int kd m) ∧ makeMapA (mapKind g t) h = .ok v h' := by
        generalize (ev x).f en = xa at e hv
        cases xa <;> first | (cases e; done) | exact ⟨⟨_, _, hv⟩, e⟩
      exact SimV.toN (makeMap_new k hg hi.2 _ (fun y hy => by cases hy; exact hi.1))
  | makeSlice t l c =>
    rw [hop] at e ho
    obtain ⟨y, el, ye, arr, ht, he, hd, e⟩ := elemT_inv e
    have hx : opndOk n l = true ∧ opndOk n c = true := by simpa [Op.operands] using ho
    have hs : execOp a.eval o = (do pure (.value (← Instr.makeSlice t (a.eval l) (a.eval c))) : Sem Next) := by unfold execOp; rw [hop]
    rw [hs]
    rcases hd with ⟨hd, rfl⟩ | ⟨m', hd, rfl⟩
    · exact SimV.toN (makeSlice_ok hg k ht hd he (ev_ok hE hG l hx.1) (ev_ok hE hG c hx.2) e)
    · cases e
  | slice t x lo hi mx =>
    rw [hop] at e ho hacc
    cases hacc
    have hs : execOp a.eval o = (do pure (.value (← Instr.sliceAt t (a.eval x) (lo.map a.eval) (hi.map a.eval) (mx.map a.eval))) : Sem Next) := by unfold execOp; rw [hop]
    rw [hs]
    have hx : opndOk n x = true ∧ oOk n lo = true ∧ oOk n hi = true ∧ oOk n mx = true := by
      cases lo <;> cases hi <;> cases mx <;> simpa [Op.operands, oOk] using ho
    unfold aop at e
    dsimp only at e
    split at e
    · rename_i el _ _ _ _ _ ht
      obtain ⟨ye, he, e⟩ := tyA_inv e
      obtain ⟨hmh, e⟩ := onB_inv e
      exact SimV.toN (slice_ok hE hG hg k ht rfl he hx.1 hx.2.1 hx.2.2.1 hx.2.2.2 hmh e)
    · rename_i ht
      split at e
      · exact SimV.toN (sliceStr_ok hE hG hg k ht rfl hx.1 hx.2.1 hx.2.2.1 e)
      · cases e
    · rename_i m el _ _ _ _ _ ht
      obtain ⟨ye, he, e⟩ := tyA_inv e
      exact SimV.toN (sliceArr_ok hE hG hg k ht rfl he hx.1 hx.2.1 hx.2.2.1 hD e)
    · cases e
  | fieldAddr s x f0 =>
    rw [hop] at e ho
    obtain ⟨y, fs, fd, yf, hy, hd, hf, he, e⟩ := fieldT_inv e
    have hx : opndOk n x = true := by simpa [Op.operands] using ho
    have hs : execOp a.eval o = (do pure (.value (← Instr.fieldAt s (a.eval x) f0)) : Sem Next) := by unfold execOp; rw [hop]
    rw [hs]
    split at e
    · rename_i hz
      exact SimV.toN (fieldAddr_ok hg k hy hd hf he (by rw [hz]; simp) (ev_ok hE hG x hx) e)
    · cases e
  | field s x f0 =>
    rw [hop] at e ho
    obtain ⟨y, fs, fd, yf, hy, hd, hf, he, e⟩ := fieldT_inv e
    have hx : opndOk n x = true := by simpa [Op.operands] using ho
    have hs : execOp a.eval o = (do pure (.value (← Instr.field s (a.eval x) f0)) : Sem Next) := by unfold execOp; rw [hop]
    rw [hs]
    have hv := ev_ok hE hG x hx
    dsimp only at e
    split at e
    · rename_i cs hcs
      rw [hcs] at hv
      exact SimV.toN (fields_ok hg k hy hd hf he hv e)
    · cases e
  | indexAddr t x i =>
    rw [hop] at e ho
    obtain ⟨y, el, ye, arr, ht, he, hd, e⟩ := elemT_inv e
    have hx : opndOk n x = true ∧ opndOk n i = true := by simpa [Op.operands] using ho
    have hs : execOp a.eval o = (do pure (.value (← Instr.indexAt t (a.eval x) (a.eval i))) : Sem Next) := by unfold execOp; rw [hop]
    rw [hs]
    rcases hd with ⟨hd, rfl⟩ | ⟨m', hd, rfl⟩
    · exact SimV.toN (idxS_ok hg k ht hd he (ev_ok hE hG x hx.1) (ev_ok hE hG i hx.2) e)
    · exact SimV.toN (idxA_ok hg k ht hd he (ev_ok hE hG x hx.1) (ev_ok hE hG i hx.2) e)
  | index t x i =>
    rw [hop] at e ho
    have hx : opndOk n x = true ∧ opndOk n i = true := by simpa [Op.operands] using ho
    have hs : execOp a.eval o = (do pure (.value (← Instr.index t (a.eval x) (a.eval i))) : Sem Next) := by unfold execOp; rw [hop]
    rw [hs]
    unfold aop at e
    dsimp only at e
    split at e
    · rename_i ht
      exact SimV.toN (idxStr_ok hg k ht rfl (ev_ok hE hG x hx.1) (ev_ok hE hG i hx.2) e)
    · rename_i m el _ _ _ _ _ ht
      obtain ⟨ye, he, e⟩ := tyA_inv e
      exact SimV.toN (indexA_ok hg k ht rfl he (ev_ok hE hG x hx.1) (ev_ok hE hG i hx.2) e)
    · cases e
  | lookup t x i ok =>
    rw [hop] at e ho hacc
    cases hacc
    obtain ⟨y, kt, et, ye, ht, hd, he, e⟩ := mapElem_inv e
    have hx : opndOk n x = true ∧ opndOk n i = true := by simpa [Op.operands] using ho
    have hs : execOp a.eval o = (do pure (.value (← Instr.lookup t (a.eval x) (a.eval i) ok)) : Sem Next) := by unfold execOp; rw [hop]
    rw [hs]
    exact SimV.toN (lookup_ok hg k ht hd he (ev_ok hE hG x hx.1) (ev_ok hE hG i hx.2) hD e)
  | mapUpdate t m kk x =>
    rw [hop] at e ho hacc
    cases hacc
    have hx : opndOk n m = true ∧ opndOk n kk = true ∧ opndOk n x = true := by simpa [Op.operands] using ho
    have hs : execOp a.eval o = (do Instr.mapUpdate t (a.eval m) (a.eval kk) (a.eval x); pure .skip : Sem Next) := by unfold execOp; rw [hop]
    rw [hs]
    have e : (match (ev x).f en with
      | .bad => Res.fail
      | v => mapUpA (mapKind g t) ((ev m).f en) ((ev kk).f en) v h) = .ok v h' := e
    split at e
    · cases e
    · exact SimU.toN (mapUp_ok hg k (ev_ok hE hG m hx.1) (ev_ok hE hG kk hx.2.1) (ev_ok hE hG x hx.2.2) hD e)
  | insert t m kk x =>
    rw [hop] at e ho hacc
    cases hacc
    have hx : opndOk n m = true ∧ opndOk n kk = true ∧ opndOk n x = true := by simpa [Op.operands] using ho
    have hs : execOp a.eval o = (do Instr.mapUpdate t (a.eval m) (a.eval kk) (a.eval x); pure .skip : Sem Next) := by unfold execOp; rw [hop]
    rw [hs]
    have e : (match (ev x).f en with
      | .bad => Res.fail
      | v => mapUpA (mapKind g t) ((ev m).f en) ((ev kk).f en) v h) = .ok v h' := e
    split at e
    · cases e
    · exact SimU.toN (mapUp_ok hg k (ev_ok hE hG m hx.1) (ev_ok hE hG kk hx.2.1) (ev_ok hE hG x hx.2.2) hD e)
  | mapEntry t m kk =>
    rw [hop] at e ho hacc
    cases hacc
    obtain ⟨y, kt, et, ye, ht, hd, he, e⟩ := mapElem_inv e
    have hx : opndOk n m = true ∧ opndOk n kk = true := by simpa [Op.operands] using ho
    have hs : execOp a.eval o = (do pure (.value (← Instr.mapEntry t (a.eval m) (a.eval kk))) : Sem Next) := by unfold execOp; rw [hop]
    rw [hs]
    exact SimV.toN (mapEnt_ok hg k ht hd he (ev_ok hE hG m hx.1) (ev_ok hE hG kk hx.2) hD e)
  | entryStore t m s x =>
    rw [hop] at e ho hacc
    cases hacc
    have hx : opndOk n m = true ∧ opndOk n s = true ∧ opndOk n x = true := by simpa [Op.operands] using ho
    have hs : execOp a.eval o = (do Instr.entryStore t (a.eval m) (a.eval s) (a.eval x); pure .skip : Sem Next) := by unfold execOp; rw [hop]
    rw [hs]
    have e : (match (ev x).f en with
      | .bad => Res.fail
      | v => entStA ((ev m).f en) ((ev s).f en) v h) = .ok v h' := e
    split at e
    · cases e
    · exact SimU.toN (entSt_ok k (ev_ok hE hG m hx.1) (ev_ok hE hG s hx.2.1) (ev_ok hE hG x hx.2.2) hD e)
  | range t x =>
    rw [hop] at e ho
    have hx : opndOk n x = true := by simpa [Op.operands] using ho
    have hs : execOp a.eval o = (do pure (.value (← Instr.range t (a.eval x))) : Sem Next) := by unfold execOp; rw [hop]
    rw [hs]
    unfold aop at e
    dsimp only at e
    split at e
    · rename_i ht
      exact SimV.toN (range_ok k hg ht rfl (ev_ok hE hG x hx) e)
    · cases e
  | next it s =>
    rw [hop] at e ho hacc
    cases hacc
    have hx : opndOk n it = true := by simpa [Op.operands] using ho
    have hs : execOp a.eval o = (do pure (.value (← Instr.next (a.eval it) s o.type)) : Sem Next) := by unfold execOp; rw [hop]
    rw [hs]
    cases s
    · cases e
    · exact SimV.toN (next_ok k (ev_ok hE hG it hx) hD o.type e)
  | extract x i =>
    rw [hop] at e ho
    have hx : opndOk n x = true := by simpa [Op.operands] using ho
    have hs : execOp a.eval o = (do pure (.value (← Instr.extract (a.eval x) i)) : Sem Next) := by unfold execOp; rw [hop]
    rw [hs]
    exact SimV.toN (extract_ok k (ev_ok hE hG x hx) e)
  | call c =>
    rw [hop] at e ho hacc
    have hs : execOp a.eval o = (do let d ← resolve a.eval c o.type; invoke d.target d.args : Sem Next) := by unfold execOp; rw [hop]
    rw [hs]
    cases hc : c.callee with
    | builtin b =>
      have hacc : some (fun en => blks c.args.toList en) = some f := by rw [← hacc]; unfold accOf; dsimp only; rw [hc]
      cases hacc
      refine builtin_ok hE hG hg k hc ?_ hD e
      have ho : (c.operands).toList.all (opndOk n) = true := ho
      unfold Call.operands at ho
      rw [hc] at ho
      simpa using ho
    | _ =>
      unfold aop at e
      dsimp only at e
      rw [hc] at e
      cases e
  | _ => rw [hop] at e; cases e
end
end
end Go.Proofs.YtfmnninijakknaaGreatDoor.Am
