/- The machine's soundness: every operation that calls nothing. -/
import Derived.Test.YtlmcadgbnolffaaGreatDoorAm24
namespace Go.Proofs.YtlmcadgbnolffaaGreatDoor.Am
section
variable {P : Program} {g : G} {ι : Nam} {h h' : H} {w : World} {D : Nat → Prop}
def NextR (ι : Nam) (v : AV) (x : Next) : Prop := (∃ v', x = .value v' ∧ VR ι v v') ∨ (x = .skip ∧ v = .tup .nil)
def SimN (P : Program) (ι : Nam) (h : H) (w : World) (s : Sem Next) (v : AV) (h' : H) : Prop :=
  ∃ ι' w' W x, s.run P w = .ok x w' ∧ NextR ι' v x ∧ Loc ι h w ι' h' w' W
theorem SimV.toN {s : Sem Value} {v : AV} (e : SimV P ι h w s v h') : SimN P ι h w (do pure (.value (← s))) v h' := by
  obtain ⟨ι', w', W, v', h1, h2, h3⟩ := e
  refine ⟨ι', w', W, .value v', ?_, .inl ⟨v', rfl, h2⟩, h3⟩
  simp only [Sem.run_bind, h1, Result.andThen_ok, Sem.run_pure]
theorem SimU.toN {s : Sem Unit} {v : AV} (e : v = .tup .nil ∧ SimU P ι h w s h') : SimN P ι h w (do s; pure .skip) v h' := by
  obtain ⟨hv, ι', w', W, h1, h3⟩ := e
  refine ⟨ι', w', W, .skip, ?_, .inr ⟨rfl, hv⟩, h3⟩
  simp only [Sem.run_bind, h1, Result.andThen_ok, Sem.run_pure]
theorem tyA_inv {t : Nat} {k : Ty → Act} {en : Env} {v : AV} (e : (tyA g t k).f en h = .ok v h') : ∃ y, g.ty t = some y ∧ (k y).f en h = .ok v h' := by
  unfold tyA at e
  split at e
  · rename_i y hy
    exact ⟨y, hy, e⟩
  · cases e
theorem onB_inv {b : Bool} {a : Act} {en : Env} {v : AV} (e : (onB b a).f en h = .ok v h') : b = true ∧ a.f en h = .ok v h' := by
  cases b
  · cases e
  · exact ⟨rfl, e⟩
theorem elemT_inv {t : Nat} {k : Nat → Option Nat → Ty → Act} {en : Env} {v : AV} (e : (elemT g t k).f en h = .ok v h') :
    ∃ y el ye arr, g.ty t = some y ∧ g.ty el = some ye ∧ ((y.desc = .slice el ∧ arr = none) ∨ ∃ n, y.desc = .array n el ∧ arr = some n) ∧ (k el arr ye).f en h = .ok v h' := by
  unfold elemT at e
  split at e
  · rename_i el _ _ _ _ _ hy
    obtain ⟨ye, he, e⟩ := tyA_inv e
    exact ⟨_, el, ye, none, hy, he, .inl ⟨rfl, rfl⟩, e⟩
  · rename_i n el _ _ _ _ _ hy
    obtain ⟨ye, he, e⟩ := tyA_inv e
    exact ⟨_, el, ye, some n, hy, he, .inr ⟨n, rfl, rfl⟩, e⟩
  · cases e
theorem mapElem_inv {t : Nat} {k : Ty → Act} {en : Env} {v : AV} (e : (mapElem g t k).f en h = .ok v h') :
    ∃ y kt et ye, g.ty t = some y ∧ y.desc = .map kt et ∧ g.ty et = some ye ∧ (k ye).f en h = .ok v h' := by
  unfold mapElem at e
  split at e
  · rename_i kt et _ _ _ _ _ hy
    obtain ⟨ye, he, e⟩ := tyA_inv e
    exact ⟨_, kt, et, ye, hy, rfl, he, e⟩
  · cases e
theorem fieldT_inv {s f : Nat} {k : Field → Ty → Act} {en : Env} {v : AV} (e : (fieldT g s f k).f en h = .ok v h') :
    ∃ y fs fd yf, g.ty s = some y ∧ y.desc = .struct fs ∧ fs[f]? = some fd ∧ g.ty fd.type = some yf ∧ (k fd yf).f en h = .ok v h' := by
  unfold fieldT at e
  split at e
  · rename_i fs _ _ _ _ _ hy
    split at e
    · rename_i fd hf
      obtain ⟨ye, he, e⟩ := tyA_inv e
      exact ⟨_, fs, fd, ye, hy, rfl, hf, he, e⟩
    · cases e
  · cases e
theorem opsL_cons {l : List Operand} {en : Env} {x r : AV} (e : (opsL l).f en = .cons x r) : ∃ o l', l = o :: l' ∧ (ev o).f en = x ∧ (opsL l').f en = r := by
  cases l with
  | nil => cases e
  | cons o l' =>
    have e : AV.cons ((ev o).f en) ((opsL l').f en) = .cons x r := e
    injection e with e1 e2
    exact ⟨o, l', rfl, e1, e2⟩
theorem opsL_nil {l : List Operand} {en : Env} (e : (opsL l).f en = .nil) : l = [] := by
  cases l with
  | nil => rfl
  | cons o l' =>
    have e : AV.cons ((ev o).f en) ((opsL l').f en) = .nil := e
    cases e
theorem arr_of_toList {α : Type} {a : Array α} {l : List α} (h : a.toList = l) : a = l.toArray := by cases a; cases h; rfl
theorem map1 {α β : Type} (f : α → β) (x : α) : ([x].toArray).map f = #[f x] := by simp
theorem map2 {α β : Type} (f : α → β) (x y : α) : ([x, y].toArray).map f = #[f x, f y] := by simp
theorem blks_cons {o : Operand} {l : List Operand} {en : Env} : blks (o :: l) en = blkOf ((ev o).f en) ++ blks l en := rfl
section
variable {n : Nat} {en : Env} {a : Go.Act}
theorem builtin_ok (hE : EnvR ι n en a.tmps) (hG : GI ι) (hg : GOk P g) (k : WR ι h w D) {b : Builtin} {c : Call} {ty : TypeId} (hc : c.callee = .builtin b) (ho : (c.args.toList.all (opndOk n)) = true) (hD : ∀ b ∈ blks c.args.toList en, D b) {v : AV}
    (e : (aop g (.call c)).f en h = .ok v h') : SimN P ι h w (do let d ← resolve a.eval c ty; invoke d.target d.args) v h' := by
  have hres : (do let d ← resolve a.eval c ty; invoke d.target d.args : Sem Next) = builtin b c.argTypes ty (c.args.map fun | .const _ => true | _ => false) (c.args.map a.eval) := by
    unfold resolve; rw [hc]; rfl
  rw [hres]
  clear hres
  generalize (c.args.map fun | .const _ => true | _ => false) = cs
  unfold aop at e
  dsimp only at e
  rw [hc] at e
  dsimp only at e
  have hargs := opsL_ok hE hG c.args.toList ho
  rw [← Array.toList_map] at hargs
  split at e
  · -- len
    rename_i t ts x hts hx
    have hx' := arr_of_toList hx
    rw [hx'] at ho hD ⊢
    have hxo : opndOk n x = true := by simpa using ho
    have hts0 : c.argTypes[0]? = some t := by rw [arr_of_toList hts]; rfl
    rw [map1]
    show SimN P ι h w (do pure (.value (← Builtin.len_ c.argTypes ty #[a.eval x]))) v h'
    refine SimV.toN ?_
    split at e
    · rename_i m el _ _ _ _ _ hy
      cases e
      have hut := (hg.ty _ _ hy).1
      have hx0 : (#[a.eval x] : Array Value)[0]? = some (a.eval x) := rfl
      refine SimV.ret k (v' := goInt m) ?_ rfl
      simp only [Builtin.len_, hts0, hx0, Sem.run_bind, run_und hut, Result.andThen_ok, Sem.run_pure]
    · cases e
    · rename_i y _ _ hy
      exact len_ok k hg hy hts0 (ev_ok hE hG x hxo) (fun b' hb => hD b' (by rw [blks_cons]; exact List.mem_append_left _ hb)) e
    · cases e
  · rename_i hne
    have e2 : builtA g _ c.argTypes.toList ((opsL c.args.toList).f en) h = .ok v h' := e
    clear e hne
    have e := e2
    clear e2
    unfold builtA at e
    split at e
    · -- append
      rename_i s x hl
      obtain ⟨os, l1, hl1, hs1, hr1⟩ := opsL_cons hl
      obtain ⟨ox, l2, hl2, hs2, hr2⟩ := opsL_cons hr1
      have hl3 := opsL_nil hr2
      subst hl3; subst hl2
      rw [arr_of_toList hl1] at ho hD ⊢
      have hoo : opndOk n os = true ∧ opndOk n ox = true := by simpa using ho
      have hvs := ev_ok hE hG os hoo.1
      have hvx := ev_ok hE hG ox hoo.2
      rw [hs1] at hvs; rw [hs2] at hvx
      have hDs : ∀ b ∈ blkOf s, D b := fun b hb => hD b (by rw [List.toList_toArray, blks_cons, hs1]; exact List.mem_append_left _ hb)
      have hDx : ∀ b ∈ blkOf x, D b := fun b hb => hD b (by rw [List.toList_toArray, blks_cons, blks_cons, hs2]; exact List.mem_append_right _ (List.mem_append_left _ hb))
      split at e
      · rename_i t u hts
        rw [arr_of_toList hts, map2]
        show SimN P ι h w (do pure (.value (← Builtin.append_ #[t, u] ty #[a.eval os, a.eval ox]))) v h'
        refine SimV.toN ?_
        split at e
        · rename_i el _ _ _ _ _ _ _ _ _ _ _ ht hu
          split at e
          · rename_i ye he
            exact append_ok hg k ht rfl hu (.inl ⟨_, rfl⟩) he hvs hvx hDs hDx e
          · cases e
        · rename_i el _ _ _ _ _ _ _ _ _ _ ht hu
          split at e
          · rename_i ye he
            exact append_ok hg k ht rfl hu (.inr rfl) he hvs hvx hDs hDx e
          · cases e
        · rename_i el _ _ _ _ _ _ _ _ _ _ _ ht hu
          split at e
          · rename_i ye _ m he
            split at e
            · rename_i h1 h2
              rw [Nat.ble_eq] at h1 h2
              exact append0_ok hg k ht rfl hu rfl he hvs hvx hDs rfl h1 h2 e
            · cases e
          · cases e
        · cases e
      · cases e
    · -- copy
      rename_i s x hl
      obtain ⟨os, l1, hl1, hs1, hr1⟩ := opsL_cons hl
      obtain ⟨ox, l2, hl2, hs2, hr2⟩ := opsL_cons hr1
      have hl3 := opsL_nil hr2
      subst hl3; subst hl2
      rw [arr_of_toList hl1] at ho hD ⊢
      have hoo : opndOk n os = true ∧ opndOk n ox = true := by simpa using ho
      have hvs := ev_ok hE hG os hoo.1
      have hvx := ev_ok hE hG ox hoo.2
      rw [hs1] at hvs; rw [hs2] at hvx
      have hDs : ∀ b ∈ blkOf s, D b := fun b hb => hD b (by rw [List.toList_toArray, blks_cons, hs1]; exact List.mem_append_left _ hb)
      have hDx : ∀ b ∈ blkOf x, D b := fun b hb => hD b (by rw [List.toList_toArray, blks_cons, blks_cons, hs2]; exact List.mem_append_right _ (List.mem_append_left _ hb))
      split at e
      · rename_i t ts hts
        have hts0 : c.argTypes[0]? = some t := by rw [arr_of_toList hts]; rfl
        rw [map2]
        show SimN P ι h w (do pure (.value (← Builtin.copy_ c.argTypes ty #[a.eval os, a.eval ox]))) v h'
        refine SimV.toN ?_
        split at e
        · rename_i el _ _ _ _ _ ht
          split at e
          · rename_i ye he
            exact copy_ok hg k hts0 ht rfl he hvs hvx hDs hDx e
          · cases e
        · cases e
      · cases e
    · -- cap
      rename_i x hl
      obtain ⟨ox, l1, hl1, hs1, hr1⟩ := opsL_cons hl
      have hl3 := opsL_nil hr1
      subst hl3
      rw [arr_of_toList hl1] at ho hD ⊢
      have hoo : opndOk n ox = true := by simpa using ho
      have hvx := ev_ok hE hG ox hoo
      rw [hs1] at hvx
      split at e
      · rename_i t ts hts
        have hts0 : c.argTypes[0]? = some t := by rw [arr_of_toList hts]; rfl
        rw [map1]
        show SimN P ι h w (do pure (.value (← Builtin.cap_ c.argTypes ty #[a.eval ox]))) v h'
        refine SimV.toN ?_
        split at e
        · rename_i el _ _ _ _ _ ht
          exact cap_ok hg k ht rfl hts0 hvx e
        · cases e
      · cases e
    · exact SimV.toN (mm_ok (ts := c.argTypes) (t := ty) k true hargs e)
    · exact SimV.toN (mm_ok (ts := c.argTypes) (t := ty) k false hargs e)
    · cases e
end
end
end Go.Proofs.YtlmcadgbnolffaaGreatDoor.Am
