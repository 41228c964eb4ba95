/- The machine's soundness, for drawn regions: an operation looks at its operands alone; names cut down to those that are spoken of. -/
import Derived.Test.YtlmcadgbnolffaaGreatDoorAm33
namespace Go.Proofs.YtlmcadgbnolffaaGreatDoor.Am
section
variable {g : G} {en en' : Env} {hh : H}
theorem tyA_congr {t : Nat} {k k' : Ty → Act} (h : ∀ y, (k' y).f en' hh = (k y).f en hh) : (tyA g t k').f en' hh = (tyA g t k).f en hh := by
  unfold tyA
  cases g.ty t with
  | none => rfl
  | some y => exact h y
theorem onB_congr {b : Bool} {a a' : Act} (h : a'.f en' hh = a.f en hh) : (onB b a').f en' hh = (onB b a).f en hh := by
  cases b
  · rfl
  · exact h
theorem elemT_congr {t : Nat} {k k' : Nat → Option Nat → Ty → Act} (h : ∀ e arr y, (k' e arr y).f en' hh = (k e arr y).f en hh) : (elemT g t k').f en' hh = (elemT g t k).f en hh := by
  unfold elemT
  split
  · exact tyA_congr fun y => h _ _ y
  · exact tyA_congr fun y => h _ _ y
  · rfl
theorem mapElem_congr {t : Nat} {k k' : Ty → Act} (h : ∀ y, (k' y).f en' hh = (k y).f en hh) : (mapElem g t k').f en' hh = (mapElem g t k).f en hh := by
  unfold mapElem
  split
  · exact tyA_congr h
  · rfl
theorem fieldT_congr {s f : Nat} {k k' : Field → Ty → Act} (h : ∀ fd y, (k' fd y).f en' hh = (k fd y).f en hh) : (fieldT g s f k').f en' hh = (fieldT g s f k).f en hh := by
  unfold fieldT
  split
  · split
    · exact tyA_congr fun y => h _ y
    · rfl
  · rfl
theorem fillA_congr {pl : Nat → Option (Nat × Nat)} : ∀ (ps : List (Nat × Operand)), (∀ p ∈ ps, (ev p.2).f en' = (ev p.2).f en) → ∀ cs, fillA pl en' ps cs = fillA pl en ps cs
  | [], _, _ => rfl
  | p :: r, h, cs => by
    have ih := fillA_congr (pl := pl) r (fun q hq => h q (by simp [hq]))
    have hp := h p (by simp)
    have e : ∀ en, fillA pl en (p :: r) cs = (match pl p.1 with
      | some (off, size) => match Nat.beq (llen (cellsOf ((ev p.2).f en))) size, Nat.ble (Nat.add off size) (llen cs), notB (Nat.beq size (nat_lit 0)) with
        | true, true, true => fillA pl en r (overL cs off (cellsOf ((ev p.2).f en)))
        | _, _, _ => .bad
      | none => .bad) := fun _ => rfl
    rw [e en', e en, hp]
    cases pl p.1 with
    | none => rfl
    | some os =>
      dsimp only
      split
      · exact ih _
      · rfl
theorem opsL_congr : ∀ (l : List Operand), (∀ x ∈ l, (ev x).f en' = (ev x).f en) → (opsL l).f en' = (opsL l).f en
  | [], _ => rfl
  | o :: r, h => by
    show AV.cons ((ev o).f en') ((opsL r).f en') = AV.cons ((ev o).f en) ((opsL r).f en)
    rw [h o (by simp), opsL_congr r (fun x hx => h x (by simp [hx]))]
theorem blks_congr : ∀ (l : List Operand), (∀ x ∈ l, (ev x).f en' = (ev x).f en) → blks l en' = blks l en
  | [], _ => rfl
  | o :: r, h => by
    rw [blks_cons, blks_cons, h o (by simp), blks_congr r (fun x hx => h x (by simp [hx]))]
theorem optN_congr {x : Option Operand} {d : Nat} {k k' : Nat → Res} (hx : ∀ o, x = some o → (ev o).f en' = (ev o).f en) (h : ∀ n, k' n = k n) : optN en' x d k' = optN en x d k := by
  have : k' = k := funext h
  subst this
  cases x with
  | none => rfl
  | some o => show natOf .fail k' ((ev o).f en') = natOf .fail k' ((ev o).f en); rw [hx o rfl]
theorem sliceA_congr {es : Nat} {x : Operand} {lo hi mx : Option Operand} (hx : (ev x).f en' = (ev x).f en) (hlo : ∀ o, lo = some o → (ev o).f en' = (ev o).f en) (hhi : ∀ o, hi = some o → (ev o).f en' = (ev o).f en)
    (hmx : ∀ o, mx = some o → (ev o).f en' = (ev o).f en) : (sliceA es (ev x) lo hi mx).f en' hh = (sliceA es (ev x) lo hi mx).f en hh := by
  unfold sliceA
  dsimp only
  rw [hx]
  split
  · exact optN_congr hmx fun _ => optN_congr hhi fun _ => optN_congr hlo fun _ => rfl
  · exact optN_congr hmx fun _ => optN_congr hhi fun _ => optN_congr hlo fun _ => rfl
  · rfl
theorem sliceStr_congr {x : Operand} {lo hi : Option Operand} (hx : (ev x).f en' = (ev x).f en) (hlo : ∀ o, lo = some o → (ev o).f en' = (ev o).f en) (hhi : ∀ o, hi = some o → (ev o).f en' = (ev o).f en) :
    (sliceStr (ev x) lo hi).f en' hh = (sliceStr (ev x) lo hi).f en hh := by
  unfold sliceStr
  dsimp only
  rw [hx]
  split
  · exact optN_congr hhi fun _ => optN_congr hlo fun _ => rfl
  · rfl
theorem sliceArr_congr {es n : Nat} {x : Operand} {lo hi mx : Option Operand} (hx : (ev x).f en' = (ev x).f en) (hlo : ∀ o, lo = some o → (ev o).f en' = (ev o).f en) (hhi : ∀ o, hi = some o → (ev o).f en' = (ev o).f en) :
    (sliceArrA es n (ev x) lo hi mx).f en' hh = (sliceArrA es n (ev x) lo hi mx).f en hh := by
  unfold sliceArrA
  dsimp only
  rw [hx]
  split
  · split
    · rfl
    · unfold withC
      congr 1
      funext _ _ _ _ _
      exact optN_congr hhi fun _ => optN_congr hlo fun _ => rfl
  · rfl
theorem aop_congr (o : Op) (h : ∀ x ∈ o.operands.toList, (ev x).f en' = (ev x).f en) : (aop g o).f en' hh = (aop g o).f en hh := by
  cases o with
  | move x => show chkV ((ev x).f en') hh = chkV ((ev x).f en) hh; rw [h x (by simp [Op.operands])]
  | assign x => show chkV ((ev x).f en') hh = chkV ((ev x).f en) hh; rw [h x (by simp [Op.operands])]
  | pick c a b =>
    show OB.rec (motive := fun _ => Res) .fail (chk ((ev b).f en') hh) (chk ((ev a).f en') hh) (toB ((ev c).f en')) = OB.rec (motive := fun _ => Res) .fail (chk ((ev b).f en) hh) (chk ((ev a).f en) hh) (toB ((ev c).f en))
    rw [h c (by simp [Op.operands]), h a (by simp [Op.operands]), h b (by simp [Op.operands])]
  | alloc t => exact tyA_congr fun _ => rfl
  | box t x =>
    show row t (cellsOf ((ev x).f en')) hh _ = row t (cellsOf ((ev x).f en)) hh _
    rw [h x (by simp [Op.operands])]
  | build t ps =>
    refine tyA_congr fun y => onB_congr ?_
    show buildOk (fillA _ en' ps.toList y.zero) hh = buildOk (fillA _ en ps.toList y.zero) hh
    rw [fillA_congr ps.toList (fun p hp => h p.2 (by simp [Op.operands]; exact ⟨p.1, by simpa using hp⟩))]
  | buildSlice t n ps =>
    refine elemT_congr fun e arr y => ?_
    have hp := fillA_congr (en := en) (en' := en') (pl := fun i => some (Nat.mul i y.size, y.size)) ps.toList (fun p hp => h p.2 (by simp [Op.operands]; exact ⟨p.1, by simpa using hp⟩))
    cases arr with
    | none => dsimp only; rw [hp]
    | some _ => rfl
  | load t x =>
    refine tyA_congr fun y => ?_
    show (loadA y.agg y.size).f ((ev x).f en') hh = (loadA y.agg y.size).f ((ev x).f en) hh
    rw [h x (by simp [Op.operands])]
  | store t x v =>
    refine tyA_congr fun y => ?_
    show (storeA y.agg y.size).f ((ev x).f en') ((ev v).f en') hh = (storeA y.agg y.size).f ((ev x).f en) ((ev v).f en) hh
    rw [h x (by simp [Op.operands]), h v (by simp [Op.operands])]
  | nilCheck x => show chk (nilCheckA ((ev x).f en')) hh = chk (nilCheckA ((ev x).f en)) hh; rw [h x (by simp [Op.operands])]
  | binOp op t x y ty =>
    show chk ((binF op _ _).f ((ev x).f en') ((ev y).f en')) hh = chk ((binF op _ _).f ((ev x).f en) ((ev y).f en)) hh
    rw [h x (by simp [Op.operands]), h y (by simp [Op.operands])]
  | unOp op t x => show chk ((uop op).f ((ev x).f en')) hh = chk ((uop op).f ((ev x).f en)) hh; rw [h x (by simp [Op.operands])]
  | convert s d x =>
    refine tyA_congr fun ys => tyA_congr fun yd => ?_
    show convA g _ _ _ ((ev x).f en') hh = convA g _ _ _ ((ev x).f en) hh
    rw [h x (by simp [Op.operands])]
  | makeInterface t x =>
    refine tyA_congr fun y => ?_
    have hx := h x (by simp [Op.operands])
    split
    · rfl
    · dsimp only; rw [hx]
  | makeFunc fn fs cs =>
    cases fn with
    | func f =>
      show Res.ok (.fn f ((opsL fs.toList).f en') ((opsL cs.toList).f en')) hh = Res.ok (.fn f ((opsL fs.toList).f en) ((opsL cs.toList).f en)) hh
      rw [opsL_congr fs.toList (fun x hx => h x (by simp [Op.operands]; left; simpa using hx)), opsL_congr cs.toList (fun x hx => h x (by simp [Op.operands]; right; simpa using hx))]
    | _ => rfl
  | makeMap t r =>
    cases r with
    | none => rfl
    | some x =>
      have hx := h x (by simp [Op.operands])
      unfold aop
      dsimp only
      rw [hx]
  | makeSlice t l c =>
    refine elemT_congr fun e arr y => ?_
    have hl := h l (by simp [Op.operands])
    have hc := h c (by simp [Op.operands])
    cases arr with
    | none => dsimp only; rw [hl, hc]
    | some _ => rfl
  | slice t x lo hi mx =>
    have hx := h x (by simp [Op.operands])
    have hlo : ∀ o, lo = some o → (ev o).f en' = (ev o).f en := fun o e => h o (by subst e; simp [Op.operands])
    have hhi : ∀ o, hi = some o → (ev o).f en' = (ev o).f en := fun o e => h o (by subst e; simp [Op.operands])
    have hmx : ∀ o, mx = some o → (ev o).f en' = (ev o).f en := fun o e => h o (by subst e; simp [Op.operands])
    unfold aop
    dsimp only
    split
    · exact tyA_congr fun y => onB_congr (sliceA_congr hx hlo hhi hmx)
    · split
      · exact sliceStr_congr hx hlo hhi
      · rfl
    · exact tyA_congr fun y => sliceArr_congr hx hlo hhi
    · rfl
  | fieldAddr s x f =>
    have hx := h x (by simp [Op.operands])
    refine fieldT_congr fun fd y => ?_
    split
    · show onP (fieldA fd.offset) ((ev x).f en') hh = onP (fieldA fd.offset) ((ev x).f en) hh
      rw [hx]
    · rfl
  | field s x f =>
    have hx := h x (by simp [Op.operands])
    refine fieldT_congr fun fd y => ?_
    dsimp only
    rw [hx]
  | indexAddr t x i =>
    have hx := h x (by simp [Op.operands])
    have hi := h i (by simp [Op.operands])
    refine elemT_congr fun e arr y => ?_
    cases arr with
    | none => show idxS _ ((ev x).f en') ((ev i).f en') hh = idxS _ ((ev x).f en) ((ev i).f en) hh; rw [hx, hi]
    | some n => show idxA _ _ ((ev x).f en') ((ev i).f en') hh = idxA _ _ ((ev x).f en) ((ev i).f en) hh; rw [hx, hi]
  | index t x i =>
    have hx := h x (by simp [Op.operands])
    have hi := h i (by simp [Op.operands])
    unfold aop
    dsimp only
    split
    · show idxStr ((ev x).f en') ((ev i).f en') hh = idxStr ((ev x).f en) ((ev i).f en) hh; rw [hx, hi]
    · refine tyA_congr fun y => ?_
      dsimp only
      rw [hx, hi]
    · rfl
  | lookup t x i ok =>
    have hx := h x (by simp [Op.operands])
    have hi := h i (by simp [Op.operands])
    refine mapElem_congr fun y => ?_
    dsimp only
    rw [hx, hi]
  | mapUpdate t m k x =>
    have hx := h x (by simp [Op.operands])
    have hm := h m (by simp [Op.operands])
    have hk := h k (by simp [Op.operands])
    unfold aop
    dsimp only
    rw [hx, hm, hk]
  | insert t m k x =>
    have hx := h x (by simp [Op.operands])
    have hm := h m (by simp [Op.operands])
    have hk := h k (by simp [Op.operands])
    unfold aop
    dsimp only
    rw [hx, hm, hk]
  | range t x =>
    have hx := h x (by simp [Op.operands])
    unfold aop
    dsimp only
    split
    · dsimp only; rw [hx]
    · rfl
  | next it s =>
    have hx := h it (by simp [Op.operands])
    cases s
    · rfl
    · show nextA ((ev it).f en') hh = nextA ((ev it).f en) hh; rw [hx]
  | extract x i => show chk (extractA ((ev x).f en') i) hh = chk (extractA ((ev x).f en) i) hh; rw [h x (by simp [Op.operands])]
  | call c =>
    have hc : ∀ x ∈ c.args.toList, (ev x).f en' = (ev x).f en := fun x hx => h x (by
      show x ∈ (c.operands).toList
      unfold Call.operands
      rw [Array.toList_append]
      exact List.mem_append_right _ hx)
    unfold aop
    dsimp only
    cases c.callee with
    | builtin b =>
      dsimp only
      split
      · rename_i t ts x hts hx
        rw [hx] at hc
        have hxx := hc x (by simp)
        split
        · rfl
        · rfl
        · rename_i y _ _ _
          show lenA y.desc ((ev x).f en') hh = lenA y.desc ((ev x).f en) hh
          rw [hxx]
        · rfl
      · dsimp only
        rw [opsL_congr _ hc]
    | _ => rfl
  | _ => rfl
theorem acc_congr (o : Op) (h : ∀ x ∈ o.operands.toList, (ev x).f en' = (ev x).f en) {f : Env → List Nat} (hf : accOf o = some f) : f en' = f en := by
  cases o with
  | load t x => cases hf; show blkOf ((ev x).f en') = blkOf ((ev x).f en); rw [h x (by simp [Op.operands])]
  | store t x v => cases hf; show blkOf ((ev x).f en') = blkOf ((ev x).f en); rw [h x (by simp [Op.operands])]
  | lookup t x i ok => cases hf; show blkOf ((ev x).f en') = blkOf ((ev x).f en); rw [h x (by simp [Op.operands])]
  | mapUpdate t x i v => cases hf; show blkOf ((ev x).f en') = blkOf ((ev x).f en); rw [h x (by simp [Op.operands])]
  | insert t x i v => cases hf; show blkOf ((ev x).f en') = blkOf ((ev x).f en); rw [h x (by simp [Op.operands])]
  | next x s => cases hf; show blkOf ((ev x).f en') = blkOf ((ev x).f en); rw [h x (by simp [Op.operands])]
  | convert s d x => cases hf; show blkOf ((ev x).f en') = blkOf ((ev x).f en); rw [h x (by simp [Op.operands])]
  | slice t x lo hi mx => cases hf; show blkOf ((ev x).f en') = blkOf ((ev x).f en); rw [h x (by simp [Op.operands])]
  | call c =>
    have hc : ∀ x ∈ c.args.toList, (ev x).f en' = (ev x).f en := fun x hx => h x (by
      show x ∈ (c.operands).toList
      unfold Call.operands
      rw [Array.toList_append]
      exact List.mem_append_right _ hx)
    unfold accOf at hf
    dsimp only at hf
    cases hcc : c.callee with
    | builtin b => rw [hcc] at hf; cases hf; exact blks_congr _ hc
    | _ => rw [hcc] at hf; cases hf
  | defer c => cases hf
  | _ => cases hf; rfl
end

/-! ### names cut down -/
theorem R_cut {ι ι1 ι2 : Nam} (hh : ∀ b m, ι1 b = some m → ι2 b = ι b) (a : AV) :
    (∀ v v', (R ι1 a).1 v' → (R ι a).1 v → (R ι2 a).1 v) ∧ (∀ l l', (R ι1 a).2 l' → (R ι a).2 l → (R ι2 a).2 l) := by
  induction a with
  | ptr b off => exact ⟨fun _ _ ⟨m1, h1, _⟩ ⟨m, h, e⟩ => ⟨m, by rw [hh b m1 h1]; exact h, e⟩, fun _ _ _ h => h⟩
  | slice b off len es z => exact ⟨fun _ _ ⟨m1, _, _, h1, _⟩ ⟨m, y, cap, h, r⟩ => ⟨m, y, cap, by rw [hh b m1 h1]; exact h, r⟩, fun _ _ _ h => h⟩
  | map b => exact ⟨fun _ _ ⟨m1, h1, _⟩ ⟨m, h, e⟩ => ⟨m, by rw [hh b m1 h1]; exact h, e⟩, fun _ _ _ h => h⟩
  | yld b => exact ⟨fun _ _ ⟨m1, h1, _⟩ ⟨m, h, e⟩ => ⟨m, by rw [hh b m1 h1]; exact h, e⟩, fun _ _ _ h => h⟩
  | fn f a c iha ihc => exact ⟨fun _ _ ⟨xs', ys', _, h', k'⟩ ⟨xs, ys, e, h, k⟩ => ⟨xs, ys, e, iha.2 _ _ h' h, ihc.2 _ _ k' k⟩, fun _ _ _ h => h⟩
  | ifc t x ih => exact ⟨fun _ _ ⟨y', _, h'⟩ ⟨y, e, h⟩ => ⟨y, e, ih.1 _ _ h' h⟩, fun _ _ _ h => h⟩
  | agg cs ih => exact ⟨fun _ _ ⟨xs', _, h'⟩ ⟨xs, e, h⟩ => ⟨xs, e, ih.2 _ _ h' h⟩, fun _ _ _ h => h⟩
  | tup cs ih => exact ⟨fun _ _ ⟨xs', _, h'⟩ ⟨xs, e, h⟩ => ⟨xs, e, ih.2 _ _ h' h⟩, fun _ _ _ h => h⟩
  | cons x t ihh iht => exact ⟨fun _ _ _ h => h, fun _ _ ⟨x', xs', _, hx', hxs'⟩ ⟨x, xs, e, hx, hxs⟩ => ⟨x, xs, e, ihh.1 _ _ hx' hx, iht.2 _ _ hxs' hxs⟩⟩
  | _ => exact ⟨fun _ _ _ h => h, fun _ _ _ h => h⟩
theorem VR.cut {ι ι1 ι2 : Nam} (hh : ∀ b m, ι1 b = some m → ι2 b = ι b) {a : AV} {v v' : Value} (h1 : VR ι1 a v') (h : VR ι a v) : VR ι2 a v := (R_cut hh a).1 v v' h1 h
theorem EnvR.cut {ι ι1 ι2 : Nam} (hh : ∀ b m, ι1 b = some m → ι2 b = ι b) {n n1 : Nat} {en : Env} {t t1 : Array Value} (h1 : EnvR ι1 n1 en t1) (h : EnvR ι n en t) : EnvR ι2 n en t := by
  refine ⟨h.size, h.most, fun i hi => ?_, h.rest⟩
  by_cases c : i < n1
  · exact VR.cut hh (h1.at_ i c) (h.at_ i hi)
  · rw [h1.rest i (by omega) (by have := h.most; omega)]; exact trivial
theorem BR.cut {ι ι1 ι2 : Nam} (hh : ∀ b m, ι1 b = some m → ι2 b = ι b) {blk : Blk} {o o1 : Obj} {m m1 : Nm} (h1 : BR ι1 blk o1 m1) (h : BR ι blk o m) : BR ι2 blk o m := by
  cases blk with
  | cells el ro n d t =>
    obtain ⟨arr, el', lo, hi, e, a1, a2, a3, a4, a5⟩ := h
    obtain ⟨arr1, _, _, _, _, _, _, _, b4, _⟩ := h1
    exact ⟨arr, el', lo, hi, e, a1, a2, a3, fun i hi => VR.cut hh (b4 i hi) (a4 i hi), a5⟩
  | imap kd n c t =>
    obtain ⟨es, e, a1, a0, a2, a3⟩ := h
    obtain ⟨es1, _, _, _, _, b3⟩ := h1
    refine ⟨es, e, a1, a0, a2, fun i hi => ?_⟩
    have hx := a3 i hi
    have hy := b3 i hi
    cases hv : E.get 11 (path 11 i) t with
    | none => simp only [hv] at hx ⊢; exact hx
    | some v =>
      simp only [hv] at hx hy ⊢
      obtain ⟨e1, he1, hv1⟩ := hx
      obtain ⟨e2, _, hv2⟩ := hy
      exact ⟨e1, he1, VR.cut hh hv2 hv1⟩
  | smap n c l =>
    obtain ⟨es, e, a1, a0, a2, a3⟩ := h
    obtain ⟨es1, _, _, _, _, b3⟩ := h1
    refine ⟨es, e, a1, a0, a2, fun s => ?_⟩
    have hx := a3 s
    have hy := b3 s
    cases hv : sfind (Str.of s) l with
    | none => simp only [hv] at hx ⊢; exact hx
    | some v =>
      simp only [hv] at hx hy ⊢
      obtain ⟨e1, he1, hv1⟩ := hx
      obtain ⟨e2, _, hv2⟩ := hy
      exact ⟨e1, he1, VR.cut hh hv2 hv1⟩
  | iter s pos => exact h
  | loop st pend fn en ps as bo dfr =>
    obtain ⟨r, n, md, h2, h3, h4, h5, h6, h7, h8, h9, h10⟩ := h
    obtain ⟨r1, n1, md1, _, _, _, k5, _, _, _, k9, _⟩ := h1
    exact ⟨r, n, md, h2, h3, h4, EnvR.cut hh k5 h5, h6, h7, h8, (by rw [hh _ _ k9]; exact h9), h10⟩
  | dfr => exact h
  | taken => exact h
end Go.Proofs.YtlmcadgbnolffaaGreatDoor.Am
