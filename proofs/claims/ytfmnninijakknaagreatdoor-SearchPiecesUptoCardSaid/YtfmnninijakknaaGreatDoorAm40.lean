/- The machine's soundness: drawn regions. -/
/- The machine's soundness: drawn regions, put together; the whole machine. -/
import Derived.Test.YtfmnninijakknaaGreatDoorAm38
import Derived.Orders
namespace Go.Proofs.YtfmnninijakknaaGreatDoor.Am
section
variable {P : Program} {g : G} {n : Nat} {cx : Cx} {df : List Df} {ops : Array Oper} {ms : List Nat} {E : Nat → Env} {Hh : Nat → H} {V : Nat → AV} {X : Nat → Bool} {S : Nat → Bool} {WW : List Nat} {ι0 ι : Nam} {w0 w : World} {ds : List Deferred} {a : Go.Act} {b : Frame} {cs : List Frame}
theorem Inv.skip (R : Rg g n cx df ops ms E Hh V X) (hc : Closed ops.size ms S) (I : Inv n ops E Hh V X WW ι0 w0 ds S ι a w) {i : Nat} {o : Oper} (ho : ops[i]? = some o) (hS : S i = false) (hx : X i = false) :
    Inv n ops E Hh V X WW ι0 w0 ds (ins S i) ι (a.put o.dst undef) w := by
  have hv := ((R.st i o ho).no hx).2.1
  have hnt : ∀ b, ¬ Tch Hh X i b := fun b h => by rw [h.1] at hx; cases hx
  refine ⟨?_, ?_, ?_, ?_, ?_, ?_, I.old, I.size, I.heap, I.new, I.os, I.tape, I.out⟩
  · have := I.sz
    cases hd : o.dst <;> simp [Act.put, this]
  · intro t ht
    rw [R.slotI hc ho hS, dnOf_eq]
    cases hd : o.dst with
    | none =>
      rw [if_neg (by simp)]; exact I.env t ht
    | some d =>
      show VR _ _ ((a.tmps.setIfInBounds d undef).getD t undef)
      by_cases c : d = t
      · subst c
        rw [if_pos rfl, getD_set_eq _ _ (by rw [I.sz]; exact ht), hv]
        exact ⟨#[], rfl, rfl⟩
      · rw [if_neg (by simp; exact c), getD_set_ne _ _ c]
        exact I.env t ht
  · rw [put_defers]; exact I.dfr
  · intro b x hb
    rw [cur_other (hnt b)] at hb; exact I.blk b x hb
  · intro b b' x x' m m' hb hb' hm hm' hB
    rw [cur_other (hnt b)] at hb
    rw [cur_other (hnt b')] at hb'
    exact I.inj b b' x x' m m' hb hb' hm hm' hB
  · intro b m hb
    rcases I.dom b m hb with h | ⟨k, hk, hsk, h1, h2⟩
    · exact .inl h
    · refine .inr ⟨k, hk, ?_, h1, h2⟩
      by_cases e : k = i
      · subst e; exact ins_same _ _
      · rw [ins_ne _ e]; exact hsk
/-- the slots an operation looks at, as numbers -/
noncomputable def rdl (g : G) (ops : Array Oper) (o : Oper) : List Nat := ((rdsOf g ops o).filter (fun s => s != 0)).map (fun s => s - 1)
theorem mem_rdl {o : Oper} {t : Nat} : t ∈ rdl g ops o ↔ t + 1 ∈ rdsOf g ops o := by
  unfold rdl
  rw [List.mem_map]
  constructor
  · rintro ⟨s, hs, rfl⟩
    rw [List.mem_filter] at hs
    have : s ≠ 0 := by simpa using hs.2
    rw [show s - 1 + 1 = s by omega]; exact hs.1
  · intro h
    exact ⟨t + 1, by rw [List.mem_filter]; exact ⟨h, by simp⟩, by omega⟩
theorem slots_mem {t : Nat} : ∀ {l : List Operand}, t + 1 ∈ slots l ↔ .tmp t ∈ l
  | [] => ⟨(fun h => by cases h), (fun h => by cases h)⟩
  | x :: l => by
    have e : slots (x :: l) = slot x ++ slots l := rfl
    rw [e, List.mem_append, List.mem_cons, slots_mem]
    have : t + 1 ∈ slot x ↔ Operand.tmp t = x := by
      cases x with
      | tmp u =>
        show t + 1 ∈ [u + 1] ↔ _
        rw [List.mem_singleton]
        exact ⟨fun h => by have : t = u := by omega
                           rw [this], fun h => by injection h with h; rw [h]⟩
      | _ => exact ⟨(fun h => by cases h), (fun h => by cases h)⟩
    rw [this]
theorem rds_eq {o : Oper} : rdsOf g ops o = guardSlot ops.toList o ++ slots o.op.operands.toList := rfl
theorem rds_lt {o : Oper} (hok : operOk n ops.toList o = true) {t : Nat} (h : t + 1 ∈ rdsOf g ops o) : t < n := by
  rw [rds_eq, List.mem_append] at h
  rcases h with h | h
  · unfold operOk at hok
    simp only [Bool.and_eq_true] at hok
    have h3 := hok.2
    unfold guardSlot at h
    cases hg : o.guard with
    | none => rw [hg] at h; cases h
    | some jw =>
      obtain ⟨j, wn⟩ := jw
      rw [hg] at h h3
      dsimp only at h h3
      cases hj : ops.toList[j]? with
      | none => rw [hj] at h; cases h
      | some x =>
        rw [hj] at h h3
        dsimp only at h h3
        rw [List.mem_singleton] at h
        cases hd : x.dst with
        | none => rw [hd] at h3; cases h3
        | some d =>
          rw [hd] at h3
          have h3 : Nat.blt d n = true := h3
          have : dnOf x = d + 1 := by unfold dnOf; rw [hd]
          rw [this] at h
          have := ble_blt h3
          omega
  · have h1 := slots_mem.1 h
    have := List.all_eq_true.1 (oper_opnds hok) _ h1
    exact ble_blt this
/-- an operand, of the cut environment -/
theorem ev_mask {o : Oper} {en : Env} (hok : operOk n ops.toList o = true) (hn : n ≤ 256) : ∀ x ∈ o.op.operands.toList, (ev x).f (maskE en (rdl g ops o)) = (ev x).f en := by
  intro x hx
  have h256 : ∀ y ∈ rdl g ops o, y < 256 := fun y hy => Nat.lt_of_lt_of_le (rds_lt hok (mem_rdl.1 hy)) hn
  cases x with
  | tmp t =>
    have hm : t + 1 ∈ rdsOf g ops o := by rw [rds_eq]; exact List.mem_append_right _ (slots_mem.2 hx)
    show (gT t).f (maskE en (rdl g ops o)) = (gT t).f en
    rw [maskE_get (Nat.lt_of_lt_of_le (rds_lt hok hm) hn) h256, if_pos (mem_rdl.2 hm)]
  | _ => rfl
theorem gd_mask {o : Oper} {en : Env} (hok : operOk n ops.toList o = true) (hn : n ≤ 256) : gdT ops.toList o (maskE en (rdl g ops o)) = gdT ops.toList o en := by
  have h256 : ∀ y ∈ rdl g ops o, y < 256 := fun y hy => Nat.lt_of_lt_of_le (rds_lt hok (mem_rdl.1 hy)) hn
  unfold gdT
  cases hg : o.guard with
  | none => rfl
  | some jw =>
    obtain ⟨j, wn⟩ := jw
    dsimp only
    cases ht : dstAt ops.toList j with
    | none => rfl
    | some t =>
      dsimp only
      have hm : t + 1 ∈ rdsOf g ops o := by
        rw [rds_eq]
        refine List.mem_append_left _ ?_
        unfold guardSlot
        rw [hg]
        dsimp only
        unfold dstAt at ht
        cases hj : ops.toList[j]? with
        | none => rw [hj] at ht; cases ht
        | some x =>
          rw [hj] at ht
          dsimp only at ht ⊢
          have : dnOf x = t + 1 := by unfold dnOf; rw [ht]
          rw [this]; exact List.mem_singleton.2 rfl
      rw [maskE_get (Nat.lt_of_lt_of_le (rds_lt hok hm) hn) h256, if_pos (mem_rdl.2 hm)]
/-- what the guard says is what the model asks -/
theorem gdT_ok {ι : Nam} {en : Env} {o : Oper} (hok : operOk n ops.toList o = true) (hE : EnvR ι n en a.tmps) :
    (gdT ops.toList o en = .t → Region.wanted o (yielded ops a.tmps) = true) ∧ (gdT ops.toList o en = .f → Region.wanted o (yielded ops a.tmps) = false) := by
  cases hg : o.guard with
  | none =>
    have e : gdT ops.toList o en = .t := by unfold gdT; rw [hg]
    rw [e]
    exact ⟨(fun _ => by unfold Region.wanted; rw [hg]), (fun h => by cases h)⟩
  | some jw =>
    obtain ⟨j, wn⟩ := jw
    cases ht : dstAt ops.toList j with
    | none =>
      have e : gdT ops.toList o en = .none := by unfold gdT; rw [hg]; dsimp only; rw [ht]; rfl
      rw [e]
      exact ⟨(fun h => by cases h), (fun h => by cases h)⟩
    | some t =>
      have e : gdT ops.toList o en = gsel wn ((gT t).f en) := by unfold gdT; rw [hg]; dsimp only; rw [ht]
      rw [e]
      exact guard_ok hok hE hg ht
theorem opK_plain {op : Op} {x : Act} (hk : opK g op = .plain x) : x = aop g op ∨ ∀ en h, x.f en h = .fail := by
  cases op with
  | call c =>
    cases hc : c.callee with
    | value f => simp only [opK, hc] at hk; cases hk
    | invoke r m => simp only [opK, hc] at hk; cases hk; exact .inl rfl
    | builtin bb => cases bb <;> first
        | (simp only [opK, hc] at hk; cases hk; exact .inl rfl)
        | (simp only [opK, hc] at hk; cases hk)
  | defer c => cases hc : c.callee <;> simp only [opK, hc] at hk <;> cases hk <;> exact .inr fun _ _ => rfl
  | _ => cases hk; exact .inl rfl
theorem opK_call {op : Op} {f : Operand} {as : List Operand} (hk : opK g op = .call f as) : ∃ c, op = .call c ∧ c.callee = .value f ∧ as = c.args.toList := by
  cases op with
  | call c =>
    cases hc : c.callee with
    | value f0 => simp only [opK, hc] at hk; cases hk; exact ⟨c, rfl, hc, rfl⟩
    | invoke r m => simp only [opK, hc] at hk; cases hk
    | builtin bb => cases bb <;> (simp only [opK, hc] at hk; cases hk)
  | defer c => cases hc : c.callee <;> (simp only [opK, hc] at hk; cases hk)
  | _ => cases hk
theorem Inv.op (hg : GOk P g) (R : Rg g n cx df ops ms E Hh V X) (hc : Closed ops.size ms S) (I : Inv n ops E Hh V X WW ι0 w0 ds S ι a w) (hcx : CxOk P cx) (k0 : WR ι0 (Hh 0) w0) (hG : GI ι0)
    {i : Nat} {rest : List Nat} {kk : List Item} {o : Oper} (ho : ops[i]? = some o) (hS : S i = false) (hr : ∀ k, (nthN ms i).testBit k = true → S k = true) (hWW : X i = true → ∀ b ∈ wl Hh i, b ∈ WW) :
    ∃ ι2 a2 w2, Steps P (lone (St b a (.inRegion ops (i :: rest) :: kk)) cs w) (lone (St b a2 (.inRegion ops rest :: kk)) cs w2) ∧ Inv n ops E Hh V X WW ι0 w0 ds (ins S i) ι2 a2 w2 := by
  have hi := opLt ho
  have hok := R.ok i o ho
  have hop := oper_opnds hok
  obtain ⟨_, _, _, hE1, _⟩ := R.text i (Nat.le_of_lt hi)
  have hn := hE1.most
  have hE := I.en R hc ho hS hr (l := rdl g ops o) (fun t ht => ⟨rds_lt hok (mem_rdl.1 ht), mem_rdl.1 ht⟩)
  have hgd := gdT_ok hok hE
  rw [gd_mask hok hn] at hgd
  have hGi := I.gi R k0 hG (Nat.le_of_lt hi)
  cases hx : X i with
  | false =>
    obtain ⟨h1, _, _⟩ := (R.st i o ho).no hx
    have hw := hgd.2 h1
    have hstep : Go.step P (lone (St b a (.inRegion ops (i :: rest) :: kk)) cs w) = .next (lone (St b (a.put ((ops[i]?).bind (·.dst)) undef) (.inRegion ops rest :: kk)) cs w) :=
      st_op_skip (by rw [ho]; exact hw)
    rw [ho] at hstep
    exact ⟨ι, a.put o.dst undef, w, .one hstep, I.skip R hc ho hS hx⟩
  | true =>
    obtain ⟨h1, h2⟩ := (R.st i o ho).run hx
    have hw := hgd.1 h1
    have hwr := I.wr R hc ho hS hr hx
    have hev := ev_mask (g := g) (en := E i) hok hn
    have hdr := R.dr i o ho
    cases hk : opK g o.op with
    | plain x =>
      rw [hk] at h2
      obtain ⟨e, _⟩ := h2
      have e' : x.f (maskE (E i) (rdl g ops o)) (Hh i) = .ok (V i) (Hh (i + 1)) := by
        rcases opK_plain hk with rfl | hf
        · rw [aop_congr o.op hev]; exact e
        · rw [hf] at e; cases e
      obtain ⟨ι', W, v', w', hs, hv, hL⟩ := plain_step (b := b) (cs := cs) (rest := rest) (kk := kk) hg hwr hE hGi ho hop hw hk e' (fun f hf bl hbl => by
        rw [acc_congr o.op hev hf] at hbl
        right
        unfold recAt recO
        rw [hf]
        exact List.mem_append_left _ hbl)
      obtain ⟨ι2, hI⟩ := I.step R hc ho hS hr hx (hWW hx) hL hv
      exact ⟨ι2, _, w', hs, hI⟩
    | call f as =>
      rw [hk] at h2
      obtain ⟨e, _⟩ := h2
      obtain ⟨c, hoc, hcv, rfl⟩ := opK_call hk
      have hops : ∀ y ∈ c.operands.toList, (ev y).f (maskE (E i) (rdl g ops o)) = (ev y).f (E i) := fun y hy => hev y (by rw [hoc]; exact hy)
      have hf : (ev f).f (maskE (E i) (rdl g ops o)) = (ev f).f (E i) := hops f (by unfold Call.operands; rw [hcv]; simp)
      have has : (opsL c.args.toList).f (maskE (E i) (rdl g ops o)) = (opsL c.args.toList).f (E i) := opsL_congr _ (fun y hy => hops y (by
        unfold Call.operands
        rw [Array.toList_append]
        exact List.mem_append_right _ hy))
      have hcall : (recAt E Hh i o).call = true := by
        have : accOf o.op = none := by rw [hoc]; unfold accOf; dsimp only; rw [hcv]
        unfold recAt recO
        rw [this]
      have hwr' : WR (cutN ι (Hh i).next) (Hh i) w := ⟨hwr.most, hwr.fresh, fun b x _ h1 h2 => hwr.blk b x (.inl hcall) h1 h2, fun b b' x x' m m' _ _ => hwr.inj b b' x x' m m' (.inl hcall) (.inl hcall)⟩
      obtain ⟨ι', W, v', w', hs, hv, hwr2, hext⟩ := call_step (b := b) (cs := cs) (rest := rest) (kk := kk) hcx hwr' hE hGi ho hop hw hk (v := V i) (h' := Hh (i + 1)) (by rw [hf, has]; exact e)
      obtain ⟨ι2, hI⟩ := I.step R hc ho hS hr hx (hWW hx) (Loc.of hwr' hwr2 hext) hv
      exact ⟨ι2, _, w', hs, hI⟩
    | defer f as => rw [hk] at hdr; cases hdr
    | recover => rw [hk] at hdr; cases hdr
theorem Rg.ready (R : Rg g n cx df ops ms E Hh V X) (hc : Closed ops.size ms S) {i : Nat} {o : Oper} (ho : ops[i]? = some o) (he : ∀ e ∈ edgesOf o, S e = true) : ∀ k, (nthN ms i).testBit k = true → S k = true := by
  intro k hb
  obtain ⟨e, hm, h⟩ := R.msk i o k ho hb
  rcases h with rfl | h
  · exact he k hm
  · exact hc e k (Nat.lt_trans (R.es i o ho e hm) (opLt ho)) (he e hm) h
theorem Rg.closed (_R : Rg g n cx df ops ms E Hh V X) (hc : Closed ops.size ms S) {i : Nat} (hr : ∀ k, (nthN ms i).testBit k = true → S k = true) : Closed ops.size ms (ins S i) := by
  intro j k hj hs hb
  by_cases ck : k = i
  · subst ck; exact ins_same _ _
  rw [ins_ne _ ck]
  by_cases cj : j = i
  · subst cj; exact hr k hb
  · rw [ins_ne _ cj] at hs; exact hc j k hj hs hb
def SL (listed : Array Bool) : Nat → Bool := fun j => listed.getD j false
theorem SL_set {listed : Array Bool} {i : Nat} (hi : i < listed.size) : SL (listed.setIfInBounds i true) = ins (SL listed) i := by
  funext j
  unfold SL ins
  by_cases c : j = i
  · subst c; simp [hi]
  · rw [if_neg c, Array.getD_eq_getD_getElem?, Array.getElem?_setIfInBounds_ne (fun e => c e.symm)]
    show _ = listed.getD j false
    rw [Array.getD_eq_getD_getElem?]
theorem mem_edges {o : Oper} {e : Edge} (he : e ∈ o.after) (hb : Region.binds .any e = true) : e.on ∈ edgesOf o := by
  unfold edgesOf
  rw [List.mem_map]
  exact ⟨e, by rw [List.mem_filter]; exact ⟨by simpa using he, hb⟩, rfl⟩
theorem edges_mem {o : Oper} {x : Nat} (h : x ∈ edgesOf o) : ∃ e ∈ o.after, Region.binds .any e = true ∧ e.on = x := by
  unfold edgesOf at h
  rw [List.mem_map] at h
  obtain ⟨e, he, rfl⟩ := h
  rw [List.mem_filter] at he
  exact ⟨e, by simpa using he.1, he.2, rfl⟩
theorem draw_go (hg : GOk P g) (R : Rg g n cx df ops ms E Hh V X) (hcx : CxOk P cx) (k0 : WR ι0 (Hh 0) w0) (hG : GI ι0) {kk : List Item} (hWW : ∀ i, i < ops.size → X i = true → ∀ b ∈ wl Hh i, b ∈ WW) :
    ∀ (fuel t : Nat) (listed : Array Bool) (ι : Nam) (a : Go.Act) (w : World), listed.size = ops.size → Closed ops.size ms (SL listed) → Inv n ops E Hh V X WW ι0 w0 ds (SL listed) ι a w → cnt (SL listed) ops.size ≤ fuel →
      ∃ ι2 a2 w2 S2, Steps P (lone (St b a (.inRegion ops (Region.linearise.go .any ops fuel t listed []) :: kk)) cs w) (lone (St b a2 (.inRegion ops [] :: kk)) cs w2) ∧ Inv n ops E Hh V X WW ι0 w0 ds S2 ι2 a2 w2 ∧ ∀ j, j < ops.size → S2 j = true := by
  intro fuel
  induction fuel with
  | zero =>
    intro t listed ι a w hsz hc I hcnt
    refine ⟨ι, a, w, SL listed, ?_, I, cnt_zero (by omega)⟩
    simp only [Region.linearise.go, List.reverse_nil]
    exact .refl _ _
  | succ fuel ih =>
    intro t listed ι a w hsz hc I hcnt
    simp only [Region.linearise.go]
    change ∃ ι2 a2 w2 S2, Steps P (lone (St b a (.inRegion ops (match (Region.ready .any ops listed)[t % (Region.ready .any ops listed).length]? with
      | some i => Region.linearise.go .any ops fuel (t / (Region.ready .any ops listed).length) (listed.setIfInBounds i true) [i]
      | none => [].reverse) :: kk)) cs w) _ ∧ _ ∧ _
    cases hi : (Region.ready .any ops listed)[t % (Region.ready .any ops listed).length]? with
    | none =>
      have hnil : Region.ready .any ops listed = [] := by
        cases hr : Region.ready .any ops listed with
        | nil => rfl
        | cons x xs =>
          rw [hr] at hi
          have hlt : t % (x :: xs).length < (x :: xs).length := Nat.mod_lt _ (by simp)
          simp at hi
          simp at hlt
          omega
      refine ⟨ι, a, w, SL listed, .refl _ _, I, cnt_zero ?_⟩
      by_cases hz : cnt (SL listed) ops.size = 0
      · exact hz
      · exfalso
        obtain ⟨j, hj, hs, hall⟩ := cnt_pos hz
        obtain ⟨o, ho⟩ := opAt hj
        have : j ∈ Region.ready .any ops listed := by
          rw [mem_ready]
          refine ⟨?_, o, ho, fun e he hb => ?_⟩
          · have : listed.getD j false = false := hs
            have hlt : j < listed.size := by omega
            simp [hlt] at this ⊢
            exact this
          · exact hall e.on (R.es j o ho e.on (mem_edges he hb))
        rw [hnil] at this
        cases this
    | some i =>
      have hmem := List.mem_of_getElem? hi
      rw [mem_ready] at hmem
      obtain ⟨hun, o, ho, hall⟩ := hmem
      have hilt : i < listed.size := by rw [hsz]; exact opLt ho
      have hS : SL listed i = false := by
        unfold SL
        simp [hilt] at hun ⊢
        exact hun
      have he : ∀ x ∈ edgesOf o, SL listed x = true := fun x hx => by
        obtain ⟨e, h1, h2, rfl⟩ := edges_mem hx
        exact hall e h1 h2
      have hr := R.ready hc ho he
      obtain ⟨ι1, a1, w1, hs1, I1⟩ := I.op (b := b) (cs := cs) (kk := kk) (rest := Region.linearise.go .any ops fuel (t / (Region.ready .any ops listed).length) (listed.setIfInBounds i true) []) hg R hc hcx k0 hG ho hS hr (hWW i (opLt ho))
      have hc1 := R.closed hc hr
      rw [← SL_set hilt] at I1 hc1
      have hcnt1 : cnt (SL (listed.setIfInBounds i true)) ops.size ≤ fuel := by
        rw [SL_set hilt]
        have := cnt_ins hS (opLt ho)
        omega
      obtain ⟨ι2, a2, w2, S2, hs2, I2, hall2⟩ := ih (t / (Region.ready .any ops listed).length) (listed.setIfInBounds i true) ι1 a1 w1 (by simp [hsz]) hc1 I1 hcnt1
      refine ⟨ι2, a2, w2, S2, ?_, I2, hall2⟩
      dsimp only
      rw [linearise_go_acc, List.reverse_singleton, List.singleton_append]
      exact hs1.trans hs2
end
end Go.Proofs.YtfmnninijakknaaGreatDoor.Am
namespace Go.Proofs.YtfmnninijakknaaGreatDoor.Am
theorem SF.refl (h : H) : SF h h [] := ⟨Nat.le_refl _, rfl, rfl, fun _ _ _ => rfl, fun _ hb => by cases hb⟩
theorem SF.trans {h0 h1 h2 : H} {W1 W2 : List Nat} (e : SF h0 h1 W1) (k : SF h1 h2 W2) : SF h0 h2 (W2 ++ W1) where
  next := Nat.le_trans e.next k.next
  log := by rw [k.log, e.log, List.append_assoc]
  ln := by rw [k.ln, e.ln, List.length_append]; omega
  kept b hb hn := by
    rw [k.kept b (Nat.lt_of_lt_of_le hb e.next) (fun hm => hn (List.mem_append_left _ hm)), e.kept b hb (fun hm => hn (List.mem_append_right _ hm))]
  live b hb hlt := by
    rcases List.mem_append.1 hb with h2 | h1
    · by_cases hm : b ∈ W1
      · exact e.live b hm hlt
      · obtain ⟨x, hx⟩ := k.live b h2 (Nat.lt_of_lt_of_le hlt e.next)
        exact ⟨x, by rw [← e.kept b hlt hm]; exact hx⟩
    · exact e.live b h1 hlt
theorem SF.toWl {Hh : Nat → H} {i : Nat} {W : List Nat} (e : SF (Hh i) (Hh (i + 1)) W) : SF (Hh i) (Hh (i + 1)) (wl Hh i) := by
  have : wl Hh i = W := by
    unfold wl
    rw [e.ln, e.log, Nat.add_sub_cancel_left, List.take_left]
  rw [this]; exact e
theorem cnt_le (S : Nat → Bool) : ∀ N, cnt S N ≤ N
  | 0 => Nat.le_refl _
  | N + 1 => by
    simp only [cnt]
    have := cnt_le S N
    split <;> omega
section
variable {P : Program} {g : G}
theorem draw_ok (hg : GOk P g) (hmix : P.follows .mixedOrders = true) : DrawOk P g := by
  intro n id ops hok cx ι en h df a w b cs p kk
  have hokm : ∀ (j : Nat) (o : Oper), ops[j]? = some o → operOk n ops.toList o = true := fun j o ho => by
    have : o ∈ ops.toList := by
      rw [← Array.getElem?_toList] at ho
      exact List.mem_of_getElem? ho
    exact List.all_eq_true.1 hok o this
  have eK : (kRegion g ops.toList true) = (match okD (masks [] (ops.toList.map (mkDO g ops.toList))) (ops.toList.map (mkDO g ops.toList)) (nat_lit 0) [] with
    | true => ⟨fun cx en h df => kDr (masks [] (ops.toList.map (mkDO g ops.toList))) cx (ops.toList.map (mkDO g ops.toList)) (nat_lit 0) [] en h df⟩
    | false => failK) := rfl
  rw [eK]
  clear eK
  generalize hms : masks [] (ops.toList.map (mkDO g ops.toList)) = ms
  cases hD : okD ms (ops.toList.map (mkDO g ops.toList)) (nat_lit 0) [] with
  | false => trivial
  | true =>
    dsimp only
    have hDk := okD_ok hD
    have hgetDO : ∀ (j : Nat) (o : Oper), ops[j]? = some o → (ops.toList.map (mkDO g ops.toList))[j]? = some (mkDO g ops.toList o) := fun j o ho => by
      rw [List.getElem?_map, Array.getElem?_toList, ho]; rfl
    have hdr : ∀ (j : Nat) (o : Oper), ops[j]? = some o → drawnOk (opK g o.op) = true := fun j o ho => (hDk j _ (hgetDO j o ho)).1
    have hdr' : ∀ o ∈ ops.toList, drawnOk (opK g o.op) = true := fun o ho => by
      obtain ⟨j, hj, e⟩ := List.mem_iff_getElem.1 ho
      exact hdr j o (by rw [← Array.getElem?_toList, List.getElem?_eq_getElem hj, e])
    by_cases hf : kDr ms cx (ops.toList.map (mkDO g ops.toList)) 0 [] en h df = .fail
    · show Out P b n kk cs ι h w _ (kDr ms cx (ops.toList.map (mkDO g ops.toList)) 0 [] en h df)
      rw [hf]; trivial
    · obtain ⟨E, Hh, V, X, e1, e2, e3, s1, _, s3⟩ := kDr_inv (ops := ops.toList) ops.toList 0 [] en h hdr' hf
      show Out P b n kk cs ι h w _ (kDr ms cx (ops.toList.map (mkDO g ops.toList)) 0 [] en h df)
      rw [e3]
      rw [Nat.zero_add, Array.length_toList]
      have st : ∀ (j : Nat) (o : Oper), ops[j]? = some o → StepT g cx df ops.toList E Hh V X j o := fun j o ho => by
        have := s1 j o (by rw [Array.getElem?_toList]; exact ho)
        rwa [Nat.zero_add] at this
      -- in the text's order
      have text : ∀ i, i ≤ ops.size → (∃ ι1 a1 w1, Pre P n cx ι1 (E i) (Hh i) df a1 w1 b cs) ∧ ∀ j, j < i → X j = true → SF (Hh j) (Hh (j + 1)) (wl Hh j) := by
        intro i
        induction i with
        | zero => intro _; exact ⟨⟨ι, a, w, by rw [e1, e2]; exact p⟩, fun j hj => by omega⟩
        | succ i ih =>
          intro hi
          obtain ⟨⟨ι1, a1, w1, p1⟩, hsf⟩ := ih (by omega)
          obtain ⟨o, ho⟩ := opAt (show i < ops.size by omega)
          have hst := st i o ho
          have hoo := hokm i o ho
          have hgd := gdT_ok hoo p1.env
          cases hx : X i with
          | false =>
            obtain ⟨_, hv, hH⟩ := hst.no hx
            refine ⟨⟨ι1, a1.put o.dst undef, w1, ?_⟩, fun j hj hxj => ?_⟩
            · rw [hst.env, hv, hH]
              exact ⟨p1.cok, put_env p1.env (oper_dst hoo) ⟨#[], rfl, rfl⟩, by rw [put_defers]; exact p1.dfr, p1.wr, p1.gi, p1.rd, p1.calm⟩
            · by_cases c : j = i
              · subst c; rw [hx] at hxj; cases hxj
              · exact hsf j (by omega) hxj
          | true =>
            obtain ⟨h1, h2⟩ := hst.run hx
            obtain ⟨ι2, a2, w2, _, s⟩ := op_step (rest := []) (kk := []) hg p1 ho hoo (hgd.1 h1) h2
            refine ⟨⟨ι2, a2, w2, ?_⟩, fun j hj hxj => ?_⟩
            · rw [hst.env]
              exact p1.next s
            · by_cases c : j = i
              · subst c
                obtain ⟨W, e⟩ := s.ext
                exact e.sf.toWl
              · exact hsf j (by omega) hxj
      have R : Rg g n cx df ops ms E Hh V X := by
        refine ⟨st, hokm, hdr, ?_, ?_, ?_, ?_, ?_, ?_⟩
        · intro k j ok oj hkj hk hj hxk hxj hb
          have := s3 k j ok oj hkj (by rw [Array.getElem?_toList]; exact hk) (by rw [Array.getElem?_toList]; exact hj) (by rw [Nat.zero_add]; exact hxk) (by rw [Nat.zero_add]; exact hxj)
          rw [Nat.zero_add, Nat.zero_add] at this
          rcases this with q | q | q
          · exact quiet_ok q
          · rw [hb] at q; cases q
          · exact compat_ok q
        · intro k j ok oj hkj hk hj hb
          obtain ⟨_, _, h3⟩ := hDk j _ (hgetDO j oj hj)
          have := apartAll_ok h3 k (mkDO g ops.toList ok) (by rw [List.nil_append, List.getElem?_take, if_pos hkj]; exact hgetDO k ok hk)
          rcases this with q | q
          · have q : (nthN ms (0 + j)).testBit (0 + k) = true := q
            rw [Nat.zero_add, Nat.zero_add, hb] at q; cases q
          · exact q
        · intro j o ho e he
          obtain ⟨_, h2, _⟩ := hDk j _ (hgetDO j o ho)
          have := allLt_ok h2 e he
          have this : e < 0 + j := this
          omega
        · intro j o k ho hb
          have hat := masks_at (ops.toList.map (mkDO g ops.toList)) [] j _ (hgetDO j o ho) (fun e he => by
            obtain ⟨_, h2, _⟩ := hDk j _ (hgetDO j o ho)
            exact allLt_ok h2 e he)
          rw [hms] at hat
          have hat : nthN ms (0 + j) = orMask ms (edgesOf o) := hat
          rw [Nat.zero_add] at hat
          rw [hat] at hb
          exact orMask_bit hb
        · intro i hi
          obtain ⟨⟨ι1, a1, w1, p1⟩, _⟩ := text i hi
          exact ⟨ι1, a1.tmps, w1, p1.env, p1.wr⟩
        · intro i hi hx
          exact (text (i + 1) (by omega)).2 i (by omega) hx
      -- all that is written
      have tot : ∀ i, i ≤ ops.size → ∃ W, SF (Hh 0) (Hh i) W ∧ ∀ j, j < i → X j = true → ∀ x ∈ wl Hh j, x ∈ W := by
        intro i
        induction i with
        | zero => intro _; exact ⟨[], SF.refl _, fun j hj => by omega⟩
        | succ i ih =>
          intro hi
          obtain ⟨W, hW, hm⟩ := ih (by omega)
          cases hx : X i with
          | false =>
            obtain ⟨o, ho⟩ := opAt (show i < ops.size by omega)
            rw [((st i o ho).no hx).2.2]
            refine ⟨W, hW, fun j hj hxj => ?_⟩
            by_cases c : j = i
            · subst c; rw [hx] at hxj; cases hxj
            · exact hm j (by omega) hxj
          | true =>
            refine ⟨wl Hh i ++ W, hW.trans (R.sf i (by omega) hx), fun j hj hxj x hxm => ?_⟩
            by_cases c : j = i
            · subst c; exact List.mem_append_left _ hxm
            · exact List.mem_append_right _ (hm j (by omega) hxj x hxm)
      obtain ⟨WW, hSF, hWW⟩ := tot ops.size (Nat.le_refl _)
      -- the start
      have L0 := Loc.draw p.wr (w.drawn + 1)
      have k1 := L0.wr p.wr
      have k0 : WR ι (Hh 0) (World.drawnTo w (w.drawn + 1)) := by rw [e2]; exact k1
      have hS0 : ∀ j, SL (Array.replicate ops.size false) j = false := fun j => by
        unfold SL
        by_cases c : j < ops.size <;> simp [c]
      have cur0 : ∀ x, curH Hh (Tch Hh X) (SL (Array.replicate ops.size false)) ops.size x = if x < (Hh 0).next then (Hh 0).get x else none := fun x => by
        rw [curH_later (i := 0) (Nat.zero_le _) (fun j _ _ hs => by rw [hS0] at hs; cases hs)]
        simp only [curH]
      have cur0' : ∀ x y, curH Hh (Tch Hh X) (SL (Array.replicate ops.size false)) ops.size x = some y → x < (Hh 0).next ∧ (Hh 0).get x = some y := fun x y hxy => by
        rw [cur0] at hxy
        by_cases c : x < (Hh 0).next
        · rw [if_pos c] at hxy; exact ⟨c, hxy⟩
        · rw [if_neg c] at hxy; cases hxy
      have I0 : Inv n ops E Hh V X WW ι (World.drawnTo w (w.drawn + 1)) a.defers (SL (Array.replicate ops.size false)) ι a (World.drawnTo w (w.drawn + 1)) := by
        refine ⟨p.env.size, fun t ht => ?_, rfl, fun x y hxy => ?_, fun x x' y y' m m' hx hx' hm hm' hB => ?_, fun x m hm => .inl (k0.lt hm), fun _ _ => rfl, Nat.le_refl _, fun _ _ _ => rfl, fun x m hx hm => ?_, rfl, rfl, rfl⟩
        · rw [curE_later (i := 0) (Nat.zero_le _) (fun j _ _ hs => by rw [hS0] at hs; cases hs)]
          show VR ι ((gT t).f (E 0)) _
          rw [e1]
          exact p.env.at_ t ht
        · obtain ⟨h1, h2⟩ := cur0' x y hxy
          exact k0.blk x y trivial h1 h2
        · obtain ⟨h1, h2⟩ := cur0' x y hx
          obtain ⟨h3, h4⟩ := cur0' x' y' hx'
          exact k0.inj x x' y y' m m' trivial trivial h1 h3 h2 h4 hm hm' hB
        · rw [k0.fresh x hx] at hm; cases hm
      obtain ⟨ι2, a2, w2, S2, hs, I2, hall⟩ := draw_go (b := b) (cs := cs) (kk := kk) (cx := cx) hg R p.cok k0 p.gi hWW ops.size (w.tape w.drawn (.order b.fn id)) (Array.replicate ops.size false) ι a (World.drawnTo w (w.drawn + 1))
        (by simp) (fun j k _ hj => by rw [hS0] at hj; cases hj) I0 (cnt_le _ _)
      have hsch : Region.schedule (P.follows .mixedOrders) ops (w.tape w.drawn (.order b.fn id)) = Region.linearise.go .any ops ops.size (w.tape w.drawn (.order b.fn id)) (Array.replicate ops.size false) [] := by
        simp only [Region.schedule, hmix, Bool.true_or, if_true]
        rfl
      have hfirst := st_region_draw (P := P) (b := b) (a := a) (k := kk) (cs := cs) (w := w) (i := id) (ops := ops)
      rw [hsch] at hfirst
      -- the end
      have curN : ∀ x, x < (Hh ops.size).next → curH Hh (Tch Hh X) S2 ops.size x = (Hh ops.size).get x := fun x hx => by
        rw [← R.cur (Nat.le_refl _) hx]
        exact curH_agree fun k hk _ => hall k hk
      obtain ⟨_, _, _, hET, hWT⟩ := R.text ops.size (Nat.le_refl _)
      have hle : ι.le ι2 := fun x m hm => by
        rw [I2.old x (k0.lt hm)]; exact hm
      have hnext0 : (Hh 0).next ≤ (Hh ops.size).next := R.mono (Nat.zero_le _) (Nat.le_refl _)
      refine ⟨ι2, a2, w2, .head hfirst (hs.trans (.one st_region_end)), ?_, ?_, ?_, WW, ?_⟩
      · refine ⟨I2.sz, hET.most, fun t ht => ?_, hET.rest⟩
        have := I2.env t ht
        have e : curE (fun t => (gT t).f (E 0)) (dnAt ops) V S2 ops.size t = (gT t).f (E ops.size) := by
          rw [← R.slotE ht hET.most (Nat.le_refl _)]
          exact curE_agree fun k hk _ => hall k hk
        rw [e] at this; exact this
      · rw [I2.dfr]; exact p.dfr.mono hle
      · refine ⟨hWT.most, fun x hx => ?_, fun x y _ hx hy => ?_, fun x x' y y' m m' _ _ hx hx' hy hy' hm hm' hB => ?_⟩
        · cases hb : ι2 x with
          | none => rfl
          | some m =>
            exfalso
            rcases I2.dom x m hb with q | ⟨k, hk, _, _, _, q⟩
            · omega
            · have := R.mono (i := k + 1) (j := ops.size) (by omega) (Nat.le_refl _)
              omega
        · exact I2.blk x y (by rw [curN x hx]; exact hy)
        · exact I2.inj x x' y y' m m' (by rw [curN x hx]; exact hy) (by rw [curN x' hx']; exact hy') hm hm' hB
      · rw [← e2]
        exact ⟨hSF.next, I2.old, hSF.log, hSF.ln, hSF.kept, hSF.live, I2.size, I2.heap, I2.new, I2.os, I2.tape, I2.out⟩
end
end Go.Proofs.YtfmnninijakknaaGreatDoor.Am
