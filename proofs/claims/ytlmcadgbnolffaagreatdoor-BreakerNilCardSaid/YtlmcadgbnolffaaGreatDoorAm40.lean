/- The machine's soundness: drawn regions, put together; the whole machine. -/
import Derived.Test.YtlmcadgbnolffaaGreatDoorAm39
namespace Go.Proofs.YtlmcadgbnolffaaGreatDoor.Am
theorem SF.refl (h : H) : SF h h [] := ⟨Nat.le_refl _, rfl, rfl, fun _ _ _ => rfl, fun _ hb => by cases hb⟩
theorem SF.trans {h0 h1 h2 : H} {W1 W2 : List Nat} (e : SF h0 h1 W1) (k : SF h1 h2 W2) : SF h0 h2 (W2 ++ W1) where
  next := Nat.le_trans e.next k.next
  log := by rw [k.log, e.log, List.append_assoc]
  ln := by rw [k.ln, e.ln, List.length_append]; omega
  kept b hb hn := by
    rw [k.kept b (Nat.lt_of_lt_of_le hb e.next) (fun hm => hn (List.mem_append_left _ hm)), e.kept b hb (fun hm => hn (List.mem_append_right _ hm))]
  live b hb hlt := by
    rcases List.mem_append.1 hb with h2 | h1
    · by_cases hm : b ∈ W1
      · exact e.live b hm hlt
      · obtain ⟨x, hx⟩ := k.live b h2 (Nat.lt_of_lt_of_le hlt e.next)
        exact ⟨x, by rw [← e.kept b hlt hm]; exact hx⟩
    · exact e.live b h1 hlt
theorem SF.toWl {Hh : Nat → H} {i : Nat} {W : List Nat} (e : SF (Hh i) (Hh (i + 1)) W) : SF (Hh i) (Hh (i + 1)) (wl Hh i) := by
  have : wl Hh i = W := by
    unfold wl
    rw [e.ln, e.log, Nat.add_sub_cancel_left, List.take_left]
  rw [this]; exact e
theorem cnt_le (S : Nat → Bool) : ∀ N, cnt S N ≤ N
  | 0 => Nat.le_refl _
  | N + 1 => by
    simp only [cnt]
    have := cnt_le S N
    split <;> omega
section
variable {P : Program} {g : G}
theorem draw_ok (hg : GOk P g) (hmix : P.follows .mixedOrders = true) : DrawOk P g := by
  intro n id ops hok cx ι en h df a w b cs p kk
  have hokm : ∀ (j : Nat) (o : Oper), ops[j]? = some o → operOk n ops.toList o = true := fun j o ho => by
    have : o ∈ ops.toList := by
      rw [← Array.getElem?_toList] at ho
      exact List.mem_of_getElem? ho
    exact List.all_eq_true.1 hok o this
  have eK : (kRegion g ops.toList true) = (match okD (masks [] (ops.toList.map (mkDO g ops.toList))) (ops.toList.map (mkDO g ops.toList)) (nat_lit 0) [] with
    | true => ⟨fun cx en h df => kDr (masks [] (ops.toList.map (mkDO g ops.toList))) cx (ops.toList.map (mkDO g ops.toList)) (nat_lit 0) [] en h df⟩
    | false => failK) := rfl
  rw [eK]
  clear eK
  generalize hms : masks [] (ops.toList.map (mkDO g ops.toList)) = ms
  cases hD : okD ms (ops.toList.map (mkDO g ops.toList)) (nat_lit 0) [] with
  | false => trivial
  | true =>
    dsimp only
    have hDk := okD_ok hD
    have hgetDO : ∀ (j : Nat) (o : Oper), ops[j]? = some o → (ops.toList.map (mkDO g ops.toList))[j]? = some (mkDO g ops.toList o) := fun j o ho => by
      rw [List.getElem?_map, Array.getElem?_toList, ho]; rfl
    have hdr : ∀ (j : Nat) (o : Oper), ops[j]? = some o → drawnOk (opK g o.op) = true := fun j o ho => (hDk j _ (hgetDO j o ho)).1
    have hdr' : ∀ o ∈ ops.toList, drawnOk (opK g o.op) = true := fun o ho => by
      obtain ⟨j, hj, e⟩ := List.mem_iff_getElem.1 ho
      exact hdr j o (by rw [← Array.getElem?_toList, List.getElem?_eq_getElem hj, e])
    by_cases hf : kDr ms cx (ops.toList.map (mkDO g ops.toList)) 0 [] en h df = .fail
    · show Out P b n kk cs ι h w _ (kDr ms cx (ops.toList.map (mkDO g ops.toList)) 0 [] en h df)
      rw [hf]; trivial
    · obtain ⟨E, Hh, V, X, e1, e2, e3, s1, _, s3⟩ := kDr_inv (ops := ops.toList) ops.toList 0 [] en h hdr' hf
      show Out P b n kk cs ι h w _ (kDr ms cx (ops.toList.map (mkDO g ops.toList)) 0 [] en h df)
      rw [e3]
      rw [Nat.zero_add, Array.length_toList]
      have st : ∀ (j : Nat) (o : Oper), ops[j]? = some o → StepT g cx df ops.toList E Hh V X j o := fun j o ho => by
        have := s1 j o (by rw [Array.getElem?_toList]; exact ho)
        rwa [Nat.zero_add] at this
      -- in the text's order
      have text : ∀ i, i ≤ ops.size → (∃ ι1 a1 w1, Pre P n cx ι1 (E i) (Hh i) df a1 w1 b cs) ∧ ∀ j, j < i → X j = true → SF (Hh j) (Hh (j + 1)) (wl Hh j) := by
        intro i
        induction i with
        | zero => intro _; exact ⟨⟨ι, a, w, by rw [e1, e2]; exact p⟩, fun j hj => by omega⟩
        | succ i ih =>
          intro hi
          obtain ⟨⟨ι1, a1, w1, p1⟩, hsf⟩ := ih (by omega)
          obtain ⟨o, ho⟩ := opAt (show i < ops.size by omega)
          have hst := st i o ho
          have hoo := hokm i o ho
          have hgd := gdT_ok hoo p1.env
          cases hx : X i with
          | false =>
            obtain ⟨_, hv, hH⟩ := hst.no hx
            refine ⟨⟨ι1, a1.put o.dst undef, w1, ?_⟩, fun j hj hxj => ?_⟩
            · rw [hst.env, hv, hH]
              exact ⟨p1.cok, put_env p1.env (oper_dst hoo) ⟨#[], rfl, rfl⟩, by rw [put_defers]; exact p1.dfr, p1.wr, p1.gi, p1.rd, p1.calm⟩
            · by_cases c : j = i
              · subst c; rw [hx] at hxj; cases hxj
              · exact hsf j (by omega) hxj
          | true =>
            obtain ⟨h1, h2⟩ := hst.run hx
            obtain ⟨ι2, a2, w2, _, s⟩ := op_step (rest := []) (kk := []) hg p1 ho hoo (hgd.1 h1) h2
            refine ⟨⟨ι2, a2, w2, ?_⟩, fun j hj hxj => ?_⟩
            · rw [hst.env]
              exact p1.next s
            · by_cases c : j = i
              · subst c
                obtain ⟨W, e⟩ := s.ext
                exact e.sf.toWl
              · exact hsf j (by omega) hxj
      have R : Rg g n cx df ops ms E Hh V X := by
        refine ⟨st, hokm, hdr, ?_, ?_, ?_, ?_, ?_, ?_⟩
        · intro k j ok oj hkj hk hj hxk hxj hb
          have := s3 k j ok oj hkj (by rw [Array.getElem?_toList]; exact hk) (by rw [Array.getElem?_toList]; exact hj) (by rw [Nat.zero_add]; exact hxk) (by rw [Nat.zero_add]; exact hxj)
          rw [Nat.zero_add, Nat.zero_add] at this
          rcases this with q | q | q
          · exact quiet_ok q
          · rw [hb] at q; cases q
          · exact compat_ok q
        · intro k j ok oj hkj hk hj hb
          obtain ⟨_, _, h3⟩ := hDk j _ (hgetDO j oj hj)
          have := apartAll_ok h3 k (mkDO g ops.toList ok) (by rw [List.nil_append, List.getElem?_take, if_pos hkj]; exact hgetDO k ok hk)
          rcases this with q | q
          · have q : (nthN ms (0 + j)).testBit (0 + k) = true := q
            rw [Nat.zero_add, Nat.zero_add, hb] at q; cases q
          · exact q
        · intro j o ho e he
          obtain ⟨_, h2, _⟩ := hDk j _ (hgetDO j o ho)
          have := allLt_ok h2 e he
          have this : e < 0 + j := this
          omega
        · intro j o k ho hb
          have hat := masks_at (ops.toList.map (mkDO g ops.toList)) [] j _ (hgetDO j o ho) (fun e he => by
            obtain ⟨_, h2, _⟩ := hDk j _ (hgetDO j o ho)
            exact allLt_ok h2 e he)
          rw [hms] at hat
          have hat : nthN ms (0 + j) = orMask ms (edgesOf o) := hat
          rw [Nat.zero_add] at hat
          rw [hat] at hb
          exact orMask_bit hb
        · intro i hi
          obtain ⟨⟨ι1, a1, w1, p1⟩, _⟩ := text i hi
          exact ⟨ι1, a1.tmps, w1, p1.env, p1.wr⟩
        · intro i hi hx
          exact (text (i + 1) (by omega)).2 i (by omega) hx
      -- all that is written
      have tot : ∀ i, i ≤ ops.size → ∃ W, SF (Hh 0) (Hh i) W ∧ ∀ j, j < i → X j = true → ∀ x ∈ wl Hh j, x ∈ W := by
        intro i
        induction i with
        | zero => intro _; exact ⟨[], SF.refl _, fun j hj => by omega⟩
        | succ i ih =>
          intro hi
          obtain ⟨W, hW, hm⟩ := ih (by omega)
          cases hx : X i with
          | false =>
            obtain ⟨o, ho⟩ := opAt (show i < ops.size by omega)
            rw [((st i o ho).no hx).2.2]
            refine ⟨W, hW, fun j hj hxj => ?_⟩
            by_cases c : j = i
            · subst c; rw [hx] at hxj; cases hxj
            · exact hm j (by omega) hxj
          | true =>
            refine ⟨wl Hh i ++ W, hW.trans (R.sf i (by omega) hx), fun j hj hxj x hxm => ?_⟩
            by_cases c : j = i
            · subst c; exact List.mem_append_left _ hxm
            · exact List.mem_append_right _ (hm j (by omega) hxj x hxm)
      obtain ⟨WW, hSF, hWW⟩ := tot ops.size (Nat.le_refl _)
      -- the start
      have L0 := Loc.draw p.wr (w.drawn + 1)
      have k1 := L0.wr p.wr
      have k0 : WR ι (Hh 0) (World.drawnTo w (w.drawn + 1)) := by rw [e2]; exact k1
      have hS0 : ∀ j, SL (Array.replicate ops.size false) j = false := fun j => by
        unfold SL
        by_cases c : j < ops.size <;> simp [c]
      have cur0 : ∀ x, curH Hh (Tch Hh X) (SL (Array.replicate ops.size false)) ops.size x = if x < (Hh 0).next then (Hh 0).get x else none := fun x => by
        rw [curH_later (i := 0) (Nat.zero_le _) (fun j _ _ hs => by rw [hS0] at hs; cases hs)]
        simp only [curH]
      have cur0' : ∀ x y, curH Hh (Tch Hh X) (SL (Array.replicate ops.size false)) ops.size x = some y → x < (Hh 0).next ∧ (Hh 0).get x = some y := fun x y hxy => by
        rw [cur0] at hxy
        by_cases c : x < (Hh 0).next
        · rw [if_pos c] at hxy; exact ⟨c, hxy⟩
        · rw [if_neg c] at hxy; cases hxy
      have I0 : Inv n ops E Hh V X WW ι (World.drawnTo w (w.drawn + 1)) a.defers (SL (Array.replicate ops.size false)) ι a (World.drawnTo w (w.drawn + 1)) := by
        refine ⟨p.env.size, fun t ht => ?_, rfl, fun x y hxy => ?_, fun x x' y y' m m' hx hx' hm hm' hB => ?_, fun x m hm => .inl (k0.lt hm), fun _ _ => rfl, Nat.le_refl _, fun _ _ _ => rfl, fun x m hx hm => ?_, rfl, rfl, rfl⟩
        · rw [curE_later (i := 0) (Nat.zero_le _) (fun j _ _ hs => by rw [hS0] at hs; cases hs)]
          show VR ι ((gT t).f (E 0)) _
          rw [e1]
          exact p.env.at_ t ht
        · obtain ⟨h1, h2⟩ := cur0' x y hxy
          exact k0.blk x y trivial h1 h2
        · obtain ⟨h1, h2⟩ := cur0' x y hx
          obtain ⟨h3, h4⟩ := cur0' x' y' hx'
          exact k0.inj x x' y y' m m' trivial trivial h1 h3 h2 h4 hm hm' hB
        · rw [k0.fresh x hx] at hm; cases hm
      obtain ⟨ι2, a2, w2, S2, hs, I2, hall⟩ := draw_go (b := b) (cs := cs) (kk := kk) (cx := cx) hg R p.cok k0 p.gi hWW ops.size (w.tape w.drawn (.order b.fn id)) (Array.replicate ops.size false) ι a (World.drawnTo w (w.drawn + 1))
        (by simp) (fun j k _ hj => by rw [hS0] at hj; cases hj) I0 (cnt_le _ _)
      have hsch : Region.schedule (P.follows .mixedOrders) ops (w.tape w.drawn (.order b.fn id)) = Region.linearise.go .any ops ops.size (w.tape w.drawn (.order b.fn id)) (Array.replicate ops.size false) [] := by
        simp only [Region.schedule, hmix, Bool.true_or, if_true]
        rfl
      have hfirst := st_region_draw (P := P) (b := b) (a := a) (k := kk) (cs := cs) (w := w) (i := id) (ops := ops)
      rw [hsch] at hfirst
      -- the end
      have curN : ∀ x, x < (Hh ops.size).next → curH Hh (Tch Hh X) S2 ops.size x = (Hh ops.size).get x := fun x hx => by
        rw [← R.cur (Nat.le_refl _) hx]
        exact curH_agree fun k hk _ => hall k hk
      obtain ⟨_, _, _, hET, hWT⟩ := R.text ops.size (Nat.le_refl _)
      have hle : ι.le ι2 := fun x m hm => by
        rw [I2.old x (k0.lt hm)]; exact hm
      have hnext0 : (Hh 0).next ≤ (Hh ops.size).next := R.mono (Nat.zero_le _) (Nat.le_refl _)
      refine ⟨ι2, a2, w2, .head hfirst (hs.trans (.one st_region_end)), ?_, ?_, ?_, WW, ?_⟩
      · refine ⟨I2.sz, hET.most, fun t ht => ?_, hET.rest⟩
        have := I2.env t ht
        have e : curE (fun t => (gT t).f (E 0)) (dnAt ops) V S2 ops.size t = (gT t).f (E ops.size) := by
          rw [← R.slotE ht hET.most (Nat.le_refl _)]
          exact curE_agree fun k hk _ => hall k hk
        rw [e] at this; exact this
      · rw [I2.dfr]; exact p.dfr.mono hle
      · refine ⟨hWT.most, fun x hx => ?_, fun x y _ hx hy => ?_, fun x x' y y' m m' _ _ hx hx' hy hy' hm hm' hB => ?_⟩
        · cases hb : ι2 x with
          | none => rfl
          | some m =>
            exfalso
            rcases I2.dom x m hb with q | ⟨k, hk, _, _, _, q⟩
            · omega
            · have := R.mono (i := k + 1) (j := ops.size) (by omega) (Nat.le_refl _)
              omega
        · exact I2.blk x y (by rw [curN x hx]; exact hy)
        · exact I2.inj x x' y y' m m' (by rw [curN x hx]; exact hy) (by rw [curN x' hx']; exact hy') hm hm' hB
      · rw [← e2]
        exact ⟨hSF.next, I2.old, hSF.log, hSF.ln, hSF.kept, hSF.live, I2.size, I2.heap, I2.new, I2.os, I2.tape, I2.out⟩
end
end Go.Proofs.YtlmcadgbnolffaaGreatDoor.Am
