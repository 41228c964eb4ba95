/- The machine's soundness: drawn regions, put together; the whole machine. -/
/- The machine's soundness: functions without a body; what a run of the machine says of a call. -/
/- The machine's soundness: closed runs: a function without parameters, from a heap that holds tables alone. -/
/- The machine's soundness: calls whose results are known: a value and new blocks, renumbered. -/
/- The machine's soundness: a table of calls whose results are known. -/
import Derived.Test.YtmpkgddioiaonaaGreatDoorAm39
import Derived.Lib.Bytealg
import Derived.Below
namespace Go.Proofs.YtmpkgddioiaonaaGreatDoor.Am
theorem SF.refl (h : H) : SF h h [] := ⟨Nat.le_refl _, rfl, rfl, fun _ _ _ => rfl, fun _ hb => by cases hb⟩
theorem SF.trans {h0 h1 h2 : H} {W1 W2 : List Nat} (e : SF h0 h1 W1) (k : SF h1 h2 W2) : SF h0 h2 (W2 ++ W1) where
 next := Nat.le_trans e.next k.next
 log := by rw [k.log, e.log, List.append_assoc]
 ln := by rw [k.ln, e.ln, List.length_append]; omega
 kept b hb hn := by
  rw [k.kept b (Nat.lt_of_lt_of_le hb e.next) (fun hm => hn (List.mem_append_left _ hm)), e.kept b hb (fun hm => hn (List.mem_append_right _ hm))]
 live b hb hlt := by
  rcases List.mem_append.1 hb with h2 | h1
  ·by_cases hm : b ∈ W1
   ·exact e.live b hm hlt
   ·obtain ⟨x, hx⟩ := k.live b h2 (Nat.lt_of_lt_of_le hlt e.next)
    exact ⟨x, by rw [← e.kept b hlt hm]; exact hx⟩
  ·exact e.live b h1 hlt
theorem SF.toWl {Hh : Nat → H} {i : Nat} {W : List Nat} (e : SF (Hh i) (Hh (i + 1)) W) : SF (Hh i) (Hh (i + 1)) (wl Hh i) := by
 have : wl Hh i = W := by
  unfold wl
  rw [e.ln, e.log, Nat.add_sub_cancel_left, List.take_left]
 rw [this]; exact e
theorem cnt_le (S : Nat → Bool) : ∀ N, cnt S N ≤ N
 | 0 => Nat.le_refl _
 | N + 1 => by
   simp only [cnt]
   have := cnt_le S N
   split <;> omega
section
variable {P : Program} {g : G}
theorem draw_ok (hg : GOk P g) (hmix : P.follows .mixedOrders = true) : DrawOk P g := by
 intro n id ops hok cx ι en h df a w b cs p kk
 have hokm : ∀ (j : Nat) (o : Oper), ops[j]? = some o → operOk n ops.toList o = true := fun j o ho => by
  have : o ∈ ops.toList := by
   rw [← Array.getElem?_toList] at ho
   exact List.mem_of_getElem? ho
  exact List.all_eq_true.1 hok o this
 have eK : (kRegion g ops.toList true) = (match okD (masks [] (ops.toList.map (mkDO g ops.toList))) (ops.toList.map (mkDO g ops.toList)) (nat_lit 0) [] with
  | true => ⟨fun cx en h df => kDr (masks [] (ops.toList.map (mkDO g ops.toList))) cx (ops.toList.map (mkDO g ops.toList)) (nat_lit 0) [] en h df⟩
  | false => failK) := rfl
 rw [eK]
 clear eK
 generalize hms : masks [] (ops.toList.map (mkDO g ops.toList)) = ms
 cases hD : okD ms (ops.toList.map (mkDO g ops.toList)) (nat_lit 0) [] with
 | false => trivial
 | true =>
   dsimp only
   have hDk := okD_ok hD
   have hgetDO : ∀ (j : Nat) (o : Oper), ops[j]? = some o → (ops.toList.map (mkDO g ops.toList))[j]? = some (mkDO g ops.toList o) := fun j o ho => by
    rw [List.getElem?_map, Array.getElem?_toList, ho]; rfl
   have hdr : ∀ (j : Nat) (o : Oper), ops[j]? = some o → drawnOk (opK g o.op) = true := fun j o ho => (hDk j _ (hgetDO j o ho)).1
   have hdr' : ∀ o ∈ ops.toList, drawnOk (opK g o.op) = true := fun o ho => by
    obtain ⟨j, hj, e⟩ := List.mem_iff_getElem.1 ho
    exact hdr j o (by rw [← Array.getElem?_toList, List.getElem?_eq_getElem hj, e])
   by_cases hf : kDr ms cx (ops.toList.map (mkDO g ops.toList)) 0 [] en h df = .fail
   ·show Out P b n kk cs ι h w _ (kDr ms cx (ops.toList.map (mkDO g ops.toList)) 0 [] en h df)
    rw [hf]; trivial
   ·obtain ⟨E, Hh, V, X, e1, e2, e3, s1, _, s3⟩ := kDr_inv (ops := ops.toList) ops.toList 0 [] en h hdr' hf
    show Out P b n kk cs ι h w _ (kDr ms cx (ops.toList.map (mkDO g ops.toList)) 0 [] en h df)
    rw [e3]
    rw [Nat.zero_add, Array.length_toList]
    have st : ∀ (j : Nat) (o : Oper), ops[j]? = some o → StepT g cx df ops.toList E Hh V X j o := fun j o ho => by
     have := s1 j o (by rw [Array.getElem?_toList]; exact ho)
     rwa [Nat.zero_add] at this
    -- in the text's order
    have text : ∀ i, i ≤ ops.size → (∃ ι1 a1 w1, Pre P n cx ι1 (E i) (Hh i) df a1 w1 b cs) ∧ ∀ j, j < i → X j = true → SF (Hh j) (Hh (j + 1)) (wl Hh j) := by
     intro i
     induction i with
     | zero => intro _; exact ⟨⟨ι, a, w, by rw [e1, e2]; exact p⟩, fun j hj => by omega⟩
     | succ i ih =>
       intro hi
       obtain ⟨⟨ι1, a1, w1, p1⟩, hsf⟩ := ih (by omega)
       obtain ⟨o, ho⟩ := opAt (show i < ops.size by omega)
       have hst := st i o ho
       have hoo := hokm i o ho
       have hgd := gdT_ok hoo p1.env
       cases hx : X i with
       | false =>
         obtain ⟨_, hv, hH⟩ := hst.no hx
         refine ⟨⟨ι1, a1.put o.dst undef, w1, ?_⟩, fun j hj hxj => ?_⟩
         ·rw [hst.env, hv, hH]
          exact ⟨p1.cok, put_env p1.env (oper_dst hoo) ⟨#[], rfl, rfl⟩, by rw [put_defers]; exact p1.dfr, p1.wr, p1.gi, p1.rd, p1.calm⟩
         ·by_cases c : j = i
          ·subst c; rw [hx] at hxj; cases hxj
          ·exact hsf j (by omega) hxj
       | true =>
         obtain ⟨h1, h2⟩ := hst.run hx
         obtain ⟨ι2, a2, w2, _, s⟩ := op_step (rest := []) (kk := []) hg p1 ho hoo (hgd.1 h1) h2
         refine ⟨⟨ι2, a2, w2, ?_⟩, fun j hj hxj => ?_⟩
         ·rw [hst.env]
          exact p1.next s
         ·by_cases c : j = i
          ·subst c
           obtain ⟨W, e⟩ := s.ext
           exact e.sf.toWl
          ·exact hsf j (by omega) hxj
    have R : Rg g n cx df ops ms E Hh V X := by
     refine ⟨st, hokm, hdr, ?_, ?_, ?_, ?_, ?_, ?_⟩
     ·intro k j ok oj hkj hk hj hxk hxj hb
      have := s3 k j ok oj hkj (by rw [Array.getElem?_toList]; exact hk) (by rw [Array.getElem?_toList]; exact hj) (by rw [Nat.zero_add]; exact hxk) (by rw [Nat.zero_add]; exact hxj)
      rw [Nat.zero_add, Nat.zero_add] at this
      rcases this with q | q | q
      ·exact quiet_ok q
      ·rw [hb] at q; cases q
      ·exact compat_ok q
     ·intro k j ok oj hkj hk hj hb
      obtain ⟨_, _, h3⟩ := hDk j _ (hgetDO j oj hj)
      have := apartAll_ok h3 k (mkDO g ops.toList ok) (by rw [List.nil_append, List.getElem?_take, if_pos hkj]; exact hgetDO k ok hk)
      rcases this with q | q
      ·have q : (nthN ms (0 + j)).testBit (0 + k) = true := q
       rw [Nat.zero_add, Nat.zero_add, hb] at q; cases q
      ·exact q
     ·intro j o ho e he
      obtain ⟨_, h2, _⟩ := hDk j _ (hgetDO j o ho)
      have := allLt_ok h2 e he
      have this : e < 0 + j := this
      omega
     ·intro j o k ho hb
      have hat := masks_at (ops.toList.map (mkDO g ops.toList)) [] j _ (hgetDO j o ho) (fun e he => by
       obtain ⟨_, h2, _⟩ := hDk j _ (hgetDO j o ho)
       exact allLt_ok h2 e he)
      rw [hms] at hat
      have hat : nthN ms (0 + j) = orMask ms (edgesOf o) := hat
      rw [Nat.zero_add] at hat
      rw [hat] at hb
      exact orMask_bit hb
     ·intro i hi
      obtain ⟨⟨ι1, a1, w1, p1⟩, _⟩ := text i hi
      exact ⟨ι1, a1.tmps, w1, p1.env, p1.wr⟩
     ·intro i hi hx
      exact (text (i + 1) (by omega)).2 i (by omega) hx
    -- all that is written
    have tot : ∀ i, i ≤ ops.size → ∃ W, SF (Hh 0) (Hh i) W ∧ ∀ j, j < i → X j = true → ∀ x ∈ wl Hh j, x ∈ W := by
     intro i
     induction i with
     | zero => intro _; exact ⟨[], SF.refl _, fun j hj => by omega⟩
     | succ i ih =>
       intro hi
       obtain ⟨W, hW, hm⟩ := ih (by omega)
       cases hx : X i with
       | false =>
         obtain ⟨o, ho⟩ := opAt (show i < ops.size by omega)
         rw [((st i o ho).no hx).2.2]
         refine ⟨W, hW, fun j hj hxj => ?_⟩
         by_cases c : j = i
         ·subst c; rw [hx] at hxj; cases hxj
         ·exact hm j (by omega) hxj
       | true =>
         refine ⟨wl Hh i ++ W, hW.trans (R.sf i (by omega) hx), fun j hj hxj x hxm => ?_⟩
         by_cases c : j = i
         ·subst c; exact List.mem_append_left _ hxm
         ·exact List.mem_append_right _ (hm j (by omega) hxj x hxm)
    obtain ⟨WW, hSF, hWW⟩ := tot ops.size (Nat.le_refl _)
    -- the start
    have L0 := Loc.draw p.wr (w.drawn + 1)
    have k1 := L0.wr p.wr
    have k0 : WR ι (Hh 0) (World.drawnTo w (w.drawn + 1)) := by rw [e2]; exact k1
    have hS0 : ∀ j, SL (Array.replicate ops.size false) j = false := fun j => by
     unfold SL
     by_cases c : j < ops.size <;> simp [c]
    have cur0 : ∀ x, curH Hh (Tch Hh X) (SL (Array.replicate ops.size false)) ops.size x = if x < (Hh 0).next then (Hh 0).get x else none := fun x => by
     rw [curH_later (i := 0) (Nat.zero_le _) (fun j _ _ hs => by rw [hS0] at hs; cases hs)]
     simp only [curH]
    have cur0' : ∀ x y, curH Hh (Tch Hh X) (SL (Array.replicate ops.size false)) ops.size x = some y → x < (Hh 0).next ∧ (Hh 0).get x = some y := fun x y hxy => by
     rw [cur0] at hxy
     by_cases c : x < (Hh 0).next
     ·rw [if_pos c] at hxy; exact ⟨c, hxy⟩
     ·rw [if_neg c] at hxy; cases hxy
    have I0 : Inv n ops E Hh V X WW ι (World.drawnTo w (w.drawn + 1)) a.defers (SL (Array.replicate ops.size false)) ι a (World.drawnTo w (w.drawn + 1)) := by
     refine ⟨p.env.size, fun t ht => ?_, rfl, fun x y hxy => ?_, fun x x' y y' m m' hx hx' hm hm' hB => ?_, fun x m hm => .inl (k0.lt hm), fun _ _ => rfl, Nat.le_refl _, fun _ _ _ => rfl, fun x m hx hm => ?_, rfl, rfl, rfl⟩
     ·rw [curE_later (i := 0) (Nat.zero_le _) (fun j _ _ hs => by rw [hS0] at hs; cases hs)]
      show VR ι ((gT t).f (E 0)) _
      rw [e1]
      exact p.env.at_ t ht
     ·obtain ⟨h1, h2⟩ := cur0' x y hxy
      exact k0.blk x y trivial h1 h2
     ·obtain ⟨h1, h2⟩ := cur0' x y hx
      obtain ⟨h3, h4⟩ := cur0' x' y' hx'
      exact k0.inj x x' y y' m m' trivial trivial h1 h3 h2 h4 hm hm' hB
     ·rw [k0.fresh x hx] at hm; cases hm
    obtain ⟨ι2, a2, w2, S2, hs, I2, hall⟩ := draw_go (b := b) (cs := cs) (kk := kk) (cx := cx) hg R p.cok k0 p.gi hWW ops.size (w.tape w.drawn (.order b.fn id)) (Array.replicate ops.size false) ι a (World.drawnTo w (w.drawn + 1))
     (by simp) (fun j k _ hj => by rw [hS0] at hj; cases hj) I0 (cnt_le _ _)
    have hsch : Region.schedule (P.follows .mixedOrders) ops (w.tape w.drawn (.order b.fn id)) = Region.linearise.go .any ops ops.size (w.tape w.drawn (.order b.fn id)) (Array.replicate ops.size false) [] := by
     simp only [Region.schedule, hmix, Bool.true_or, if_true]
     rfl
    have hfirst := st_region_draw (P := P) (b := b) (a := a) (k := kk) (cs := cs) (w := w) (i := id) (ops := ops)
    rw [hsch] at hfirst
    -- the end
    have curN : ∀ x, x < (Hh ops.size).next → curH Hh (Tch Hh X) S2 ops.size x = (Hh ops.size).get x := fun x hx => by
     rw [← R.cur (Nat.le_refl _) hx]
     exact curH_agree fun k hk _ => hall k hk
    obtain ⟨_, _, _, hET, hWT⟩ := R.text ops.size (Nat.le_refl _)
    have hle : ι.le ι2 := fun x m hm => by
     rw [I2.old x (k0.lt hm)]; exact hm
    have hnext0 : (Hh 0).next ≤ (Hh ops.size).next := R.mono (Nat.zero_le _) (Nat.le_refl _)
    refine ⟨ι2, a2, w2, .head hfirst (hs.trans (.one st_region_end)), ?_, ?_, ?_, WW, ?_⟩
    ·refine ⟨I2.sz, hET.most, fun t ht => ?_, hET.rest⟩
     have := I2.env t ht
     have e : curE (fun t => (gT t).f (E 0)) (dnAt ops) V S2 ops.size t = (gT t).f (E ops.size) := by
      rw [← R.slotE ht hET.most (Nat.le_refl _)]
      exact curE_agree fun k hk _ => hall k hk
     rw [e] at this; exact this
    ·rw [I2.dfr]; exact p.dfr.mono hle
    ·refine ⟨hWT.most, fun x hx => ?_, fun x y _ hx hy => ?_, fun x x' y y' m m' _ _ hx hx' hy hy' hm hm' hB => ?_⟩
     ·cases hb : ι2 x with
      | none => rfl
      | some m =>
        exfalso
        rcases I2.dom x m hb with q | ⟨k, hk, _, _, _, q⟩
        ·omega
        ·have := R.mono (i := k + 1) (j := ops.size) (by omega) (Nat.le_refl _)
         omega
     ·exact I2.blk x y (by rw [curN x hx]; exact hy)
     ·exact I2.inj x x' y y' m m' (by rw [curN x hx]; exact hy) (by rw [curN x' hx']; exact hy') hm hm' hB
    ·rw [← e2]
     exact ⟨hSF.next, I2.old, hSF.log, hSF.ln, hSF.kept, hSF.live, I2.size, I2.heap, I2.new, I2.os, I2.tape, I2.out⟩
end
end Go.Proofs.YtmpkgddioiaonaaGreatDoor.Am
namespace Go.Proofs.YtmpkgddioiaonaaGreatDoor.Am
theorem cntB_ok (s : ByteArray) (c : Nat) (hc : c < 256) : ∀ (n i : Nat) (a : Nat), i + n = s.size →
 (Nat.rec (motive := fun _ => Nat → Nat → Nat) (fun _ a => a) (fun _ ih i a => sN (Bool.rec a (Nat.succ a) (Nat.beq ((Str.of s).byte i) c)) fun a' => ih (Nat.succ i) a') n i a : Nat) = a + (s.data.toList.drop i).count (UInt8.ofNat c)
 | 0, i, a, h => by
   have : s.data.toList.drop i = [] := List.drop_eq_nil_of_le (by have : s.data.toList.length = s.size := by simp
                                                                  omega)
   rw [this]; rfl
 | n + 1, i, a, h => by
   have hlt : i < s.data.toList.length := by have : s.data.toList.length = s.size := by simp
                                             omega
   show sN (Bool.rec a (Nat.succ a) (Nat.beq ((Str.of s).byte i) c)) (fun a' => Nat.rec (motive := fun _ => Nat → Nat → Nat) (fun _ a => a) (fun _ ih i a => sN (Bool.rec a (Nat.succ a) (Nat.beq ((Str.of s).byte i) c)) fun a' => ih (Nat.succ i) a') n (Nat.succ i) a') = _
   rw [sN_eq, cntB_ok s c hc n (i + 1) _ (by omega), List.drop_eq_getElem_cons hlt, List.count_cons, Str.byte_ok s i (by simpa using hlt)]
   have hb : (s.data.toList[i] == UInt8.ofNat c) = Nat.beq (s.data.toList[i]).toNat c := by
    rw [beq_dec, Bool.eq_iff_iff, beq_iff_eq, decide_eq_true_iff]
    constructor
    ·intro e; rw [e, UInt8.toNat_ofNat']; exact Nat.mod_eq_of_lt (by omega)
    ·intro e; rw [← e]; simp
   rw [hb]
   cases Nat.beq (s.data.toList[i]).toNat c
   ·simp
   ·simp; omega
theorem idxB_ok (s : ByteArray) (c : Nat) (hc : c < 256) : ∀ (n i : Nat), i + n = s.size →
 (Nat.rec (motive := fun _ => Nat → Int) (fun _ => .negSucc (nat_lit 0)) (fun _ ih i => Bool.rec (ih (Nat.succ i)) (.ofNat i) (Nat.beq ((Str.of s).byte i) c)) n i : Int) =
  if Lib.indexByte (s.data.toList.drop i) (UInt8.ofNat c) = -1 then -1 else Lib.indexByte (s.data.toList.drop i) (UInt8.ofNat c) + i
 | 0, i, h => by
   have : s.data.toList.drop i = [] := List.drop_eq_nil_of_le (by have : s.data.toList.length = s.size := by simp
                                                                  omega)
   rw [this]; rfl
 | n + 1, i, h => by
   have hlt : i < s.data.toList.length := by have : s.data.toList.length = s.size := by simp
                                             omega
   show (Bool.rec (Nat.rec (motive := fun _ => Nat → Int) (fun _ => .negSucc (nat_lit 0)) (fun _ ih i => Bool.rec (ih (Nat.succ i)) (.ofNat i) (Nat.beq ((Str.of s).byte i) c)) n (Nat.succ i)) (.ofNat i) (Nat.beq ((Str.of s).byte i) c) : Int) = _
   have ih := idxB_ok s c hc n (i + 1) (by omega)
   rw [List.drop_eq_getElem_cons hlt, Str.byte_ok s i (by simpa using hlt)]
   have hb : (s.data.toList[i] == UInt8.ofNat c) = Nat.beq (s.data.toList[i]).toNat c := by
    rw [beq_dec, Bool.eq_iff_iff, beq_iff_eq, decide_eq_true_iff]
    constructor
    ·intro e; rw [e, UInt8.toNat_ofNat']; exact Nat.mod_eq_of_lt (by omega)
    ·intro e; rw [← e]; simp
   have hge := Lib.indexByte_ge (s.data.toList.drop (i + 1)) (UInt8.ofNat c)
   unfold Lib.indexByte
   rw [hb]
   cases Nat.beq (s.data.toList[i]).toNat c
   ·simp only [Bool.false_eq_true, if_false]
    refine Eq.trans ih ?_
    generalize Lib.indexByte (s.data.toList.drop (i + 1)) (UInt8.ofNat c) = z at hge
    by_cases hz : z = -1
    ·subst hz; simp
    ·have : (z == -1) = false := by simp [hz]
     rw [this]
     simp only [Bool.false_eq_true, if_false]
     rw [if_neg hz, if_neg (by omega)]
     omega
   ·simp
def ExtIs (P : Program) (f : Nat) (e : Array Value → Sem Value) : Prop :=
 ∃ fn, P.funcs[f]? = some fn ∧ (fn.name == "runtime.NumGoroutine") = false ∧ fn.body.isNone = true ∧ (Extern.findNext fn).isNone = true ∧ Extern.find fn = some e
theorem callFunc_ext {P : Program} {f : Nat} {e : Array Value → Sem Value} (h : ExtIs P f e) {vs : Array Value} {w w' : World} {v : Value} (he : (e vs).run P w = .ok v w') : (callFunc f vs).run P w = .ok (.value v) w' := by
 obtain ⟨fn, hf, hn, hb, h1, h2⟩ := h
 have h1 : Extern.findNext fn = none := by
  cases hx : Extern.findNext fn with
  | none => rfl
  | some _ => rw [hx] at h1; cases h1
 unfold callFunc
 simp only [Sem.run_bind, run_program, Result.andThen_ok, hf, hn, Bool.false_eq_true, if_false, hb, if_true, run_mark, h1, h2, he, Sem.run_pure]
theorem u8_toUInt8 (c : Nat) : (Int.toNat (c : Int)).toUInt8 = UInt8.ofNat c := rfl
theorem digits_ok : ∀ (n t : Nat) (acc : Array Value), (∀ v ∈ acc.toList, v.oneCell' = true) →
 (Extern.BytealgMakeNoZero.digits n t acc).size = acc.size + n ∧ ∀ v ∈ (Extern.BytealgMakeNoZero.digits n t acc).toList, v.oneCell' = true
 | 0, _, acc, h => ⟨rfl, h⟩
 | n + 1, t, acc, h => by
   have := digits_ok n (t / 256) (acc.push (.int .u8 (Int.ofNat (t % 256)))) (fun v hv => by
    rw [Array.toList_push] at hv
    rcases List.mem_append.1 hv with hv | hv
    ·exact h v hv
    ·rw [List.mem_singleton] at hv; rw [hv]; rfl)
   refine ⟨?_, this.2⟩
   have h1 := this.1
   rw [Array.size_push] at h1
   show (Extern.BytealgMakeNoZero.digits n (t / 256) _).size = _
   omega
theorem run_noZero {P : Program} {ps rs : Array TypeId} {t el : TypeId} (ht : rs[0]? = some t) (hu : P.underlying t = some (.slice el)) (n : Nat) (hn : n ≤ 4000000) (w : World) :
 ∃ (cells : Array Value) (d : Nat), (Extern.BytealgMakeNoZero.makeNoZero ps rs #[.int .i64 (Int.ofNat n)]).run P w = .ok (.slice (some ⟨w.heap.size, 0, none⟩) n cells.size) (World.grown w d (.cells cells el)) ∧ n ≤ cells.size ∧ ∀ v ∈ cells.toList, v.oneCell' = true := by
 have hdef : Extern.BytealgMakeNoZero.makeNoZero ps rs #[.int .i64 (Int.ofNat n)] = (do
  let some t := rs[0]? | stuck "bytealg.MakeNoZero: no result type"
  let .slice elem ← underlying t | stuck "bytealg.MakeNoZero: slice type expected"
  if (Int.ofNat n) < 0 || (Int.ofNat n) > 2 ^ 48 then runtimePanic (.error "makeslice: len out of range")
  let cap ← choose (.appendCap (Int.ofNat n).toNat 0 elem)
  askRoom cap
  let bytes ← choose (.extern "internal/bytealg.MakeNoZero.bytes" 0)
  let a ← newRow elem (Extern.BytealgMakeNoZero.digits cap bytes #[])
  pure (.slice (some a) (Int.ofNat n).toNat cap)) := rfl
 obtain ⟨c, hc, hcn⟩ := run_cap (P := P) n 0 el w
 have hroom : ∀ w : World, (askRoom c).run P w = .ok () w := fun w => by
  unfold askRoom
  split
  ·rfl
  ·rfl
 obtain ⟨x, hx⟩ : ∃ x, (choose (.extern "internal/bytealg.MakeNoZero.bytes" 0)).run P (World.drawnTo w (w.drawn + 1)) = .ok x (World.drawnTo w (w.drawn + 2)) := by
  refine ⟨(Question.extern "internal/bytealg.MakeNoZero.bytes" 0).cut (w.tape (w.drawn + 1) (.extern "internal/bytealg.MakeNoZero.bytes" 0)), ?_⟩
  rw [run_choose, if_neg (by simp [Question.forced])]; rfl
 obtain ⟨d1, d2⟩ := digits_ok c x #[] (fun v hv => by simp at hv)
 have hsz : (Extern.BytealgMakeNoZero.digits c x #[]).size = c := by simpa using d1
 refine ⟨_, w.drawn + 2, ?_, by rw [hsz]; exact hcn, d2⟩
 rw [hdef, ht, hsz]
 have h1 : ¬ (decide ((n : Int) < 0) || decide ((n : Int) > 2 ^ 48)) = true := by
  have h2 : (2 : Int) ^ 48 = 281474976710656 := by decide
  simp only [Bool.or_eq_true, decide_eq_true_eq, not_or]
  exact ⟨by omega, by omega⟩
 have hnr : ∀ (w : World) (cells : Array Value), (newRow el cells).run P w = .ok ⟨w.heap.size, 0, none⟩ (World.grown w w.drawn (.cells cells el)) := fun w cells => run_newRow el cells w
 simp only [Sem.run_bind, run_und hu, Result.andThen_ok, Int.toNat_natCast, Int.ofNat_eq_natCast]
 rw [if_neg h1]
 simp only [Sem.run_bind, Result.andThen_ok, hc, hroom, hx, hnr, Sem.run_pure]
 rfl
theorem ext_ok {P : Program} {g : G} (h1 : ∀ f, g.ext f = 1 → ExtIs P f Extern.BytealgCount.count) (h2 : ∀ f, g.ext f = 2 → ExtIs P f Extern.BytealgIndexByte.indexByte)
 (h3 : ∀ f, g.ext f = 3 → ExtIs P f Extern.AbiNoEscape.same)
 (h4 : ∀ f, 16 ≤ g.ext f → ∃ ps rs t, rs[0]? = some t ∧ P.underlying t = some (.slice (g.ext f - 16)) ∧ ExtIs P f (Extern.BytealgMakeNoZero.makeNoZero ps rs)) : ExtOk P g := by
 intro f args h v h' _ e ι w vs k hG ha
 unfold extA at e
 split at e
 ·rename_i s c hx
  obtain ⟨x, xs, hv, hx1, hxs⟩ := VRs_cons ha
  obtain ⟨y, ys, rfl, hy1, hys⟩ := VRs_cons hxs
  cases VRs_nil hys
  obtain ⟨b, rfl, rfl⟩ := hx1
  cases hy1
  have hvs : vs = #[.string b, .int .u8 (c : Int)] := arr_of_toList hv
  subst hvs
  cases hc : Nat.ble c (nat_lit 255)
  ·rw [hc] at e; cases e
  ·rw [hc] at e
   rw [Nat.ble_eq] at hc
   cases e
   have hcn := cntB_ok b c (by have : c ≤ 255 := hc; omega) b.size 0 0 (by omega)
   refine .inl ⟨_, w, callFunc_ext (h1 f hx) (Lib.run_countString b c w), ι, [], ?_, k, Ext.refl _ _ _ k.fresh⟩
   rw [u8_toUInt8]
   have : cntB (Str.of b) c (Str.of b).len (nat_lit 0) = Lib.countByte b.data.toList (UInt8.ofNat c) := by
    rw [Str.of_len]
    refine Eq.trans hcn ?_
    rw [List.drop_zero, Nat.zero_add]; rfl
   rw [this]; rfl
 ·rename_i s c hx
  obtain ⟨x, xs, hv, hx1, hxs⟩ := VRs_cons ha
  obtain ⟨y, ys, rfl, hy1, hys⟩ := VRs_cons hxs
  cases VRs_nil hys
  obtain ⟨b, rfl, rfl⟩ := hx1
  cases hy1
  have hvs : vs = #[.string b, .int .u8 (c : Int)] := arr_of_toList hv
  subst hvs
  cases hc : Nat.ble c (nat_lit 255)
  ·rw [hc] at e; cases e
  ·rw [hc] at e
   rw [Nat.ble_eq] at hc
   rw [frc_eq] at e
   cases e
   have hcn := idxB_ok b c (by have : c ≤ 255 := hc; omega) b.size 0 (by omega)
   refine .inl ⟨_, w, callFunc_ext (h2 f hx) (Lib.run_indexByteString b c w), ι, [], ?_, k, Ext.refl _ _ _ k.fresh⟩
   rw [u8_toUInt8]
   have : idxB (Str.of b) c (Str.of b).len (nat_lit 0) = Lib.indexByte b.data.toList (UInt8.ofNat c) := by
    rw [Str.of_len]
    refine Eq.trans hcn ?_
    rw [List.drop_zero]
    split <;> simp_all
   rw [this]; rfl
 ·rename_i vv hx
  obtain ⟨x, xs, hv, hx1, hxs⟩ := VRs_cons ha
  cases VRs_nil hxs
  have hvs : vs = #[x] := arr_of_toList hv
  subst hvs
  cases e
  exact .inl ⟨x, w, callFunc_ext (h3 f hx) rfl, ι, [], hx1, k, Ext.refl _ _ _ k.fresh⟩
 ·rename_i n hne
  split at e
  ·rename_i hk hn hr
   rw [Nat.ble_eq] at hk hn
   have hr := H.room_iff.1 hr
   have hn : n ≤ 4000000 := hn
   obtain ⟨x, xs, hv, hx1, hxs⟩ := VRs_cons ha
   cases VRs_nil hxs
   cases hx1
   have hvs : vs = #[.int .i64 (Int.ofNat n)] := arr_of_toList hv
   subst hvs
   obtain ⟨ps, rs, t, hrs, hu, hex⟩ := h4 f hk
   obtain ⟨cells, d, hrun, hsz, hone⟩ := run_noZero (P := P) (ps := ps) hrs hu n hn w
   cases e
   have hL : Loc ι h w (ι.add h.next ⟨w.heap.size, 0, cells.size⟩) (h.new (.cells (Nat.add (Nat.sub (g.ext f) (nat_lit 16)) (nat_lit 2000000)) true (nat_lit 0) (nat_lit 0) (ofL (nat_lit 0) .nil))) (World.grown w d (.cells cells (g.ext f - 16))) [] :=
    Loc.mkNew k hr _ ⟨w.heap.size, 0, cells.size⟩ (.cells cells (g.ext f - 16)) (by simp [World.grown]) grown_old (Nat.le_refl _) grown_new
     ⟨cells, _, 0, 0, rfl, rfl, by show 0 + 0 ≤ cells.size; omega, Nat.zero_le _, fun i hi => absurd hi (Nat.not_lt_zero i), ⟨fun c => (by cases c), fun _ => rfl, fun _ _ => ⟨(Nat.add_sub_cancel ..).symm, .inl rfl⟩⟩⟩ rfl rfl rfl
   exact .inl ⟨_, _, callFunc_ext hex hrun, _, [], ⟨⟨w.heap.size, 0, cells.size⟩, _, cells.size, Nam.add_same _ _ _, rfl, hsz, by simp, .inr ⟨rfl, by show 0 + 0 + cells.size * 1 ≤ cells.size; omega⟩⟩, hL.wr k, hL.toExt⟩
  ·cases e
 ·cases e
theorem calls_of_run {P : Program} {g : G} (hg : GOk P g) (hmix : P.follows .mixedOrders = true) (hfn : FnsOk P g) (hext : ExtOk P g) (horc : OrcOk P g) {N f : Nat} {x : Fn} (hf : g.fn f = some x) {args v : AV} {h h' : H}
 (hno : g.orc f args h = none) (e : (run g (N + 1)).call f args h = .ok v h') {ι : Nam} {w : World} {vs : Array Value} (k : WR ι h w) (hG : GI ι) (ha : VRs ι args vs.toList) : EnterC P f vs w (CR ι h w v h') := by
 have hdr := draw_ok hg hmix
 have ih := run_ok hg hdr hfn hext horc N N none
 obtain ⟨hx, _⟩ := hfn f x hf
 have e : (match g.orc f args h with
  | some r => r
  | none => (match g.fn f with
    | some fn => enter g ⟨(run g N).call, (run g N).yld, N, none, g.meth⟩ fn args h
    | none => extA (g.ext f) args h)) = .ok v h' := e
 rw [hno, hf] at e
 exact enter_ok hg hdr ih rfl hf hx k hG ha e
theorem EnterC.calls {P : Program} {f : Nat} {vs : Array Value} {w : World} {R : Value → World → Prop} (h : EnterC P f vs w R) : Calls P f vs w fun o w' => ∃ v', o = .returned v' ∧ R v' w' := by
 intro cs
 obtain ⟨fr, v', w', hcr, hs, hl⟩ := h .normal cs (.inl rfl)
 obtain ⟨hm, hd, hk, hfr, fn, hfn', hr⟩ := hl
 exact ⟨.returned v', w', fr, ⟨v', rfl, hcr⟩, hs, hfr, hm, hd, hk, fn, by rw [hfr]; exact hfn', hr⟩
theorem noOrc {P : Program} {ext : Nat → Nat} : OrcOk P (gOf P ext) := fun _ _ _ _ _ e => by cases e
end Go.Proofs.YtmpkgddioiaonaaGreatDoor.Am
namespace Go.Proofs.YtmpkgddioiaonaaGreatDoor.Am
noncomputable section
def isTrue : AV → Bool
 | .bool true => true
 | _ => false
def step1 (m : Nat) (l : List Nat) : Option (List Nat) := List.rec (motive := fun _ => Option (List Nat)) (some []) (fun x r _ => Bool.rec none (some r) (Nat.ble m x)) l
def goGe (m : Nat) : Nat → List Nat → Option (List Nat) := Nat.rec (motive := fun _ => List Nat → Option (List Nat)) (step1 m)
 (fun _ ih l => List.rec (motive := fun _ => Option (List Nat)) (some []) (fun _ _ _ => Option.rec (motive := fun _ => Option (List Nat)) none ih (ih l)) l)
def isEnd : Option (List Nat) → Bool := Option.rec (motive := fun _ => Bool) false (fun l => List.rec (motive := fun _ => Bool) true (fun _ _ _ => false) l)
def allGe (m : Nat) (l : List Nat) : Bool := isEnd (goGe m (nat_lit 20) l)
def chkR : Res → Bool := Res.rec (motive := fun _ => Bool) false (fun v h => and2 (isTrue v) (allGe (nat_lit 64) h.log))
def okFn (P : Program) (f : Nat) : Bool :=
 match fnOf P f with
 | some x => (match P.funcs[f]? with
   | some fn => and2 (fnOk x) (Bool.rec true false (fn.name == "runtime.NumGoroutine"))
   | none => false)
 | none => true
def progOk (P : Program) : Bool := (List.range P.funcs.size).all (okFn P)
theorem fnsOk_of {P : Program} {ext : Nat → Nat} {orc : Nat → AV → H → Option Res} (h : progOk P = true) : FnsOk P (gOfO P ext orc) := by
 intro f x hx
 have hx : fnOf P f = some x := hx
 have hlt : f < P.funcs.size := by
  obtain ⟨fn, hf, _⟩ := (gOfO_ok P ext orc).fn f x hx
  exact (Array.getElem?_eq_some_iff.1 hf).1
 have h1 := List.all_eq_true.1 h f (List.mem_range.2 hlt)
 unfold okFn at h1
 rw [hx] at h1
 dsimp only at h1
 cases hf : P.funcs[f]? with
 | none => rw [hf] at h1; cases h1
 | some fn =>
   rw [hf] at h1
   dsimp only at h1
   obtain ⟨h2, h3⟩ := and2_ok h1
   refine ⟨h2, fun fn' e => ?_⟩
   cases e
   cases hn : (fn.name == "runtime.NumGoroutine")
   ·rfl
   ·rw [hn] at h3; cases h3
theorem step1_ok {m : Nat} {l r : List Nat} (h : step1 m l = some r) : ∀ x ∈ l, m ≤ x ∨ x ∈ r := by
 cases l with
 | nil => intro x hx; cases hx
 | cons y l =>
   have h : (Bool.rec none (some l) (Nat.ble m y) : Option (List Nat)) = some r := h
   cases hb : Nat.ble m y
   ·rw [hb] at h; cases h
   ·rw [hb] at h
    cases h
    rw [Nat.ble_eq] at hb
    intro x hx
    rcases List.mem_cons.1 hx with rfl | hx
    ·exact .inl hb
    ·exact .inr hx
theorem goGe_ok {m : Nat} : ∀ {k : Nat} {l r : List Nat}, goGe m k l = some r → ∀ x ∈ l, m ≤ x ∨ x ∈ r
 | 0, _, _, h => step1_ok h
 | k + 1, l, r, h => by
   cases l with
   | nil => intro x hx; cases hx
   | cons y l =>
     have h : Option.rec (motive := fun _ => Option (List Nat)) none (goGe m k) (goGe m k (y :: l)) = some r := h
     cases he : goGe m k (y :: l) with
     | none => rw [he] at h; cases h
     | some r1 =>
       rw [he] at h
       have h : goGe m k r1 = some r := h
       intro x hx
       rcases goGe_ok he x hx with c | c
       ·exact .inl c
       ·exact goGe_ok h x c
theorem allGe_ok {m : Nat} {l : List Nat} (h : allGe m l = true) : ∀ x ∈ l, m ≤ x := by
 unfold allGe at h
 cases he : goGe m (nat_lit 20) l with
 | none => rw [he] at h; cases h
 | some r =>
   rw [he] at h
   cases r with
   | nil =>
     intro x hx
     rcases goGe_ok he x hx with c | c
     ·exact c
     ·cases c
   | cons _ _ => cases h
theorem chkR_ok {r : Res} (h : chkR r = true) : ∃ h', r = .ok (.bool true) h' ∧ ∀ x ∈ h'.log, 64 ≤ x := by
 cases r with
 | fail => cases h
 | ok v h' =>
   obtain ⟨h1, h2⟩ := and2_ok (show and2 (isTrue v) (allGe (nat_lit 64) h'.log) = true from h)
   refine ⟨h', ?_, allGe_ok h2⟩
   unfold isTrue at h1
   split at h1
   ·rfl
   ·cases h1

def tabT : List (Nat × List Value) → E (Option Blk) hd
 | [] => E.rep none hd
 | (x, l) :: r => E.put (some (.cells 0 true l.length (dep l.length) (ofL (dep l.length) (ofVs l)))) hd (path hd x) (tabT r)
def tabH (l : List (Nat × List Value)) : H := ⟨tabT l, nat_lit 64, nat_lit 0, []⟩
def TabAt (w : World) (x : Nat) (l : List Value) : Prop :=
 ∃ arr el lo hi, w.heap[x]? = some (.cells arr el (lo, hi)) ∧ l.length ≤ arr.size ∧ ∀ i, i < l.length → arr.getD i undef = l.getD i undef
def tabN (w : World) : Nam := fun b => if b < 64 then some ⟨b, 0, match w.heap[b]? with | some (.cells arr _ _) => arr.size | _ => 0⟩ else none
theorem tabT_get : ∀ (l : List (Nat × List Value)), (∀ p ∈ l, p.1 < 64) → ∀ b, b < 64 → ∀ x, E.get hd (path hd b) (tabT l) = some x →
 ∃ vs, (b, vs) ∈ l ∧ x = .cells 0 true vs.length (dep vs.length) (ofL (dep vs.length) (ofVs vs))
 | [], _, b, _, x, h => by
   have : E.get hd (path hd b) (E.rep (none : Option Blk) hd) = none := E.get_rep _ _ _
   have h : E.get hd (path hd b) (E.rep (none : Option Blk) hd) = some x := h
   rw [this] at h; cases h
 | (y, vs) :: r, hl, b, hb, x, h => by
   have h : E.get hd (path hd b) (E.put (some (.cells 0 true vs.length (dep vs.length) (ofL (dep vs.length) (ofVs vs)))) hd (path hd y) (tabT r)) = some x := h
   have hy := hl (y, vs) (by simp)
   by_cases c : y = b
   ·subst c
    rw [E.get_put_same] at h
    cases h
    exact ⟨vs, by simp, rfl⟩
   ·have hne := E.get_put_ne (some (Blk.cells 0 true vs.length (dep vs.length) (ofL (dep vs.length) (ofVs vs)))) 8 y b (by have : y < 64 := hy; omega) (by omega) c (tabT r)
    have h := hne.symm.trans h
    obtain ⟨vs', h1, h2⟩ := tabT_get r (fun p hp => hl p (by simp [hp])) b hb x h
    exact ⟨vs', by simp [h1], h2⟩
theorem wr_tabs {w : World} {l : List (Nat × List Value)} (hl : ∀ p ∈ l, p.1 < 64 ∧ p.2.length ≤ 4000000 ∧ TabAt w p.1 p.2) : WR (tabN w) (tabH l) w where
 most := by show 64 ≤ 65536; omega
 fresh b hb := by
  have hb : 64 ≤ b := hb
  unfold tabN; rw [if_neg (by omega)]
 blk b x _ hb hx := by
  have hb : b < 64 := hb
  obtain ⟨vs, hm, rfl⟩ := tabT_get l (fun p hp => (hl p hp).1) b hb x hx
  obtain ⟨_, hlen, arr, el, lo, hi, h1, h2, h3⟩ := hl _ hm
  refine ⟨⟨b, 0, arr.size⟩, .cells arr el (lo, hi), ?_, h1, arr, el, lo, hi, rfl, rfl, by simpa using h2, le_dep hlen, fun i hi => ?_, ⟨fun c => (by cases c), fun _ => rfl, fun _ c => absurd c (by decide)⟩⟩
  ·unfold tabN; rw [if_pos hb, h1]
  ·have hv := ofVs_ok (tabN w) vs
   rw [ofL, wrL_get vs.length (le_dep hlen) hv 0 i _ (by omega) hi, if_pos (by omega), Nat.sub_zero]
   have := lnth_ok hv i
   show VR _ _ (arr.getD (0 + i) undef)
   rw [Nat.zero_add, h3 i hi]
   exact this
 inj b b' x x' m m' _ _ hb hb' _ _ hm hm' hB := by
  have hb : b < 64 := hb
  have hb' : b' < 64 := hb'
  unfold tabN at hm hm'
  rw [if_pos hb] at hm
  rw [if_pos hb'] at hm'
  cases hm; cases hm'
  exact hB
theorem gi_tabs (w : World) : GI (tabN w) := fun x hx => ⟨_, by unfold tabN; rw [if_pos hx]⟩
theorem run_trueO {P : Program} {ext : Nat → Nat} {orc : Nat → AV → H → Option Res} {N f : Nat} {l : List (Nat × List Value)} (hmix : P.follows .mixedOrders = true) (hprog : progOk P = true) (hext : ExtOk P (gOfO P ext orc)) (horc : OrcOk P (gOfO P ext orc))
 (hf : (fnOf P f).isSome = true) {args : AV} (hno : orc f args (tabH l) = none)
 (e : chkR ((run (gOfO P ext orc) (Nat.succ N)).call f args (tabH l)) = true) {w : World} (hl : ∀ p ∈ l, p.1 < 64 ∧ p.2.length ≤ 4000000 ∧ TabAt w p.1 p.2) {vs : Array Value} (ha : VRs (tabN w) args vs.toList) :
 Calls P f vs w fun o w' => o = .returned (.bool true) ∧ RowKit.Below w.heap.size w w' := by
 obtain ⟨x, hx⟩ := Option.isSome_iff_exists.1 hf
 obtain ⟨h', hr, hlog⟩ := chkR_ok e
 have hc := (calls_of_run (gOfO_ok P ext orc) hmix (fnsOk_of hprog) hext horc (N := N) (f := f) (x := x) hx hno hr (vs := vs) (wr_tabs hl) (gi_tabs w) ha).calls
 refine hc.mono fun o w' ho => ?_
 obtain ⟨v', rfl, ι', W, hv, _, hE⟩ := ho
 have hv : v' = .bool true := hv
 subst hv
 have hW : W = h'.log := by
  have h1 := hE.log
  have h2 : (tabH l).log = [] := rfl
  rw [h2, List.append_nil] at h1
  exact h1.symm
 refine ⟨rfl, hE.os, hE.tape, hE.out, hE.size, fun k hk => hE.heap k hk fun b hb m hm => ?_⟩
 have := hlog b (hW ▸ hb)
 unfold tabN at hm
 rw [if_neg (by omega)] at hm
 cases hm
theorem run_true {P : Program} {ext : Nat → Nat} {N f : Nat} {l : List (Nat × List Value)} (hmix : P.follows .mixedOrders = true) (hprog : progOk P = true) (hext : ExtOk P (gOf P ext)) (hf : (fnOf P f).isSome = true) {args : AV}
 (e : chkR ((run (gOf P ext) (Nat.succ N)).call f args (tabH l)) = true) {w : World} (hl : ∀ p ∈ l, p.1 < 64 ∧ p.2.length ≤ 4000000 ∧ TabAt w p.1 p.2) {vs : Array Value} (ha : VRs (tabN w) args vs.toList) :
 Calls P f vs w fun o w' => o = .returned (.bool true) ∧ RowKit.Below w.heap.size w w' :=
 run_trueO hmix hprog hext noOrc hf rfl e hl ha
theorem closed_true {P : Program} {ext : Nat → Nat} {N f : Nat} {l : List (Nat × List Value)} (hmix : P.follows .mixedOrders = true) (hprog : progOk P = true) (hext : ExtOk P (gOf P ext)) (hf : (fnOf P f).isSome = true)
 (e : chkR ((run (gOf P ext) (Nat.succ N)).call f .nil (tabH l)) = true) {w : World} (hl : ∀ p ∈ l, p.1 < 64 ∧ p.2.length ≤ 4000000 ∧ TabAt w p.1 p.2) :
 Calls P f #[] w fun o w' => o = .returned (.bool true) ∧ RowKit.Below w.heap.size w w' :=
 run_true hmix hprog hext hf e hl (vs := #[]) rfl
end
end Go.Proofs.YtmpkgddioiaonaaGreatDoor.Am
namespace Go.Proofs.YtmpkgddioiaonaaGreatDoor.Am
noncomputable section
def cmpId (R : List Nat) (a t : Nat) : Bool := and2 (Nat.ble (nat_lit 64) t) (and2 (Nat.ble (Nat.succ t) (Nat.add (nat_lit 64) R.length)) (Nat.beq (nthN R (Nat.sub t (nat_lit 64))) a))
def cmpAV (R : List Nat) : AV → AV → Bool
 | .bool a, .bool b => beqB a b
 | .int k n, .int k' n' => and2 (Nat.beq (kix k) (kix k')) (eqI n n')
 | .str s, .str s' => s.eq s'
 | .ptr a o, .ptr t o' => and2 (cmpId R a t) (Nat.beq o o')
 | .nilp, .nilp => true
 | .slice a o l e z, .slice t o' l' e' z' => and2 (cmpId R a t) (and2 (Nat.beq o o') (and2 (Nat.beq l l') (and2 (Nat.beq e e') (beqB z z'))))
 | .nils, .nils => true
 | .map a, .map t => cmpId R a t
 | .nilm, .nilm => true
 | .nilf, .nilf => true
 | .nili, .nili => true
 | .ifc y a, .ifc y' t => and2 (Nat.beq y y') (cmpAV R a t)
 | .agg a, .agg t => cmpAV R a t
 | .tup a, .tup t => cmpAV R a t
 | .nil, .nil => true
 | .cons a r, .cons t q => and2 (cmpAV R a t) (cmpAV R r q)
 | _, _ => false
def shA (d : Nat) : AV → AV
 | .ptr b o => .ptr (Nat.add b d) o
 | .slice b o l e z => .slice (Nat.add b d) o l e z
 | .map b => .map (Nat.add b d)
 | .ifc t x => .ifc t (shA d x)
 | .agg x => .agg (shA d x)
 | .tup x => .tup (shA d x)
 | .cons x y => .cons (shA d x) (shA d y)
 | x => x
theorem beqB_ok {a b : Bool} (h : beqB a b = true) : a = b := by cases a <;> cases b <;> first | rfl | cases h
theorem cmpId_ok {R : List Nat} {a t : Nat} (h : cmpId R a t = true) : 64 ≤ t ∧ t < 64 + R.length ∧ R.getD (t - 64) 0 = a := by
 obtain ⟨h1, h⟩ := and2_ok h
 obtain ⟨h2, h3⟩ := and2_ok h
 rw [Nat.ble_eq] at h1 h2
 have h3 := Nat.eq_of_beq_eq_true h3
 rw [nthN_get] at h3
 exact ⟨h1, h2, h3⟩
def Moved (R : List Nat) (ι1 ι2 : Nam) (d : Nat) : Prop := ∀ t, 64 ≤ t → t < 64 + R.length → ι2 (t + d) = ι1 (R.getD (t - 64) 0)
theorem cmpAV_ok {R : List Nat} {ι1 ι2 : Nam} {d : Nat} (hm : Moved R ι1 ι2 d) : ∀ (a t : AV), cmpAV R a t = true →
 (∀ v, (Go.Proofs.YtmpkgddioiaonaaGreatDoor.Am.R ι1 a).1 v → (Go.Proofs.YtmpkgddioiaonaaGreatDoor.Am.R ι2 (shA d t)).1 v) ∧ (∀ l, (Go.Proofs.YtmpkgddioiaonaaGreatDoor.Am.R ι1 a).2 l → (Go.Proofs.YtmpkgddioiaonaaGreatDoor.Am.R ι2 (shA d t)).2 l) := by
 intro a
 induction a with
 | bad => intro t h; cases t <;> simp [cmpAV] at h
 | unk => intro t h; cases t <;> simp [cmpAV] at h
 | bool b =>
   intro t h
   cases t <;> simp only [cmpAV, Bool.false_eq_true] at h
   obtain rfl := beqB_ok h
   exact ⟨fun _ h => h, fun _ h => h⟩
 | int k n =>
   intro t h
   cases t <;> simp only [cmpAV, Bool.false_eq_true] at h
   obtain ⟨h1, h2⟩ := and2_ok h
   obtain rfl := kix_inj h1
   obtain rfl := eqI_ok h2
   exact ⟨fun _ h => h, fun _ h => h⟩
 | str s =>
   intro t h
   cases t <;> simp only [cmpAV, Bool.false_eq_true] at h
   obtain rfl := (Str.eq_iff _ _).1 h
   exact ⟨fun _ h => h, fun _ h => h⟩
 | ptr b o =>
   intro t h
   cases t <;> simp only [cmpAV, Bool.false_eq_true] at h
   obtain ⟨h1, h2⟩ := and2_ok h
   obtain ⟨c1, c2, c3⟩ := cmpId_ok h1
   obtain rfl := Nat.eq_of_beq_eq_true h2
   refine ⟨fun v ⟨m, e1, e2⟩ => ⟨m, ?_, e2⟩, fun _ h => h⟩
   have := hm _ c1 c2
   rw [c3] at this
   exact this.trans e1
 | nilp => intro t h; cases t <;> simp only [cmpAV, Bool.false_eq_true] at h; exact ⟨fun _ h => h, fun _ h => h⟩
 | slice b o l e z =>
   intro t h
   cases t <;> simp only [cmpAV, Bool.false_eq_true] at h
   obtain ⟨h1, h⟩ := and2_ok h
   obtain ⟨h2, h⟩ := and2_ok h
   obtain ⟨h3, h⟩ := and2_ok h
   obtain ⟨h4, h5⟩ := and2_ok h
   obtain ⟨c1, c2, c3⟩ := cmpId_ok h1
   obtain rfl := Nat.eq_of_beq_eq_true h2
   obtain rfl := Nat.eq_of_beq_eq_true h3
   obtain rfl := Nat.eq_of_beq_eq_true h4
   obtain rfl := beqB_ok h5
   refine ⟨fun v ⟨m, y, cap, e1, e2⟩ => ⟨m, y, cap, ?_, e2⟩, fun _ h => h⟩
   have := hm _ c1 c2
   rw [c3] at this
   exact this.trans e1
 | nils => intro t h; cases t <;> simp only [cmpAV, Bool.false_eq_true] at h; exact ⟨fun _ h => h, fun _ h => h⟩
 | map b =>
   intro t h
   cases t <;> simp only [cmpAV, Bool.false_eq_true] at h
   obtain ⟨c1, c2, c3⟩ := cmpId_ok h
   refine ⟨fun v ⟨m, e1, e2⟩ => ⟨m, ?_, e2⟩, fun _ h => h⟩
   have := hm _ c1 c2
   rw [c3] at this
   exact this.trans e1
 | nilm => intro t h; cases t <;> simp only [cmpAV, Bool.false_eq_true] at h; exact ⟨fun _ h => h, fun _ h => h⟩
 | fn f x c => intro t h; cases t <;> simp [cmpAV] at h
 | yld l => intro t h; cases t <;> simp [cmpAV] at h
 | nilf => intro t h; cases t <;> simp only [cmpAV, Bool.false_eq_true] at h; exact ⟨fun _ h => h, fun _ h => h⟩
 | ifc y x ih =>
   intro t h
   cases t <;> simp only [cmpAV, Bool.false_eq_true] at h
   obtain ⟨h1, h2⟩ := and2_ok h
   obtain rfl := Nat.eq_of_beq_eq_true h1
   exact ⟨fun v ⟨z, e, hz⟩ => ⟨z, e, (ih _ h2).1 z hz⟩, fun _ h => h⟩
 | nili => intro t h; cases t <;> simp only [cmpAV, Bool.false_eq_true] at h; exact ⟨fun _ h => h, fun _ h => h⟩
 | agg x ih =>
   intro t h
   cases t <;> simp only [cmpAV, Bool.false_eq_true] at h
   exact ⟨fun v ⟨xs, e, hx⟩ => ⟨xs, e, (ih _ h).2 _ hx⟩, fun _ h => h⟩
 | tup x ih =>
   intro t h
   cases t <;> simp only [cmpAV, Bool.false_eq_true] at h
   exact ⟨fun v ⟨xs, e, hx⟩ => ⟨xs, e, (ih _ h).2 _ hx⟩, fun _ h => h⟩
 | nil => intro t h; cases t <;> simp only [cmpAV, Bool.false_eq_true] at h; exact ⟨fun _ h => h, fun _ h => h⟩
 | cons x r ihx ihr =>
   intro t h
   cases t <;> simp only [cmpAV, Bool.false_eq_true] at h
   obtain ⟨h1, h2⟩ := and2_ok h
   exact ⟨fun _ h => h, fun l ⟨y, ys, e, hy, hys⟩ => ⟨y, ys, e, (ihx _ h1).1 y hy, (ihr _ h2).2 ys hys⟩⟩
inductive TB where
 | cells (el : Nat) (l : AV)
 | smap (n c : Nat) (l : List (Str × AV))
def mkB (d : Nat) : TB → Blk
 | .cells el l => .cells el false (llen l) (dep (llen l)) (ofL (dep (llen l)) (shA d l))
 | .smap n c l => .smap n c (l.map fun p => (p.1, shA d p.2))
def cmpS (R : List Nat) : List (Str × AV) → List (Str × AV) → Bool
 | [], [] => true
 | p :: r, q :: s => and2 (p.1.eq q.1) (and2 (cmpAV R p.2 q.2) (cmpS R r s))
 | _, _ => false
def cmpB (R : List Nat) : Blk → TB → Bool
 | .cells el false n d t, .cells el' l => and2 (Nat.beq el el') (and2 (Nat.beq n (llen l)) (and2 (Nat.ble n mxCells) (cmpAV R (rdN d t n (nat_lit 0)) l)))
 | .smap n c l, .smap n' c' l' => and2 (Nat.beq n n') (and2 (Nat.beq c c') (cmpS R l l'))
 | _, _ => false
theorem llen_shA (d : Nat) : ∀ a : AV, llen (shA d a) = llen a := by
 intro a
 induction a with
 | cons x y _ ih => exact congrArg Nat.succ ih
 | _ => rfl
theorem cmpS_find {R : List Nat} {ι1 ι2 : Nam} {d : Nat} (hm : Moved R ι1 ι2 d) (s : Str) : ∀ {l l' : List (Str × AV)}, cmpS R l l' = true →
 (sfind s l = none → sfind s (l'.map fun p => (p.1, shA d p.2)) = none) ∧ (∀ v, sfind s l = some v → ∃ v', sfind s (l'.map fun p => (p.1, shA d p.2)) = some v' ∧ ∀ x, VR ι1 v x → VR ι2 v' x)
 | [], [], _ => ⟨fun _ => rfl, fun v h => by cases h⟩
 | [], _ :: _, h => by cases h
 | _ :: _, [], h => by cases h
 | p :: r, q :: t, h => by
   have h : and2 (p.1.eq q.1) (and2 (cmpAV R p.2 q.2) (cmpS R r t)) = true := h
   obtain ⟨h1, h⟩ := and2_ok h
   obtain ⟨h2, h3⟩ := and2_ok h
   have h1 := (Str.eq_iff _ _).1 h1
   obtain ⟨i1, i2⟩ := cmpS_find hm s h3
   rw [List.map_cons, sfind_cons, sfind_cons]
   dsimp only
   rw [h1]
   by_cases c : q.1 = s
   ·rw [if_pos c, if_pos c]
    exact ⟨(fun h => by cases h), (fun v hv => by cases hv; exact ⟨_, rfl, (cmpAV_ok hm _ _ h2).1⟩)⟩
   ·rw [if_neg c, if_neg c]
    exact ⟨i1, i2⟩
theorem cmpB_ok {R : List Nat} {ι1 ι2 : Nam} {d : Nat} (hm : Moved R ι1 ι2 d) {x : Blk} {tb : TB} (h : cmpB R x tb = true) {o : Obj} {m : Nm} (hb : BR ι1 x o m) : BR ι2 (mkB d tb) o m := by
 unfold cmpB at h
 split at h
 ·rename_i el n dd t el' l
  obtain ⟨h1, h⟩ := and2_ok h
  obtain ⟨h2, h⟩ := and2_ok h
  obtain ⟨h3, h4⟩ := and2_ok h
  obtain rfl := Nat.eq_of_beq_eq_true h1
  have h2 := Nat.eq_of_beq_eq_true h2
  rw [Nat.ble_eq] at h3
  have h3 : n ≤ 4000000 := h3
  obtain ⟨arr, el', lo, hi, rfl, a1, a2, a3, a4, a5⟩ := hb
  have hr := rdN_ok (ι := ι1) (arr := arr) (sh := m.sh) n 0 (fun j _ hj => a4 j (by omega))
  have hr2 := (cmpAV_ok hm _ _ h4).2 _ hr
  have hr2 : VRs ι2 (shA d l) ((List.range n).map fun j => arr.getD (m.sh + 0 + j) undef) := hr2
  refine ⟨arr, el', lo, hi, rfl, a1, by rw [← h2]; exact a2, le_dep (by rw [← h2]; exact h3), fun i hi => ?_, ⟨a5.1, fun c => absurd c (by have := dep_lt (llen l); omega), fun c => (by cases c)⟩⟩
  have hi : i < n := by rw [h2]; exact hi
  have hll := llen_ok hr2
  rw [List.length_map, List.length_range] at hll
  rw [ofL, wrL_get (llen l) (le_dep (by rw [← h2]; exact h3)) hr2 0 i _ (by simp; omega) (by omega), if_pos (by simp; omega), Nat.sub_zero]
  have := lnth_ok hr2 i
  have e : ((List.range n).map fun j => arr.getD (m.sh + 0 + j) undef).getD i undef = arr.getD (m.sh + i) undef := by
   simp [List.getD_eq_getElem?_getD, hi]
  rw [e] at this
  exact this
 ·rename_i n c l n' c' l'
  obtain ⟨h1, h⟩ := and2_ok h
  obtain ⟨h2, h3⟩ := and2_ok h
  obtain rfl := Nat.eq_of_beq_eq_true h1
  obtain rfl := Nat.eq_of_beq_eq_true h2
  obtain ⟨es, e, a1, a0, a2, a3⟩ := hb
  refine ⟨es, e, a1, a0, a2, fun s => ?_⟩
  have hx := a3 s
  obtain ⟨i1, i2⟩ := cmpS_find hm (Str.of s) h3
  cases hv : sfind (Str.of s) l with
  | none =>
    rw [i1 hv]
    rw [hv] at hx
    exact hx
  | some v =>
    obtain ⟨v', hv', hr⟩ := i2 v hv
    rw [hv']
    rw [hv] at hx
    obtain ⟨e1, q1, q2⟩ := hx
    exact ⟨e1, q1, hr _ q2⟩
 ·cases h
end
end Go.Proofs.YtmpkgddioiaonaaGreatDoor.Am
namespace Go.Proofs.YtmpkgddioiaonaaGreatDoor.Am
noncomputable section
def place (d : Nat) : List TB → H → H := List.rec (motive := fun _ => H → H) (fun h => h) (fun b _ ih h => ih (h.new (mkB d b)))
theorem place_next (d : Nat) : ∀ (l : List TB) (h : H), (place d l h).next = h.next + l.length
 | [], _ => rfl
 | b :: l, h => by
   have e : place d (b :: l) h = place d l (h.new (mkB d b)) := rfl
   rw [e, place_next d l]
   show h.next + 1 + l.length = h.next + (l.length + 1)
   omega
theorem place_log (d : Nat) : ∀ (l : List TB) (h : H), (place d l h).log = h.log ∧ (place d l h).ln = h.ln
 | [], _ => ⟨rfl, rfl⟩
 | b :: l, h => place_log d l (h.new (mkB d b))
theorem place_get (d : Nat) : ∀ (l : List TB) (h : H), h.next + l.length ≤ 65536 → ∀ b, b < 65536 →
 (place d l h).get b = if h.next ≤ b ∧ b < h.next + l.length then (l[b - h.next]?).map (mkB d) else h.get b
 | [], h, _, b, _ => by rw [if_neg (by simp)]; rfl
 | x :: l, h, hr, b, hb => by
   have e : place d (x :: l) h = place d l (h.new (mkB d x)) := rfl
   have hn : (h.new (mkB d x)).next = h.next + 1 := rfl
   simp only [List.length_cons] at hr ⊢
   rw [e, place_get d l _ (by rw [hn]; omega) b hb, hn, H.get_new (by omega) hb]
   by_cases c : b = h.next
   ·subst c
    rw [if_neg (by omega), if_pos rfl, if_pos (by omega), Nat.sub_self]; rfl
   ·by_cases c2 : h.next + 1 ≤ b ∧ b < h.next + 1 + l.length
    ·rw [if_pos c2, if_pos (by omega)]
     obtain ⟨j, rfl⟩ : ∃ j, b = h.next + 1 + j := ⟨b - (h.next + 1), by omega⟩
     rw [show h.next + 1 + j - (h.next + 1) = j by omega, show h.next + 1 + j - h.next = j + 1 by omega]; rfl
    ·rw [if_neg c2, if_neg c, if_neg (by omega)]
def nodupN : List Nat → Bool := List.rec (motive := fun _ => Bool) true (fun x r ih => Bool.rec ih false (memN x r))
theorem nodupN_ok : ∀ {l : List Nat}, nodupN l = true → ∀ (i j x : Nat), l[i]? = some x → l[j]? = some x → i = j
 | [], _, i, j, x, h, _ => by simp at h
 | y :: l, h, i, j, x, hi, hj => by
   have e : nodupN (y :: l) = Bool.rec (nodupN l) false (memN y l) := rfl
   rw [e] at h
   cases hm : memN y l
   ·rw [hm] at h
    have hn : y ∉ l := fun c => by rw [memN_ok.2 c] at hm; cases hm
    cases i with
    | zero =>
      cases j with
      | zero => rfl
      | succ j =>
        have h1 : y = x := by simpa using hi
        have h2 : l[j]? = some x := by simpa using hj
        exact absurd (List.mem_of_getElem? h2) (h1 ▸ hn)
    | succ i =>
      cases j with
      | zero =>
        have h1 : y = x := by simpa using hj
        have h2 : l[i]? = some x := by simpa using hi
        exact absurd (List.mem_of_getElem? h2) (h1 ▸ hn)
      | succ j => exact congrArg Nat.succ (nodupN_ok h i j x (by simpa using hi) (by simpa using hj))
   ·rw [hm] at h; cases h
def cmpBs (R0 : List Nat) (h : H) : List Nat → List TB → Bool
 | [], [] => true
 | r :: rs, b :: bs => and2 (and2 (Nat.ble (nat_lit 64) r) (Nat.ble (Nat.succ r) h.next)) (and2 (match h.get r with | some x => cmpB R0 x b | none => false) (cmpBs R0 h rs bs))
 | _, _ => false
theorem cmpBs_ok {R0 : List Nat} {h : H} : ∀ {rs : List Nat} {bs : List TB}, cmpBs R0 h rs bs = true → rs.length = bs.length ∧ ∀ (j r : Nat), rs[j]? = some r → 64 ≤ r ∧ r < h.next ∧ ∃ x b, h.get r = some x ∧ bs[j]? = some b ∧ cmpB R0 x b = true
 | [], [], _ => ⟨rfl, fun j r h => by simp at h⟩
 | [], _ :: _, h => by cases h
 | _ :: _, [], h => by cases h
 | r :: rs, b :: bs, e => by
   have e : and2 (and2 (Nat.ble (nat_lit 64) r) (Nat.ble (Nat.succ r) h.next)) (and2 (match h.get r with | some x => cmpB R0 x b | none => false) (cmpBs R0 h rs bs)) = true := e
   obtain ⟨h1, e⟩ := and2_ok e
   obtain ⟨h2, h3⟩ := and2_ok e
   obtain ⟨h4, h5⟩ := and2_ok h1
   rw [Nat.ble_eq] at h4 h5
   obtain ⟨i1, i2⟩ := cmpBs_ok h3
   refine ⟨by simp [i1], fun j r' hj => ?_⟩
   cases j with
   | zero =>
     obtain rfl : r = r' := by simpa using hj
     cases hg : h.get r with
     | none => rw [hg] at h2; cases h2
     | some x =>
       rw [hg] at h2
       exact ⟨h4, h5, x, b, rfl, rfl, h2⟩
   | succ j =>
     obtain ⟨q1, q2, x, y, q3, q4, q5⟩ := i2 j r' (by simpa using hj)
     exact ⟨q1, q2, x, y, q3, by simpa using q4, q5⟩
structure Known where
 f : Nat
 args : AV
 v : AV
 bs : List TB
def chkK (e : Known) (R : List Nat) : Res → Bool := Res.rec (motive := fun _ => Bool) false
 (fun v h => and2 (cmpAV R v e.v) (and2 (nodupN R) (and2 (cmpBs R h R e.bs) (allGe (nat_lit 64) h.log))))
def tabIn (h : H) : List (Nat × List Value) → Bool := List.rec (motive := fun _ => Bool) true (fun p _ ih =>
 and2 (match h.get p.1 with | some (.cells _ _ n d t) => and2 (Nat.beq n p.2.length) (cmpAV [] (rdN d t n (nat_lit 0)) (ofVs p.2)) | _ => false) ih)
def useK (tabs : List (Nat × List Value)) (e : Known) (f : Nat) (args : AV) (h : H) : Option Res :=
 Bool.rec none (some (.ok (shA (Nat.sub h.next (nat_lit 64)) e.v) (place (Nat.sub h.next (nat_lit 64)) e.bs h)))
  (and2 (Nat.beq f e.f) (and2 (cmpAV [] args e.args) (and2 (Nat.ble (Nat.add h.next e.bs.length) (nat_lit 65536)) (and2 (Nat.ble (nat_lit 64) h.next) (tabIn h tabs)))))
theorem use_inv {tabs : List (Nat × List Value)} {e : Known} {f : Nat} {args v : AV} {h h' : H} (u : useK tabs e f args h = some (.ok v h')) :
 f = e.f ∧ cmpAV [] args e.args = true ∧ h.next + e.bs.length ≤ 65536 ∧ 64 ≤ h.next ∧ tabIn h tabs = true ∧ v = shA (h.next - 64) e.v ∧ h' = place (h.next - 64) e.bs h := by
 unfold useK at u
 cases hc : (and2 (Nat.beq f e.f) (and2 (cmpAV [] args e.args) (and2 (Nat.ble (Nat.add h.next e.bs.length) (nat_lit 65536)) (and2 (Nat.ble (nat_lit 64) h.next) (tabIn h tabs)))))
 ·rw [hc] at u; cases u
 ·rw [hc] at u
  cases u
  obtain ⟨h1, hc⟩ := and2_ok hc
  obtain ⟨h2, hc⟩ := and2_ok hc
  obtain ⟨h3, hc⟩ := and2_ok hc
  obtain ⟨h4, h5⟩ := and2_ok hc
  rw [Nat.ble_eq] at h3 h4
  exact ⟨Nat.eq_of_beq_eq_true h1, h2, h3, h4, h5, rfl, rfl⟩
section
variable {P : Program} {ι : Nam} {h : H} {w : World}
theorem known_cr {tabs : List (Nat × List Value)} {e : Known} {R : List Nat} {v1 : AV} {h1 : H} (hc : chkK e R (.ok v1 h1) = true) (k : WR ι h w) (hn : 64 ≤ h.next) (hroom : h.next + e.bs.length ≤ 65536)
 {v' : Value} {w' : World} (hcr : CR (tabN w) (tabH tabs) w v1 h1 v' w') : CR ι h w (shA (h.next - 64) e.v) (place (h.next - 64) e.bs h) v' w' := by
 obtain ⟨c1, hc⟩ := and2_ok hc
 obtain ⟨c2, hc⟩ := and2_ok hc
 obtain ⟨c3, c4⟩ := and2_ok hc
 obtain ⟨hlen, hbs⟩ := cmpBs_ok c3
 have hnd := nodupN_ok c2
 have hlog := allGe_ok c4
 obtain ⟨ι1, W, hv, k1, E⟩ := hcr
 have hW : W = h1.log := by
  have q := E.log
  have q2 : (tabH tabs).log = [] := rfl
  rw [q2, List.append_nil] at q
  exact q.symm
 have hWn : ∀ b ∈ W, tabN w b = none := fun b hb => by
  have : 64 ≤ b := hlog b (hW ▸ hb)
  unfold tabN; rw [if_neg (by omega)]
 have hold : ∀ i, i < w.heap.size → w'.heap[i]? = w.heap[i]? := fun i hi => E.heap i hi fun b hb m hm => by rw [hWn b hb] at hm; cases hm
 have hnew : ∀ b m, 64 ≤ b → ι1 b = some m → w.heap.size ≤ m.B := fun b m hb hm => by
  rcases E.new b m hb hm with q | ⟨b0, hb0, m0, hm0, _⟩
  ·exact q
  ·rw [hWn b0 hb0] at hm0; cases hm0
 let ι2 : Nam := fun b => if h.next ≤ b ∧ b < h.next + R.length then ι1 (R.getD (b - h.next) 0) else ι b
 have i2new : ∀ j, j < R.length → ι2 (h.next + j) = ι1 (R.getD j 0) := fun j hj => by
  show (if h.next ≤ h.next + j ∧ h.next + j < h.next + R.length then ι1 (R.getD (h.next + j - h.next) 0) else ι (h.next + j)) = _
  rw [if_pos (by omega), Nat.add_sub_cancel_left]
 have i2old : ∀ b, b < h.next ∨ h.next + R.length ≤ b → ι2 b = ι b := fun b hb => by
  show (if h.next ≤ b ∧ b < h.next + R.length then ι1 (R.getD (b - h.next) 0) else ι b) = _
  rw [if_neg (by omega)]
 have hmv : Moved R ι1 ι2 (h.next - 64) := fun t h1 h2 => by
  have := i2new (t - 64) (by omega)
  rw [show h.next + (t - 64) = t + (h.next - 64) by omega] at this
  exact this
 have hle : ι.le ι2 := fun b m hb => by
  have := k.lt hb
  rw [i2old b (.inl this)]; exact hb
 have hnx := place_next (h.next - 64) e.bs h
 have hget := place_get (h.next - 64) e.bs h hroom
 obtain ⟨hpl, hpn⟩ := place_log (h.next - 64) e.bs h
 have getR : ∀ j, j < R.length → ∃ r, R[j]? = some r ∧ R.getD j 0 = r := fun j hj => ⟨R[j], List.getElem?_eq_getElem hj, by simp [List.getD_eq_getElem?_getD, hj]⟩
 refine ⟨ι2, [], (cmpAV_ok hmv v1 e.v c1).1 v' hv, ?_, ?_⟩
 ·refine ⟨by rw [hnx]; exact hroom, fun b hb => ?_, fun b x _ hb hx => ?_, fun b b' x x' m m' _ _ hb hb' hx hx' hm hm' hB => ?_⟩
  ·rw [hnx] at hb
   rw [i2old b (by omega)]
   exact k.fresh b (by omega)
  ·rw [hnx] at hb
   rw [hget b (by omega)] at hx
   by_cases c : h.next ≤ b ∧ b < h.next + e.bs.length
   ·rw [if_pos c] at hx
    obtain ⟨r, hr, hrd⟩ := getR (b - h.next) (by omega)
    obtain ⟨q1, q2, y, tb, q3, q4, q5⟩ := hbs _ r hr
    rw [q4] at hx
    cases hx
    obtain ⟨m, o, z1, z2, z3⟩ := k1.blk r y trivial q2 q3
    have := i2new (b - h.next) (by omega)
    rw [hrd, show h.next + (b - h.next) = b by omega] at this
    exact ⟨m, o, by rw [this]; exact z1, z2, cmpB_ok hmv q5 z3⟩
   ·rw [if_neg c] at hx
    have hb : b < h.next := by omega
    obtain ⟨m, o, z1, z2, z3⟩ := k.blk b x trivial hb hx
    exact ⟨m, o, hle _ _ z1, by rw [hold m.B (Array.getElem?_eq_some_iff.1 z2).1]; exact z2, z3.mono hle⟩
  ·rw [hnx] at hb hb'
   -- a new name, its place in the run
   have nw : ∀ b m, h.next ≤ b → b < h.next + e.bs.length → ι2 b = some m → ∃ r, R[b - h.next]? = some r ∧ ι1 r = some m ∧ 64 ≤ r ∧ r < h1.next ∧ ∃ y, h1.get r = some y := fun b m c1 c2 hm => by
    obtain ⟨r, hr, hrd⟩ := getR (b - h.next) (by omega)
    obtain ⟨q1, q2, y, tb, q3, _, _⟩ := hbs _ r hr
    have := i2new (b - h.next) (by omega)
    rw [hrd, show h.next + (b - h.next) = b by omega] at this
    exact ⟨r, hr, by rw [← this]; exact hm, q1, q2, y, q3⟩
   have od : ∀ b x m, b < h.next → (place (h.next - 64) e.bs h).get b = some x → ι2 b = some m → ∃ y, h.get b = some y ∧ ι b = some m ∧ m.B < w.heap.size := fun b x m hb hx hm => by
    rw [hget b (by omega), if_neg (by omega)] at hx
    rw [i2old b (.inl hb)] at hm
    obtain ⟨m1, o, z1, z2, _⟩ := k.blk b x trivial hb hx
    rw [hm] at z1; cases z1
    exact ⟨x, hx, hm, (Array.getElem?_eq_some_iff.1 z2).1⟩
   rcases Nat.lt_or_ge b h.next with c | c <;> rcases Nat.lt_or_ge b' h.next with c' | c'
   ·obtain ⟨y, hy, hm1, _⟩ := od b x m c hx hm
    obtain ⟨y', hy', hm1', _⟩ := od b' x' m' c' hx' hm'
    exact k.inj b b' y y' m m' trivial trivial c c' hy hy' hm1 hm1' hB
   ·obtain ⟨_, _, _, hlt⟩ := od b x m c hx hm
    obtain ⟨r, _, hr1, hr2, _⟩ := nw b' m' c' (by omega) hm'
    have := hnew r m' hr2 hr1
    omega
   ·obtain ⟨_, _, _, hlt⟩ := od b' x' m' c' hx' hm'
    obtain ⟨r, _, hr1, hr2, _⟩ := nw b m c (by omega) hm
    have := hnew r m hr2 hr1
    omega
   ·obtain ⟨r, hr0, hr1, _, hr3, y, hy⟩ := nw b m c (by omega) hm
    obtain ⟨r', hr0', hr1', _, hr3', y', hy'⟩ := nw b' m' c' (by omega) hm'
    have := k1.inj r r' y y' m m' trivial trivial hr3 hr3' hy hy' hr1 hr1' hB
    subst this
    have := hnd _ _ _ hr0 hr0'
    omega
 ·exact {
   next := by rw [hnx]; omega
   nam := fun b hb => i2old b (.inl hb)
   log := by rw [hpl]; rfl
   ln := by rw [hpn]; rfl
   kept := fun b hb _ => by rw [hget b (by omega), if_neg (by omega)]
   live := fun b hb => by cases hb
   size := E.size
   heap := fun i hi _ => hold i hi
   new := fun b m hb hm => by
    by_cases c : b < h.next + R.length
    ·obtain ⟨r, hr, hrd⟩ := getR (b - h.next) (by omega)
     obtain ⟨q1, _⟩ := hbs _ r hr
     have := i2new (b - h.next) (by omega)
     rw [hrd, show h.next + (b - h.next) = b by omega] at this
     exact .inl (hnew r m q1 (by rw [← this]; exact hm))
    ·rw [i2old b (by omega), k.fresh b hb] at hm; cases hm
   os := E.os
   tape := E.tape
   out := E.out }
end
end
end Go.Proofs.YtmpkgddioiaonaaGreatDoor.Am
